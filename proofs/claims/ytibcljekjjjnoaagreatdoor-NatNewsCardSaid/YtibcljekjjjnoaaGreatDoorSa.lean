import Derived.Test.YtibcljekjjjnoaaGreatDoorKa
import Derived.Test.YtibcljekjjjnoaaGreatDoorAd
import Derived.Test.YtibcljekjjjnoaaGreatDoorTb
import Derived.Test.YtibcljekjjjnoaaGreatDoorCb
/- A part of the proof of FanlightNoPort: Sa. -/
set_option linter.all false
noncomputable section
open Go Go.Ab
namespace Go.Proofs.YtibcljekjjjnoaaGreatDoor
set_option maxRecDepth 1000000

theorem row174 : ExtRow Tryz.prog 174 Extern.Atomic.storeT := ⟨Tryz.f174, Tryz.func174, by kernel_rfl, by kernel_rfl, by kernel_rfl, by kernel_rfl⟩
theorem row177 : ExtRow Tryz.prog 177 (Extern.Atomic.loadT (.int .u64)) := ⟨Tryz.f177, Tryz.func177, by kernel_rfl, by kernel_rfl, by kernel_rfl, by kernel_rfl⟩
theorem row270 : ExtRow Tryz.prog 270 (Extern.Atomic.casT (.int .u64)) := ⟨Tryz.f270, Tryz.func270, by kernel_rfl, by kernel_rfl, by kernel_rfl, by kernel_rfl⟩

abbrev ext := extD 174 177 270
noncomputable abbrev run (fuel k f : Nat) (args : List Value) (m : Mem) : Option (Value × Mem) := evF tis (fun f => rgD tis (plans f)) fns ext fuel k f args m

/-- the table is laid -/
def TabAt (w : World) : Prop := ∃ e fz, w.heap[0]? = some (.cells tabV.toArray e fz) ∧ (fz.1 = fz.2 ∨ 64 ≤ fz.1)
def ρ0 : Rn := fun b => if b = 0 then some ⟨0, 0, 64, 1⟩ else none

theorem tabV_len : tabV.length = 64 := by kernel_rfl
theorem tabV_ok : tabV.all (fun v => closed v && one v) = true := by kernel_rfl

theorem rel0 {w : World} (h : TabAt w) : Rel tis ρ0 m0 w := by
  obtain ⟨e, fz, hw, hz⟩ := h
  have hget : ∀ b, m0.h.get b = if b = 0 then some (.cells 5 64 (lay tabV 0 .e)) else none := fun b => by
    have hm : m0.h = (Tr.e : Tr Blk).put 0 (.cells 5 64 (lay tabV 0 .e)) := rfl
    rw [hm]
    by_cases hb : b = 0
    · subst hb
      rw [if_pos rfl]
      exact Tr.get_put_lt (α := Blk) .e 0 _ (by decide)
    · rw [if_neg hb]
      exact (Tr.get_put_ne _ _ hb).trans (Tr.get_e b)
  refine ⟨fun b hb => ?_, fun b B hB => ?_, fun x y L L' hx hy _ _ _ => ?_, ⟨_, rfl, rfl, rfl⟩, fun b hb => ?_⟩
  · have : b ≠ 0 := by
      have : m0.nx = 1 := rfl
      omega
    simp [ρ0, this]
  · rw [hget] at hB
    split at hB
    · rename_i e0; subst e0
      cases hB
      refine ⟨⟨0, 0, 64, 1⟩, rfl, by kernel_rfl, tabV.toArray, e, fz, hw, ⟨by decide, by simp [tabV_len], by simp, by simpa [tabV_len] using hz, fun i v hi hg => ?_⟩⟩
      rw [get_lay tabV 0 .e (by rw [tabV_len]; decide) i, if_pos (by rw [tabV_len]; omega)] at hg
      simp only [Nat.sub_zero] at hg
      have hok := tabV_ok
      rw [List.all_eq_true] at hok
      have := hok v (List.mem_of_getElem? hg)
      simp only [Bool.and_eq_true] at this
      exact ⟨this.2, v, by simpa using hg, VR.closed _ this.1⟩
    · cases hB
  · rw [hget] at hx hy
    by_cases h1 : x = 0 <;> by_cases h2 : y = 0 <;> simp_all
  · rw [hget] at hb
    by_cases h1 : b = 0
    · subst h1; decide
    · simp [h1] at hb

theorem tab_stays {ρ : Rn} {m : Mem} {w w' : World} {m' : Mem} (h : tabOk m' = true) (hr : Rel tis ρ m' w') (he : Ext ρ0 m w ρ m' w') : TabAt w' ∧ ∀ e z, w.heap[0]? = some (.cells tabV.toArray e z) → w'.heap[0]? = some (.cells tabV.toArray e z) := by
  unfold tabOk at h
  split at h
  case h_2 => cases h
  rename_i ty n c hb
  simp only [Bool.and_eq_true, beq_iff_eq] at h
  obtain ⟨rfl, h⟩ := h
  split at h
  case h_2 => cases h
  rename_i l hl
  have hlt := all2_eqC h
  subst hlt
  obtain ⟨L, h1, _, cur, e, fz, hcur, hC⟩ := hr.there 0 _ hb
  have hL := he.le 0 _ (show ρ0 0 = some ⟨0, 0, 64, 1⟩ from rfl)
  rw [h1] at hL
  cases hL
  obtain ⟨hlen, hall⟩ := row_spec _ _ _ _ hl
  have hcsz : cur.size = 64 := hC.size
  have hcells : cur = tabV.toArray := by
   apply Array.ext'
   apply List.ext_getElem?
   intro i
   by_cases hi : i < 64
   · have hti : tabV[i]? = some (tabV[i]'(by rw [tabV_len]; exact hi)) := List.getElem?_eq_getElem _
     have hc := (hall i hi).trans hti
     obtain ⟨_, v', hv', hV⟩ := hC.cell i _ hi (by simpa using hc)
     have hok := tabV_ok
     rw [List.all_eq_true] at hok
     have := hok _ (List.mem_of_getElem? hti)
     simp only [Bool.and_eq_true] at this
     rw [hV.closedEq this.1] at hv'
     rw [hti]
     simpa using hv'
   · rw [List.getElem?_eq_none (by simp; omega), List.getElem?_eq_none (by simp [tabV_len]; omega)]
  subst hcells
  refine ⟨⟨e, fz, hcur, by rw [← hcsz]; exact hC.ice⟩, fun e0 z0 h0 => ?_⟩
  obtain ⟨c', hc'⟩ := he.typ _ e0 z0 h0
  have h2 : w'.heap[0]? = some (.cells tabV.toArray e fz) := hcur
  rw [hc'] at h2
  cases h2
  exact hc'

/-- what is left behind: the old blocks, but for the table's, are what they were; the table says what it said -/
structure Leaves (w w' : World) : Prop where
  size : w.heap.size ≤ w'.heap.size
  tape : w'.tape = w.tape
  os : w'.os = w.os
  output : w'.output = w.output
  keep : ∀ k, k < w.heap.size → k ≠ 0 → w'.heap[k]? = w.heap[k]?
  tab : TabAt w'
  zero : w'.heap[0]? = w.heap[0]?

theorem says {fuel k f : Nat} {args : List Value} (h : saysTrue (run fuel k f args m0) = true) (hf : (fns f).isSome = true) (ha : args.all closed = true) {w : World} (hw : TabAt w) :
    Calls Tryz.prog f ⟨args⟩ w fun e w' => e = .returned (.bool true) ∧ Leaves w w' := by
  unfold saysTrue at h
  split at h
  case h_2 => cases h
  rename_i m' hrun
  have hargs : VRs ρ0 args args := by
    clear hrun
    induction args with
    | nil => exact .nil
    | cons v l ih =>
      simp only [List.all_cons, Bool.and_eq_true] at ha
      exact .cons _ _ _ _ (VR.closed _ ha.1) (ih ha.2)
  have hc := evF_calls (P := Tryz.prog) types mixed fnsOk (extSim_of row174 row177 row270) hrun hf hargs (rel0 hw)
  refine Calls.mono hc fun e w' ⟨v', ρ', he, hv, hr, hx⟩ => ?_
  subst he
  cases hv
  obtain ⟨t1, t2⟩ := tab_stays h hr hx
  refine ⟨rfl, hx.size, hx.tape, hx.os, hx.output, fun k hk h0 => hx.keep k hk fun ⟨b, L, _, hL, hb⟩ => ?_, t1, ?_⟩
  · unfold ρ0 at hL
    split at hL
    · cases hL; exact h0 hb.symm
    · cases hL
  · obtain ⟨e, z, h0, _⟩ := hw
    rw [h0]
    exact t2 e z h0

end Go.Proofs.YtibcljekjjjnoaaGreatDoor

open Go Go.Ab
namespace Go.Proofs.YtibcljekjjjnoaaGreatDoor

noncomputable def cfF (f : Nat) : Option F.CF := Option.rec (motive := fun _ => Option F.CF) none (fun g => some (F.compF tis 10000 100000 (plans f) (ofFunc g))) (getN f fnt)
theorem cfF_eq (f : Nat) : cfF f = (fns f).map (F.compF tis 10000 100000 (plans f)) := by
  unfold cfF fns fnOf
  rw [getN_eq]
  cases fnt.get f <;> rfl
noncomputable abbrev runF (k f : Nat) (args : List Value) (m : Mem) : Option (Value × Mem) := F.evFX tis 10000 cfF (extX 174 177 270) k f args m
theorem runF_le (k f : Nat) (args : List Value) (m : Mem) : runF k f args m = none ∨ runF k f args m = run 100000 k f args m :=
  F.evFX_le (plans := plans) (fns := fns) (ext := ext) cfF_eq (extX_eq 174 177 270) k f args m
theorem saysF {k f : Nat} {args : List Value} {m : Mem} (h : saysTrue (runF k f args m) = true) : saysTrue (run 100000 k f args m) = true := by
  rcases runF_le k f args m with e | e
  · rw [e] at h; cases h
  · rw [← e]; exact h
end Go.Proofs.YtibcljekjjjnoaaGreatDoor

open Go Go.Ab Go.Ab.F
namespace Go.Proofs.YtibcljekjjjnoaaGreatDoor
set_option maxRecDepth 100000

theorem e5 : c5 = denC tis 10000 (compF tis 10000 100000 (plans 5) (ofFunc Tryz.f5)) := by kernel_rfl
theorem x5 : cfF 5 = some (compF tis 10000 100000 (plans 5) (ofFunc Tryz.f5)) := by kernel_rfl
theorem e6 : c6 = denC tis 10000 (compF tis 10000 100000 (plans 6) (ofFunc Tryz.f6)) := by kernel_rfl
theorem x6 : cfF 6 = some (compF tis 10000 100000 (plans 6) (ofFunc Tryz.f6)) := by kernel_rfl
theorem e7 : c7 = denC tis 10000 (compF tis 10000 100000 (plans 7) (ofFunc Tryz.f7)) := by kernel_rfl
theorem x7 : cfF 7 = some (compF tis 10000 100000 (plans 7) (ofFunc Tryz.f7)) := by kernel_rfl
theorem e9 : c9 = denC tis 10000 (compF tis 10000 100000 (plans 9) (ofFunc Tryz.f9)) := by kernel_rfl
theorem x9 : cfF 9 = some (compF tis 10000 100000 (plans 9) (ofFunc Tryz.f9)) := by kernel_rfl
theorem e14 : c14 = denC tis 10000 (compF tis 10000 100000 (plans 14) (ofFunc Tryz.f14)) := by kernel_rfl
theorem x14 : cfF 14 = some (compF tis 10000 100000 (plans 14) (ofFunc Tryz.f14)) := by kernel_rfl
theorem e18 : c18 = denC tis 10000 (compF tis 10000 100000 (plans 18) (ofFunc Tryz.f18)) := by kernel_rfl
theorem x18 : cfF 18 = some (compF tis 10000 100000 (plans 18) (ofFunc Tryz.f18)) := by kernel_rfl
theorem e20 : c20 = denC tis 10000 (compF tis 10000 100000 (plans 20) (ofFunc Tryz.f20)) := by kernel_rfl
theorem x20 : cfF 20 = some (compF tis 10000 100000 (plans 20) (ofFunc Tryz.f20)) := by kernel_rfl
theorem e21 : c21 = denC tis 10000 (compF tis 10000 100000 (plans 21) (ofFunc Tryz.f21)) := by kernel_rfl
theorem x21 : cfF 21 = some (compF tis 10000 100000 (plans 21) (ofFunc Tryz.f21)) := by kernel_rfl
theorem e22 : c22 = denC tis 10000 (compF tis 10000 100000 (plans 22) (ofFunc Tryz.f22)) := by kernel_rfl
theorem x22 : cfF 22 = some (compF tis 10000 100000 (plans 22) (ofFunc Tryz.f22)) := by kernel_rfl
theorem e23 : c23 = denC tis 10000 (compF tis 10000 100000 (plans 23) (ofFunc Tryz.f23)) := by kernel_rfl
theorem x23 : cfF 23 = some (compF tis 10000 100000 (plans 23) (ofFunc Tryz.f23)) := by kernel_rfl
theorem e24 : c24 = denC tis 10000 (compF tis 10000 100000 (plans 24) (ofFunc Tryz.f24)) := by kernel_rfl
theorem x24 : cfF 24 = some (compF tis 10000 100000 (plans 24) (ofFunc Tryz.f24)) := by kernel_rfl
theorem e25 : c25 = denC tis 10000 (compF tis 10000 100000 (plans 25) (ofFunc Tryz.f25)) := by kernel_rfl
theorem x25 : cfF 25 = some (compF tis 10000 100000 (plans 25) (ofFunc Tryz.f25)) := by kernel_rfl
theorem e26 : c26 = denC tis 10000 (compF tis 10000 100000 (plans 26) (ofFunc Tryz.f26)) := by kernel_rfl
theorem x26 : cfF 26 = some (compF tis 10000 100000 (plans 26) (ofFunc Tryz.f26)) := by kernel_rfl
theorem e27 : c27 = denC tis 10000 (compF tis 10000 100000 (plans 27) (ofFunc Tryz.f27)) := by kernel_rfl
theorem x27 : cfF 27 = some (compF tis 10000 100000 (plans 27) (ofFunc Tryz.f27)) := by kernel_rfl
theorem e28 : c28 = denC tis 10000 (compF tis 10000 100000 (plans 28) (ofFunc Tryz.f28)) := by kernel_rfl
theorem x28 : cfF 28 = some (compF tis 10000 100000 (plans 28) (ofFunc Tryz.f28)) := by kernel_rfl
theorem e30 : c30 = denC tis 10000 (compF tis 10000 100000 (plans 30) (ofFunc Tryz.f30)) := by kernel_rfl
theorem x30 : cfF 30 = some (compF tis 10000 100000 (plans 30) (ofFunc Tryz.f30)) := by kernel_rfl
theorem e31 : c31 = denC tis 10000 (compF tis 10000 100000 (plans 31) (ofFunc Tryz.f31)) := by kernel_rfl
theorem x31 : cfF 31 = some (compF tis 10000 100000 (plans 31) (ofFunc Tryz.f31)) := by kernel_rfl
theorem e37 : c37 = denC tis 10000 (compF tis 10000 100000 (plans 37) (ofFunc Tryz.f37)) := by kernel_rfl
theorem x37 : cfF 37 = some (compF tis 10000 100000 (plans 37) (ofFunc Tryz.f37)) := by kernel_rfl
theorem e40 : c40 = denC tis 10000 (compF tis 10000 100000 (plans 40) (ofFunc Tryz.f40)) := by kernel_rfl
theorem x40 : cfF 40 = some (compF tis 10000 100000 (plans 40) (ofFunc Tryz.f40)) := by kernel_rfl
theorem e41 : c41 = denC tis 10000 (compF tis 10000 100000 (plans 41) (ofFunc Tryz.f41)) := by kernel_rfl
theorem x41 : cfF 41 = some (compF tis 10000 100000 (plans 41) (ofFunc Tryz.f41)) := by kernel_rfl
theorem e42 : c42 = denC tis 10000 (compF tis 10000 100000 (plans 42) (ofFunc Tryz.f42)) := by kernel_rfl
theorem x42 : cfF 42 = some (compF tis 10000 100000 (plans 42) (ofFunc Tryz.f42)) := by kernel_rfl
theorem e43 : c43 = denC tis 10000 (compF tis 10000 100000 (plans 43) (ofFunc Tryz.f43)) := by kernel_rfl
theorem x43 : cfF 43 = some (compF tis 10000 100000 (plans 43) (ofFunc Tryz.f43)) := by kernel_rfl
theorem e44 : c44 = denC tis 10000 (compF tis 10000 100000 (plans 44) (ofFunc Tryz.f44)) := by kernel_rfl
theorem x44 : cfF 44 = some (compF tis 10000 100000 (plans 44) (ofFunc Tryz.f44)) := by kernel_rfl
theorem e45 : c45 = denC tis 10000 (compF tis 10000 100000 (plans 45) (ofFunc Tryz.f45)) := by kernel_rfl
theorem x45 : cfF 45 = some (compF tis 10000 100000 (plans 45) (ofFunc Tryz.f45)) := by kernel_rfl
theorem e46 : c46 = denC tis 10000 (compF tis 10000 100000 (plans 46) (ofFunc Tryz.f46)) := by kernel_rfl
theorem x46 : cfF 46 = some (compF tis 10000 100000 (plans 46) (ofFunc Tryz.f46)) := by kernel_rfl
theorem e47 : c47 = denC tis 10000 (compF tis 10000 100000 (plans 47) (ofFunc Tryz.f47)) := by kernel_rfl
theorem x47 : cfF 47 = some (compF tis 10000 100000 (plans 47) (ofFunc Tryz.f47)) := by kernel_rfl
theorem e52 : c52 = denC tis 10000 (compF tis 10000 100000 (plans 52) (ofFunc Tryz.f52)) := by kernel_rfl
theorem x52 : cfF 52 = some (compF tis 10000 100000 (plans 52) (ofFunc Tryz.f52)) := by kernel_rfl
theorem e53 : c53 = denC tis 10000 (compF tis 10000 100000 (plans 53) (ofFunc Tryz.f53)) := by kernel_rfl
theorem x53 : cfF 53 = some (compF tis 10000 100000 (plans 53) (ofFunc Tryz.f53)) := by kernel_rfl
theorem e55 : c55 = denC tis 10000 (compF tis 10000 100000 (plans 55) (ofFunc Tryz.f55)) := by kernel_rfl
theorem x55 : cfF 55 = some (compF tis 10000 100000 (plans 55) (ofFunc Tryz.f55)) := by kernel_rfl
theorem e56 : c56 = denC tis 10000 (compF tis 10000 100000 (plans 56) (ofFunc Tryz.f56)) := by kernel_rfl
theorem x56 : cfF 56 = some (compF tis 10000 100000 (plans 56) (ofFunc Tryz.f56)) := by kernel_rfl
theorem e57 : c57 = denC tis 10000 (compF tis 10000 100000 (plans 57) (ofFunc Tryz.f57)) := by kernel_rfl
theorem x57 : cfF 57 = some (compF tis 10000 100000 (plans 57) (ofFunc Tryz.f57)) := by kernel_rfl
theorem e58 : c58 = denC tis 10000 (compF tis 10000 100000 (plans 58) (ofFunc Tryz.f58)) := by kernel_rfl
theorem x58 : cfF 58 = some (compF tis 10000 100000 (plans 58) (ofFunc Tryz.f58)) := by kernel_rfl
theorem e59 : c59 = denC tis 10000 (compF tis 10000 100000 (plans 59) (ofFunc Tryz.f59)) := by kernel_rfl
theorem x59 : cfF 59 = some (compF tis 10000 100000 (plans 59) (ofFunc Tryz.f59)) := by kernel_rfl
theorem e60 : c60 = denC tis 10000 (compF tis 10000 100000 (plans 60) (ofFunc Tryz.f60)) := by kernel_rfl
theorem x60 : cfF 60 = some (compF tis 10000 100000 (plans 60) (ofFunc Tryz.f60)) := by kernel_rfl
theorem e61 : c61 = denC tis 10000 (compF tis 10000 100000 (plans 61) (ofFunc Tryz.f61)) := by kernel_rfl
theorem x61 : cfF 61 = some (compF tis 10000 100000 (plans 61) (ofFunc Tryz.f61)) := by kernel_rfl
theorem e62 : c62 = denC tis 10000 (compF tis 10000 100000 (plans 62) (ofFunc Tryz.f62)) := by kernel_rfl
theorem x62 : cfF 62 = some (compF tis 10000 100000 (plans 62) (ofFunc Tryz.f62)) := by kernel_rfl
theorem e63 : c63 = denC tis 10000 (compF tis 10000 100000 (plans 63) (ofFunc Tryz.f63)) := by kernel_rfl
theorem x63 : cfF 63 = some (compF tis 10000 100000 (plans 63) (ofFunc Tryz.f63)) := by kernel_rfl
theorem e66 : c66 = denC tis 10000 (compF tis 10000 100000 (plans 66) (ofFunc Tryz.f66)) := by kernel_rfl
theorem x66 : cfF 66 = some (compF tis 10000 100000 (plans 66) (ofFunc Tryz.f66)) := by kernel_rfl
theorem e67 : c67 = denC tis 10000 (compF tis 10000 100000 (plans 67) (ofFunc Tryz.f67)) := by kernel_rfl
theorem x67 : cfF 67 = some (compF tis 10000 100000 (plans 67) (ofFunc Tryz.f67)) := by kernel_rfl
theorem e68 : c68 = denC tis 10000 (compF tis 10000 100000 (plans 68) (ofFunc Tryz.f68)) := by kernel_rfl
theorem x68 : cfF 68 = some (compF tis 10000 100000 (plans 68) (ofFunc Tryz.f68)) := by kernel_rfl
theorem e71 : c71 = denC tis 10000 (compF tis 10000 100000 (plans 71) (ofFunc Tryz.f71)) := by kernel_rfl
theorem x71 : cfF 71 = some (compF tis 10000 100000 (plans 71) (ofFunc Tryz.f71)) := by kernel_rfl
theorem e72 : c72 = denC tis 10000 (compF tis 10000 100000 (plans 72) (ofFunc Tryz.f72)) := by kernel_rfl
theorem x72 : cfF 72 = some (compF tis 10000 100000 (plans 72) (ofFunc Tryz.f72)) := by kernel_rfl
theorem e76 : c76 = denC tis 10000 (compF tis 10000 100000 (plans 76) (ofFunc Tryz.f76)) := by kernel_rfl
theorem x76 : cfF 76 = some (compF tis 10000 100000 (plans 76) (ofFunc Tryz.f76)) := by kernel_rfl
theorem e77 : c77 = denC tis 10000 (compF tis 10000 100000 (plans 77) (ofFunc Tryz.f77)) := by kernel_rfl
theorem x77 : cfF 77 = some (compF tis 10000 100000 (plans 77) (ofFunc Tryz.f77)) := by kernel_rfl
theorem e78 : c78 = denC tis 10000 (compF tis 10000 100000 (plans 78) (ofFunc Tryz.f78)) := by kernel_rfl
theorem x78 : cfF 78 = some (compF tis 10000 100000 (plans 78) (ofFunc Tryz.f78)) := by kernel_rfl
theorem e79 : c79 = denC tis 10000 (compF tis 10000 100000 (plans 79) (ofFunc Tryz.f79)) := by kernel_rfl
theorem x79 : cfF 79 = some (compF tis 10000 100000 (plans 79) (ofFunc Tryz.f79)) := by kernel_rfl
theorem e80 : c80 = denC tis 10000 (compF tis 10000 100000 (plans 80) (ofFunc Tryz.f80)) := by kernel_rfl
theorem x80 : cfF 80 = some (compF tis 10000 100000 (plans 80) (ofFunc Tryz.f80)) := by kernel_rfl
theorem e82 : c82 = denC tis 10000 (compF tis 10000 100000 (plans 82) (ofFunc Tryz.f82)) := by kernel_rfl
theorem x82 : cfF 82 = some (compF tis 10000 100000 (plans 82) (ofFunc Tryz.f82)) := by kernel_rfl
theorem e83 : c83 = denC tis 10000 (compF tis 10000 100000 (plans 83) (ofFunc Tryz.f83)) := by kernel_rfl
theorem x83 : cfF 83 = some (compF tis 10000 100000 (plans 83) (ofFunc Tryz.f83)) := by kernel_rfl
theorem e84 : c84 = denC tis 10000 (compF tis 10000 100000 (plans 84) (ofFunc Tryz.f84)) := by kernel_rfl
theorem x84 : cfF 84 = some (compF tis 10000 100000 (plans 84) (ofFunc Tryz.f84)) := by kernel_rfl
theorem e85 : c85 = denC tis 10000 (compF tis 10000 100000 (plans 85) (ofFunc Tryz.f85)) := by kernel_rfl
theorem x85 : cfF 85 = some (compF tis 10000 100000 (plans 85) (ofFunc Tryz.f85)) := by kernel_rfl
theorem e86 : c86 = denC tis 10000 (compF tis 10000 100000 (plans 86) (ofFunc Tryz.f86)) := by kernel_rfl
theorem x86 : cfF 86 = some (compF tis 10000 100000 (plans 86) (ofFunc Tryz.f86)) := by kernel_rfl
theorem e89 : c89 = denC tis 10000 (compF tis 10000 100000 (plans 89) (ofFunc Tryz.f89)) := by kernel_rfl
theorem x89 : cfF 89 = some (compF tis 10000 100000 (plans 89) (ofFunc Tryz.f89)) := by kernel_rfl
theorem e90 : c90 = denC tis 10000 (compF tis 10000 100000 (plans 90) (ofFunc Tryz.f90)) := by kernel_rfl
theorem x90 : cfF 90 = some (compF tis 10000 100000 (plans 90) (ofFunc Tryz.f90)) := by kernel_rfl
theorem e91 : c91 = denC tis 10000 (compF tis 10000 100000 (plans 91) (ofFunc Tryz.f91)) := by kernel_rfl
theorem x91 : cfF 91 = some (compF tis 10000 100000 (plans 91) (ofFunc Tryz.f91)) := by kernel_rfl
theorem e92 : c92 = denC tis 10000 (compF tis 10000 100000 (plans 92) (ofFunc Tryz.f92)) := by kernel_rfl
theorem x92 : cfF 92 = some (compF tis 10000 100000 (plans 92) (ofFunc Tryz.f92)) := by kernel_rfl
theorem e93 : c93 = denC tis 10000 (compF tis 10000 100000 (plans 93) (ofFunc Tryz.f93)) := by kernel_rfl
theorem x93 : cfF 93 = some (compF tis 10000 100000 (plans 93) (ofFunc Tryz.f93)) := by kernel_rfl
theorem e94 : c94 = denC tis 10000 (compF tis 10000 100000 (plans 94) (ofFunc Tryz.f94)) := by kernel_rfl
theorem x94 : cfF 94 = some (compF tis 10000 100000 (plans 94) (ofFunc Tryz.f94)) := by kernel_rfl
theorem e95 : c95 = denC tis 10000 (compF tis 10000 100000 (plans 95) (ofFunc Tryz.f95)) := by kernel_rfl
theorem x95 : cfF 95 = some (compF tis 10000 100000 (plans 95) (ofFunc Tryz.f95)) := by kernel_rfl
theorem e96 : c96 = denC tis 10000 (compF tis 10000 100000 (plans 96) (ofFunc Tryz.f96)) := by kernel_rfl
theorem x96 : cfF 96 = some (compF tis 10000 100000 (plans 96) (ofFunc Tryz.f96)) := by kernel_rfl
theorem e97 : c97 = denC tis 10000 (compF tis 10000 100000 (plans 97) (ofFunc Tryz.f97)) := by kernel_rfl
theorem x97 : cfF 97 = some (compF tis 10000 100000 (plans 97) (ofFunc Tryz.f97)) := by kernel_rfl
theorem e98 : c98 = denC tis 10000 (compF tis 10000 100000 (plans 98) (ofFunc Tryz.f98)) := by kernel_rfl
theorem x98 : cfF 98 = some (compF tis 10000 100000 (plans 98) (ofFunc Tryz.f98)) := by kernel_rfl
theorem e101 : c101 = denC tis 10000 (compF tis 10000 100000 (plans 101) (ofFunc Tryz.f101)) := by kernel_rfl
theorem x101 : cfF 101 = some (compF tis 10000 100000 (plans 101) (ofFunc Tryz.f101)) := by kernel_rfl
theorem e102 : c102 = denC tis 10000 (compF tis 10000 100000 (plans 102) (ofFunc Tryz.f102)) := by kernel_rfl
theorem x102 : cfF 102 = some (compF tis 10000 100000 (plans 102) (ofFunc Tryz.f102)) := by kernel_rfl
theorem e103 : c103 = denC tis 10000 (compF tis 10000 100000 (plans 103) (ofFunc Tryz.f103)) := by kernel_rfl
theorem x103 : cfF 103 = some (compF tis 10000 100000 (plans 103) (ofFunc Tryz.f103)) := by kernel_rfl
theorem e104 : c104 = denC tis 10000 (compF tis 10000 100000 (plans 104) (ofFunc Tryz.f104)) := by kernel_rfl
theorem x104 : cfF 104 = some (compF tis 10000 100000 (plans 104) (ofFunc Tryz.f104)) := by kernel_rfl
theorem e105 : c105 = denC tis 10000 (compF tis 10000 100000 (plans 105) (ofFunc Tryz.f105)) := by kernel_rfl
theorem x105 : cfF 105 = some (compF tis 10000 100000 (plans 105) (ofFunc Tryz.f105)) := by kernel_rfl
theorem e106 : c106 = denC tis 10000 (compF tis 10000 100000 (plans 106) (ofFunc Tryz.f106)) := by kernel_rfl
theorem x106 : cfF 106 = some (compF tis 10000 100000 (plans 106) (ofFunc Tryz.f106)) := by kernel_rfl
theorem e107 : c107 = denC tis 10000 (compF tis 10000 100000 (plans 107) (ofFunc Tryz.f107)) := by kernel_rfl
theorem x107 : cfF 107 = some (compF tis 10000 100000 (plans 107) (ofFunc Tryz.f107)) := by kernel_rfl
theorem e108 : c108 = denC tis 10000 (compF tis 10000 100000 (plans 108) (ofFunc Tryz.f108)) := by kernel_rfl
theorem x108 : cfF 108 = some (compF tis 10000 100000 (plans 108) (ofFunc Tryz.f108)) := by kernel_rfl
theorem e109 : c109 = denC tis 10000 (compF tis 10000 100000 (plans 109) (ofFunc Tryz.f109)) := by kernel_rfl
theorem x109 : cfF 109 = some (compF tis 10000 100000 (plans 109) (ofFunc Tryz.f109)) := by kernel_rfl
theorem e110 : c110 = denC tis 10000 (compF tis 10000 100000 (plans 110) (ofFunc Tryz.f110)) := by kernel_rfl
theorem x110 : cfF 110 = some (compF tis 10000 100000 (plans 110) (ofFunc Tryz.f110)) := by kernel_rfl
theorem e111 : c111 = denC tis 10000 (compF tis 10000 100000 (plans 111) (ofFunc Tryz.f111)) := by kernel_rfl
theorem x111 : cfF 111 = some (compF tis 10000 100000 (plans 111) (ofFunc Tryz.f111)) := by kernel_rfl
theorem e112 : c112 = denC tis 10000 (compF tis 10000 100000 (plans 112) (ofFunc Tryz.f112)) := by kernel_rfl
theorem x112 : cfF 112 = some (compF tis 10000 100000 (plans 112) (ofFunc Tryz.f112)) := by kernel_rfl
theorem e114 : c114 = denC tis 10000 (compF tis 10000 100000 (plans 114) (ofFunc Tryz.f114)) := by kernel_rfl
theorem x114 : cfF 114 = some (compF tis 10000 100000 (plans 114) (ofFunc Tryz.f114)) := by kernel_rfl
theorem e115 : c115 = denC tis 10000 (compF tis 10000 100000 (plans 115) (ofFunc Tryz.f115)) := by kernel_rfl
theorem x115 : cfF 115 = some (compF tis 10000 100000 (plans 115) (ofFunc Tryz.f115)) := by kernel_rfl
theorem e116 : c116 = denC tis 10000 (compF tis 10000 100000 (plans 116) (ofFunc Tryz.f116)) := by kernel_rfl
theorem x116 : cfF 116 = some (compF tis 10000 100000 (plans 116) (ofFunc Tryz.f116)) := by kernel_rfl
theorem e117 : c117 = denC tis 10000 (compF tis 10000 100000 (plans 117) (ofFunc Tryz.f117)) := by kernel_rfl
theorem x117 : cfF 117 = some (compF tis 10000 100000 (plans 117) (ofFunc Tryz.f117)) := by kernel_rfl
theorem e118 : c118 = denC tis 10000 (compF tis 10000 100000 (plans 118) (ofFunc Tryz.f118)) := by kernel_rfl
theorem x118 : cfF 118 = some (compF tis 10000 100000 (plans 118) (ofFunc Tryz.f118)) := by kernel_rfl
theorem e119 : c119 = denC tis 10000 (compF tis 10000 100000 (plans 119) (ofFunc Tryz.f119)) := by kernel_rfl
theorem x119 : cfF 119 = some (compF tis 10000 100000 (plans 119) (ofFunc Tryz.f119)) := by kernel_rfl
theorem e120 : c120 = denC tis 10000 (compF tis 10000 100000 (plans 120) (ofFunc Tryz.f120)) := by kernel_rfl
theorem x120 : cfF 120 = some (compF tis 10000 100000 (plans 120) (ofFunc Tryz.f120)) := by kernel_rfl
theorem e122 : c122 = denC tis 10000 (compF tis 10000 100000 (plans 122) (ofFunc Tryz.f122)) := by kernel_rfl
theorem x122 : cfF 122 = some (compF tis 10000 100000 (plans 122) (ofFunc Tryz.f122)) := by kernel_rfl
theorem e124 : c124 = denC tis 10000 (compF tis 10000 100000 (plans 124) (ofFunc Tryz.f124)) := by kernel_rfl
theorem x124 : cfF 124 = some (compF tis 10000 100000 (plans 124) (ofFunc Tryz.f124)) := by kernel_rfl
theorem e125 : c125 = denC tis 10000 (compF tis 10000 100000 (plans 125) (ofFunc Tryz.f125)) := by kernel_rfl
theorem x125 : cfF 125 = some (compF tis 10000 100000 (plans 125) (ofFunc Tryz.f125)) := by kernel_rfl
theorem e126 : c126 = denC tis 10000 (compF tis 10000 100000 (plans 126) (ofFunc Tryz.f126)) := by kernel_rfl
theorem x126 : cfF 126 = some (compF tis 10000 100000 (plans 126) (ofFunc Tryz.f126)) := by kernel_rfl
theorem e127 : c127 = denC tis 10000 (compF tis 10000 100000 (plans 127) (ofFunc Tryz.f127)) := by kernel_rfl
theorem x127 : cfF 127 = some (compF tis 10000 100000 (plans 127) (ofFunc Tryz.f127)) := by kernel_rfl
theorem e128 : c128 = denC tis 10000 (compF tis 10000 100000 (plans 128) (ofFunc Tryz.f128)) := by kernel_rfl
theorem x128 : cfF 128 = some (compF tis 10000 100000 (plans 128) (ofFunc Tryz.f128)) := by kernel_rfl
theorem e129 : c129 = denC tis 10000 (compF tis 10000 100000 (plans 129) (ofFunc Tryz.f129)) := by kernel_rfl
theorem x129 : cfF 129 = some (compF tis 10000 100000 (plans 129) (ofFunc Tryz.f129)) := by kernel_rfl
theorem e131 : c131 = denC tis 10000 (compF tis 10000 100000 (plans 131) (ofFunc Tryz.f131)) := by kernel_rfl
theorem x131 : cfF 131 = some (compF tis 10000 100000 (plans 131) (ofFunc Tryz.f131)) := by kernel_rfl
theorem e135 : c135 = denC tis 10000 (compF tis 10000 100000 (plans 135) (ofFunc Tryz.f135)) := by kernel_rfl
theorem x135 : cfF 135 = some (compF tis 10000 100000 (plans 135) (ofFunc Tryz.f135)) := by kernel_rfl
theorem e136 : c136 = denC tis 10000 (compF tis 10000 100000 (plans 136) (ofFunc Tryz.f136)) := by kernel_rfl
theorem x136 : cfF 136 = some (compF tis 10000 100000 (plans 136) (ofFunc Tryz.f136)) := by kernel_rfl
theorem e137 : c137 = denC tis 10000 (compF tis 10000 100000 (plans 137) (ofFunc Tryz.f137)) := by kernel_rfl
theorem x137 : cfF 137 = some (compF tis 10000 100000 (plans 137) (ofFunc Tryz.f137)) := by kernel_rfl
theorem e140 : c140 = denC tis 10000 (compF tis 10000 100000 (plans 140) (ofFunc Tryz.f140)) := by kernel_rfl
theorem x140 : cfF 140 = some (compF tis 10000 100000 (plans 140) (ofFunc Tryz.f140)) := by kernel_rfl
theorem e141 : c141 = denC tis 10000 (compF tis 10000 100000 (plans 141) (ofFunc Tryz.f141)) := by kernel_rfl
theorem x141 : cfF 141 = some (compF tis 10000 100000 (plans 141) (ofFunc Tryz.f141)) := by kernel_rfl
theorem e142 : c142 = denC tis 10000 (compF tis 10000 100000 (plans 142) (ofFunc Tryz.f142)) := by kernel_rfl
theorem x142 : cfF 142 = some (compF tis 10000 100000 (plans 142) (ofFunc Tryz.f142)) := by kernel_rfl
theorem e143 : c143 = denC tis 10000 (compF tis 10000 100000 (plans 143) (ofFunc Tryz.f143)) := by kernel_rfl
theorem x143 : cfF 143 = some (compF tis 10000 100000 (plans 143) (ofFunc Tryz.f143)) := by kernel_rfl
theorem e144 : c144 = denC tis 10000 (compF tis 10000 100000 (plans 144) (ofFunc Tryz.f144)) := by kernel_rfl
theorem x144 : cfF 144 = some (compF tis 10000 100000 (plans 144) (ofFunc Tryz.f144)) := by kernel_rfl
theorem e145 : c145 = denC tis 10000 (compF tis 10000 100000 (plans 145) (ofFunc Tryz.f145)) := by kernel_rfl
theorem x145 : cfF 145 = some (compF tis 10000 100000 (plans 145) (ofFunc Tryz.f145)) := by kernel_rfl
theorem e146 : c146 = denC tis 10000 (compF tis 10000 100000 (plans 146) (ofFunc Tryz.f146)) := by kernel_rfl
theorem x146 : cfF 146 = some (compF tis 10000 100000 (plans 146) (ofFunc Tryz.f146)) := by kernel_rfl
theorem e147 : c147 = denC tis 10000 (compF tis 10000 100000 (plans 147) (ofFunc Tryz.f147)) := by kernel_rfl
theorem x147 : cfF 147 = some (compF tis 10000 100000 (plans 147) (ofFunc Tryz.f147)) := by kernel_rfl
theorem e148 : c148 = denC tis 10000 (compF tis 10000 100000 (plans 148) (ofFunc Tryz.f148)) := by kernel_rfl
theorem x148 : cfF 148 = some (compF tis 10000 100000 (plans 148) (ofFunc Tryz.f148)) := by kernel_rfl
theorem e149 : c149 = denC tis 10000 (compF tis 10000 100000 (plans 149) (ofFunc Tryz.f149)) := by kernel_rfl
theorem x149 : cfF 149 = some (compF tis 10000 100000 (plans 149) (ofFunc Tryz.f149)) := by kernel_rfl
theorem e150 : c150 = denC tis 10000 (compF tis 10000 100000 (plans 150) (ofFunc Tryz.f150)) := by kernel_rfl
theorem x150 : cfF 150 = some (compF tis 10000 100000 (plans 150) (ofFunc Tryz.f150)) := by kernel_rfl
theorem e151 : c151 = denC tis 10000 (compF tis 10000 100000 (plans 151) (ofFunc Tryz.f151)) := by kernel_rfl
theorem x151 : cfF 151 = some (compF tis 10000 100000 (plans 151) (ofFunc Tryz.f151)) := by kernel_rfl
theorem e152 : c152 = denC tis 10000 (compF tis 10000 100000 (plans 152) (ofFunc Tryz.f152)) := by kernel_rfl
theorem x152 : cfF 152 = some (compF tis 10000 100000 (plans 152) (ofFunc Tryz.f152)) := by kernel_rfl
theorem e153 : c153 = denC tis 10000 (compF tis 10000 100000 (plans 153) (ofFunc Tryz.f153)) := by kernel_rfl
theorem x153 : cfF 153 = some (compF tis 10000 100000 (plans 153) (ofFunc Tryz.f153)) := by kernel_rfl
theorem e154 : c154 = denC tis 10000 (compF tis 10000 100000 (plans 154) (ofFunc Tryz.f154)) := by kernel_rfl
theorem x154 : cfF 154 = some (compF tis 10000 100000 (plans 154) (ofFunc Tryz.f154)) := by kernel_rfl
theorem e155 : c155 = denC tis 10000 (compF tis 10000 100000 (plans 155) (ofFunc Tryz.f155)) := by kernel_rfl
theorem x155 : cfF 155 = some (compF tis 10000 100000 (plans 155) (ofFunc Tryz.f155)) := by kernel_rfl
theorem e156 : c156 = denC tis 10000 (compF tis 10000 100000 (plans 156) (ofFunc Tryz.f156)) := by kernel_rfl
theorem x156 : cfF 156 = some (compF tis 10000 100000 (plans 156) (ofFunc Tryz.f156)) := by kernel_rfl
theorem e157 : c157 = denC tis 10000 (compF tis 10000 100000 (plans 157) (ofFunc Tryz.f157)) := by kernel_rfl
theorem x157 : cfF 157 = some (compF tis 10000 100000 (plans 157) (ofFunc Tryz.f157)) := by kernel_rfl
theorem e158 : c158 = denC tis 10000 (compF tis 10000 100000 (plans 158) (ofFunc Tryz.f158)) := by kernel_rfl
theorem x158 : cfF 158 = some (compF tis 10000 100000 (plans 158) (ofFunc Tryz.f158)) := by kernel_rfl
theorem e159 : c159 = denC tis 10000 (compF tis 10000 100000 (plans 159) (ofFunc Tryz.f159)) := by kernel_rfl
theorem x159 : cfF 159 = some (compF tis 10000 100000 (plans 159) (ofFunc Tryz.f159)) := by kernel_rfl
theorem e160 : c160 = denC tis 10000 (compF tis 10000 100000 (plans 160) (ofFunc Tryz.f160)) := by kernel_rfl
theorem x160 : cfF 160 = some (compF tis 10000 100000 (plans 160) (ofFunc Tryz.f160)) := by kernel_rfl
theorem e161 : c161 = denC tis 10000 (compF tis 10000 100000 (plans 161) (ofFunc Tryz.f161)) := by kernel_rfl
theorem x161 : cfF 161 = some (compF tis 10000 100000 (plans 161) (ofFunc Tryz.f161)) := by kernel_rfl
theorem e162 : c162 = denC tis 10000 (compF tis 10000 100000 (plans 162) (ofFunc Tryz.f162)) := by kernel_rfl
theorem x162 : cfF 162 = some (compF tis 10000 100000 (plans 162) (ofFunc Tryz.f162)) := by kernel_rfl
theorem e163 : c163 = denC tis 10000 (compF tis 10000 100000 (plans 163) (ofFunc Tryz.f163)) := by kernel_rfl
theorem x163 : cfF 163 = some (compF tis 10000 100000 (plans 163) (ofFunc Tryz.f163)) := by kernel_rfl
theorem e164 : c164 = denC tis 10000 (compF tis 10000 100000 (plans 164) (ofFunc Tryz.f164)) := by kernel_rfl
theorem x164 : cfF 164 = some (compF tis 10000 100000 (plans 164) (ofFunc Tryz.f164)) := by kernel_rfl
theorem e165 : c165 = denC tis 10000 (compF tis 10000 100000 (plans 165) (ofFunc Tryz.f165)) := by kernel_rfl
theorem x165 : cfF 165 = some (compF tis 10000 100000 (plans 165) (ofFunc Tryz.f165)) := by kernel_rfl
theorem e167 : c167 = denC tis 10000 (compF tis 10000 100000 (plans 167) (ofFunc Tryz.f167)) := by kernel_rfl
theorem x167 : cfF 167 = some (compF tis 10000 100000 (plans 167) (ofFunc Tryz.f167)) := by kernel_rfl
theorem e168 : c168 = denC tis 10000 (compF tis 10000 100000 (plans 168) (ofFunc Tryz.f168)) := by kernel_rfl
theorem x168 : cfF 168 = some (compF tis 10000 100000 (plans 168) (ofFunc Tryz.f168)) := by kernel_rfl
theorem e169 : c169 = denC tis 10000 (compF tis 10000 100000 (plans 169) (ofFunc Tryz.f169)) := by kernel_rfl
theorem x169 : cfF 169 = some (compF tis 10000 100000 (plans 169) (ofFunc Tryz.f169)) := by kernel_rfl
theorem e170 : c170 = denC tis 10000 (compF tis 10000 100000 (plans 170) (ofFunc Tryz.f170)) := by kernel_rfl
theorem x170 : cfF 170 = some (compF tis 10000 100000 (plans 170) (ofFunc Tryz.f170)) := by kernel_rfl
theorem e171 : c171 = denC tis 10000 (compF tis 10000 100000 (plans 171) (ofFunc Tryz.f171)) := by kernel_rfl
theorem x171 : cfF 171 = some (compF tis 10000 100000 (plans 171) (ofFunc Tryz.f171)) := by kernel_rfl
theorem e172 : c172 = denC tis 10000 (compF tis 10000 100000 (plans 172) (ofFunc Tryz.f172)) := by kernel_rfl
theorem x172 : cfF 172 = some (compF tis 10000 100000 (plans 172) (ofFunc Tryz.f172)) := by kernel_rfl
theorem e173 : c173 = denC tis 10000 (compF tis 10000 100000 (plans 173) (ofFunc Tryz.f173)) := by kernel_rfl
theorem x173 : cfF 173 = some (compF tis 10000 100000 (plans 173) (ofFunc Tryz.f173)) := by kernel_rfl
theorem e176 : c176 = denC tis 10000 (compF tis 10000 100000 (plans 176) (ofFunc Tryz.f176)) := by kernel_rfl
theorem x176 : cfF 176 = some (compF tis 10000 100000 (plans 176) (ofFunc Tryz.f176)) := by kernel_rfl
theorem e178 : c178 = denC tis 10000 (compF tis 10000 100000 (plans 178) (ofFunc Tryz.f178)) := by kernel_rfl
theorem x178 : cfF 178 = some (compF tis 10000 100000 (plans 178) (ofFunc Tryz.f178)) := by kernel_rfl
theorem e180 : c180 = denC tis 10000 (compF tis 10000 100000 (plans 180) (ofFunc Tryz.f180)) := by kernel_rfl
theorem x180 : cfF 180 = some (compF tis 10000 100000 (plans 180) (ofFunc Tryz.f180)) := by kernel_rfl
theorem e181 : c181 = denC tis 10000 (compF tis 10000 100000 (plans 181) (ofFunc Tryz.f181)) := by kernel_rfl
theorem x181 : cfF 181 = some (compF tis 10000 100000 (plans 181) (ofFunc Tryz.f181)) := by kernel_rfl
theorem e182 : c182 = denC tis 10000 (compF tis 10000 100000 (plans 182) (ofFunc Tryz.f182)) := by kernel_rfl
theorem x182 : cfF 182 = some (compF tis 10000 100000 (plans 182) (ofFunc Tryz.f182)) := by kernel_rfl
theorem e183 : c183 = denC tis 10000 (compF tis 10000 100000 (plans 183) (ofFunc Tryz.f183)) := by kernel_rfl
theorem x183 : cfF 183 = some (compF tis 10000 100000 (plans 183) (ofFunc Tryz.f183)) := by kernel_rfl
theorem e185 : c185 = denC tis 10000 (compF tis 10000 100000 (plans 185) (ofFunc Tryz.f185)) := by kernel_rfl
theorem x185 : cfF 185 = some (compF tis 10000 100000 (plans 185) (ofFunc Tryz.f185)) := by kernel_rfl
theorem e186 : c186 = denC tis 10000 (compF tis 10000 100000 (plans 186) (ofFunc Tryz.f186)) := by kernel_rfl
theorem x186 : cfF 186 = some (compF tis 10000 100000 (plans 186) (ofFunc Tryz.f186)) := by kernel_rfl
theorem e187 : c187 = denC tis 10000 (compF tis 10000 100000 (plans 187) (ofFunc Tryz.f187)) := by kernel_rfl
theorem x187 : cfF 187 = some (compF tis 10000 100000 (plans 187) (ofFunc Tryz.f187)) := by kernel_rfl
theorem e188 : c188 = denC tis 10000 (compF tis 10000 100000 (plans 188) (ofFunc Tryz.f188)) := by kernel_rfl
theorem x188 : cfF 188 = some (compF tis 10000 100000 (plans 188) (ofFunc Tryz.f188)) := by kernel_rfl
theorem e191 : c191 = denC tis 10000 (compF tis 10000 100000 (plans 191) (ofFunc Tryz.f191)) := by kernel_rfl
theorem x191 : cfF 191 = some (compF tis 10000 100000 (plans 191) (ofFunc Tryz.f191)) := by kernel_rfl
theorem e192 : c192 = denC tis 10000 (compF tis 10000 100000 (plans 192) (ofFunc Tryz.f192)) := by kernel_rfl
theorem x192 : cfF 192 = some (compF tis 10000 100000 (plans 192) (ofFunc Tryz.f192)) := by kernel_rfl
theorem e193 : c193 = denC tis 10000 (compF tis 10000 100000 (plans 193) (ofFunc Tryz.f193)) := by kernel_rfl
theorem x193 : cfF 193 = some (compF tis 10000 100000 (plans 193) (ofFunc Tryz.f193)) := by kernel_rfl
theorem e194 : c194 = denC tis 10000 (compF tis 10000 100000 (plans 194) (ofFunc Tryz.f194)) := by kernel_rfl
theorem x194 : cfF 194 = some (compF tis 10000 100000 (plans 194) (ofFunc Tryz.f194)) := by kernel_rfl
theorem e195 : c195 = denC tis 10000 (compF tis 10000 100000 (plans 195) (ofFunc Tryz.f195)) := by kernel_rfl
theorem x195 : cfF 195 = some (compF tis 10000 100000 (plans 195) (ofFunc Tryz.f195)) := by kernel_rfl
theorem e196 : c196 = denC tis 10000 (compF tis 10000 100000 (plans 196) (ofFunc Tryz.f196)) := by kernel_rfl
theorem x196 : cfF 196 = some (compF tis 10000 100000 (plans 196) (ofFunc Tryz.f196)) := by kernel_rfl
theorem e197 : c197 = denC tis 10000 (compF tis 10000 100000 (plans 197) (ofFunc Tryz.f197)) := by kernel_rfl
theorem x197 : cfF 197 = some (compF tis 10000 100000 (plans 197) (ofFunc Tryz.f197)) := by kernel_rfl
theorem e198 : c198 = denC tis 10000 (compF tis 10000 100000 (plans 198) (ofFunc Tryz.f198)) := by kernel_rfl
theorem x198 : cfF 198 = some (compF tis 10000 100000 (plans 198) (ofFunc Tryz.f198)) := by kernel_rfl
theorem e199 : c199 = denC tis 10000 (compF tis 10000 100000 (plans 199) (ofFunc Tryz.f199)) := by kernel_rfl
theorem x199 : cfF 199 = some (compF tis 10000 100000 (plans 199) (ofFunc Tryz.f199)) := by kernel_rfl
theorem e200 : c200 = denC tis 10000 (compF tis 10000 100000 (plans 200) (ofFunc Tryz.f200)) := by kernel_rfl
theorem x200 : cfF 200 = some (compF tis 10000 100000 (plans 200) (ofFunc Tryz.f200)) := by kernel_rfl
theorem e201 : c201 = denC tis 10000 (compF tis 10000 100000 (plans 201) (ofFunc Tryz.f201)) := by kernel_rfl
theorem x201 : cfF 201 = some (compF tis 10000 100000 (plans 201) (ofFunc Tryz.f201)) := by kernel_rfl
theorem e202 : c202 = denC tis 10000 (compF tis 10000 100000 (plans 202) (ofFunc Tryz.f202)) := by kernel_rfl
theorem x202 : cfF 202 = some (compF tis 10000 100000 (plans 202) (ofFunc Tryz.f202)) := by kernel_rfl
theorem e203 : c203 = denC tis 10000 (compF tis 10000 100000 (plans 203) (ofFunc Tryz.f203)) := by kernel_rfl
theorem x203 : cfF 203 = some (compF tis 10000 100000 (plans 203) (ofFunc Tryz.f203)) := by kernel_rfl
theorem e204 : c204 = denC tis 10000 (compF tis 10000 100000 (plans 204) (ofFunc Tryz.f204)) := by kernel_rfl
theorem x204 : cfF 204 = some (compF tis 10000 100000 (plans 204) (ofFunc Tryz.f204)) := by kernel_rfl
theorem e205 : c205 = denC tis 10000 (compF tis 10000 100000 (plans 205) (ofFunc Tryz.f205)) := by kernel_rfl
theorem x205 : cfF 205 = some (compF tis 10000 100000 (plans 205) (ofFunc Tryz.f205)) := by kernel_rfl
theorem e206 : c206 = denC tis 10000 (compF tis 10000 100000 (plans 206) (ofFunc Tryz.f206)) := by kernel_rfl
theorem x206 : cfF 206 = some (compF tis 10000 100000 (plans 206) (ofFunc Tryz.f206)) := by kernel_rfl
theorem e208 : c208 = denC tis 10000 (compF tis 10000 100000 (plans 208) (ofFunc Tryz.f208)) := by kernel_rfl
theorem x208 : cfF 208 = some (compF tis 10000 100000 (plans 208) (ofFunc Tryz.f208)) := by kernel_rfl
theorem e209 : c209 = denC tis 10000 (compF tis 10000 100000 (plans 209) (ofFunc Tryz.f209)) := by kernel_rfl
theorem x209 : cfF 209 = some (compF tis 10000 100000 (plans 209) (ofFunc Tryz.f209)) := by kernel_rfl
theorem e210 : c210 = denC tis 10000 (compF tis 10000 100000 (plans 210) (ofFunc Tryz.f210)) := by kernel_rfl
theorem x210 : cfF 210 = some (compF tis 10000 100000 (plans 210) (ofFunc Tryz.f210)) := by kernel_rfl
theorem e211 : c211 = denC tis 10000 (compF tis 10000 100000 (plans 211) (ofFunc Tryz.f211)) := by kernel_rfl
theorem x211 : cfF 211 = some (compF tis 10000 100000 (plans 211) (ofFunc Tryz.f211)) := by kernel_rfl
theorem e213 : c213 = denC tis 10000 (compF tis 10000 100000 (plans 213) (ofFunc Tryz.f213)) := by kernel_rfl
theorem x213 : cfF 213 = some (compF tis 10000 100000 (plans 213) (ofFunc Tryz.f213)) := by kernel_rfl
theorem e224 : c224 = denC tis 10000 (compF tis 10000 100000 (plans 224) (ofFunc Tryz.f224)) := by kernel_rfl
theorem x224 : cfF 224 = some (compF tis 10000 100000 (plans 224) (ofFunc Tryz.f224)) := by kernel_rfl
theorem e225 : c225 = denC tis 10000 (compF tis 10000 100000 (plans 225) (ofFunc Tryz.f225)) := by kernel_rfl
theorem x225 : cfF 225 = some (compF tis 10000 100000 (plans 225) (ofFunc Tryz.f225)) := by kernel_rfl
theorem e226 : c226 = denC tis 10000 (compF tis 10000 100000 (plans 226) (ofFunc Tryz.f226)) := by kernel_rfl
theorem x226 : cfF 226 = some (compF tis 10000 100000 (plans 226) (ofFunc Tryz.f226)) := by kernel_rfl
theorem e227 : c227 = denC tis 10000 (compF tis 10000 100000 (plans 227) (ofFunc Tryz.f227)) := by kernel_rfl
theorem x227 : cfF 227 = some (compF tis 10000 100000 (plans 227) (ofFunc Tryz.f227)) := by kernel_rfl
theorem e228 : c228 = denC tis 10000 (compF tis 10000 100000 (plans 228) (ofFunc Tryz.f228)) := by kernel_rfl
theorem x228 : cfF 228 = some (compF tis 10000 100000 (plans 228) (ofFunc Tryz.f228)) := by kernel_rfl
theorem e229 : c229 = denC tis 10000 (compF tis 10000 100000 (plans 229) (ofFunc Tryz.f229)) := by kernel_rfl
theorem x229 : cfF 229 = some (compF tis 10000 100000 (plans 229) (ofFunc Tryz.f229)) := by kernel_rfl
theorem e236 : c236 = denC tis 10000 (compF tis 10000 100000 (plans 236) (ofFunc Tryz.f236)) := by kernel_rfl
theorem x236 : cfF 236 = some (compF tis 10000 100000 (plans 236) (ofFunc Tryz.f236)) := by kernel_rfl
theorem e237 : c237 = denC tis 10000 (compF tis 10000 100000 (plans 237) (ofFunc Tryz.f237)) := by kernel_rfl
theorem x237 : cfF 237 = some (compF tis 10000 100000 (plans 237) (ofFunc Tryz.f237)) := by kernel_rfl
theorem e241 : c241 = denC tis 10000 (compF tis 10000 100000 (plans 241) (ofFunc Tryz.f241)) := by kernel_rfl
theorem x241 : cfF 241 = some (compF tis 10000 100000 (plans 241) (ofFunc Tryz.f241)) := by kernel_rfl
theorem e242 : c242 = denC tis 10000 (compF tis 10000 100000 (plans 242) (ofFunc Tryz.f242)) := by kernel_rfl
theorem x242 : cfF 242 = some (compF tis 10000 100000 (plans 242) (ofFunc Tryz.f242)) := by kernel_rfl
theorem e243 : c243 = denC tis 10000 (compF tis 10000 100000 (plans 243) (ofFunc Tryz.f243)) := by kernel_rfl
theorem x243 : cfF 243 = some (compF tis 10000 100000 (plans 243) (ofFunc Tryz.f243)) := by kernel_rfl
theorem e244 : c244 = denC tis 10000 (compF tis 10000 100000 (plans 244) (ofFunc Tryz.f244)) := by kernel_rfl
theorem x244 : cfF 244 = some (compF tis 10000 100000 (plans 244) (ofFunc Tryz.f244)) := by kernel_rfl
theorem e245 : c245 = denC tis 10000 (compF tis 10000 100000 (plans 245) (ofFunc Tryz.f245)) := by kernel_rfl
theorem x245 : cfF 245 = some (compF tis 10000 100000 (plans 245) (ofFunc Tryz.f245)) := by kernel_rfl
theorem e246 : c246 = denC tis 10000 (compF tis 10000 100000 (plans 246) (ofFunc Tryz.f246)) := by kernel_rfl
theorem x246 : cfF 246 = some (compF tis 10000 100000 (plans 246) (ofFunc Tryz.f246)) := by kernel_rfl
theorem e247 : c247 = denC tis 10000 (compF tis 10000 100000 (plans 247) (ofFunc Tryz.f247)) := by kernel_rfl
theorem x247 : cfF 247 = some (compF tis 10000 100000 (plans 247) (ofFunc Tryz.f247)) := by kernel_rfl
theorem e248 : c248 = denC tis 10000 (compF tis 10000 100000 (plans 248) (ofFunc Tryz.f248)) := by kernel_rfl
theorem x248 : cfF 248 = some (compF tis 10000 100000 (plans 248) (ofFunc Tryz.f248)) := by kernel_rfl
theorem e250 : c250 = denC tis 10000 (compF tis 10000 100000 (plans 250) (ofFunc Tryz.f250)) := by kernel_rfl
theorem x250 : cfF 250 = some (compF tis 10000 100000 (plans 250) (ofFunc Tryz.f250)) := by kernel_rfl
theorem e251 : c251 = denC tis 10000 (compF tis 10000 100000 (plans 251) (ofFunc Tryz.f251)) := by kernel_rfl
theorem x251 : cfF 251 = some (compF tis 10000 100000 (plans 251) (ofFunc Tryz.f251)) := by kernel_rfl
theorem e252 : c252 = denC tis 10000 (compF tis 10000 100000 (plans 252) (ofFunc Tryz.f252)) := by kernel_rfl
theorem x252 : cfF 252 = some (compF tis 10000 100000 (plans 252) (ofFunc Tryz.f252)) := by kernel_rfl
theorem e253 : c253 = denC tis 10000 (compF tis 10000 100000 (plans 253) (ofFunc Tryz.f253)) := by kernel_rfl
theorem x253 : cfF 253 = some (compF tis 10000 100000 (plans 253) (ofFunc Tryz.f253)) := by kernel_rfl
theorem e256 : c256 = denC tis 10000 (compF tis 10000 100000 (plans 256) (ofFunc Tryz.f256)) := by kernel_rfl
theorem x256 : cfF 256 = some (compF tis 10000 100000 (plans 256) (ofFunc Tryz.f256)) := by kernel_rfl
theorem e257 : c257 = denC tis 10000 (compF tis 10000 100000 (plans 257) (ofFunc Tryz.f257)) := by kernel_rfl
theorem x257 : cfF 257 = some (compF tis 10000 100000 (plans 257) (ofFunc Tryz.f257)) := by kernel_rfl
theorem e260 : c260 = denC tis 10000 (compF tis 10000 100000 (plans 260) (ofFunc Tryz.f260)) := by kernel_rfl
theorem x260 : cfF 260 = some (compF tis 10000 100000 (plans 260) (ofFunc Tryz.f260)) := by kernel_rfl
theorem e261 : c261 = denC tis 10000 (compF tis 10000 100000 (plans 261) (ofFunc Tryz.f261)) := by kernel_rfl
theorem x261 : cfF 261 = some (compF tis 10000 100000 (plans 261) (ofFunc Tryz.f261)) := by kernel_rfl
theorem e271 : c271 = denC tis 10000 (compF tis 10000 100000 (plans 271) (ofFunc Tryz.f271)) := by kernel_rfl
theorem x271 : cfF 271 = some (compF tis 10000 100000 (plans 271) (ofFunc Tryz.f271)) := by kernel_rfl
theorem e272 : c272 = denC tis 10000 (compF tis 10000 100000 (plans 272) (ofFunc Tryz.f272)) := by kernel_rfl
theorem x272 : cfF 272 = some (compF tis 10000 100000 (plans 272) (ofFunc Tryz.f272)) := by kernel_rfl
theorem e274 : c274 = denC tis 10000 (compF tis 10000 100000 (plans 274) (ofFunc Tryz.f274)) := by kernel_rfl
theorem x274 : cfF 274 = some (compF tis 10000 100000 (plans 274) (ofFunc Tryz.f274)) := by kernel_rfl
theorem e275 : c275 = denC tis 10000 (compF tis 10000 100000 (plans 275) (ofFunc Tryz.f275)) := by kernel_rfl
theorem x275 : cfF 275 = some (compF tis 10000 100000 (plans 275) (ofFunc Tryz.f275)) := by kernel_rfl
theorem e278 : c278 = denC tis 10000 (compF tis 10000 100000 (plans 278) (ofFunc Tryz.f278)) := by kernel_rfl
theorem x278 : cfF 278 = some (compF tis 10000 100000 (plans 278) (ofFunc Tryz.f278)) := by kernel_rfl
theorem e279 : c279 = denC tis 10000 (compF tis 10000 100000 (plans 279) (ofFunc Tryz.f279)) := by kernel_rfl
theorem x279 : cfF 279 = some (compF tis 10000 100000 (plans 279) (ofFunc Tryz.f279)) := by kernel_rfl
theorem e280 : c280 = denC tis 10000 (compF tis 10000 100000 (plans 280) (ofFunc Tryz.f280)) := by kernel_rfl
theorem x280 : cfF 280 = some (compF tis 10000 100000 (plans 280) (ofFunc Tryz.f280)) := by kernel_rfl
theorem e281 : c281 = denC tis 10000 (compF tis 10000 100000 (plans 281) (ofFunc Tryz.f281)) := by kernel_rfl
theorem x281 : cfF 281 = some (compF tis 10000 100000 (plans 281) (ofFunc Tryz.f281)) := by kernel_rfl
theorem e282 : c282 = denC tis 10000 (compF tis 10000 100000 (plans 282) (ofFunc Tryz.f282)) := by kernel_rfl
theorem x282 : cfF 282 = some (compF tis 10000 100000 (plans 282) (ofFunc Tryz.f282)) := by kernel_rfl
theorem e283 : c283 = denC tis 10000 (compF tis 10000 100000 (plans 283) (ofFunc Tryz.f283)) := by kernel_rfl
theorem x283 : cfF 283 = some (compF tis 10000 100000 (plans 283) (ofFunc Tryz.f283)) := by kernel_rfl
theorem e284 : c284 = denC tis 10000 (compF tis 10000 100000 (plans 284) (ofFunc Tryz.f284)) := by kernel_rfl
theorem x284 : cfF 284 = some (compF tis 10000 100000 (plans 284) (ofFunc Tryz.f284)) := by kernel_rfl
theorem e285 : c285 = denC tis 10000 (compF tis 10000 100000 (plans 285) (ofFunc Tryz.f285)) := by kernel_rfl
theorem x285 : cfF 285 = some (compF tis 10000 100000 (plans 285) (ofFunc Tryz.f285)) := by kernel_rfl
theorem e294 : c294 = denC tis 10000 (compF tis 10000 100000 (plans 294) (ofFunc Tryz.f294)) := by kernel_rfl
theorem x294 : cfF 294 = some (compF tis 10000 100000 (plans 294) (ofFunc Tryz.f294)) := by kernel_rfl
theorem e295 : c295 = denC tis 10000 (compF tis 10000 100000 (plans 295) (ofFunc Tryz.f295)) := by kernel_rfl
theorem x295 : cfF 295 = some (compF tis 10000 100000 (plans 295) (ofFunc Tryz.f295)) := by kernel_rfl
theorem fsT_eq : ofL fsL = fsT := by kernel_rfl
theorem fsL_ok : ∀ q ∈ fsL, ∃ cf, cfF q.1 = some cf ∧ q.2 = denC tis 10000 cf := by
  unfold fsL
  exact List.forall_mem_cons.2 ⟨⟨_, x5, e5⟩, List.forall_mem_cons.2 ⟨⟨_, x6, e6⟩, List.forall_mem_cons.2 ⟨⟨_, x7, e7⟩, List.forall_mem_cons.2 ⟨⟨_, x9, e9⟩, List.forall_mem_cons.2 ⟨⟨_, x14, e14⟩, List.forall_mem_cons.2 ⟨⟨_, x18, e18⟩, List.forall_mem_cons.2 ⟨⟨_, x20, e20⟩, List.forall_mem_cons.2 ⟨⟨_, x21, e21⟩, List.forall_mem_cons.2 ⟨⟨_, x22, e22⟩, List.forall_mem_cons.2 ⟨⟨_, x23, e23⟩, List.forall_mem_cons.2 ⟨⟨_, x24, e24⟩, List.forall_mem_cons.2 ⟨⟨_, x25, e25⟩, List.forall_mem_cons.2 ⟨⟨_, x26, e26⟩, List.forall_mem_cons.2 ⟨⟨_, x27, e27⟩, List.forall_mem_cons.2 ⟨⟨_, x28, e28⟩, List.forall_mem_cons.2 ⟨⟨_, x30, e30⟩, List.forall_mem_cons.2 ⟨⟨_, x31, e31⟩, List.forall_mem_cons.2 ⟨⟨_, x37, e37⟩, List.forall_mem_cons.2 ⟨⟨_, x40, e40⟩, List.forall_mem_cons.2 ⟨⟨_, x41, e41⟩, List.forall_mem_cons.2 ⟨⟨_, x42, e42⟩, List.forall_mem_cons.2 ⟨⟨_, x43, e43⟩, List.forall_mem_cons.2 ⟨⟨_, x44, e44⟩, List.forall_mem_cons.2 ⟨⟨_, x45, e45⟩, List.forall_mem_cons.2 ⟨⟨_, x46, e46⟩, List.forall_mem_cons.2 ⟨⟨_, x47, e47⟩, List.forall_mem_cons.2 ⟨⟨_, x52, e52⟩, List.forall_mem_cons.2 ⟨⟨_, x53, e53⟩, List.forall_mem_cons.2 ⟨⟨_, x55, e55⟩, List.forall_mem_cons.2 ⟨⟨_, x56, e56⟩, List.forall_mem_cons.2 ⟨⟨_, x57, e57⟩, List.forall_mem_cons.2 ⟨⟨_, x58, e58⟩, List.forall_mem_cons.2 ⟨⟨_, x59, e59⟩, List.forall_mem_cons.2 ⟨⟨_, x60, e60⟩, List.forall_mem_cons.2 ⟨⟨_, x61, e61⟩, List.forall_mem_cons.2 ⟨⟨_, x62, e62⟩, List.forall_mem_cons.2 ⟨⟨_, x63, e63⟩, List.forall_mem_cons.2 ⟨⟨_, x66, e66⟩, List.forall_mem_cons.2 ⟨⟨_, x67, e67⟩, List.forall_mem_cons.2 ⟨⟨_, x68, e68⟩, List.forall_mem_cons.2 ⟨⟨_, x71, e71⟩, List.forall_mem_cons.2 ⟨⟨_, x72, e72⟩, List.forall_mem_cons.2 ⟨⟨_, x76, e76⟩, List.forall_mem_cons.2 ⟨⟨_, x77, e77⟩, List.forall_mem_cons.2 ⟨⟨_, x78, e78⟩, List.forall_mem_cons.2 ⟨⟨_, x79, e79⟩, List.forall_mem_cons.2 ⟨⟨_, x80, e80⟩, List.forall_mem_cons.2 ⟨⟨_, x82, e82⟩, List.forall_mem_cons.2 ⟨⟨_, x83, e83⟩, List.forall_mem_cons.2 ⟨⟨_, x84, e84⟩, List.forall_mem_cons.2 ⟨⟨_, x85, e85⟩, List.forall_mem_cons.2 ⟨⟨_, x86, e86⟩, List.forall_mem_cons.2 ⟨⟨_, x89, e89⟩, List.forall_mem_cons.2 ⟨⟨_, x90, e90⟩, List.forall_mem_cons.2 ⟨⟨_, x91, e91⟩, List.forall_mem_cons.2 ⟨⟨_, x92, e92⟩, List.forall_mem_cons.2 ⟨⟨_, x93, e93⟩, List.forall_mem_cons.2 ⟨⟨_, x94, e94⟩, List.forall_mem_cons.2 ⟨⟨_, x95, e95⟩, List.forall_mem_cons.2 ⟨⟨_, x96, e96⟩, List.forall_mem_cons.2 ⟨⟨_, x97, e97⟩, List.forall_mem_cons.2 ⟨⟨_, x98, e98⟩, List.forall_mem_cons.2 ⟨⟨_, x101, e101⟩, List.forall_mem_cons.2 ⟨⟨_, x102, e102⟩, List.forall_mem_cons.2 ⟨⟨_, x103, e103⟩, List.forall_mem_cons.2 ⟨⟨_, x104, e104⟩, List.forall_mem_cons.2 ⟨⟨_, x105, e105⟩, List.forall_mem_cons.2 ⟨⟨_, x106, e106⟩, List.forall_mem_cons.2 ⟨⟨_, x107, e107⟩, List.forall_mem_cons.2 ⟨⟨_, x108, e108⟩, List.forall_mem_cons.2 ⟨⟨_, x109, e109⟩, List.forall_mem_cons.2 ⟨⟨_, x110, e110⟩, List.forall_mem_cons.2 ⟨⟨_, x111, e111⟩, List.forall_mem_cons.2 ⟨⟨_, x112, e112⟩, List.forall_mem_cons.2 ⟨⟨_, x114, e114⟩, List.forall_mem_cons.2 ⟨⟨_, x115, e115⟩, List.forall_mem_cons.2 ⟨⟨_, x116, e116⟩, List.forall_mem_cons.2 ⟨⟨_, x117, e117⟩, List.forall_mem_cons.2 ⟨⟨_, x118, e118⟩, List.forall_mem_cons.2 ⟨⟨_, x119, e119⟩, List.forall_mem_cons.2 ⟨⟨_, x120, e120⟩, List.forall_mem_cons.2 ⟨⟨_, x122, e122⟩, List.forall_mem_cons.2 ⟨⟨_, x124, e124⟩, List.forall_mem_cons.2 ⟨⟨_, x125, e125⟩, List.forall_mem_cons.2 ⟨⟨_, x126, e126⟩, List.forall_mem_cons.2 ⟨⟨_, x127, e127⟩, List.forall_mem_cons.2 ⟨⟨_, x128, e128⟩, List.forall_mem_cons.2 ⟨⟨_, x129, e129⟩, List.forall_mem_cons.2 ⟨⟨_, x131, e131⟩, List.forall_mem_cons.2 ⟨⟨_, x135, e135⟩, List.forall_mem_cons.2 ⟨⟨_, x136, e136⟩, List.forall_mem_cons.2 ⟨⟨_, x137, e137⟩, List.forall_mem_cons.2 ⟨⟨_, x140, e140⟩, List.forall_mem_cons.2 ⟨⟨_, x141, e141⟩, List.forall_mem_cons.2 ⟨⟨_, x142, e142⟩, List.forall_mem_cons.2 ⟨⟨_, x143, e143⟩, List.forall_mem_cons.2 ⟨⟨_, x144, e144⟩, List.forall_mem_cons.2 ⟨⟨_, x145, e145⟩, List.forall_mem_cons.2 ⟨⟨_, x146, e146⟩, List.forall_mem_cons.2 ⟨⟨_, x147, e147⟩, List.forall_mem_cons.2 ⟨⟨_, x148, e148⟩, List.forall_mem_cons.2 ⟨⟨_, x149, e149⟩, List.forall_mem_cons.2 ⟨⟨_, x150, e150⟩, List.forall_mem_cons.2 ⟨⟨_, x151, e151⟩, List.forall_mem_cons.2 ⟨⟨_, x152, e152⟩, List.forall_mem_cons.2 ⟨⟨_, x153, e153⟩, List.forall_mem_cons.2 ⟨⟨_, x154, e154⟩, List.forall_mem_cons.2 ⟨⟨_, x155, e155⟩, List.forall_mem_cons.2 ⟨⟨_, x156, e156⟩, List.forall_mem_cons.2 ⟨⟨_, x157, e157⟩, List.forall_mem_cons.2 ⟨⟨_, x158, e158⟩, List.forall_mem_cons.2 ⟨⟨_, x159, e159⟩, List.forall_mem_cons.2 ⟨⟨_, x160, e160⟩, List.forall_mem_cons.2 ⟨⟨_, x161, e161⟩, List.forall_mem_cons.2 ⟨⟨_, x162, e162⟩, List.forall_mem_cons.2 ⟨⟨_, x163, e163⟩, List.forall_mem_cons.2 ⟨⟨_, x164, e164⟩, List.forall_mem_cons.2 ⟨⟨_, x165, e165⟩, List.forall_mem_cons.2 ⟨⟨_, x167, e167⟩, List.forall_mem_cons.2 ⟨⟨_, x168, e168⟩, List.forall_mem_cons.2 ⟨⟨_, x169, e169⟩, List.forall_mem_cons.2 ⟨⟨_, x170, e170⟩, List.forall_mem_cons.2 ⟨⟨_, x171, e171⟩, List.forall_mem_cons.2 ⟨⟨_, x172, e172⟩, List.forall_mem_cons.2 ⟨⟨_, x173, e173⟩, List.forall_mem_cons.2 ⟨⟨_, x176, e176⟩, List.forall_mem_cons.2 ⟨⟨_, x178, e178⟩, List.forall_mem_cons.2 ⟨⟨_, x180, e180⟩, List.forall_mem_cons.2 ⟨⟨_, x181, e181⟩, List.forall_mem_cons.2 ⟨⟨_, x182, e182⟩, List.forall_mem_cons.2 ⟨⟨_, x183, e183⟩, List.forall_mem_cons.2 ⟨⟨_, x185, e185⟩, List.forall_mem_cons.2 ⟨⟨_, x186, e186⟩, List.forall_mem_cons.2 ⟨⟨_, x187, e187⟩, List.forall_mem_cons.2 ⟨⟨_, x188, e188⟩, List.forall_mem_cons.2 ⟨⟨_, x191, e191⟩, List.forall_mem_cons.2 ⟨⟨_, x192, e192⟩, List.forall_mem_cons.2 ⟨⟨_, x193, e193⟩, List.forall_mem_cons.2 ⟨⟨_, x194, e194⟩, List.forall_mem_cons.2 ⟨⟨_, x195, e195⟩, List.forall_mem_cons.2 ⟨⟨_, x196, e196⟩, List.forall_mem_cons.2 ⟨⟨_, x197, e197⟩, List.forall_mem_cons.2 ⟨⟨_, x198, e198⟩, List.forall_mem_cons.2 ⟨⟨_, x199, e199⟩, List.forall_mem_cons.2 ⟨⟨_, x200, e200⟩, List.forall_mem_cons.2 ⟨⟨_, x201, e201⟩, List.forall_mem_cons.2 ⟨⟨_, x202, e202⟩, List.forall_mem_cons.2 ⟨⟨_, x203, e203⟩, List.forall_mem_cons.2 ⟨⟨_, x204, e204⟩, List.forall_mem_cons.2 ⟨⟨_, x205, e205⟩, List.forall_mem_cons.2 ⟨⟨_, x206, e206⟩, List.forall_mem_cons.2 ⟨⟨_, x208, e208⟩, List.forall_mem_cons.2 ⟨⟨_, x209, e209⟩, List.forall_mem_cons.2 ⟨⟨_, x210, e210⟩, List.forall_mem_cons.2 ⟨⟨_, x211, e211⟩, List.forall_mem_cons.2 ⟨⟨_, x213, e213⟩, List.forall_mem_cons.2 ⟨⟨_, x224, e224⟩, List.forall_mem_cons.2 ⟨⟨_, x225, e225⟩, List.forall_mem_cons.2 ⟨⟨_, x226, e226⟩, List.forall_mem_cons.2 ⟨⟨_, x227, e227⟩, List.forall_mem_cons.2 ⟨⟨_, x228, e228⟩, List.forall_mem_cons.2 ⟨⟨_, x229, e229⟩, List.forall_mem_cons.2 ⟨⟨_, x236, e236⟩, List.forall_mem_cons.2 ⟨⟨_, x237, e237⟩, List.forall_mem_cons.2 ⟨⟨_, x241, e241⟩, List.forall_mem_cons.2 ⟨⟨_, x242, e242⟩, List.forall_mem_cons.2 ⟨⟨_, x243, e243⟩, List.forall_mem_cons.2 ⟨⟨_, x244, e244⟩, List.forall_mem_cons.2 ⟨⟨_, x245, e245⟩, List.forall_mem_cons.2 ⟨⟨_, x246, e246⟩, List.forall_mem_cons.2 ⟨⟨_, x247, e247⟩, List.forall_mem_cons.2 ⟨⟨_, x248, e248⟩, List.forall_mem_cons.2 ⟨⟨_, x250, e250⟩, List.forall_mem_cons.2 ⟨⟨_, x251, e251⟩, List.forall_mem_cons.2 ⟨⟨_, x252, e252⟩, List.forall_mem_cons.2 ⟨⟨_, x253, e253⟩, List.forall_mem_cons.2 ⟨⟨_, x256, e256⟩, List.forall_mem_cons.2 ⟨⟨_, x257, e257⟩, List.forall_mem_cons.2 ⟨⟨_, x260, e260⟩, List.forall_mem_cons.2 ⟨⟨_, x261, e261⟩, List.forall_mem_cons.2 ⟨⟨_, x271, e271⟩, List.forall_mem_cons.2 ⟨⟨_, x272, e272⟩, List.forall_mem_cons.2 ⟨⟨_, x274, e274⟩, List.forall_mem_cons.2 ⟨⟨_, x275, e275⟩, List.forall_mem_cons.2 ⟨⟨_, x278, e278⟩, List.forall_mem_cons.2 ⟨⟨_, x279, e279⟩, List.forall_mem_cons.2 ⟨⟨_, x280, e280⟩, List.forall_mem_cons.2 ⟨⟨_, x281, e281⟩, List.forall_mem_cons.2 ⟨⟨_, x282, e282⟩, List.forall_mem_cons.2 ⟨⟨_, x283, e283⟩, List.forall_mem_cons.2 ⟨⟨_, x284, e284⟩, List.forall_mem_cons.2 ⟨⟨_, x285, e285⟩, List.forall_mem_cons.2 ⟨⟨_, x294, e294⟩, List.forall_mem_cons.2 ⟨⟨_, x295, e295⟩, fun _ h => nomatch h⟩⟩⟩⟩⟩⟩⟩⟩⟩⟩⟩⟩⟩⟩⟩⟩⟩⟩⟩⟩⟩⟩⟩⟩⟩⟩⟩⟩⟩⟩⟩⟩⟩⟩⟩⟩⟩⟩⟩⟩⟩⟩⟩⟩⟩⟩⟩⟩⟩⟩⟩⟩⟩⟩⟩⟩⟩⟩⟩⟩⟩⟩⟩⟩⟩⟩⟩⟩⟩⟩⟩⟩⟩⟩⟩⟩⟩⟩⟩⟩⟩⟩⟩⟩⟩⟩⟩⟩⟩⟩⟩⟩⟩⟩⟩⟩⟩⟩⟩⟩⟩⟩⟩⟩⟩⟩⟩⟩⟩⟩⟩⟩⟩⟩⟩⟩⟩⟩⟩⟩⟩⟩⟩⟩⟩⟩⟩⟩⟩⟩⟩⟩⟩⟩⟩⟩⟩⟩⟩⟩⟩⟩⟩⟩⟩⟩⟩⟩⟩⟩⟩⟩⟩⟩⟩⟩⟩⟩⟩⟩⟩⟩⟩⟩⟩⟩⟩⟩⟩⟩⟩⟩⟩⟩⟩⟩⟩⟩⟩⟩⟩⟩⟩⟩⟩⟩⟩⟩⟩⟩⟩⟩⟩⟩
theorem none174 : cfF 174 = none := by kernel_rfl
theorem none177 : cfF 177 = none := by kernel_rfl
theorem none270 : cfF 270 = none := by kernel_rfl
theorem printed : Printed tis 10000 fsC cfF (extX 174 177 270) := fun g => by
  cases h : fsC g with
  | some c =>
    unfold fsC at h
    rw [getN_eq, ← fsT_eq] at h
    exact fsL_ok _ (ofL_mem h)
  | none =>
    by_cases h1 : g = 174
    · subst h1; exact .inl none174
    · by_cases h2 : g = 177
      · subst h2; exact .inl none177
      · by_cases h3 : g = 270
        · subst h3; exact .inl none270
        · right
          intro args m
          unfold extX
          rw [boolRec, boolRec, boolRec]
          simp only [Nat.beq_eq, if_neg h1, if_neg h2, if_neg h3]
end Go.Proofs.YtibcljekjjjnoaaGreatDoor
end
