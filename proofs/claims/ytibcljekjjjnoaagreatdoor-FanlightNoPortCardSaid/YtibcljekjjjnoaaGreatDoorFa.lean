import Derived.Test.YtibcljekjjjnoaaGreatDoorYa
import Derived.Test.YtibcljekjjjnoaaGreatDoorSa
import Derived.Test.YtibcljekjjjnoaaGreatDoorR1
import Derived.Test.YtibcljekjjjnoaaGreatDoorR2
import Derived.Test.YtibcljekjjjnoaaGreatDoorR3
import Derived.Test.YtibcljekjjjnoaaGreatDoorR4
import Derived.Test.YtibcljekjjjnoaaGreatDoorR5
import Derived.Test.YtibcljekjjjnoaaGreatDoorR6
import Derived.Test.YtibcljekjjjnoaaGreatDoorR7
import Derived.Test.YtibcljekjjjnoaaGreatDoorR8
import Derived.Test.YtibcljekjjjnoaaGreatDoorRows
import Derived.Test.YtibcljekjjjnoaaGreatDoorTie
import Derived.Test.YtibcljekjjjnoaaGreatDoorCards
import Derived.WalkKit
import Derived.ProofKit
import Derived.OpenShut
import Derived.LaidMore
import Derived.Stop.Joined
import Derived.SevenTiedAt
/- A part of the proof of FanlightNoPort: Fa. -/
set_option linter.all false
open Go Go.Ab Go.Ab.F Go.Proofs.YtibcljekjjjnoaaGreatDoor.Top
namespace Go.Proofs.YtibcljekjjjnoaaGreatDoor
set_option maxRecDepth 100000

theorem lift {r s : Int} (h : saysTrue (runC 200 5 [.int .i64 r, .int .i64 s] m0) = true) : saysTrue (run 100000 200 5 [.int .i64 r, .int .i64 s] m0) = true := by
  rcases F.evS_le (plans := plans) (fns := fns) (cfs := cfF) (fs := fsC) (ext := ext)  cfF_eq (extX_eq 174 177 270) printed 200 5 [.int .i64 r, .int .i64 s] m0 with e | e
  · have h' : saysTrue (F.evS fsC (extX 174 177 270) 200 5 [.int .i64 r, .int .i64 s] m0) = true := h
    rw [e] at h'; cases h'
  · have h' : saysTrue (F.evS fsC (extX 174 177 270) 200 5 [.int .i64 r, .int .i64 s] m0) = true := h
    rw [e] at h'; exact h'

theorem all48 (r s : Int) (hr : 0 ≤ r) (hr' : r < 8) (hs : 0 ≤ s) (hs' : s < 6) : saysTrue (run 100000 200 5 [.int .i64 r, .int .i64 s] m0) = true := by
  have h1 : r = 0 ∨ r = 1 ∨ r = 2 ∨ r = 3 ∨ r = 4 ∨ r = 5 ∨ r = 6 ∨ r = 7 := by omega
  have h2 : s = 0 ∨ s = 1 ∨ s = 2 ∨ s = 3 ∨ s = 4 ∨ s = 5 := by omega
  rcases h1 with rfl | rfl | rfl | rfl | rfl | rfl | rfl | rfl <;> rcases h2 with rfl | rfl | rfl | rfl | rfl | rfl
  · exact lift n0x0
  · exact lift n0x1
  · exact lift n0x2
  · exact lift n0x3
  · exact lift n0x4
  · exact lift n0x5
  · exact lift n1x0
  · exact lift n1x1
  · exact lift n1x2
  · exact lift n1x3
  · exact lift n1x4
  · exact lift n1x5
  · exact lift n2x0
  · exact lift n2x1
  · exact lift n2x2
  · exact lift n2x3
  · exact lift n2x4
  · exact lift n2x5
  · exact lift n3x0
  · exact lift n3x1
  · exact lift n3x2
  · exact lift n3x3
  · exact lift n3x4
  · exact lift n3x5
  · exact lift n4x0
  · exact lift n4x1
  · exact lift n4x2
  · exact lift n4x3
  · exact lift n4x4
  · exact lift n4x5
  · exact lift n5x0
  · exact lift n5x1
  · exact lift n5x2
  · exact lift n5x3
  · exact lift n5x4
  · exact lift n5x5
  · exact lift n6x0
  · exact lift n6x1
  · exact lift n6x2
  · exact lift n6x3
  · exact lift n6x4
  · exact lift n6x5
  · exact lift n7x0
  · exact lift n7x1
  · exact lift n7x2
  · exact lift n7x3
  · exact lift n7x4
  · exact lift n7x5

theorem wrap64 (x : Int) : IntKind.u64.wrap x = x % 18446744073709551616 := by
  unfold IntKind.wrap
  simp [IntKind.signed, IntKind.bits]
theorem no_port (p q : Int) : saysTrue (run 100000 200 5 [.int .i64 p, .int .i64 q] m0) = true := by
  have hp : 0 ≤ IntKind.u64.wrap p := by rw [wrap64]; omega
  have hq : 0 ≤ IntKind.u64.wrap q := by rw [wrap64]; omega
  have a0 : 0 ≤ (IntKind.u64.wrap p).tmod 8 := Int.tmod_nonneg 8 hp
  have a1 : (IntKind.u64.wrap p).tmod 8 < 8 := Int.tmod_lt_of_pos _ (by decide)
  have b0 : 0 ≤ (IntKind.u64.wrap q).tmod 6 := Int.tmod_nonneg 6 hq
  have b1 : (IntKind.u64.wrap q).tmod 6 < 6 := Int.tmod_lt_of_pos _ (by decide)
  generalize hr : (IntKind.u64.wrap p).tmod 8 = r at *
  generalize hs : (IntKind.u64.wrap q).tmod 6 = s at *
  have e1 : (IntKind.u64.wrap p).tmod 8 = (IntKind.u64.wrap r).tmod 8 := by
    rw [hr, wrap64, Int.emod_eq_of_lt a0 (by omega), Int.tmod_eq_of_lt a0 a1]
  have e2 : (IntKind.u64.wrap q).tmod 6 = (IntKind.u64.wrap s).tmod 6 := by
    rw [hs, wrap64, Int.emod_eq_of_lt b0 (by omega), Int.tmod_eq_of_lt b0 b1]
  have h := np_same p q r s e1 e2 199 99994 m0
  exact h.trans (all48 r s a0 a1 b0 b1)

theorem leaves_kept {w w' : World} (h : Leaves w w') : w.keptBut w' (fun _ => False) := by
  refine ⟨h.os, h.output, fun i hi => ?_⟩
  have e : w'.heap[i]? = w.heap[i]? := by
    by_cases h0 : i = 0
    · subst h0; exact h.zero
    · exact h.keep i hi h0
  rw [e]
  cases w.heap[i]? with
  | none => rfl
  | some o => cases o <;> first | exact ⟨rfl, rfl, rfl, fun _ _ => rfl⟩ | exact .inr ⟨rfl, rfl⟩ | rfl

/-- THE WALK: whatever the two numbers are, where the table is laid, the function returns true and leaves all that was as it was -/
theorem walk (a0 a1 : Int) {w : World} (hw : TabAt w) : Calls Tryz.prog 5 #[.int .i64 a0, .int .i64 a1] w fun e w' => e = .returned (.bool true) ∧ w.keptBut w' (fun _ => False) :=
  (says (no_port a0 a1) (by kernel_rfl) (by rfl) hw).mono fun e w' ⟨h1, h2⟩ => ⟨h1, leaves_kept h2⟩
end Go.Proofs.YtibcljekjjjnoaaGreatDoor

namespace Go.Proofs.YtibcljekjjjnoaaGreatDoor
open Go Go.Ab Go.ChangeShapes Go.WideShapes Go.ChangeAt Go.WideMaps Go.WideElems Go.RowKit
theorem own : ownKnob Tryz.prog.godebug = none := by kernel_rfl
abbrev laid1 : List (String × DataW Unit) := [("math/bits.deBruijn64tab", Rows.laid_math_bits_deBruijn64tab)]
theorem gTab : Tryz.prog.globalNamed "math/bits.deBruijn64tab" = some 0 := by kernel_rfl
theorem tTab : (Tryz.prog.globals[0]?).map (·.type) = some 380 := by kernel_rfl
theorem uTab : Tryz.prog.underlying 380 = some (.array 64 5) := by kernel_rfl
theorem u5 : Tryz.prog.underlying 5 = some (.int .u8) := by kernel_rfl
theorem c5of : Tryz.prog.cellsOf 5 = 1 := by kernel_rfl
theorem cTab : Tryz.prog.cellsOf 380 = 64 := by kernel_rfl

def laidL : List (DataW Unit) := match (Rows.laid_math_bits_deBruijn64tab : DataW Unit) with | .agg l => l | _ => []
theorem laid_all : (List.range 64).all (fun i => match laidL[i]?, tabV[i]? with | some (.lit (.int .u8 n)), some (.int .u8 k) => n == k | _, _ => false) = true := by kernel_rfl
theorem laid_tab (i : Nat) (hi : i < 64) : match laidL[i]? with | some (.lit (.int .u8 n)) => tabV[i]? = some (.int .u8 n) | _ => True := by
  have h := List.all_eq_true.1 laid_all i (List.mem_range.2 hi)
  split
  · rename_i n hn
    rw [hn] at h
    cases hk : tabV[i]? with
    | none => rw [hk] at h; cases h
    | some v =>
      rw [hk] at h
      cases v <;> try cases h
      rename_i kk k
      cases kk <;> try cases h
      have : n = k := by simpa using h
      rw [this]
  · trivial
/-- what the row lists gives the table -/
theorem tab_of_laid {W : World} (h : laidMetH Tryz.prog laid1 W) : TabAt W := by
  rw [MakeChecks.laidMetH_plain _ _ _ (by kernel_rfl)] at h
  obtain ⟨ps, ⟨g0, t0, cs0, f0, p0, q0, hg0, ht0, hv0, hd0, _, hps⟩, _, hfz⟩ := h
  obtain rfl := Option.some.inj (gTab.symm.trans hg0)
  obtain rfl := Option.some.inj (tTab.symm.trans ht0)
  obtain ⟨xs, m1, rfl, hx1, hlen, hn, hel⟩ := DataW.trod_array uTab hd0
  rw [cTab] at hlen
  have hsz : cs0.size = 64 := by simpa using hlen
  have hvar : ∃ e fz, W.heap[0]? = some (.cells cs0 e fz) := by
    simp only [World.var?, gTab, Option.bind_some] at hv0
    split at hv0
    · rename_i cs e fz he
      cases hv0
      exact ⟨e, fz, he⟩
    · cases hv0
  obtain ⟨e, fz, he⟩ := hvar
  have hfz0 : fz = (0, 0) := by
    obtain ⟨⟨c, t, hc⟩, _⟩ := hfz 0 0 (by
      rw [hps]
      refine List.mem_append_left _ (List.mem_append_left _ ?_)
      unfold MemPlace.row
      simp [hsz])
    rw [he] at hc
    cases hc
    rfl
  have hcells : cs0 = tabV.toArray := by
    apply Array.ext'
    apply List.ext_getElem?
    intro i
    by_cases hi : i < 64
    · have hi' := hel i hi
      rw [c5of, Nat.mul_one] at hi'
      have hxi : i < xs.length := by rw [hn]; exact hi
      rw [List.getElem?_eq_getElem hxi] at hi'
      obtain ⟨n, h1, h2, _⟩ := DataW.trod_int u5 hi'
      have hd : (xs.map (·.1))[i]? = some (.lit (.int .u8 n)) := by
        rw [List.getElem?_map, List.getElem?_eq_getElem hxi, h2]
        rfl
      have hx2 : DataW.agg (xs.map (·.1)) = Rows.laid_math_bits_deBruijn64tab := (Prod.mk.inj hx1).1.symm
      have hx3 : xs.map (·.1) = laidL := DataW.agg.inj (hx2.trans rfl)
      rw [hx3] at hd
      have hc : (cs0.toList.drop i).take 1 = [.int .u8 n] := h1
      have hget : cs0.toList[i]? = some (.int .u8 n) := by
        have := congrArg (fun l => l[0]?) hc
        simpa using this
      rw [hget]
      have hall := laid_tab i hi
      rw [hd] at hall
      exact hall.symm
    · rw [List.getElem?_eq_none (by simp [hsz]; omega), List.getElem?_eq_none (by simp [tabV_len]; omega)]
  subst hcells
  exact ⟨e, fz, he, by rw [hfz0]; exact .inl rfl⟩

end Go.Proofs.YtibcljekjjjnoaaGreatDoor
