import Derived.Test.YtibcljekjjjnoaaGreatDoorAa
import Derived.Laws.BytesString
import Derived.Laws.AppendOwn
import Derived.IntWalk
import Derived.MapKept
/- A part of the proof of FanlightNoPort: Ab. -/
set_option linter.all false
noncomputable section
namespace Go.Ab
variable {P : Program} {ti : Tr TI}
section
variable {ρ : Rn} {m m' : Mem} {w : World} {t : Tm} {e : Operand → Value} {O : Oper} {v : Value}

theorem src_spec (hr : Rel ti ρ m w) {sz : Nat} {x x' : Value} {new : List Value} {k : Nat} (h : srcD sz m x = some (new, k)) (hx : VR ρ x x') :
    ∃ new', VRs ρ new new' ∧ (∀ v ∈ new, one v = true) ∧ new.length = k * sz ∧
      ((k = 0 ∧ ∃ p c, x' = .slice p 0 c) ∨ ∃ a c, x' = .slice (some a) k c ∧ ∀ (j : Nat) v, new'[j]? = some v → w.cell? (a.add j) = some v) := by
  unfold srcD at h
  split at h
  · cases h
    cases hx
    exact ⟨[], .nil, by simp, by simp, .inl ⟨rfl, _, _, rfl⟩⟩
  · rename_i b off l c
    cases l with
    | zero =>
      cases h
      refine ⟨[], .nil, by simp, by simp, .inl ⟨rfl, ?_⟩⟩
      cases hx <;> exact ⟨_, _, rfl⟩
    | succ l =>
      simp only [Option.bind_eq_bind, Option.bind_eq_some_iff] at h
      obtain ⟨⟨ty, n, cs⟩, hc, h⟩ := h
      simp only at h
      split at h
      case isFalse => cases h
      rename_i hle
      simp only [Option.bind_eq_bind, Option.bind_eq_some_iff, Option.pure_def, Option.some.injEq, Prod.mk.injEq] at h
      obtain ⟨l', hl', rfl, rfl⟩ := h
      cases hx with
      | slice _ _ _ L c' hL h1 h2 h3 =>
        obtain ⟨_, cur, el, fz, hcur, hC⟩ := hr.row hc hL
        obtain ⟨new', hV, ho, hcells⟩ := hC.row hl' hle
        refine ⟨new', hV, ho, (row_spec _ _ _ _ hl').1, .inr ⟨_, _, rfl, fun j v hv => ?_⟩⟩
        rw [add_none, cell_of_row w _ _ cur el fz hcur]
        exact hcells j v hv
  · cases h

/-- A ROW THAT GREW WHERE IT LIES: the block that it was is struck. -/
theorem Rel.inPlace (hr : Rel ti ρ m w) {b b' ty n : Nat} {c : Tr Value} {vs : List Value} (hb : m.cells b = some (ty, n, c)) (hn : m.newRow ty vs = some (b', m')) {L : Loc} (hL : ρ b = some L) {w' : World} (o : Nat)
    (hsz : w'.heap.size = w.heap.size) (hkeep : ∀ k, k ≠ L.blk → w'.heap[k]? = w.heap[k]?) (ht : w'.tape = w.tape) (hos : w'.os = w.os) (hout : w'.output = w.output)
    (hB : BR ti ρ ⟨L.blk, o, L.siz, L.es⟩ w' (.cells ty vs.length (lay vs 0 .e))) (htyp : ∀ c e z, w.heap[L.blk]? = some (.cells c e z) → ∃ c', w'.heap[L.blk]? = some (.cells c' e z)) :
    ∃ ρ', ρ' b' = some ⟨L.blk, o, L.siz, L.es⟩ ∧ Rel ti ρ' { m' with h := m'.h.del b } w' ∧ Ext ρ m w ρ' { m' with h := m'.h.del b } w' := by
  obtain ⟨hlow, hn⟩ := newRow_eq hn
  unfold Mem.new at hn
  split at hn
  case isFalse => cases hn
  rename_i hlow'
  cases hn
  have hbs : (m.h.get b).isSome = true := by simp [Mem.cells_spec hb]
  have hbn := hr.lt_nx hbs
  have hfree : ρ m.nx = none := hr.fresh _ (Nat.le_refl _)
  have hle := upd_le ⟨L.blk, o, L.siz, L.es⟩ hfree
  generalize hLL : (⟨L.blk, o, L.siz, L.es⟩ : Loc) = LL at *
  have hLb : LL.blk = L.blk := by rw [← hLL]
  generalize hBB : Blk.cells ty vs.length (lay vs 0 .e) = BB at *
  have hget : ∀ x, ((m.h.put m.nx BB).del b).get x = if x = b then none else if x = m.nx then some BB else m.h.get x := fun x => by
    by_cases e1 : x = b
    · rw [if_pos e1, e1]
      unfold Tr.del
      rw [Tr.get_set _ _ _ _ _ (by have := hr.low b hbs; exact this), if_pos rfl]
    · rw [if_neg e1, Tr.get_del_ne _ e1]
      by_cases e2 : x = m.nx
      · rw [if_pos e2, e2, Tr.get_put_lt _ _ _ hlow']
      · rw [if_neg e2, Tr.get_put_ne _ _ e2]
  have hother : ∀ x M, x ≠ b → (m.h.get x).isSome = true → ρ x = some M → M.blk ≠ L.blk := fun x M hx hs hM he => hx (hr.inj x b M L hs hbs hM hL he)
  refine ⟨upd ρ m.nx LL, upd_self _ _ _, ⟨fun x hx => ?_, fun x X hx => ?_, fun x y L1 L2 hx hy h1 h2 he => ?_, ?_, fun x hx => ?_⟩,
    ⟨hle, Nat.le_of_eq hsz.symm, ht, hos, hout, fun k hk hn => hkeep k fun e => hn ⟨b, L, hbs, hL, e.symm⟩, fun k hk => ?_, Nat.le_succ _, fun x hx => by simp [upd, Nat.ne_of_lt hx], fun c e z hc => by
      by_cases hkL : 0 = L.blk
      · rw [hkL] at hc ⊢; exact htyp c e z hc
      · exact ⟨c, by rw [hkeep 0 hkL]; exact hc⟩⟩⟩
  · have : x ≠ m.nx := by simp only at hx; omega
    simp only [upd, this, if_false]
    exact hr.fresh x (by simp only at hx; omega)
  · simp only at hx
    rw [hget] at hx
    split at hx
    · cases hx
    · rename_i e1
      split at hx
      · rename_i e2; cases hx; subst e2; exact ⟨LL, upd_self _ _ _, hB.mono hle⟩
      · obtain ⟨M, h1, h2⟩ := hr.there x X hx
        exact ⟨M, hle _ _ h1, (h2.mono hle).same (hkeep _ (hother x M e1 (by simp [hx]) h1))⟩
  · simp only at hx hy
    rw [hget] at hx hy
    by_cases ex : x = b
    · simp [ex] at hx
    by_cases ey : y = b
    · simp [ey] at hy
    simp only [ex, ey, if_false] at hx hy
    by_cases ex2 : x = m.nx <;> by_cases ey2 : y = m.nx
    · rw [ex2, ey2]
    · simp only [ey2, if_false] at hy
      rw [ex2, upd_self] at h1; cases h1
      simp only [upd, ey2, if_false] at h2
      exact absurd (he.symm.trans hLb) (hother y L2 ey hy h2)
    · simp only [ex2, if_false] at hx
      rw [ey2, upd_self] at h2; cases h2
      simp only [upd, ex2, if_false] at h1
      exact absurd (he.trans hLb) (hother x L1 ex hx h1)
    · simp only [ex2, ey2, if_false, upd] at hx hy h1 h2
      exact hr.inj x y L1 L2 hx hy h1 h2 he
  · obtain ⟨M, h1, h2⟩ := hr.glob
    exact ⟨M, hle _ _ h1, h2⟩
  · simp only at hx
    rw [hget] at hx
    by_cases ex : x = b
    · simp [ex] at hx
    by_cases ex2 : x = m.nx
    · rw [ex2]; exact hlow'
    · simp only [ex, ex2, if_false] at hx; exact hr.low x hx
  · obtain ⟨x, M, hx, hM, rfl⟩ := hk
    simp only at hx
    rw [hget] at hx
    by_cases ex : x = b
    · simp [ex] at hx
    by_cases ex2 : x = m.nx
    · rw [ex2, upd_self] at hM; cases hM
      exact .inr ⟨b, L, hbs, hL, hLb.symm⟩
    · simp only [ex, ex2, if_false] at hx
      simp only [upd, ex2, if_false] at hM
      exact .inr ⟨x, M, hx, hM, rfl⟩

theorem run_append_at (w : World) (t ty e : TypeId) (i : TypeInfo) (ht : P.underlying t = some (.slice e)) (hi : P.info? e = some i)
    (g o sLen sCap : Nat) (a : Addr) (k c : Nat) (news : List Value) (hl : news.length = k * i.size) (hnews : ∀ (j : Nat) u, news[j]? = some u → w.cell? (a.add j) = some u) (hroom : sLen + k ≤ sCap)
    {w' : World} (hst : (storeCells ⟨g, o + sLen * i.size, none⟩ news).run P w = .ok () w') :
    (Builtin.append_ #[t, t] ty #[.slice (some ⟨g, o, none⟩) sLen sCap, .slice (some a) k c]).run P w = .ok (.slice (some ⟨g, o, none⟩) (sLen + k) sCap) w' := by
  have hf := run_firstCells_some (P := P) w i.size k a k c news hl hnews
  simp [Builtin.append_, run_underlying ht, sizeOf, typeInfo, hi, Builtin.lenOf, hroom, hf, add_none, hst]
end
end Go.Ab

namespace Go.Ab
variable {P : Program} {ti : Tr TI}
section
variable {ρ : Rn} {m m' : Mem} {w : World} {t : Tm} {e : Operand → Value} {O : Oper} {v : Value}

theorem run_append_zero (w : World) (t ty el : TypeId) (inf : TypeInfo) (ht : P.underlying t = some (.slice el)) (hi : P.info? el = some inf) (p p' : Option Addr) (l c c' : Nat) (h : l ≤ c) :
    (Builtin.append_ #[t, t] ty #[.slice p l c, .slice p' 0 c']).run P w = .ok (.slice p l c) w := by
  cases p <;> cases p' <;> simp [Builtin.append_, run_underlying ht, sizeOf, typeInfo, hi, Builtin.lenOf, h, Builtin.firstCells, loadCells, loadCellsFrom, storeCells]

/-- what a slice value that is appended to comes to -/
theorem dst_spec {b off l c : Nat} {s' : Value} (h : VR ρ (.slice (some ⟨b, off, none⟩) l c) s') : ∃ L o c', ρ b = some L ∧ s' = .slice (some ⟨L.blk, o, none⟩) l c' ∧ l ≤ c' ∧ (c ≠ 1 → o + c' * L.es ≤ L.siz) ∧
    (c = 1 → c' = 0) ∧ (0 < l → o = L.off + off) := by
  cases h with
  | slice _ _ _ L c' hL h1 h2 h3 => exact ⟨L, _, c', hL, rfl, h2, fun _ => h3, (fun e => by cases e), fun _ => rfl⟩
  | slice0 _ _ L o' c' hL h1 => exact ⟨L, o', c', hL, rfl, by omega, fun _ => h1, (fun e => by cases e), fun h => by omega⟩
  | slice1 _ _ L o' hL => exact ⟨L, o', 0, hL, rfl, by omega, fun h => absurd rfl h, fun _ => rfl, fun h => by omega⟩

theorem run_appendD (hT : Types P ti) (hr : Rel ti ρ m w) {ty oty : TypeId} {i ie : TI} (hi : ti.get ty = some i) {el sz : Nat} (hd : i.d = .slice el sz) (hie : ti.get el = some ie) (hsz : 0 < sz) (hies : ie.size = sz)
    {s x s' x' : Value} (hs : VR ρ s s') (hx : VR ρ x x') (h : appendD el sz (24 * sz) s x m = some (v, m')) :
    ∃ ρ' v' w', VR ρ' v v' ∧ Rel ti ρ' m' w' ∧ Ext ρ m w ρ' m' w' ∧ (Builtin.append_ #[ty, ty] oty #[s', x']).run P w = .ok v' w' := by
  obtain ⟨T⟩ := hT ty i hi
  obtain ⟨T'⟩ := hT el ie hie
  obtain ⟨hty, _⟩ := dok_slice T hd
  have hsi : T'.inf.size = sz := by rw [T'.size, hies]
  have hzs : T'.z.cells.size = sz := by rw [← hies, ← T'.zlen, ← T'.zc]; simp
  have hby : T'.inf.bytes ≤ 24 * sz := by rw [← hies]; exact T'.bytes
  unfold appendD at h
  simp only [Option.bind_eq_bind, Option.bind_eq_some_iff] at h
  obtain ⟨⟨new, k⟩, hsrc, h⟩ := h
  obtain ⟨new', hV, ho, hlen, hxs⟩ := src_spec hr hsrc hx
  have hlen' : new'.length = k * sz := by rw [hV.length, hlen]
  simp only at h
  cases k with
  | zero =>
    simp only at h
    split at h
    case h_2 => cases h
    rename_i p l c
    cases h
    have hx0 : ∃ p' c', x' = .slice p' 0 c' := by
      rcases hxs with ⟨_, h1⟩ | ⟨a, c', h1, _⟩
      · exact h1
      · exact ⟨_, _, h1⟩
    obtain ⟨p', c', rfl⟩ := hx0
    refine ⟨ρ, s', w, hs, hr, .refl _ _ _, ?_⟩
    cases hs <;> exact run_append_zero w ty oty el T'.inf hty T'.hinf _ _ _ _ _ (by omega)
  | succ k =>
    obtain ⟨a, cx, rfl, hcells⟩ : ∃ a c, x' = .slice (some a) (k + 1) c ∧ ∀ (j : Nat) v, new'[j]? = some v → w.cell? (a.add j) = some v := by
      rcases hxs with ⟨h0, _⟩ | h1
      · omega
      · exact h1
    simp only at h
    split at h
    · -- to nil
      rename_i l c
      split at h
      case isFalse => cases h
      rename_i hbd
      simp only [Option.bind_eq_bind, Option.bind_eq_some_iff, Option.pure_def, Option.some.injEq, Prod.mk.injEq] at h
      obtain ⟨⟨b, m1⟩, hn, rfl, rfl⟩ := h
      cases hs
      have hk : (k + 1) * T'.inf.bytes ≤ 1073741824 := Nat.le_trans (Nat.mul_le_mul_left _ hby) hbd
      have hk1 : k + 1 ≤ 1073741824 := Nat.le_trans (Nat.le_mul_of_pos_right _ (by omega)) hbd
      have hrun := run_append_nil (P := P) w ty oty el T'.inf T'.z hty T'.hinf T'.hz a (k + 1) cx new' (by rw [hlen', hsi]) hcells (by omega) (by omega) (by omega)
      have hge := grownCap_ge w (k + 1) 0 el
      generalize grownCap w (k + 1) 0 el = cap at *
      obtain ⟨ρ', h1, h2, h3⟩ := hr.newRow hn hV ho el (Builtin.zeroCells T'.z.cells (cap - (k + 1))).toList (w.drawn + 1)
      have hes : esOf ti el = sz := by simp [esOf, hie, hies]
      have hvr := VR.slice (ρ := ρ') b 0 (k + 1) _ cap h1 (by omega) hge (by
          simp only [hlen, Array.length_toList, size_zeroCells, hzs, hes, Nat.zero_add, ← Nat.add_mul]
          exact Nat.mul_le_mul_right _ (by omega))
      have hrun' : (Builtin.append_ #[ty, ty] oty #[.slice none 0 0, .slice (some a) (k + 1) cx]).run P w = .ok (.slice (some ⟨w.heap.size, 0 + 0, none⟩) (k + 1) cap)
            { w with heap := w.heap.push (.cells (new' ++ (Builtin.zeroCells T'.z.cells (cap - (k + 1))).toList).toArray el), drawn := w.drawn + 1 } := by
        have harr : ∀ z : Array Value, (new' ++ z.toList).toArray = new'.toArray ++ z := fun z => by simp
        rw [hrun, harr]
        rfl
      exact ⟨ρ', _, _, hvr, h2, h3, hrun'⟩
    · -- to a slice
      rename_i b off l c
      obtain ⟨L, o, c', hL, rfl, hlc, hroom, hc1, hoff⟩ := dst_spec hs
      simp only [Option.bind_eq_bind, Option.bind_eq_some_iff] at h
      obtain ⟨⟨ty', n, cs⟩, hb, h⟩ := h
      simp only at h
      split at h
      case isFalse => cases h
      rename_i hcond
      obtain ⟨hte, hfit, hbd⟩ := hcond
      replace hte := hte.symm
      subst hte
      simp only [Option.bind_eq_bind, Option.bind_eq_some_iff, Option.pure_def, Option.some.injEq, Prod.mk.injEq] at h
      obtain ⟨old, hold, ⟨b', m1⟩, hn, rfl, rfl⟩ := h
      obtain ⟨hes, cur, ce, fz, hcur, hC⟩ := hr.row hb hL
      have hes' : L.es = sz := by rw [hes]; simp [esOf, hie, hies]
      obtain ⟨old', hVo, hoo, hocells⟩ := hC.row hold hfit
      have holen : old.length = l * sz := (row_spec _ _ _ _ hold).1
      have holen' : old'.length = l * sz := by rw [hVo.length, holen]
      have hVall := hVo.append hV
      have hoall : ∀ v ∈ old ++ new, one v = true := fun v hv => by
        rcases List.mem_append.1 hv with h1 | h1
        · exact hoo v h1
        · exact ho v h1
      have halen : (old ++ new).length = (l + (k + 1)) * sz := by rw [List.length_append, holen, hlen, ← Nat.add_mul]
      have hocell : ∀ (j : Nat) v, old'[j]? = some v → cur[o + j]? = some v := fun j v hv => by
        have hj : j < old'.length := (List.getElem?_eq_some_iff.1 hv).1
        have hl : 0 < l := by
          rcases Nat.eq_zero_or_pos l with h0 | h0
          · rw [holen', h0, Nat.zero_mul] at hj; omega
          · exact h0
        rw [hoff hl]
        exact hocells j v hv
      by_cases hin : l + (k + 1) ≤ c'
      · -- where it lies
        have hcn : c ≠ 1 := fun e => by have := hc1 e; omega
        simp only [hcn, if_false]
        have hr1 := hroom hcn
        rw [hes'] at hr1
        have hmul : (l + (k + 1)) * sz ≤ c' * sz := Nat.mul_le_mul_right _ hin
        have hlsum : (l + (k + 1)) * sz = l * sz + (k + 1) * sz := Nat.add_mul _ _ _
        have hfit2 : o + l * sz + new'.length ≤ cur.size := by rw [hC.size, hlen']; omega
        obtain ⟨cur', g2, g3, g4, g5, g6, g7, g8, g9, _⟩ := setCells_heap new' L.blk (o + l * sz) w cur ce fz hcur hfit2
        have hone : ∀ v ∈ new', v.oneCell' = true := by
          intro v hv
          obtain ⟨j, hj⟩ := List.getElem?_of_mem hv
          have hlt : j < new.length := by rw [← hV.length]; exact (List.getElem?_eq_some_iff.1 hj).1
          obtain ⟨u, hu, hVu⟩ := hV.get (List.getElem?_eq_getElem hlt)
          rw [hj] at hu; cases hu
          exact hVu.one.trans (ho _ (List.getElem_mem hlt))
        have hst : (storeCells ⟨L.blk, o + l * sz, none⟩ new').run P w = .ok () (w.setCells L.blk (o + l * sz) new') := by
          have := run_storeCells_cells (P := P) L.blk (o + l * sz) new' 0 w (fun j hj => by
              rw [cell_of_row w _ _ cur ce fz hcur]
              simp only [Nat.add_zero]
              rw [Array.getElem?_eq_getElem (by omega)]; rfl) (fun j hj => by
              rw [frozen_of_row w _ _ cur ce fz hcur]
              have := hC.free (o + l * sz + 0 + j) (by omega)
              simpa using this) hone
          simpa using this
        obtain ⟨hlow, _⟩ := newRow_eq hn
        obtain ⟨ρ', h1, h2, h3⟩ := hr.inPlace hb hn hL (w' := w.setCells L.blk (o + l * sz) new') o g6 g5 g7 g8 g9 ⟨hes, cur', ce, fz, g2, hlow, by rw [g3]; exact hC.size, by
            show o + (old ++ new).length ≤ L.siz
            rw [halen]; omega, by rw [g3]; exact hC.ice, fun i u hi' hg => by
            rw [get_lay (old ++ new) 0 .e (by omega) i, if_pos (by omega)] at hg
            simp only [Nat.sub_zero] at hg
            obtain ⟨u', hu', hVu⟩ := hVall.get hg
            refine ⟨hoall u (List.mem_of_getElem? hg), u', ?_, hVu⟩
            show cur'[o + i]? = some u'
            rw [g4]
            by_cases hi2 : i < l * sz
            · rw [if_neg (by omega)]
              rw [List.getElem?_append_left (by rw [holen']; exact hi2)] at hu'
              exact hocell i u' hu'
            · rw [if_pos (by rw [hlen']; rw [halen] at hi'; omega), show o + i - (o + l * sz) = i - l * sz by omega]
              rw [List.getElem?_append_right (by rw [holen']; omega), holen'] at hu'
              exact hu'⟩ (fun c0 e0 z0 h0 => by rw [hcur] at h0; cases h0; exact ⟨_, g2⟩)
        have hrun := run_append_at (P := P) w ty oty el T'.inf hty T'.hinf L.blk o l c' a (k + 1) cx new' (by rw [hlen', hsi]) hcells hin (by rw [hsi]; exact hst)
        refine ⟨ρ', _, _, ?_, h2, h3, hrun⟩
        have hvr := VR.slice (ρ := ρ') b' 0 (l + (k + 1)) _ c' h1 (by omega) hin (by simp only [Nat.add_zero, hes']; exact hr1)
        simpa using hvr
      · -- grown
        have hk : (l + (k + 1)) * T'.inf.bytes ≤ 1073741824 := Nat.le_trans (Nat.mul_le_mul_left _ hby) hbd
        have hk1 : l + (k + 1) ≤ 1073741824 := Nat.le_trans (Nat.le_mul_of_pos_right _ (by omega)) hbd
        have hrun := run_append_grow (P := P) w ty oty el T'.inf T'.z hty T'.hinf T'.hz ⟨L.blk, o, none⟩ l c' old' (by rw [holen', hsi]) (fun j v hv => by
            rw [add_none, cell_of_row w _ _ cur ce fz hcur]
            exact hocell j v hv) a (k + 1) cx new' (by rw [hlen', hsi]) hcells (by omega) (by omega) (growslice_fits (by omega) (by omega))
        have hge := grownCap_ge w (l + (k + 1)) c' el
        generalize grownCap w (l + (k + 1)) c' el = cap at *
        obtain ⟨ρ', h1, h2, h3⟩ := hr.newRow hn hVall hoall el (Builtin.zeroCells T'.z.cells (cap - (l + (k + 1)))).toList (w.drawn + 1)
        have hes2 : esOf ti el = sz := by simp [esOf, hie, hies]
        have hvr := VR.slice (ρ := ρ') b' 0 (l + (k + 1)) _ cap h1 (by omega) hge (by
          simp only [halen, Array.length_toList, size_zeroCells, hzs, hes2, Nat.zero_add, ← Nat.add_mul]
          exact Nat.mul_le_mul_right _ (by omega))
        have hrun' : (Builtin.append_ #[ty, ty] oty #[.slice (some ⟨L.blk, o, none⟩) l c', .slice (some a) (k + 1) cx]).run P w = .ok (.slice (some ⟨w.heap.size, 0 + 0, none⟩) (l + (k + 1)) cap)
            { w with heap := w.heap.push (.cells (old' ++ new' ++ (Builtin.zeroCells T'.z.cells (cap - (l + (k + 1)))).toList).toArray el), drawn := w.drawn + 1 } := by
          have harr : ∀ z : Array Value, (old' ++ new' ++ z.toList).toArray = old'.toArray ++ new'.toArray ++ z := fun z => by simp
          rw [hrun, harr]
          rfl
        by_cases hcc : c = 1
        · simp only [hcc, if_true]
          exact ⟨ρ', _, _, hvr, h2, h3, hrun'⟩
        · simp only [hcc, if_false]
          obtain ⟨h4, h5⟩ := h2.del b
          exact ⟨ρ', _, _, hvr, h4, h3.trans h5, hrun'⟩
    · cases h
end
end Go.Ab

namespace Go.Ab
variable {P : Program} {ti : Tr TI}
section
variable {ρ : Rn} {m m' : Mem} {w : World} {t : Tm} {e : Operand → Value} {O : Oper} {v : Value}

theorem op_conv_int (hT : Types P ti) (he : OR ρ t e) (hr : Rel ti ρ m w) {src dst : TypeId} {x : Operand} (hO : O.op = .convert src dst x) (hx : okOpd x = true) {i j : TI} (hi : ti.get dst = some i) (hj : ti.get src = some j)
    {k : IntKind} (hd : i.d = .int k) {k' : IntKind} {n : Int} (ha : ev t x = .int k' n) : Runs P ti ρ m w (execOp e O) (.int k (k.wrap n)) m := by
  obtain ⟨T⟩ := hT dst i hi
  obtain ⟨T'⟩ := hT src j hj
  have hu := he x hx
  rw [ha] at hu
  generalize hxx : e x = u at *
  cases hu
  refine Runs.pure hr (.int _ _) ?_
  simp [execOp, hO, hxx, convert, run_underlying (dok_int T hd), run_underlying T'.hd, Conv.intToInt]

theorem bytesOf_spec : ∀ {l : List Value} {bs : List UInt8}, bytesOf l = some bs → ∃ ns : List Int, l = ns.map (Value.int .u8) ∧ bs = ns.map fun n => UInt8.ofNat n.toNat
  | [], bs, h => by simp [bytesOf] at h; exact ⟨[], rfl, by simp [h]⟩
  | a :: l, bs, h => by
    unfold bytesOf at h
    split at h
    · rename_i e; cases e
    · rename_i n r e
      cases e
      simp only [Option.bind_eq_bind, Option.bind_eq_some_iff, Option.pure_def, Option.some.injEq] at h
      obtain ⟨q, hq, rfl⟩ := h
      obtain ⟨ns, h1, h2⟩ := bytesOf_spec hq
      exact ⟨n :: ns, by simp [h1], by simp [h2]⟩
    · cases h

theorem VRs_ints : ∀ {ns : List Int} {r : List Value}, VRs ρ (ns.map (Value.int .u8)) r → r = ns.map (Value.int .u8)
  | [], _, .nil => rfl
  | n :: ns, _, .cons _ _ _ _ h hs => by
    cases h
    simp [VRs_ints hs]

theorem foldl_push : ∀ (ns : List Int) (b : ByteArray), ns.foldl (fun r n => r.push (UInt8.ofNat n.toNat)) b = ⟨⟨b.data.toList ++ ns.map fun n => UInt8.ofNat n.toNat⟩⟩
  | [], b => by cases b; simp
  | n :: ns, b => by
    rw [List.foldl_cons, foldl_push ns]
    simp [ByteArray.push]

theorem op_conv_str (hT : Types P ti) (he : OR ρ t e) (hr : Rel ti ρ m w) {src dst : TypeId} {x : Operand} (hO : O.op = .convert src dst x) (hx : okOpd x = true) {i j k : TI} (hi : ti.get dst = some i) (hj : ti.get src = some j)
    (hd : i.d = .string) {el sz : Nat} (hs : j.d = .slice el sz) (hk : ti.get el = some k) (hkd : k.d = .int .u8) {p : Option Addr} {l c : Nat} (ha : ev t x = .slice p l c)
    {s : ByteArray} (h : (s = .empty ∧ (p = none ∨ l = 0)) ∨ ∃ b off n ty cs r bs, p = some ⟨b, off, none⟩ ∧ 0 < l ∧ m.cells b = some (ty, n, cs) ∧ off + l ≤ n ∧ row cs l off = some r ∧ bytesOf r = some bs ∧ s = ⟨⟨bs⟩⟩) :
    Runs P ti ρ m w (execOp e O) (.string s) m := by
  obtain ⟨T⟩ := hT dst i hi
  obtain ⟨T'⟩ := hT src j hj
  obtain ⟨T''⟩ := hT el k hk
  have hu := he x hx
  rw [ha] at hu
  generalize hxx : e x = u at *
  have h1 := dok_string T hd
  have h2 := (dok_slice T' hs).1
  have h3 := dok_int T'' hkd
  have hgo : ∀ a l c, u = .slice a l c → (Conv.bytesToString (.slice a l c)).run P w = .ok (.string s) w → Runs P ti ρ m w (execOp e O) (.string s) m := fun a l c hue hrun => by
    refine Runs.pure hr (.string _) ?_
    simp only [execOp, hO, hxx, hue, Sem.run_bind, run_convert_bytes_string (P := P) w src dst el a l c h2 h3 h1, hrun, Result.andThen_ok, Sem.run_pure]
  rcases h with ⟨rfl, hp⟩ | ⟨b, off, n, ty, cs, r, bs, rfl, hl, hb, hle, hrow, hbs, rfl⟩
  · cases hu with
    | nils => exact hgo _ _ _ rfl (by simp [Conv.bytesToString])
    | slice _ _ _ L c' hL q1 q2 q3 =>
      exfalso
      rcases hp with hp | hp
      · cases hp
      · omega
    | slice0 _ _ L o' c' hL hs => exact hgo _ _ _ rfl (by simp [Conv.bytesToString, loadCells, loadCellsFrom])
    | slice1 _ _ L o' hL => exact hgo _ _ _ rfl (by simp [Conv.bytesToString, loadCells, loadCellsFrom])
  · cases hu with
    | slice _ _ _ L c' hL q1 q2 q3 =>
      obtain ⟨_, cur, ce, fz, hcur, hC⟩ := hr.row hb hL
      obtain ⟨r', hV, ho, hcells⟩ := hC.row hrow hle
      obtain ⟨ns, rfl, rfl⟩ := bytesOf_spec hbs
      have hr' : r' = ns.map (Value.int .u8) := VRs_ints hV
      subst hr'
      have hlen : (ns.map (Value.int .u8)).length = l := (row_spec _ _ _ _ hrow).1
      have hlc : (loadCells ⟨L.blk, L.off + off, none⟩ l).run P w = .ok (ns.map (Value.int .u8)).toArray w := by
        have := run_loadCells_list (P := P) w ⟨L.blk, L.off + off, none⟩ (ns.map (Value.int .u8)) fun j u hu => by
          rw [add_none, cell_of_row w _ _ cur ce fz hcur]
          exact hcells j u hu
        rwa [hlen] at this
      refine hgo _ _ _ rfl ?_
      rw [run_bytesToString (P := P) w _ l c' ns hlc, foldl_push]
      rfl
    | slice0 => omega
    | slice1 => omega

theorem sliceBound_ok (w : World) (k : IntKind) (n y : Nat) (h : n ≤ y) (code : BoundsCode) : (Instr.sliceBound (.int k (n : Int)) y code).run P w = .ok n w := by
  simp [Instr.sliceBound, asIntOf, h]

theorem op_slice (hT : Types P ti) (he : OR ρ t e) (hr : Rel ti ρ m w) {ty : TypeId} {x : Operand} {lo hi : Option Operand} (hO : O.op = .slice ty x lo hi none) (hx : okOpd x = true)
    (hlo : ∀ o, lo = some o → okOpd o = true) (hhi : ∀ o, hi = some o → okOpd o = true) {i : TI} (hi' : ti.get ty = some i)
    {el sz : Nat} (hd : i.d = .slice el sz) {b off len : Nat} (ha : ev t x = .slice (some ⟨b, off, none⟩) len 0) {l h : Nat} (hl : bndD t 0 lo = some l)
    (hh : bndD t len hi = some h) {n : Nat} {cs : Tr Value} {ie : TI} (hie : ti.get el = some ie) (hies : ie.size = sz) (hb : m.cells b = some (el, n, cs)) (hle : l ≤ h ∧ h ≤ len) :
    Runs P ti ρ m w (execOp e O) (.slice (some ⟨b, off + l * sz, none⟩) (h - l) 0) m := by
  obtain ⟨T⟩ := hT ty i hi'
  have hu := he x hx
  rw [ha] at hu
  generalize hxx : e x = u at *
  obtain ⟨hty, hs⟩ := dok_slice T hd
  obtain ⟨_, _, _, hsz⟩ := szOf_spec hs
  obtain ⟨L, o, c', hL, rfl, hlc, hroom, _, hoff⟩ := dst_spec hu
  have hroom := hroom (by omega)
  obtain ⟨hes, _⟩ := hr.row hb hL
  have hes' : L.es = sz := by rw [hes]; simp [esOf, hie, hies]
  rw [hes'] at hroom
  -- the bounds
  have hH : ∀ (q : Option Operand) (d r : Nat) (y : Nat) (code : BoundsCode), (∀ o, q = some o → okOpd o = true) → bndD t d q = some r → r ≤ y →
      (q = none ∧ r = d) ∨ ∃ k, q.map e = some (.int k (r : Int)) := fun q d r y code hq hm hy => by
    cases q with
    | none => simp [bndD] at hm; exact .inl ⟨rfl, hm.symm⟩
    | some o =>
      obtain ⟨k, hk⟩ := natOf_spec hm (he o (hq o rfl))
      exact .inr ⟨k, by simp [hk]⟩
  have hbounds : (Instr.sliceBounds true len c' (lo.map e) (hi.map e) none).run P w = .ok (l, h, c') w := by
    unfold Instr.sliceBounds
    rcases hH hi len h c' .sliceAcap hhi hh (by omega) with ⟨h1, h2⟩ | ⟨k, hk⟩ <;> rcases hH lo 0 l h .sliceB hlo hl hle.1 with ⟨g1, g2⟩ | ⟨k2, hk2⟩
    · simp [h1, g1, h2, g2]
    · simp [h1, hk2, h2, sliceBound_ok w k2 l len (by omega)]
    · simp [hk, g1, g2, sliceBound_ok w k h c' (by omega)]
    · simp [hk, hk2, sliceBound_ok w k h c' (by omega), sliceBound_ok w k2 l h hle.1]
  have hrun : (Instr.slice ty (.slice (some ⟨L.blk, o, none⟩) len c') (lo.map e) (hi.map e) none).run P w =
      .ok (.slice (if c' = l then some ⟨L.blk, o, none⟩ else some ⟨L.blk, o + l * sz, none⟩) (h - l) (c' - l)) w := by
    simp [Instr.slice, run_underlying hty, hbounds, hsz, add_none]
  have hex : (execOp e O).run P w = .ok (.value (.slice (if c' = l then some ⟨L.blk, o, none⟩ else some ⟨L.blk, o + l * sz, none⟩) (h - l) (c' - l))) w := by
    simp only [execOp, hO, hxx, Instr.sliceAt, Sem.run_bind, run_underlying hty w, Result.andThen_ok, Option.map_none, hrun, Sem.run_pure]
  have hc : (c' - l) * sz + l * sz = c' * sz := by rw [← Nat.add_mul]; congr 1; omega
  by_cases h0 : h - l = 0
  · refine Runs.pure hr ?_ hex
    rw [h0]
    split
    · exact .slice0 b _ L o (c' - l) hL (by rw [hes']; omega)
    · exact .slice0 b _ L (o + l * sz) (c' - l) hL (by rw [hes']; omega)
  · have hlen : 0 < len := by omega
    have hne : c' ≠ l := by omega
    rw [if_neg hne, hoff hlen] at hex
    refine Runs.pure hr ?_ hex
    rw [Nat.add_assoc]
    refine .slice b (off + l * sz) (h - l) L (c' - l) hL (by omega) (by omega) ?_
    rw [hes']
    have := hoff hlen
    omega

theorem op_slice_nil (hT : Types P ti) (he : OR ρ t e) (hr : Rel ti ρ m w) {ty : TypeId} {x : Operand} {lo hi mx : Option Operand} (hO : O.op = .slice ty x lo hi mx) (hx : okOpd x = true)
    (hlo : ∀ o, lo = some o → okOpd o = true) (hhi : ∀ o, hi = some o → okOpd o = true) (hmx : ∀ o, mx = some o → okOpd o = true) (hmh : mx.isSome = true → hi.isSome = true) {i : TI} (hi' : ti.get ty = some i)
    {el sz : Nat} (hd : i.d = .slice el sz) {len c : Nat} (ha : ev t x = .slice none len c) (hl : bndD t 0 lo = some 0) (hh : bndD t 0 hi = some 0) (hm : bndD t 0 mx = some 0) :
    Runs P ti ρ m w (execOp e O) (.slice none 0 0) m := by
  obtain ⟨T⟩ := hT ty i hi'
  have hu := he x hx
  rw [ha] at hu
  generalize hxx : e x = u at *
  obtain ⟨hty, hs⟩ := dok_slice T hd
  obtain ⟨_, _, _, hsz⟩ := szOf_spec hs
  cases hu
  have hH : ∀ (q : Option Operand), (∀ o, q = some o → okOpd o = true) → bndD t 0 q = some 0 → q = none ∨ ∃ o k, q = some o ∧ e o = .int k ((0 : Nat) : Int) := fun q hq hm => by
    cases q with
    | none => exact .inl rfl
    | some o =>
      obtain ⟨k, hk⟩ := natOf_spec hm (he o (hq o rfl))
      exact .inr ⟨o, k, rfl, hk⟩
  have hb : ∀ (k : IntKind) (code : BoundsCode), (Instr.sliceBound (.int k ((0 : Nat) : Int)) 0 code).run P w = .ok 0 w := fun k code => sliceBound_ok w k 0 0 (by omega) code
  have hbounds : (Instr.sliceBounds true 0 0 (lo.map e) (hi.map e) (mx.map e)).run P w = .ok (0, 0, 0) w := by
    unfold Instr.sliceBounds
    rcases hH mx hmx hm with rfl | ⟨om, km, rfl, hkm⟩ <;> rcases hH hi hhi hh with rfl | ⟨oh, kh, rfl, hkh⟩ <;> rcases hH lo hlo hl with rfl | ⟨ol, kl, rfl, hkl⟩ <;>
      first
        | (simp at hmh; done)
        | simp only [*, Option.map_none, Option.map_some, Option.isSome_none, Option.isSome_some, Bool.false_eq_true, if_false, if_true, Sem.run_bind, hb, Result.andThen_ok, Sem.run_pure]
  refine Runs.pure hr .nils ?_
  simp only [execOp, hO, hxx, Instr.sliceAt, Sem.run_bind, run_underlying hty w, Result.andThen_ok, Instr.slice, hbounds, hsz, Sem.run_pure, if_true, Nat.sub_self]

theorem op_slice_full (hT : Types P ti) (he : OR ρ t e) (hr : Rel ti ρ m w) {ty : TypeId} {x : Operand} {lo : Option Operand} {oh mx : Operand} (hO : O.op = .slice ty x lo (some oh) (some mx)) (hx : okOpd x = true)
    (hlo : ∀ o, lo = some o → okOpd o = true) (hhi : okOpd oh = true) (hmx : okOpd mx = true) {i : TI} (hi' : ti.get ty = some i)
    {el sz : Nat} (hd : i.d = .slice el sz) {b off len c : Nat} (ha : ev t x = .slice (some ⟨b, off, none⟩) len c) (hl : bndD t 0 lo = some 0)
    (hh : natOf (ev t oh) = some 0) (hm : natOf (ev t mx) = some 0) :
    Runs P ti ρ m w (execOp e O) (.slice (some ⟨b, off, none⟩) 0 1) m := by
  obtain ⟨T⟩ := hT ty i hi'
  have hu := he x hx
  rw [ha] at hu
  generalize hxx : e x = u at *
  obtain ⟨hty, hs⟩ := dok_slice T hd
  obtain ⟨_, _, _, hsz⟩ := szOf_spec hs
  obtain ⟨L, o, c', hL, rfl, hlc, hroom, _, hoff⟩ := dst_spec hu
  obtain ⟨k3, hk3⟩ := natOf_spec hm (he mx hmx)
  obtain ⟨k2, hk2⟩ := natOf_spec hh (he oh hhi)
  have h3 := sliceBound_ok (P := P) w k3 0 c' (by omega) .slice3Acap
  have h2 := sliceBound_ok (P := P) w k2 0 0 (by omega) .slice3B
  have hbounds : (Instr.sliceBounds true len c' (lo.map e) (some (e oh)) (some (e mx))).run P w = .ok (0, 0, 0) w := by
    unfold Instr.sliceBounds
    rw [hk3, hk2]
    cases lo with
    | none =>
      simp only [Option.map_none, Option.isSome_some, if_true, Sem.run_bind, h3, h2, Result.andThen_ok, Sem.run_pure]
    | some ol =>
      obtain ⟨k1, hk1⟩ := natOf_spec hl (he ol (hlo ol rfl))
      have h1 := sliceBound_ok (P := P) w k1 0 0 (by omega) .slice3C
      simp only [Option.map_some, hk1, Option.isSome_some, if_true, Sem.run_bind, h3, h2, h1, Result.andThen_ok, Sem.run_pure]
  refine Runs.pure hr (.slice1 b off L o hL) ?_
  simp only [execOp, hO, hxx, Instr.sliceAt, Sem.run_bind, run_underlying hty w, Result.andThen_ok, Option.map_some, Instr.slice, hbounds, hsz, Sem.run_pure, if_true, Nat.sub_self]
end
end Go.Ab

namespace Go.Ab
variable {P : Program} {ti : Tr TI}
section
variable {ρ : Rn} {m m' : Mem} {w : World} {t : Tm} {e : Operand → Value} {O : Oper} {v : Value}

theorem foldl_set (off : Nat) : ∀ (l : List Value) (k : Nat) (cs : Array Value), off + k + l.length ≤ cs.size →
    ((l.zipIdx k).foldl (fun cs (p : Value × Nat) => cs.setIfInBounds (off + p.2) p.1) cs).size = cs.size ∧
    ∀ j : Nat, ((l.zipIdx k).foldl (fun cs (p : Value × Nat) => cs.setIfInBounds (off + p.2) p.1) cs)[j]? = if off + k ≤ j ∧ j < off + k + l.length then l[j - (off + k)]? else cs[j]?
  | [], k, cs, _ => ⟨rfl, fun j => by rw [if_neg (by simp)]; rfl⟩
  | v :: l, k, cs, h => by
    simp only [List.length_cons] at h
    obtain ⟨h1, h2⟩ := foldl_set off l (k + 1) (cs.setIfInBounds (off + k) v) (by simp; omega)
    simp only [List.zipIdx_cons, List.foldl_cons]
    refine ⟨by rw [h1]; simp, fun j => ?_⟩
    rw [h2 j]
    by_cases hj : off + (k + 1) ≤ j ∧ j < off + (k + 1) + l.length
    · rw [if_pos hj, if_pos (by simp; omega), show j - (off + k) = (j - (off + (k + 1))) + 1 by omega]
      simp
    · rw [if_neg hj]
      by_cases hjo : j = off + k
      · subst hjo
        rw [if_pos (by simp)]
        simp only [Nat.sub_self, List.getElem?_cons_zero]
        rw [Array.getElem?_setIfInBounds_self_of_lt (by omega)]
      · rw [if_neg (by simp; omega), Array.getElem?_setIfInBounds_ne (Ne.symm hjo)]

theorem fill_spec {place : Nat → Option (Nat × Nat)} {place' : Nat → Option (Nat × Nat)} (hp : ∀ i o, place i = some o → place' i = some o) (he : OR ρ t e) :
    ∀ (ps : List (Nat × Operand)) (c r c' : List Value), ps.all (fun p => okOpd p.2) = true → fill place t ps c = some r → VRs ρ c c' → (∀ v ∈ c, one v = true) →
      ∃ r', Instr.fill place' ⟨c'⟩ (ps.map fun p => (p.1, e p.2)) = some ⟨r'⟩ ∧ VRs ρ r r' ∧ (∀ v ∈ r, one v = true) ∧ r.length = c.length
  | [], c, r, c', _, h, hV, ho => by
    simp only [fill, Option.some.injEq] at h
    subst h
    exact ⟨c', rfl, hV, ho, rfl⟩
  | (i, x) :: ps, c, r, c', hok, h, hV, ho => by
    simp only [List.all_cons, Bool.and_eq_true] at hok
    simp only [fill, Option.bind_eq_bind, Option.bind_eq_some_iff] at h
    obtain ⟨⟨off, sz⟩, hpl, vs, hvs, h⟩ := h
    simp only at h
    split at h
    case isFalse => cases h
    rename_i hc
    obtain ⟨hc1, hc2⟩ := hc
    obtain ⟨hVx, hox⟩ := cellsOf_spec hvs (he x hok.1)
    have hxl : (e x).cells.size = sz := by rw [← hc1, ← hVx.length]; simp
    have hcl := hV.length
    obtain ⟨q1, q2⟩ := foldl_set off (e x).cells.toList 0 ⟨c'⟩ (by simp [hxl, hcl]; omega)
    generalize hD : ((e x).cells.toList.zipIdx 0).foldl (fun cs (p : Value × Nat) => cs.setIfInBounds (off + p.2) p.1) (⟨c'⟩ : Array Value) = D at q1 q2
    have hD' : D.toList = c'.take off ++ (e x).cells.toList ++ c'.drop (off + sz) := by
      apply List.ext_getElem?
      intro j
      rw [Array.getElem?_toList, q2 j]
      simp only [Array.length_toList, hxl, Nat.add_zero]
      by_cases h1 : off ≤ j ∧ j < off + sz
      · rw [if_pos h1, List.getElem?_append_left (by simp [hxl, hcl]; omega), List.getElem?_append_right (by simp [hcl]; omega)]
        congr 1
        simp [hcl]; omega
      · rw [if_neg h1]
        by_cases h2 : j < off
        · rw [List.append_assoc, List.getElem?_append_left (by simp [hcl]; omega)]
          simp [h2]
        · rw [List.getElem?_append_right (by simp [hxl, hcl]; omega)]
          simp only [List.getElem?_drop, List.length_append, List.length_take, Array.length_toList, hxl, hcl]
          rw [show off + sz + (j - (min off c.length + sz)) = j by omega]
          simp
    obtain ⟨r', h1, h2, h3, h4⟩ := fill_spec hp he ps (c.take off ++ vs ++ c.drop (off + sz)) r D.toList hok.2 h (by rw [hD']; exact ((hV.take off).append hVx).append (hV.drop (off + sz)))
      (fun v hv => by
        rcases List.mem_append.1 hv with hv | hv
        · rcases List.mem_append.1 hv with hv | hv
          · exact ho v (List.mem_of_mem_take hv)
          · exact hox v hv
        · exact ho v (List.mem_of_mem_drop hv))
    refine ⟨r', ?_, h2, h3, by rw [h4]; simp [hc1]; omega⟩
    have hfold : (e x).cells.zipIdx.foldl (fun cs (p : Value × Nat) => cs.setIfInBounds (off + p.2) p.1) (⟨c'⟩ : Array Value) = D := by
      rw [← hD, ← Array.foldl_toList]
      simp
    simp only [List.map_cons, Instr.fill, hp i _ hpl, hxl]
    rw [if_neg (by simp [hcl]; omega)]
    have : (e x).cells.zipIdx.foldl (fun cs x_1 => match x_1 with | (c, j) => cs.setIfInBounds (off + j) c) (⟨c'⟩ : Array Value) = D := hfold
    rw [this]
    simpa using h1

theorem places_spec : ∀ {fields : List Field} {fs : List (Nat × Nat × Bool)}, all2 (fieldOk P) fields fs = true →
    fields.mapM (fun f => (P.info? f.type).map fun i => (f.offset, i.size)) = some (fs.map fun p => (p.1, p.2.1))
  | [], [], _ => rfl
  | f :: fields, p :: fs, h => by
    simp only [all2, Bool.and_eq_true, fieldOk, beq_iff_eq] at h
    obtain ⟨⟨⟨h1, h2⟩, _⟩, h3⟩ := h
    obtain ⟨inf, h4, h5, _⟩ := szOf_spec h2
    simp [List.mapM_cons, h4, h5, h1, places_spec h3]
  | [], _ :: _, h => by simp [all2] at h
  | _ :: _, [], h => by simp [all2] at h

theorem TIok.cells {ty : TypeId} {i : TI} (T : TIok P ty i) : T.z.cells = ⟨i.zero⟩ := by rw [← T.zc]
theorem TIok.zV {ty : TypeId} {i : TI} (T : TIok P ty i) (ρ : Rn) : VRs ρ i.zero i.zero := VRs.closed ρ (by rw [List.all_eq_true]; exact fun v hv => (T.zero v hv).1)

theorem op_build_struct (hT : Types P ti) (he : OR ρ t e) (hr : Rel ti ρ m w) {ty : TypeId} {ps : Array (Nat × Operand)} (hO : O.op = .build ty ps) (hps : ps.toList.all (fun p => okOpd p.2) = true) {i : TI} (hi : ti.get ty = some i)
    {fs : List (Nat × Nat × Bool)} (hd : i.d = .struct fs) {l : List Value} (h : fill (fun f => (fs[f]?).map fun p => (p.1, p.2.1)) t ps.toList i.zero = some l) : Runs P ti ρ m w (execOp e O) (.agg ⟨l⟩) m := by
  obtain ⟨T⟩ := hT ty i hi
  obtain ⟨fields, hu, hall⟩ := dok_struct T hd
  obtain ⟨r', h1, h2, h3, _⟩ := fill_spec (place' := fun x => ((fs.map fun p => (p.1, p.2.1)).toArray[x]?)) (fun i o ho => by simpa using ho) he ps.toList i.zero l i.zero hps h (T.zV ρ) (fun v hv => (T.zero v hv).2)
  refine Runs.pure hr (.agg _ _ h2 h3) ?_
  have hb : P.built ty (ps.map fun (p : Nat × Operand) => (p.1, e p.2)).toList = some ⟨r'⟩ := by
    simp only [Program.built, T.hinf, hu, T.hz, places_spec hall, T.cells, Array.toList_map]
    exact h1
  have hrun := run_build (P := P) w ty (ps.map fun (p : Nat × Operand) => (p.1, e p.2)) ⟨r'⟩ hb
  have hfun : (ps.map fun (x : Nat × Operand) => match x with | (i, x) => (i, e x)) = ps.map fun (p : Nat × Operand) => (p.1, e p.2) := rfl
  simp only [execOp, hO, hfun, Sem.run_bind, hrun, Result.andThen_ok, Sem.run_pure]

theorem op_build_array (hT : Types P ti) (he : OR ρ t e) (hr : Rel ti ρ m w) {ty : TypeId} {ps : Array (Nat × Operand)} (hO : O.op = .build ty ps) (hps : ps.toList.all (fun p => okOpd p.2) = true) {i : TI} (hi : ti.get ty = some i)
    {n el sz : Nat} (hd : i.d = .array n el sz) {l : List Value} (h : fill (fun f => some (f * sz, sz)) t ps.toList i.zero = some l) : Runs P ti ρ m w (execOp e O) (.agg ⟨l⟩) m := by
  obtain ⟨T⟩ := hT ty i hi
  obtain ⟨hu, hs⟩ := dok_array T hd
  obtain ⟨inf, hinf, hisz, _⟩ := szOf_spec hs
  obtain ⟨r', h1, h2, h3, _⟩ := fill_spec (place' := fun f => some (f * sz, sz)) (fun i o ho => ho) he ps.toList i.zero l i.zero hps h (T.zV ρ) (fun v hv => (T.zero v hv).2)
  refine Runs.pure hr (.agg _ _ h2 h3) ?_
  have hb : P.built ty (ps.map fun (p : Nat × Operand) => (p.1, e p.2)).toList = some ⟨r'⟩ := by
    simp only [Program.built, T.hinf, hu, T.hz, hinf, hisz, T.cells, Array.toList_map]
    exact h1
  have hrun := run_build (P := P) w ty (ps.map fun (p : Nat × Operand) => (p.1, e p.2)) ⟨r'⟩ hb
  have hfun : (ps.map fun (x : Nat × Operand) => match x with | (i, x) => (i, e x)) = ps.map fun (p : Nat × Operand) => (p.1, e p.2) := rfl
  simp only [execOp, hO, hfun, Sem.run_bind, hrun, Result.andThen_ok, Sem.run_pure]

theorem rep_length (z : List Value) : ∀ n, (rep n z).length = n * z.length
  | 0 => by simp [rep]
  | n + 1 => by simp [rep, rep_length z n, Nat.add_mul]; omega
theorem rep_get (z : List Value) : ∀ (n i : Nat), i < n * z.length → (rep n z)[i]? = z[i % z.length]?
  | 0, i, h => by simp at h
  | n + 1, i, h => by
    rw [rep]
    by_cases hi : i < z.length
    · rw [List.getElem?_append_left hi, Nat.mod_eq_of_lt hi]
    · rw [List.getElem?_append_right (by omega), rep_get z n (i - z.length) (by rw [Nat.add_mul] at h; omega)]
      rw [← Nat.mod_eq_sub_mod (by omega)]
theorem rep_mem (z : List Value) : ∀ (n : Nat) (v : Value), v ∈ rep n z → v ∈ z
  | 0, v, h => by simp [rep] at h
  | n + 1, v, h => by
    rw [rep] at h
    rcases List.mem_append.1 h with h | h
    · exact h
    · exact rep_mem z n v h
theorem rep_eq (z : List Value) (n : Nat) : ((Array.range (n * z.length)).map fun i => (⟨z⟩ : Array Value)[i % (⟨z⟩ : Array Value).size]!) = ⟨rep n z⟩ := by
  apply Array.ext'
  apply List.ext_getElem?
  intro j
  by_cases hj : j < n * z.length
  · have hz : 0 < z.length := by
      rcases Nat.eq_zero_or_pos z.length with h | h
      · rw [h] at hj; omega
      · exact h
    have hm : j % z.length < z.length := Nat.mod_lt _ hz
    rw [rep_get z n j hj]
    simp [hj, List.getElem?_eq_getElem hm, getElem!_def]
  · rw [List.getElem?_eq_none (by simp; omega), List.getElem?_eq_none (by rw [rep_length]; omega)]

theorem op_makeSlice (hT : Types P ti) (he : OR ρ t e) (hr : Rel ti ρ m w) {ty : TypeId} {x y : Operand} (hO : O.op = .makeSlice ty x y) (hx : okOpd x = true) (hy : okOpd y = true) {i : TI} (hi : ti.get ty = some i)
    {el sz : Nat} (hd : i.d = .slice el sz) {j : TI} (hj : ti.get el = some j) (hjs : j.size = sz) (hsm : sz ≤ 64) {n : Nat} (hn : natOf (ev t x) = some n) (hn' : natOf (ev t y) = some n) (hnb : n ≤ 1048576) {b : Nat} (hnew : m.newRow el (rep n j.zero) = some (b, m')) :
    Runs P ti ρ m w (execOp e O) (.slice (some ⟨b, 0, none⟩) n 0) m' := by
  obtain ⟨T⟩ := hT ty i hi
  obtain ⟨T'⟩ := hT el j hj
  obtain ⟨hty, hs⟩ := dok_slice T hd
  obtain ⟨inf, hinf, hisz, hsz⟩ := szOf_spec hs
  obtain ⟨k1, hk1⟩ := natOf_spec hn (he x hx)
  obtain ⟨k2, hk2⟩ := natOf_spec hn' (he y hy)
  have hii : T'.inf = inf := Option.some.inj (T'.hinf.symm.trans hinf)
  subst hii
  have hby : T'.inf.bytes * n ≤ 2000000000 := by
    have h1 := T'.bytes
    rw [hjs] at h1
    have h2 : T'.inf.bytes ≤ 1536 := by omega
    exact Nat.le_trans (Nat.mul_le_mul h2 hnb) (by omega)
  have hzl : j.zero.length = sz := by rw [T'.zlen, hjs]
  have hVz : VRs ρ (rep n j.zero) (rep n j.zero) := VRs.closed ρ (by rw [List.all_eq_true]; exact fun v hv => (T'.zero v (rep_mem _ _ v hv)).1)
  obtain ⟨ρ', h1, h2, h3⟩ := hr.newRow hnew hVz (fun v hv => (T'.zero v (rep_mem _ _ v hv)).2) el [] w.drawn
  have hes : esOf ti el = sz := by simp [esOf, hj, hjs]
  refine ⟨ρ', .slice (some ⟨w.heap.size, 0 + 0, none⟩) n n, _, ?_, h2, h3, .inl ?_⟩
  · rcases Nat.eq_zero_or_pos n with h0 | h0
    · subst h0
      exact .slice0 b 0 _ _ 0 h1 (by rw [Nat.zero_mul]; exact Nat.zero_le _)
    · exact .slice b 0 n _ n h1 h0 (Nat.le_refl _) (by
        show 0 + 0 + n * esOf ti el ≤ _
        rw [hes]; simp only [Nat.zero_add, List.append_nil, rep_length, hzl]; exact Nat.le_refl _)
  · have hw : IntKind.i64.wrap (n : Int) = n := IntWalk.i64_in _ (by omega)
    have hzc : ∀ q : Nat, (Array.range (n * sz)).map (fun i => T'.z.cells[i % T'.z.cells.size]!) = ⟨rep n j.zero⟩ := fun _ => by
      have hc : T'.z.cells = ⟨j.zero⟩ := by rw [← T'.zc]
      rw [hc, ← hzl]; exact rep_eq j.zero n
    have hb2 : (T'.inf.bytes : Int) * (n : Int) ≤ 2000000000 := Int.ofNat_le.2 hby |> fun h => by rw [← Int.natCast_mul]; exact h
    have n1 : ¬ (281474976710656 : Int) < (T'.inf.bytes : Int) * (n : Int) := by omega
    have n2 : ¬ (n : Int) < 0 := by omega
    have n4 : ¬ (140737488355328 < n * T'.inf.bytes) := by
      have : n * T'.inf.bytes ≤ 2000000000 := by rw [Nat.mul_comm]; exact hby
      omega
    rcases Nat.eq_zero_or_pos (n * sz) with h0 | h0
    · have hnil : rep n j.zero = [] := List.eq_nil_of_length_eq_zero (by rw [rep_length, hzl]; exact h0)
      simp [execOp, hO, hk1, hk2, Instr.makeSlice, run_underlying hty, asInt, asIntOf, typeInfo, T'.hinf, hinf, hisz, hsz, sizeOf, hw, n1, n2, n4, newRow, askRoom, roomBytes, h0, hnil]
      rw [show (Array.map (fun _ => (default : Value)) (Array.range 0)) = #[] from Array.eq_empty_of_size_eq_zero (by simp)]
    · have h0' : n * sz ≠ 0 := by omega
      simp [execOp, hO, hk1, hk2, Instr.makeSlice, run_underlying hty, asInt, asIntOf, typeInfo, T'.hinf, hinf, hisz, hsz, sizeOf, zeroValue, T'.hz, hw, n1, n2, n4, newRow, askRoom, roomBytes, h0', hzc 0]
end
end Go.Ab

namespace Go.Ab
variable {P : Program} {ti : Tr TI}
section
variable {ρ : Rn} {m m' : Mem} {w : World} {t : Tm} {e : Operand → Value} {O : Oper} {v : Value}

theorem op_buildSlice (hT : Types P ti) (he : OR ρ t e) (hr : Rel ti ρ m w) {ty : TypeId} {n : Nat} {ps : Array (Nat × Operand)} (hO : O.op = .buildSlice ty n ps) (hps : ps.toList.all (fun p => okOpd p.2) = true) {i : TI} (hi : ti.get ty = some i)
    {el sz : Nat} (hd : i.d = .slice el sz) {j : TI} (hj : ti.get el = some j) {l : List Value} (h : fill (fun f => some (f * sz, sz)) t ps.toList (rep n j.zero) = some l)
    (hb : n * sz ≤ 1024 ∧ 0 < sz) {b : Nat} (hnew : m.newRow el l = some (b, m')) : Runs P ti ρ m w (execOp e O) (.slice (some ⟨b, 0, none⟩) n 0) m' := by
  obtain ⟨T⟩ := hT ty i hi
  obtain ⟨T'⟩ := hT el j hj
  obtain ⟨hty, hs⟩ := dok_slice T hd
  obtain ⟨inf, hinf, hisz, hsz⟩ := szOf_spec hs
  have hii : T'.inf = inf := Option.some.inj (T'.hinf.symm.trans hinf)
  subst hii
  have hjs : j.size = sz := T'.size.symm.trans hisz
  have hzl : j.zero.length = sz := by rw [T'.zlen, hjs]
  have hVz : VRs ρ (rep n j.zero) (rep n j.zero) := VRs.closed ρ (by rw [List.all_eq_true]; exact fun v hv => (T'.zero v (rep_mem _ _ v hv)).1)
  obtain ⟨r', f1, f2, f3, f4⟩ := fill_spec (place' := fun f => some (f * sz, sz)) (fun i o ho => ho) he ps.toList (rep n j.zero) l (rep n j.zero) hps h hVz (fun v hv => (T'.zero v (rep_mem _ _ v hv)).2)
  obtain ⟨ρ', h1, h2, h3⟩ := hr.newRow hnew f2 f3 el [] w.drawn
  have hes : esOf ti el = sz := by simp [esOf, hj, hjs]
  have hfl : l.length = n * sz := by rw [f4, rep_length, hzl]
  refine ⟨ρ', .slice (some ⟨w.heap.size, 0 + 0, none⟩) n n, _, ?_, h2, h3, .inl ?_⟩
  · rcases Nat.eq_zero_or_pos n with h0 | h0
    · subst h0
      exact .slice0 b 0 _ _ 0 h1 (by rw [Nat.zero_mul]; exact Nat.zero_le _)
    · exact .slice b 0 n _ n h1 h0 (Nat.le_refl _) (by
        show 0 + 0 + n * esOf ti el ≤ _
        rw [hes, hfl]; simp only [Nat.zero_add]; exact Nat.le_add_right _ _)
  · have hzc : (Array.range (n * sz)).map (fun i => T'.z.cells[i % T'.z.cells.size]!) = ⟨rep n j.zero⟩ := by
      have hc : T'.z.cells = ⟨j.zero⟩ := by rw [← T'.zc]
      rw [hc, ← hzl]; exact rep_eq j.zero n
    have hn2 : ¬ (16777216 < n * sz) := by omega
    have hfun : (ps.map fun (x : Nat × Operand) => match x with | (i, x) => (i, e x)) = ps.map fun (p : Nat × Operand) => (p.1, e p.2) := rfl
    have hlist : (ps.map fun (p : Nat × Operand) => (p.1, e p.2)).toList = ps.toList.map fun p => (p.1, e p.2) := by simp
    rcases Nat.eq_zero_or_pos (n * sz) with h0 | h0
    · have hnil : rep n j.zero = [] := List.eq_nil_of_length_eq_zero (by rw [rep_length, hzl]; exact h0)
      rw [hnil] at f1
      have hr0 : (Array.map (fun _ => (default : Value)) (Array.range 0)) = #[] := Array.eq_empty_of_size_eq_zero (by simp)
      simp only [execOp, hO, hfun]
      simp [Instr.buildSlice, run_underlying hty, hsz, hn2, h0, newRow, f1, hr0]
    · have h0' : n * sz ≠ 0 := by omega
      rw [← hzc] at f1
      simp only [execOp, hO, hfun]
      simp [Instr.buildSlice, run_underlying hty, hsz, hn2, h0', zeroValue, typeInfo, T'.hinf, T'.hz, newRow, f1]

/-! ### maps -/
theorem findNow_ER {d : TypeDesc} (hd : d = .int .i64) (k : Nat) (v' : Value) (born : Nat) : ∀ {es : List (Nat × Value)} {l : List MapEntry}, ER ρ es l → ∀ j,
    (∃ i x v, Instr.findNow d (.int .i64 k) l j = some (some (j + i, x.val)) ∧ l[i]? = some x ∧ x.key = .int .i64 k ∧ findE k es = some v ∧ VR ρ v x.val ∧
      (∀ u, VR ρ u v' → ER ρ (setE k u es) (l.modify i fun e => { e with key := .int .i64 k, val := v' })) ∧ ER ρ (delE k es) (l.eraseIdx i)) ∨
    (Instr.findNow d (.int .i64 k) l j = some none ∧ findE k es = none ∧ (∀ u, VR ρ u v' → ER ρ (setE k u es) (l ++ [{ key := .int .i64 k, val := v', born }])) ∧ delE k es = es)
  | _, _, .nil, j => .inr ⟨rfl, rfl, fun u hu => .cons _ _ _ _ _ _ hu .nil, rfl⟩
  | _, _, .cons a x x' bn es l hx hs, j => by
    subst hd
    by_cases hk : k = a
    · subst hk
      refine .inl ⟨0, { key := .int .i64 k, val := x', born := bn }, x, by simp [Instr.findNow, Instr.sameNow], rfl, rfl, by simp [findE], hx, fun u hu => ?_, ?_⟩
      · simp only [setE, if_true, List.modify_zero_cons]
        exact .cons _ _ _ _ _ _ hu hs
      · simpa [delE] using hs
    · have hne : ((k : Int) == (a : Int)) = false := by
        simp; omega
      rcases findNow_ER rfl k v' born hs (j + 1) with ⟨i, y, u, h1, h2, h3, h4, h5, h6, h7⟩ | ⟨h1, h2, h3, h4⟩
      · refine .inl ⟨i + 1, y, u, ?_, by simpa using h2, h3, by simp [findE, hk, h4], h5, fun u hu => ?_, ?_⟩
        · simp [Instr.findNow, Instr.sameNow, hne, h1]; omega
        · simp only [setE, hk, if_false, List.modify_succ_cons]
          exact .cons _ _ _ _ _ _ hx (h6 u hu)
        · simp only [delE, hk, if_false, List.eraseIdx_cons_succ]
          exact .cons _ _ _ _ _ _ hx h7
      · refine .inr ⟨by simp [Instr.findNow, Instr.sameNow, hne, h1], by simp [findE, hk, h2], fun u hu => ?_, by simp [delE, hk, h4]⟩
        simp only [setE, hk, if_false, List.cons_append]
        exact .cons _ _ _ _ _ _ hx (h3 u hu)

theorem dok_i64 {ty : TypeId} {i : TI} (T : TIok P ty i) (hd : i.d = .int .i64) : P.underlying ty = some (.int .i64) := by
  exact dok_int T hd
theorem isKey_i64 (k : Int) : MapKept.IsKey (.int .i64) (.int .i64 k) := rfl

theorem Rel.map {b ty : Nat} {es : List (Nat × Value)} (hr : Rel ti ρ m w) (hb : m.h.get b = some (.map ty es)) {L : Loc} (hL : ρ b = some L) :
    ∃ l clock, w.heap[L.blk]? = some (.map l clock) ∧ ER ρ es l.toList := by
  obtain ⟨L', h1, h2⟩ := hr.there b _ hb
  rw [hL] at h1; cases h1
  exact h2

theorem op_lookup (hT : Types P ti) (he : OR ρ t e) (hr : Rel ti ρ m w) {ty : TypeId} {x y : Operand} (hO : O.op = .lookup ty x y false) (hx : okOpd x = true) (hy : okOpd y = true) {i ik : TI} (hi : ti.get ty = some i)
    {kt el : Nat} (hd : i.d = .map kt el) (hik : ti.get kt = some ik) (hkd : ik.d = .int .i64) {b : Nat} (hb : ev t x = .map (some b)) {k : Nat} (hk : ev t y = .int .i64 (.ofNat k)) {ty' : Nat} {es : List (Nat × Value)}
    (hm : m.h.get b = some (.map ty' es)) (hv : findE k es = some v) : Runs P ti ρ m w (execOp e O) v m := by
  obtain ⟨T⟩ := hT ty i hi
  obtain ⟨T'⟩ := hT kt ik hik
  have hty := dok_map T hd
  have hkt := dok_i64 T' hkd
  have h1 := he x hx
  have h2 := he y hy
  rw [hb] at h1
  rw [hk] at h2
  generalize hex : e x = ex at *
  generalize hey : e y = ey at *
  cases h2
  cases h1 with
  | map b L hL =>
  obtain ⟨l, clock, hl, hE⟩ := hr.map hm hL
  rcases findNow_ER (d := .int .i64) rfl k undef 0 hE 0 with ⟨i, y, u, f1, f2, f3, f4, f5, f6, f7⟩ | ⟨f1, f2, _⟩
  · rw [hv] at f4; cases f4
    refine Runs.pure hr f5 ?_
    have := MapKept.run_checkKey (P := P) (w := w) hkt (isKey_i64 k) l.isEmpty 9999
    have := MapKept.run_findKey (w := w) hkt f1
    simp_all [execOp, Instr.lookup, run_underlying hty, MapKept.run_getObj_map hl, Result.andThen]
  · rw [hv] at f2; cases f2

theorem Rel.setMap {b ty : Nat} {es es' : List (Nat × Value)} (hr : Rel ti ρ m w) (hb : m.h.get b = some (.map ty es)) {L : Loc} (hL : ρ b = some L) {l l' : Array MapEntry} {clock clock' : Nat}
    (hl : w.heap[L.blk]? = some (.map l clock)) (hE : ER ρ es' l'.toList) :
    Rel ti ρ { m with h := m.h.put b (.map ty es') } { w with heap := w.heap.setIfInBounds L.blk (.map l' clock') } ∧ Ext ρ m w ρ { m with h := m.h.put b (.map ty es') } { w with heap := w.heap.setIfInBounds L.blk (.map l' clock') } := by
  obtain ⟨h1, h2⟩ := MapKept.heap_set (o' := .map l' clock') hl
  exact hr.change hb hL (by simp) (fun k hk => h2 k hk) rfl rfl rfl ⟨l', clock', h1, hE⟩ (fun _ c0 e0 z0 h0 => by rw [hl] at h0; cases h0)

theorem op_mapUpdate (hT : Types P ti) (he : OR ρ t e) (hr : Rel ti ρ m w) {ty : TypeId} {x y z : Operand} (hO : O.op = .mapUpdate ty x y z) (hx : okOpd x = true) (hy : okOpd y = true) (hz : okOpd z = true) {i ik : TI} (hi : ti.get ty = some i)
    {kt el : Nat} (hd : i.d = .map kt el) (hik : ti.get kt = some ik) (hkd : ik.d = .int .i64) {b : Nat} (hb : ev t x = .map (some b)) {k : Nat} (hk : ev t y = .int .i64 (.ofNat k)) {ty' : Nat} {es : List (Nat × Value)}
    (hm : m.h.get b = some (.map ty' es)) : Runs P ti ρ m w (execOp e O) undefV { m with h := m.h.put b (.map ty' (setE k (ev t z) es)) } := by
  obtain ⟨T⟩ := hT ty i hi
  obtain ⟨T'⟩ := hT kt ik hik
  have hty := dok_map T hd
  have hkt := dok_i64 T' hkd
  have h1 := he x hx
  have h2 := he y hy
  rw [hb] at h1
  rw [hk] at h2
  generalize hex : e x = ex at *
  generalize hey : e y = ey at *
  cases h2
  cases h1 with
  | map b L hL =>
  obtain ⟨l, clock, hl, hE⟩ := hr.map hm hL
  have hck := MapKept.run_checkKey (P := P) (w := w) hkt (isKey_i64 k) false 9999
  have hkeep := MapKept.run_keyThatStays (P := P) (w := w) (isKey_i64 (k : Int))
  rcases findNow_ER (d := .int .i64) rfl k (e z) clock hE 0 with ⟨i, y, u, f1, f2, f3, f4, f5, f6, f7⟩ | ⟨f1, f2, f3, _⟩
  · have hf := MapKept.run_findKey (w := w) hkt f1
    obtain ⟨g1, g2⟩ := hr.setMap hm hL (l' := l.modify i fun e' => { e' with key := .int .i64 k, val := e z }) (clock' := clock) hl (by rw [Array.toList_modify]; exact f6 _ (he z hz))
    refine ⟨ρ, undef, _, .undef ρ, g1, g2, .inr ⟨rfl, ?_⟩⟩
    have hget : l[i]? = some y := by simpa using f2
    simp_all [execOp, Instr.mapUpdate, run_underlying hty, MapKept.run_getObj_map hl, MapKept.run_setObj_map _ hl, Result.andThen]
  · have hf := MapKept.run_findKey (w := w) hkt f1
    obtain ⟨g1, g2⟩ := hr.setMap hm hL (l' := l.push { key := .int .i64 k, val := e z, born := clock }) (clock' := clock + 1) hl (by rw [Array.toList_push]; exact f3 _ (he z hz))
    refine ⟨ρ, undef, _, .undef ρ, g1, g2, .inr ⟨rfl, ?_⟩⟩
    simp_all [execOp, Instr.mapUpdate, run_underlying hty, MapKept.run_getObj_map hl, MapKept.run_setObj_map _ hl, Result.andThen]
end
end Go.Ab

namespace Go.Ab
variable {P : Program} {ti : Tr TI}
section
variable {ρ : Rn} {m m' : Mem} {w : World} {t : Tm} {e : Operand → Value} {O : Oper} {v : Value}

theorem OR.list (he : OR ρ t e) : ∀ {l : List Operand}, l.all okOpd = true → VRs ρ (l.map (ev t)) (l.map e)
  | [], _ => .nil
  | x :: l, h => by
    simp only [List.all_cons, Bool.and_eq_true] at h
    exact .cons _ _ _ _ (he x h.1) (OR.list he h.2)

theorem mnx_spec (isMin : Bool) (k : IntKind) : ∀ (l : List Value) (l' : List Value) (a : Int) (v : Value), VRs ρ l l' → mnx isMin k a l = some v →
    ∃ n, v = .int k n ∧ (l'.foldlM (match isMin with | true => Builtin.min2 | false => Builtin.max2) (.int k a)).run P w = .ok (.int k n) w
  | [], _, a, v, .nil, h => by
    simp only [mnx, Option.some.injEq] at h
    exact ⟨a, h.symm, by simp⟩
  | x :: l, _, a, v, .cons _ x' _ l' hx hs, h => by
    cases x with
    | int j b =>
      cases hx
      simp only [mnx] at h
      obtain ⟨n, h1, h2⟩ := mnx_spec isMin k l l' _ v hs h
      refine ⟨n, h1, ?_⟩
      rw [List.foldlM_cons, Sem.run_bind]
      cases isMin
      · simp only [Builtin.max2, Sem.run_pure, Result.andThen_ok]; exact h2
      · simp only [Builtin.min2, Sem.run_pure, Result.andThen_ok]; exact h2
    | _ => simp [mnx] at h

theorem run_builtin_call {c : Call} {b : Builtin} (hO : O.op = .call c) (hc : c.callee = .builtin b) {r : Result Next} (h : ∀ cs, (builtin b c.argTypes O.type cs ⟨c.args.toList.map e⟩).run P w = r) : (execOp e O).run P w = r := by
  have harr : c.args.map e = ⟨c.args.toList.map e⟩ := by apply Array.ext'; simp
  simp only [execOp, hO, resolve, hc, harr, Sem.run_bind, Sem.run_pure, Result.andThen_ok, invoke]
  exact h _

theorem op_builtin (hT : Types P ti) (he : OR ρ t e) (hr : Rel ti ρ m w) {c : Call} {b : Builtin} (hO : O.op = .call c) (hc : c.callee = .builtin b) (hok : c.args.toList.all okOpd = true)
    (h : builtinD ti b c (c.args.toList.map (ev t)) m = some (v, m')) : Runs P ti ρ m w (execOp e O) v m' := by
  have hV := he.list hok
  have hexec := fun r h => run_builtin_call (P := P) (w := w) (e := e) hO hc (r := r) h
  generalize c.args.toList.map (ev t) = L at *
  generalize c.args.toList.map e = L' at *
  have hat : ∀ l, c.argTypes.toList = l → c.argTypes = ⟨l⟩ := fun l h => by rw [← h]
  unfold builtinD at h
  split at h
  · -- len of a slice
    rename_i p n cc
    split at h
    case h_2 => cases h
    rename_i ty hty
    simp only [Option.bind_eq_bind, Option.bind_eq_some_iff] at h
    obtain ⟨i, hi, h⟩ := h
    split at h
    case h_2 => cases h
    rename_i el sz hd
    cases h
    obtain ⟨T⟩ := hT ty i hi
    obtain ⟨hun, _⟩ := dok_slice T hd
    cases hV with
    | cons _ x' _ l' hx hs =>
    cases hs
    have hlen : ∃ q c'', x' = .slice q n c'' := by cases hx <;> exact ⟨_, _, rfl⟩
    obtain ⟨q, c'', rfl⟩ := hlen
    refine Runs.pure hr (.int _ _) (hexec _ fun cs => ?_)
    simp [builtin, Builtin.len_, hat _ hty, run_underlying hun, goInt]
  · -- len of a string
    rename_i s
    split at h
    case h_2 => cases h
    rename_i ty hty
    simp only [Option.bind_eq_bind, Option.bind_eq_some_iff] at h
    obtain ⟨i, hi, h⟩ := h
    split at h
    case h_2 => cases h
    rename_i hd
    cases h
    obtain ⟨T⟩ := hT ty i hi
    have hun := dok_string T hd
    cases hV with
    | cons _ x' _ l' hx hs =>
    cases hs
    cases hx
    refine Runs.pure hr (.int _ _) (hexec _ fun cs => ?_)
    simp [builtin, Builtin.len_, hat _ hty, run_underlying hun, goInt]
  · rename_i k a r
    simp only [Option.bind_eq_bind, Option.bind_eq_some_iff, Option.pure_def, Option.some.injEq, Prod.mk.injEq] at h
    obtain ⟨v1, h1, rfl, rfl⟩ := h
    cases hV with
    | cons _ x' _ l' hx hs =>
    cases hx
    obtain ⟨n, rfl, h2⟩ := mnx_spec (P := P) (w := w) true k r l' a v1 hs h1
    refine Runs.pure hr (.int _ _) (hexec _ fun cs => ?_)
    simp only [builtin, Builtin.min_, Sem.run_bind]
    rw [h2]; simp
  · rename_i k a r
    simp only [Option.bind_eq_bind, Option.bind_eq_some_iff, Option.pure_def, Option.some.injEq, Prod.mk.injEq] at h
    obtain ⟨v1, h1, rfl, rfl⟩ := h
    cases hV with
    | cons _ x' _ l' hx hs =>
    cases hx
    obtain ⟨n, rfl, h2⟩ := mnx_spec (P := P) (w := w) false k r l' a v1 hs h1
    refine Runs.pure hr (.int _ _) (hexec _ fun cs => ?_)
    simp only [builtin, Builtin.max_, Sem.run_bind]
    rw [h2]; simp
  · -- append
    rename_i s x
    split at h
    case h_2 => cases h
    rename_i ty tx hty
    split at h
    case isFalse => cases h
    rename_i htx
    subst htx
    simp only [Option.bind_eq_bind, Option.bind_eq_some_iff] at h
    obtain ⟨i, hi, h⟩ := h
    split at h
    case h_2 => cases h
    rename_i el sz hd
    simp only [Option.bind_eq_some_iff] at h
    obtain ⟨ie, hie, h⟩ := h
    split at h
    case isFalse => cases h
    rename_i hsz
    cases hV with
    | cons _ x' _ l' hx hs =>
    cases hs with
    | cons _ y' _ l'' hy hs =>
    cases hs
    obtain ⟨ρ', v', w', h1, h2, h3, h4⟩ := run_appendD (P := P) hT hr (oty := O.type) hi hd hie hsz.1 hsz.2 hx hy h
    refine ⟨ρ', v', w', h1, h2, h3, .inl (hexec _ fun cs => ?_)⟩
    simp only [builtin, hat _ hty, Sem.run_bind]
    rw [h4]; simp
  · -- delete
    rename_i b k
    split at h
    case h_2 => cases h
    rename_i ty tk hty
    simp only [Option.bind_eq_bind, Option.bind_eq_some_iff] at h
    obtain ⟨i, hi, h⟩ := h
    split at h
    case h_2 => cases h
    rename_i kt el ty' es hd hm
    simp only [Option.bind_eq_some_iff] at h
    obtain ⟨ik, hik, h⟩ := h
    split at h
    case h_2 => cases h
    rename_i hkd
    cases h
    obtain ⟨T⟩ := hT ty i hi
    obtain ⟨T'⟩ := hT kt ik hik
    have hmt := dok_map T hd
    have hkt := dok_i64 T' hkd
    cases hV with
    | cons _ x' _ l' hx hs =>
    cases hs with
    | cons _ y' _ l'' hy hs =>
    cases hs
    cases hy
    cases hx with
    | map b L hL =>
    obtain ⟨l, clock, hl, hE⟩ := hr.map hm hL
    have hck := MapKept.run_checkKey (P := P) (w := w) hkt (isKey_i64 k) l.isEmpty 9999
    rcases findNow_ER (d := .int .i64) rfl k undef 0 hE 0 with ⟨i, y, u, f1, f2, f3, f4, f5, f6, f7⟩ | ⟨f1, f2, f3, f4⟩
    · have hf := MapKept.run_findKey (w := w) hkt f1
      have herase : (l.eraseIdxIfInBounds i).toList = l.toList.eraseIdx i := by
        have : i < l.size := by simpa using (List.getElem?_eq_some_iff.1 f2).1
        simp [Array.eraseIdxIfInBounds, this]
      obtain ⟨g1, g2⟩ := hr.setMap hm hL (l' := l.eraseIdxIfInBounds i) (clock' := clock) hl (by rw [herase]; exact f7)
      refine ⟨ρ, .tuple #[], _, .tuple [] [] .nil, g1, g2, .inl (hexec _ fun cs => ?_)⟩
      simp only [Nat.zero_add] at hf
      have hck' : (Instr.checkKey l.isEmpty 10000 kt (.int .i64 (k : Int))).run P w = .ok () w := hck
      simp [builtin, Builtin.delete_, hat _ hty, run_underlying hmt, MapKept.run_getObj_map hl, MapKept.run_setObj_map _ hl, Result.andThen, hck', hf]
    · have hf := MapKept.run_findKey (w := w) hkt f1
      obtain ⟨g1, g2⟩ := hr.setMap hm hL (es' := es) (l' := l) (clock' := clock) hl hE
      rw [f4]
      refine ⟨ρ, .tuple #[], _, .tuple [] [] .nil, g1, g2, .inl (hexec _ fun cs => ?_)⟩
      have hck' : (Instr.checkKey l.isEmpty 10000 kt (.int .i64 (k : Int))).run P w = .ok () w := hck
      simp [builtin, Builtin.delete_, hat _ hty, run_underlying hmt, MapKept.run_getObj_map hl, MapKept.run_setObj_map _ hl, Result.andThen, hck', hf]
  · cases h

theorem frozen_same (w : World) (k : Nat) (cur : Array Value) (ce : TypeId) (fz : Nat × Nat) (h : w.heap[k]? = some (.cells cur ce fz)) :
    (w.freeze ⟨k, cur.size, none⟩ 1).heap[k]? = some (.cells cur ce (if fz.1 == fz.2 then (cur.size, cur.size + 1) else (min fz.1 cur.size, max fz.2 (cur.size + 1)))) := by
  simp [World.freeze, Array.getElem?_modify, h]

theorem op_convert_slice (hT : Types P ti) (he : OR ρ t e) (hr : Rel ti ρ m w) {ty : TypeId} {x : Operand} (hO : O.op = .convert ty ty x) (hx : okOpd x = true) {i k : TI} (hi : ti.get ty = some i)
    {el sz : Nat} (hd : i.d = .slice el sz) (hk : ti.get el = some k) (hkd : k.d = .int .u8) {b o l c : Nat} (ha : ev t x = .slice (some ⟨b, o, none⟩) l c) {tb n : Nat} {cs : Tr Value} (hb : m.cells b = some (tb, n, cs)) (hb0 : b ≠ 0) (h00 : (m.h.get 0).isSome = true) :
    Runs P ti ρ m w (execOp e O) (.slice (some ⟨b, o, none⟩) l c) { m with h := m.h.put b (.cells tb n cs) } := by
  obtain ⟨T⟩ := hT ty i hi
  obtain ⟨T'⟩ := hT el k hk
  obtain ⟨hty, _⟩ := dok_slice T hd
  have hel : P.underlying el = some (.int .u8) := dok_int T' hkd
  have hu := he x hx
  rw [ha] at hu
  have hmain : ∀ (L : Loc) (o' l' c' : Nat), ρ b = some L → e x = .slice (some ⟨L.blk, o', none⟩) l' c' → Runs P ti ρ m w (execOp e O) (.slice (some ⟨b, o, none⟩) l c) { m with h := m.h.put b (.cells tb n cs) } := fun L o' l' c' hL hex => by
    obtain ⟨hes, cur, ce, fz, hcur, hC⟩ := hr.row hb hL
    have hz := frozen_same w _ _ _ _ hcur
    have hkeep : ∀ j, j ≠ L.blk → (w.freeze ⟨L.blk, cur.size, none⟩ 1).heap[j]? = w.heap[j]? := fun j hj => by
      simp [World.freeze, Array.getElem?_modify, Ne.symm hj]
    obtain ⟨g1, g2⟩ := hr.change (w' := w.freeze ⟨L.blk, cur.size, none⟩ 1) (Mem.cells_spec hb) hL (by simp [World.freeze]) hkeep rfl rfl rfl (B' := .cells tb n cs)
      ⟨hes, cur, ce, _, hz, hC.low, hC.size, hC.fits, by
        rcases hC.ice with h | h
        · simp [h]
        · right
          split
          · exact Nat.le_refl _
          · exact Nat.le_min.2 ⟨h, Nat.le_refl _⟩, hC.cell⟩ (fun hL0 => by
        obtain ⟨L0, g1, g2, _⟩ := hr.glob
        exact (hb0 (hr.inj b 0 L L0 (by simp [Mem.cells_spec hb]) h00 hL g1 (by rw [hL0, g2]))).elim)
    refine ⟨ρ, e x, _, hu, g1, g2, .inl ?_⟩
    have hsh : (shape L.blk).run P w = .ok (some (ce, cur.size)) w := by simp [shape, Sem.run, World.shape?, hcur]
    simp [execOp, hO, convert, run_underlying hty, run_underlying hel, hex, markStringish, hsh]
  generalize hex : e x = ex at hu
  cases hu with
  | slice _ _ _ L c' hL => exact hmain L _ _ _ hL hex
  | slice0 _ _ L o' c' hL => exact hmain L _ _ _ hL hex
  | slice1 _ _ L o' hL => exact hmain L _ _ _ hL hex
end
end Go.Ab

namespace Go.Ab
variable {P : Program} {ti : Tr TI}
section
variable {ρ : Rn} {m m' : Mem} {w : World} {t : Tm} {e : Operand → Value} {O : Oper} {v : Value}

/-- a call of a function's value -/
def isCall : Op → Bool
  | .call ⟨.value _, _, _⟩ => true
  | _ => false

theorem opD_runs (hT : Types P ti) (he : OR ρ t e) (hr : Rel ti ρ m w) {call : Nat → List Value → Mem → Option (Value × Mem)} {o : Op} (hO : O.op = o) (hc : isCall o = false) (hok : o.operands.toList.all okOpd = true)
    (h : opD ti call o t m = some (v, m')) : Runs P ti ρ m w (execOp e O) v m' := by
  unfold opD at h
  split at h
  · cases h
    exact op_move he hr (.inl hO) (by simpa [Op.operands] using hok)
  · cases h
    exact op_move he hr (.inr hO) (by simpa [Op.operands] using hok)
  · simp [Op.operands] at hok
    split at h
    · rename_i hq; cases h; simpa using op_pick (P := P) he hr hO hok.1 hok.2.1 hok.2.2 hq
    · rename_i hq; cases h; simpa using op_pick (P := P) he hr hO hok.1 hok.2.1 hok.2.2 hq
    · cases h
  · simp only [Option.bind_eq_bind, Option.bind_eq_some_iff] at h
    obtain ⟨i, hi, ⟨b, m1⟩, hn, h⟩ := h
    cases h
    exact op_alloc hT hr hO hi hn
  · simp only [Option.bind_eq_bind, Option.bind_eq_some_iff] at h
    obtain ⟨vs, hvs, ⟨b, m1⟩, hn, h⟩ := h
    cases h
    exact op_box he hr hO (by simpa [Op.operands] using hok) hvs hn
  · -- build
    have hps : ∀ ps : Array (Nat × Operand), (ps.toList.map (·.2)).all okOpd = true → ps.toList.all (fun p => okOpd p.2) = true := fun ps h => by
      simpa [List.all_map] using h
    simp only [Op.operands] at hok
    simp only [Option.bind_eq_bind, Option.bind_eq_some_iff] at h
    obtain ⟨i, hi, h⟩ := h
    split at h
    · rename_i fs hd
      simp only [Option.bind_eq_some_iff] at h
      obtain ⟨l, hl, h⟩ := h
      cases h
      exact op_build_struct hT he hr hO (hps _ (by simpa using hok)) hi hd hl
    · rename_i n el sz hd
      simp only [Option.bind_eq_some_iff] at h
      obtain ⟨l, hl, h⟩ := h
      cases h
      exact op_build_array hT he hr hO (hps _ (by simpa using hok)) hi hd hl
    · cases h
  · -- buildSlice
    have hps : ∀ ps : Array (Nat × Operand), (ps.toList.map (·.2)).all okOpd = true → ps.toList.all (fun p => okOpd p.2) = true := fun ps h => by
      simpa [List.all_map] using h
    simp only [Op.operands] at hok
    simp only [Option.bind_eq_bind, Option.bind_eq_some_iff] at h
    obtain ⟨i, hi, h⟩ := h
    split at h
    · rename_i el sz hd
      simp only [Option.bind_eq_some_iff] at h
      obtain ⟨j, hj, l, hl, h⟩ := h
      split at h
      · rename_i hb
        simp only [Option.bind_eq_some_iff] at h
        obtain ⟨⟨b, m1⟩, hn, h⟩ := h
        cases h
        exact op_buildSlice hT he hr hO (hps _ (by simpa using hok)) hi hd hj hl hb hn
      · cases h
    · cases h
  · simp only [Option.bind_eq_bind, Option.bind_eq_some_iff] at h
    obtain ⟨⟨b, off⟩, ha, i, hi, u, hl, h⟩ := h
    cases h
    exact op_load hT he hr hO (by simpa [Op.operands] using hok) ha hi hl
  · simp [Op.operands] at hok
    simp only [Option.bind_eq_bind, Option.bind_eq_some_iff] at h
    obtain ⟨⟨b, off⟩, ha, i, hi, vs, hvs, h⟩ := h
    split at h
    · rename_i hlen
      simp only [Option.bind_eq_some_iff] at h
      obtain ⟨m1, hm, h⟩ := h
      cases h
      exact op_store hT he hr hO hok.1 hok.2 ha hi hvs hlen hm
    · cases h
  · simp [Op.operands] at hok
    split at h
    · rename_i a ha; cases h; rw [← ha]; exact op_nilCheck he hr hO hok (.inl ⟨a, ha⟩)
    · rename_i f a c ha; cases h; rw [← ha]; exact op_nilCheck he hr hO hok (.inr ⟨f, a, c, ha⟩)
    · cases h
  · simp [Op.operands] at hok
    simp only [Option.bind_eq_bind, Option.bind_eq_some_iff] at h
    obtain ⟨u, hu, h⟩ := h
    cases h
    exact op_bin hT he hr hO hok.1 hok.2 hu
  · simp [Op.operands] at hok
    simp only [Option.bind_eq_bind, Option.bind_eq_some_iff] at h
    obtain ⟨u, hu, h⟩ := h
    cases h
    exact op_un he hr hO hok hu
  · -- convert
    simp [Op.operands] at hok
    simp only [Option.bind_eq_bind, Option.bind_eq_some_iff] at h
    obtain ⟨i, hi, j, hj, h⟩ := h
    split at h
    · rename_i k' k k'' n hd' hd ha
      cases h
      exact op_conv_int hT he hr hO hok hi hj hd ha
    · rename_i el sz p l c hd hd' ha
      simp only [Option.bind_eq_some_iff] at h
      obtain ⟨k, hk, h⟩ := h
      split at h
      · rename_i hkd
        split at h
        · cases h
          exact op_conv_str hT he hr hO hok hi hj hd' hd hk hkd ha (.inl ⟨rfl, .inl rfl⟩)
        · rename_i b off
          split at h
          · cases h
            exact op_conv_str hT he hr hO hok hi hj hd' hd hk hkd ha (.inl ⟨rfl, .inr rfl⟩)
          · rename_i l
            simp only [Option.bind_eq_some_iff] at h
            obtain ⟨⟨ty, n, c⟩, hb, h⟩ := h
            split at h
            · rename_i hle
              simp only [Option.bind_eq_some_iff] at h
              obtain ⟨cs, hcs, bs, hbs, h⟩ := h
              cases h
              exact op_conv_str hT he hr hO hok hi hj hd' hd hk hkd ha (.inr ⟨_, _, _, _, _, _, _, rfl, by omega, hb, hle, hcs, hbs, rfl⟩)
            · cases h
        · cases h
      · cases h
    · rename_i el sz el' sz' b o l c hd hd' ha
      simp only [Option.bind_eq_some_iff] at h
      obtain ⟨k, hk, ⟨tb, n, cs⟩, hb, h⟩ := h
      split at h
      · rename_i hkd
        split at h
        · rename_i hss
          obtain ⟨rfl, rfl, hb0, h00⟩ := hss
          cases h
          exact op_convert_slice hT he hr hO hok hj hd hk hkd ha hb hb0 h00
        · cases h
      · cases h
    · cases h
  · simp only [Op.operands, Array.toList_append, List.all_append, Bool.and_eq_true] at hok
    cases h
    exact op_makeFunc he hr hO hok.1 hok.2
  · simp only [Option.bind_eq_bind, Option.bind_eq_some_iff] at h
    obtain ⟨⟨b, m1⟩, hn, h⟩ := h
    cases h
    exact op_makeMap hr hO hn
  · -- makeSlice
    simp [Op.operands] at hok
    simp only [Option.bind_eq_bind, Option.bind_eq_some_iff] at h
    obtain ⟨i, hi, n, hn, k, hk, h⟩ := h
    split at h
    case isFalse => cases h
    rename_i hnk
    obtain ⟨rfl, hnb⟩ := hnk
    split at h
    · rename_i el sz hd
      simp only [Option.bind_eq_some_iff] at h
      obtain ⟨j, hj, h⟩ := h
      split at h
      case isFalse => cases h
      rename_i hsm
      simp only [Option.bind_eq_some_iff] at h
      obtain ⟨⟨b, m1⟩, hnew, h⟩ := h
      cases h
      obtain ⟨T⟩ := hT _ i hi
      obtain ⟨T'⟩ := hT el j hj
      obtain ⟨_, hs⟩ := dok_slice T hd
      obtain ⟨inf, hinf, hisz, _⟩ := szOf_spec hs
      have hjs : j.size = sz := by
        rw [← T'.size, Option.some.inj (T'.hinf.symm.trans hinf)]; exact hisz
      exact op_makeSlice hT he hr hO hok.1 hok.2 hi hd hj hjs (by omega) hn hk hnb hnew
    · cases h
  · -- slice
    rename_i ty x lo hi mx
    have hx : okOpd x = true := by simp [Op.operands] at hok; exact hok.1
    have hlo : ∀ o, lo = some o → okOpd o = true := fun o ho => by subst ho; simp [Op.operands] at hok; exact hok.2.1
    have hhi : ∀ o, hi = some o → okOpd o = true := fun o ho => by
      subst ho; simp [Op.operands] at hok; exact hok.2.2.1
    have hmx : ∀ o, mx = some o → okOpd o = true := fun o ho => by
      subst ho; simp [Op.operands] at hok; exact hok.2.2.2
    simp only [Option.bind_eq_bind, Option.bind_eq_some_iff] at h
    obtain ⟨i, hi', h⟩ := h
    split at h
    · rename_i el sz b off len c hd ha
      split at h
      · simp only [Option.bind_eq_some_iff] at h
        obtain ⟨l, hl, hh, hhh, ⟨ty', n, cs⟩, hb, ie, hie, h⟩ := h
        split at h
        · rename_i hq
          obtain ⟨q1, q2, q3, q4, q5⟩ := hq
          subst q3; subst q4
          cases h
          exact op_slice hT he hr hO hx hlo hhi hi' hd ha hl hhh hie q5 hb ⟨q1, q2⟩
        · cases h
      · rename_i o
        split at h
        · rename_i oh
          simp only [Option.bind_eq_some_iff] at h
          obtain ⟨l, hl, hh, hhh, q, hq, h⟩ := h
          split at h
          · rename_i hz
            obtain ⟨rfl, rfl, rfl⟩ := hz
            cases h
            exact op_slice_full hT he hr hO hx hlo (hhi _ rfl) (hmx _ rfl) hi' hd ha hl hhh hq
          · cases h
        · cases h
    · rename_i el sz len c hd ha
      split at h
      · simp only [Option.bind_eq_some_iff] at h
        obtain ⟨l, hl, hh, hhh, h⟩ := h
        split at h
        · rename_i hz
          obtain ⟨rfl, rfl⟩ := hz
          cases h
          exact op_slice_nil hT he hr hO hx hlo hhi hmx (by simp) hi' hd ha hl hhh rfl
        · cases h
      · rename_i o
        split at h
        · rename_i oh
          simp only [Option.bind_eq_some_iff] at h
          obtain ⟨l, hl, hh, hhh, q, hq, h⟩ := h
          split at h
          · rename_i hz
            obtain ⟨rfl, rfl, rfl⟩ := hz
            cases h
            exact op_slice_nil hT he hr hO hx hlo hhi hmx (by simp) hi' hd ha hl hhh hq
          · cases h
        · cases h
    · cases h
  · simp [Op.operands] at hok
    simp only [Option.bind_eq_bind, Option.bind_eq_some_iff] at h
    obtain ⟨i, hi, ⟨b, off⟩, ha, h⟩ := h
    split at h
    · rename_i fs hd
      simp only [Option.bind_eq_some_iff] at h
      obtain ⟨⟨o, sz, ag⟩, hf, h⟩ := h
      split at h
      · cases h
      · rename_i hne
        cases h
        exact op_fieldAddr hT he hr hO hok hi ha hd hf hne
    · cases h
  · simp [Op.operands] at hok
    simp only [Option.bind_eq_bind, Option.bind_eq_some_iff] at h
    obtain ⟨i, hi, h⟩ := h
    split at h
    · rename_i fs cs hd ha
      simp only [Option.bind_eq_some_iff] at h
      obtain ⟨⟨o, sz, ag⟩, hf, u, hp, h⟩ := h
      cases h
      exact op_field hT he hr hO hok hi hd hf ha hp
    · cases h
  · simp [Op.operands] at hok
    simp only [Option.bind_eq_bind, Option.bind_eq_some_iff] at h
    obtain ⟨i, hi, n, hn, h⟩ := h
    split at h
    · rename_i el sz b off len c hd ha
      split at h
      · rename_i hlt
        cases h
        exact op_indexAddr_slice hT he hr hO hok.1 hok.2 hi hn hd ha hlt
      · cases h
    · rename_i len el sz b off hd ha
      split at h
      · rename_i hlt
        cases h
        exact op_indexAddr_array hT he hr hO hok.1 hok.2 hi hn hd ha hlt
      · cases h
    · cases h
  · simp [Op.operands] at hok
    simp only [Option.bind_eq_bind, Option.bind_eq_some_iff] at h
    obtain ⟨i, hi, n, hn, h⟩ := h
    split at h
    · rename_i len el sz cs hd ha
      split at h
      · rename_i hlt
        simp only [Option.bind_eq_some_iff] at h
        obtain ⟨j, hj, x, hp, h⟩ := h
        cases h
        exact op_index_array hT he hr hO hok.1 hok.2 hi hn hd hj ha hlt hp
      · cases h
    · rename_i s hd ha
      simp only [Option.bind_eq_some_iff] at h
      obtain ⟨b, hb, h⟩ := h
      cases h
      exact op_index_string hT he hr hO hok.1 hok.2 hi hn hd ha hb
    · cases h
  · simp [Op.operands] at hok
    split at h
    · rename_i vs ha
      simp only [Option.bind_eq_bind, Option.bind_eq_some_iff] at h
      obtain ⟨u, hu, h⟩ := h
      cases h
      exact op_extract he hr hO hok ha hu
    · cases h
  · simp [Op.operands] at hok
    simp only [Option.bind_eq_bind, Option.bind_eq_some_iff] at h
    obtain ⟨i, hi, h⟩ := h
    split at h
    · rename_i kt el b k hd hb hk
      simp only [Option.bind_eq_some_iff] at h
      obtain ⟨ik, hik, h⟩ := h
      split at h
      · rename_i ty' es hkd hm
        simp only [Option.bind_eq_some_iff] at h
        obtain ⟨u, hu, h⟩ := h
        cases h
        exact op_lookup hT he hr hO hok.1 hok.2 hi hd hik hkd hb hk hm hu
      · cases h
    · cases h
  · simp [Op.operands] at hok
    simp only [Option.bind_eq_bind, Option.bind_eq_some_iff] at h
    obtain ⟨i, hi, h⟩ := h
    split at h
    · rename_i kt el b k hd hb hk
      simp only [Option.bind_eq_some_iff] at h
      obtain ⟨ik, hik, h⟩ := h
      split at h
      · rename_i ty' es hkd hm
        cases h
        exact op_mapUpdate hT he hr hO hok.1 hok.2.1 hok.2.2 hi hd hik hkd hb hk hm
      · cases h
    · cases h
  · rename_i c
    split at h
    · rename_i f hcal
      obtain ⟨cal, args, at'⟩ := c
      simp only at hcal
      subst hcal
      simp [isCall] at hc
    · rename_i b hcal
      exact op_builtin hT he hr hO hcal (by simp [Op.operands, Call.operands, hcal] at hok; simpa using hok) h
    · cases h
  · cases h
end
end Go.Ab
end
