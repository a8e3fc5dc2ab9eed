import Derived.Test.YtibcljekjjjnoaaGreatDoorWg
/- A part of the proof of NatNews: Wh. -/
set_option linter.all false
namespace Go.Proofs.YtibcljekjjjnoaaGreatDoor.Kt
open Go Go.RowKit
theorem own_cell2 {w : World} {base : Nat} {v a b : Value} (h : w.ownsRow base 52 2 v 1 [a, b]) : ∃ g cap cur, v = .slice (some ⟨g, 0, none⟩) 1 cap ∧ w.heap[g]? = some (.cells cur 52 (0, 0)) ∧ cur[0]? = some a ∧ cur[1]? = some b := by
  rcases h.2 with ⟨_, h2⟩ | ⟨g, cap, cur, h2, h3, h4, h5, h6, h7, h8⟩
  · omega
  · refine ⟨g, cap, cur, h2, h4, ?_, ?_⟩
    · have e : (cur.toList.take (1 * 2))[0]? = [a, b][0]? := by rw [h8]
      rw [List.getElem?_take_of_lt (by omega)] at e
      simpa using e
    · have e : (cur.toList.take (1 * 2))[1]? = [a, b][1]? := by rw [h8]
      rw [List.getElem?_take_of_lt (by omega)] at e
      simpa using e
def pv (i : Nat) : Int := if i = 0 then 1 else if i = 1 then 6 else 17
def pk (i : Nat) : Int := if i = 0 then 0 else if i = 1 then 1 else 2
theorem pv_pk (i : Nat) : (pv i = 1 ∧ pk i = 0) ∨ (pv i = 6 ∧ pk i = 1) ∨ (pv i = 17 ∧ pk i = 2) := by
  unfold pv pk
  by_cases h0 : i = 0 <;> by_cases h1 : i = 1 <;> simp_all
theorem pv_row (w : World) (i : Nat) (hi : i < 3) : (w.alloc (.cells #[.int .i64 1, .int .i64 6, .int .i64 17] 3)).cell? ⟨w.heap.size, i, none⟩ = some (.int .i64 (pv i)) := by
  rw [cell_at (heap_alloc_new w _)]
  have : i = 0 ∨ i = 1 ∨ i = 2 := by omega
  rcases this with rfl | rfl | rfl <;> rfl
def lh (l h : Int) (k : Nat) : Int := if k = 0 then l else h
theorem lh_row (w : World) (l h : Int) (k : Nat) (hk : k < 2) : (w.alloc (.cells #[.int .i64 l, .int .i64 h] 3)).cell? ⟨w.heap.size, k, none⟩ = some (.int .i64 (lh l h k)) := by
  rw [cell_at (heap_alloc_new w _)]
  have : k = 0 ∨ k = 1 := by omega
  rcases this with rfl | rfl <;> rfl
set_option maxHeartbeats 4000000 in
set_option maxRecDepth 8000 in
theorem lawGood (T : World → Prop) (hT : ∀ w w', T w → Kept w w' → T w') (hw : ∀ w, T w → Calls Tryz.prog 7 #[] w fun e w' => e = .returned (.bool true) ∧ Kept w w')
    (wk o l h b r : Int) (hf : Fine wk o l h b r) (W : World) (hTW : T W) : Calls Tryz.prog 4 #[cfgV wk o l h b r] W fun e w' => e = .returned (.bool true) ∧ Kept W w' := by
  have hbx := heap_alloc_new W (rbox wk o l h b r)
  have hk0 : Kept W (W.alloc (rbox wk o l h b r)) := Kept.alloc (Below.refl _ _) _
  have hN := fun w => natNewGood wk o l h b r hf w
  have hP := fun w => planTo wk o l h b r w
  have hR := fun w => refWrong wk o l h b r w
  have ht0 := hT _ _ hTW hk0
  unfold cfgV rbox at *
  go_enter Tryz.func4, Tryz.ntmps4
  go_wp2_with (first
    | (go_at_call 9; refine (hP _).mono ?_; rintro e w1 ⟨rfl, hk1⟩)
    | (go_at_call 14; refine (hN _).mono ?_; rintro e w2 ⟨nt, nw, n, rfl, hk2, N⟩)
    | (go_at_call 7; refine (hw _ (hT _ _ (hT _ _ ht0 hk1) hk2)).mono ?_; rintro e w3 ⟨rfl, hk3⟩
       have hbx3 := hk3.at (hk2.at (hk1.at hbx))
       have c0 : w3.cell? ⟨W.heap.size, 0, none⟩ = some (.int .i64 wk) := (by rw [cell_at hbx3]; rfl)
       have c1 : w3.cell? ⟨W.heap.size, 1, none⟩ = some (.int .u32 o) := (by rw [cell_at hbx3]; rfl)
       have c2 : w3.cell? ⟨W.heap.size, 2, none⟩ = some (.int .i64 l) := (by rw [cell_at hbx3]; rfl)
       have c3 : w3.cell? ⟨W.heap.size, 3, none⟩ = some (.int .i64 h) := (by rw [cell_at hbx3]; rfl)
       have c4 : w3.cell? ⟨W.heap.size, 4, none⟩ = some (.int .i64 b) := (by rw [cell_at hbx3]; rfl)
       have c5 : w3.cell? ⟨W.heap.size, 5, none⟩ = some (.int .i64 r) := (by rw [cell_at hbx3]; rfl))
    | (go_at_call 15; refine (hR _).mono ?_; rintro e w4 ⟨s, rfl, rfl, hs⟩; have hs' := emptyOf (hs.2 hf); clear hs))
  have hka : Kept W (w3.alloc (.cells #[.int .i64 wk, .int .u32 o, .int .i64 l, .int .i64 h, .int .i64 b, .int .i64 r] 36)) := (((hk0.trans hk1).trans hk2).trans hk3).alloc _
  have hba : (w3.alloc (.cells #[.int .i64 wk, .int .u32 o, .int .i64 l, .int .i64 h, .int .i64 b, .int .i64 r] 36)).heap[W.heap.size]? = some (.cells #[.int .i64 wk, .int .u32 o, .int .i64 l, .int .i64 h, .int .i64 b, .int .i64 r] 36 (0, 0)) := Kept.at (Kept.alloc (Below.refl _ _) _) hbx3
  have Na := N.keep (hk3.alloc (.cells #[.int .i64 wk, .int .u32 o, .int .i64 l, .int .i64 h, .int .i64 b, .int .i64 r] 36))
  generalize (w3.alloc (.cells #[.int .i64 wk, .int .u32 o, .int .i64 l, .int .i64 h, .int .i64 b, .int .i64 r] 36)) = wa at hka hba Na ⊢
  clear hk1 hk2 hk3 hbx3 c0 c1 c2 c3 c4 c5 hbx hk0 ht0 hR hN N
  clear hs' hP
  have hP := fun w => planTo wk o l h b r w
  unfold cfgV at hP
  have hl := hf.2.2.1
  have hwl : IntKind.i64.wrap (l - 1) = l - 1 := i64_id _ (by omega) (by omega)
  have hwh : IntKind.i64.wrap (h + 1) = h + 1 := i64_id _ (by omega) (by omega)
  go_loopw [5] (fun i ws => ∃ k : Nat, k ≤ 3 ∧ i = .int .i64 k ∧ Kept wa ws) (fun i _ => 3 - (intOf i).toNat)
  case atStart => exact ⟨0, by omega, rfl, Below.refl _ _⟩
  case round =>
    obtain ⟨i, hi, rfl, hkr⟩ := hrel
    by_cases hi3 : i < 3
    · have hpv := pv_row wr i hi3
      have hpk := pv_pk i
      obtain ⟨p, hp⟩ : ∃ p, p = pv i := ⟨_, rfl⟩
      obtain ⟨q, hq⟩ : ∃ q, q = pk i := ⟨_, rfl⟩
      rw [← hp] at hpv hpk
      rw [← hq] at hpk
      have Hpk : Hid ((p = 1 ∧ q = 0) ∨ (p = 6 ∧ q = 1) ∨ (p = 17 ∧ q = 2)) := hpk
      clear hpk hp hq
      go_wp2_with (fail)
      have hkb := hkr.alloc (.cells #[.int .i64 1, .int .i64 6, .int .i64 17] 3)
      generalize (wr.alloc (.cells #[.int .i64 1, .int .i64 6, .int .i64 17] 3)) = wb at hkb ⊢
      clear hpv hkr
      have hdec : decide ((i : Int) < 3) = true := by simp; omega
      simp only [hdec]
      clear hdec
      go_loopw [7] (fun i ws => ∃ k : Nat, k ≤ 2 ∧ i = .int .i64 k ∧ Kept wa ws) (fun i _ => 2 - (intOf i).toNat)
      case atStart => exact ⟨0, by omega, rfl, hkb⟩
      case round =>
        clear hkb
        obtain ⟨k, hk, rfl, hkr⟩ := hrel
        have hbr := hkr.at hba
        have c2 : wr.cell? ⟨W.heap.size, 2, none⟩ = some (.int .i64 l) := (by rw [cell_at hbr]; rfl)
        have c3 : wr.cell? ⟨W.heap.size, 3, none⟩ = some (.int .i64 h) := (by rw [cell_at hbr]; rfl)
        by_cases hk2 : k < 2
        · have hlh := lh_row wr l h k hk2
          have hlh2 : l ≤ lh l h k ∧ lh l h k ≤ h := by unfold lh; split <;> omega
          generalize lh l h k = x at hlh hlh2
          have hkc := hkr.alloc (.cells #[.int .i64 l, .int .i64 h] 3)
          go_wp2_with (first
            | (go_at_call 16; refine (claimsIn (Na.keep hkc) hf p q x Hpk.out hlh2.1 hlh2.2).mono ?_; rintro e w4 ⟨v, rfl, hk4, hown⟩
               obtain ⟨g, cap, cur, rfl, q1, q2, q3⟩ := own_cell2 hown
               have d0 : w4.cell? ⟨g, 0, none⟩ = some (.int .i64 1) := (by rw [cell_at q1]; exact q2)
               have d1 : w4.cell? ⟨g, 1, none⟩ = some (.int .i64 (-1)) := (by rw [cell_at q1]; exact q3)))
          have hkd := hkc.trans hk4
          exact ⟨⟨k + 1, by omega, by go_num, hkd⟩, by simp [intOf]; omega⟩
        · have hcur : Kept wa wr.drew := Below.drew hkr
          have hbd := hcur.at hba
          have d2 : wr.drew.cell? ⟨W.heap.size, 2, none⟩ = some (.int .i64 l) := (by rw [cell_at hbd]; rfl)
          have d3 : wr.drew.cell? ⟨W.heap.size, 3, none⟩ = some (.int .i64 h) := (by rw [cell_at hbd]; rfl)
          clear hbd
          go_wp2_with (fail)
          go_region_with (first
            | (go_at_call 16; refine (claimsOut (Na.keep hcur) hf p q _ Hpk.out (by omega)).mono ?_; rintro e w5 ⟨rfl, hk5⟩
               have hcur := hcur.trans hk5
               have hb5 := hcur.at hba
               have e2 : w5.cell? ⟨W.heap.size, 2, none⟩ = some (.int .i64 l) := (by rw [cell_at hb5]; rfl)
               have e3 : w5.cell? ⟨W.heap.size, 3, none⟩ = some (.int .i64 h) := (by rw [cell_at hb5]; rfl)))
          all_goals (clear d2 d3; have hkz := hcur; clear hcur; clear e2 e3 hb5 hk5; go_wp2_with (fail))
          all_goals exact ⟨⟨i + 1, by omega, by go_num, hkz⟩, by simp [intOf]; omega⟩
    · have hcur : Kept wa wr.drew := Below.drew hkr
      have hcc : Kept W wr.drew := hka.trans hcur
      have hbd := hcur.at hba
      have d0 : wr.drew.cell? ⟨W.heap.size, 0, none⟩ = some (.int .i64 wk) := (by rw [cell_at hbd]; rfl)
      have d1 : wr.drew.cell? ⟨W.heap.size, 1, none⟩ = some (.int .u32 o) := (by rw [cell_at hbd]; rfl)
      have d2 : wr.drew.cell? ⟨W.heap.size, 2, none⟩ = some (.int .i64 l) := (by rw [cell_at hbd]; rfl)
      have d3 : wr.drew.cell? ⟨W.heap.size, 3, none⟩ = some (.int .i64 h) := (by rw [cell_at hbd]; rfl)
      have d4 : wr.drew.cell? ⟨W.heap.size, 4, none⟩ = some (.int .i64 b) := (by rw [cell_at hbd]; rfl)
      have d5 : wr.drew.cell? ⟨W.heap.size, 5, none⟩ = some (.int .i64 r) := (by rw [cell_at hbd]; rfl)
      have hC := fun w (h : Kept wa w) => natConfig (Na.keep h)
      have hC0 := natConfigNil
      have hB := fun w (h : Kept wa w) => natBindings (Na.keep h)
      unfold cfgV at hC hC0
      clear hbd hkr
      go_wp2_with (fail)
      generalize (Value.agg #[.int .i64 wk, .int .u32 o, .int .i64 l, .int .i64 h, .int .i64 b, .int .i64 r]) = V
      go_region_with (first
        | (go_at_call_of 17 (Value.pointer none); refine (hC0 _).mono ?_; rintro e w5 ⟨rfl, hk5⟩
           have hcc := hcc.trans hk5)
        | (go_at_call 17; refine (hC _ hcur).mono ?_; rintro e w5 ⟨rfl, hk5⟩
           have hcur := hcur.trans hk5
           have hcc := hcc.trans hk5
           have hb5 := hcur.at hba
           have d0 : w5.cell? ⟨W.heap.size, 0, none⟩ = some (.int .i64 wk) := (by rw [cell_at hb5]; rfl)
           have d1 : w5.cell? ⟨W.heap.size, 1, none⟩ = some (.int .u32 o) := (by rw [cell_at hb5]; rfl)
           have d2 : w5.cell? ⟨W.heap.size, 2, none⟩ = some (.int .i64 l) := (by rw [cell_at hb5]; rfl)
           have d3 : w5.cell? ⟨W.heap.size, 3, none⟩ = some (.int .i64 h) := (by rw [cell_at hb5]; rfl)
           have d4 : w5.cell? ⟨W.heap.size, 4, none⟩ = some (.int .i64 b) := (by rw [cell_at hb5]; rfl)
           have d5 : w5.cell? ⟨W.heap.size, 5, none⟩ = some (.int .i64 r) := (by rw [cell_at hb5]; rfl))
        | (go_at_call 9; refine (hP _).mono ?_; rintro e w5 ⟨rfl, hk5⟩
           have hcur := hcur.trans hk5
           have hcc := hcc.trans hk5)
        | (go_at_call 18; refine (hB _ hcur).mono ?_; rintro e w5 ⟨rfl, hk5⟩
           have hcur := hcur.trans hk5
           have hcc := hcc.trans hk5)
        | (go_at_call 19; refine (noneNil _).mono ?_; rintro e w5 ⟨rfl, rfl⟩))
      all_goals have hkz := hcc
      all_goals clear hcc hcur hC hC0 hB
      all_goals go_wp2_with (fail)
      all_goals go_ret
      all_goals exact ⟨by first | rfl | (congr 1), hkz⟩
end Go.Proofs.YtibcljekjjjnoaaGreatDoor.Kt
