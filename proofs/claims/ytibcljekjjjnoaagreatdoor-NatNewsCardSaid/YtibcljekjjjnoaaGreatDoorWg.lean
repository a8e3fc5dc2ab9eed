import Derived.Test.YtibcljekjjjnoaaGreatDoorWd
import Derived.Test.YtibcljekjjjnoaaGreatDoorWf
/- A part of the proof of NatNews: Wg. -/
set_option linter.all false
namespace Go.Proofs.YtibcljekjjjnoaaGreatDoor.Kt
open Go Go.RowKit
theorem noneNil (W : World) : Calls Tryz.prog 19 #[] W fun e w' => e = .returned (.pointer none) ∧ w' = W := by
  go_enter Tryz.func19, Tryz.ntmps19
  go_wp2
  go_ret
  exact ⟨rfl, rfl⟩
set_option maxRecDepth 4000 in
theorem natConfigNil (W : World) : Calls Tryz.prog 17 #[.pointer none] W fun e w' => e = .returned (cfgV 0 0 0 0 0 0) ∧ Kept W w' := by
  unfold cfgV
  go_enter Tryz.func17, Tryz.ntmps17
  go_wp2
  refine ⟨rfl, cfgV 0 0 0 0 0 0, ?_, rfl, (Below.refl _ _).alloc (Nat.le_refl _) _⟩
  simp [results, Tryz.results17, go_sem, cfgV]
def powb (b : Int) (k : Nat) : Bool := (pows.take k).any fun n => (n : Int) == b
def pw (k : Nat) : Int := 2 ^ (k + 1)
theorem powb_ten {b : Int} (h : powb b 10 = true) : 2 ≤ b ∧ b ≤ 1024 ∧ bits BinOp.and IntKind.i64 b (b - 1) = 0 := by
  simp only [powb, pows, List.take, List.any_cons, List.any_nil, Bool.or_eq_true, beq_iff_eq, Bool.or_false] at h
  rcases h with rfl | rfl | rfl | rfl | rfl | rfl | rfl | rfl | rfl | rfl <;> exact ⟨by decide, by decide, by decide +kernel⟩
theorem powb_ten_not {b : Int} (h : powb b 10 = false) : ¬ (2 ≤ b ∧ b ≤ 1024 ∧ bits BinOp.and IntKind.i64 b (b - 1) = 0) := by
  rintro ⟨h1, h2, h3⟩
  obtain ⟨k, rfl, hk⟩ := pows_of h1 h2 h3
  simp only [pows, List.mem_cons, List.not_mem_nil, or_false] at hk
  rcases hk with rfl | rfl | rfl | rfl | rfl | rfl | rfl | rfl | rfl | rfl <;> exact absurd h (by decide)
theorem pw_small (k : Nat) (h : k < 10) : ∃ q : Nat, pw k = q ∧ 2 ≤ q ∧ q ≤ 1024 := by
  have h11 : k = 0 ∨ k = 1 ∨ k = 2 ∨ k = 3 ∨ k = 4 ∨ k = 5 ∨ k = 6 ∨ k = 7 ∨ k = 8 ∨ k = 9 := by omega
  rcases h11 with rfl | rfl | rfl | rfl | rfl | rfl | rfl | rfl | rfl | rfl
  · exact ⟨2, by decide⟩
  · exact ⟨4, by decide⟩
  · exact ⟨8, by decide⟩
  · exact ⟨16, by decide⟩
  · exact ⟨32, by decide⟩
  · exact ⟨64, by decide⟩
  · exact ⟨128, by decide⟩
  · exact ⟨256, by decide⟩
  · exact ⟨512, by decide⟩
  · exact ⟨1024, by decide⟩
theorem pw_succ (k : Nat) : pw (k + 1) = 2 * pw k := by
  unfold pw
  rw [Int.pow_succ, Int.mul_comm]
theorem powb_succ (b : Int) (k : Nat) (h : k < 10) : powb b (k + 1) = (powb b k || (pw k == b)) := by
  have h11 : k = 0 ∨ k = 1 ∨ k = 2 ∨ k = 3 ∨ k = 4 ∨ k = 5 ∨ k = 6 ∨ k = 7 ∨ k = 8 ∨ k = 9 := by omega
  rcases h11 with rfl | rfl | rfl | rfl | rfl | rfl | rfl | rfl | rfl | rfl <;> simp [powb, pows, pw, Bool.or_assoc]
def rbox (wk o l h b r : Int) : Obj := .cells #[.int .i64 wk, .int .u32 o, .int .i64 l, .int .i64 h, .int .i64 b, .int .i64 r] 36
set_option maxRecDepth 8000 in
theorem refWrong (wk o l h b r : Int) (w : World) : Calls Tryz.prog 15 #[cfgV wk o l h b r] w fun e w' => ∃ s, e = .returned (.string s) ∧ w' = w.alloc (rbox wk o l h b r) ∧ (s = ByteArray.empty ↔ Fine wk o l h b r) := by
  have hbx := heap_alloc_new w (rbox wk o l h b r)
  unfold cfgV rbox at *
  have c4 : (w.alloc (.cells #[.int .i64 wk, .int .u32 o, .int .i64 l, .int .i64 h, .int .i64 b, .int .i64 r] 36)).cell? ⟨w.heap.size, 4, none⟩ = some (.int .i64 b) := by rw [cell_at hbx]; rfl
  have c5 : (w.alloc (.cells #[.int .i64 wk, .int .u32 o, .int .i64 l, .int .i64 h, .int .i64 b, .int .i64 r] 36)).cell? ⟨w.heap.size, 5, none⟩ = some (.int .i64 r) := by rw [cell_at hbx]; rfl
  clear hbx
  go_enter Tryz.func15, Tryz.ntmps15
  go_wp2
  any_goals (solve
    | (subst_vars
       go_ret
       refine ⟨_, rfl, rfl, iff_of_false (by decide) ?_⟩
       rintro ⟨f1, f2, f3, f4, f5⟩
       first | (simp_all; done) | (simp_all; omega)))
  go_loop [3, 4] (fun p n => ∃ k : Nat, k ≤ 10 ∧ n = .int .i64 (pw k) ∧ p = .bool (powb b k)) (fun _ n => 4096 - (intOf n).toNat)
  case atStart => exact ⟨0, by omega, rfl, rfl⟩
  case round =>
    obtain ⟨k, hk, rfl, rfl⟩ := hrel
    rcases Nat.lt_or_ge k 10 with hk10 | hk10
    · obtain ⟨q, hq, hq1, hq2⟩ := pw_small k hk10
      have hs : pw (k + 1) = 2 * (q : Int) := by rw [← hq]; exact pw_succ k
      have hv := powb_succ b k hk10
      rw [hq] at hv
      have Hs : Hid (pw (k + 1) = 2 * (q : Int)) := hs
      have Hv : Hid (powb b (k + 1) = (powb b k || ((q : Int) == b))) := hv
      clear hs hv
      rw [hq]
      cases hp : powb b k
      · go_wp2
        go_round
        case rel => exact ⟨k + 1, by omega, by rw [Hs.out], by rw [Hv.out, hp]; simp⟩
        case measure => simp [intOf]; omega
      · go_wp2
        go_round
        case rel => exact ⟨k + 1, by omega, by rw [Hs.out], by rw [Hv.out, hp]; simp⟩
        case measure => simp [intOf]; omega
    · obtain rfl : k = 10 := by omega
      have e10 : pw 10 = 2048 := by decide
      rw [e10]
      cases hp : powb b 10
      · have hno := powb_ten_not hp
        clear hp
        go_wp2
        go_ret
        exact ⟨_, rfl, rfl, iff_of_false (by decide) fun f => hno f.2.2.2.1⟩
      · have hyes := powb_ten hp
        clear hp
        go_wp2
        all_goals go_ret
        all_goals refine ⟨_, rfl, rfl, ?_⟩
        all_goals first
          | (refine iff_of_true rfl ⟨?_, ?_, ?_, hyes, ?_⟩ <;> simp_all <;> omega)
          | (refine iff_of_false (by decide) ?_; rintro ⟨f1, f2, f3, f4, f5⟩; simp_all; done)
          | (refine iff_of_false (by decide) ?_; rintro ⟨f1, f2, f3, f4, f5⟩; simp_all; omega)
end Go.Proofs.YtibcljekjjjnoaaGreatDoor.Kt

namespace Go.Proofs.YtibcljekjjjnoaaGreatDoor.Kt
open Go Go.RowKit
set_option maxRecDepth 8000 in
theorem lawBad (T : World → Prop) (hT : ∀ w w', T w → Kept w w' → T w') (hw : ∀ w, T w → Calls Tryz.prog 7 #[] w fun e w' => e = .returned (.bool true) ∧ Kept w w')
    (wk o l h b r : Int) (hf : ¬ Fine wk o l h b r) (W : World) (hTW : T W) : Calls Tryz.prog 4 #[cfgV wk o l h b r] W fun e w' => e = .returned (.bool true) ∧ Kept W w' := by
  have hbx := heap_alloc_new W (rbox wk o l h b r)
  have hk0 : Kept W (W.alloc (rbox wk o l h b r)) := Kept.alloc (Below.refl _ _) _
  have hN := fun w => natNewBad wk o l h b r hf w
  have hP := fun w => planTo wk o l h b r w
  have hR := fun w => refWrong wk o l h b r w
  have ht0 := hT _ _ hTW hk0
  unfold cfgV rbox at *
  go_enter Tryz.func4, Tryz.ntmps4
  go_wp2_with (first
    | (go_at_call 9; refine (hP _).mono ?_; rintro e w1 ⟨rfl, hk1⟩)
    | (go_at_call 14; refine (hN _).mono ?_; rintro e w2 ⟨rfl, hk2⟩)
    | (go_at_call 7; refine (hw _ (hT _ _ (hT _ _ ht0 hk1) hk2)).mono ?_; rintro e w3 ⟨rfl, hk3⟩
       have hbx3 := hk3.at (hk2.at (hk1.at hbx))
       have c0 : w3.cell? ⟨W.heap.size, 0, none⟩ = some (.int .i64 wk) := (by rw [cell_at hbx3]; rfl)
       have c1 : w3.cell? ⟨W.heap.size, 1, none⟩ = some (.int .u32 o) := (by rw [cell_at hbx3]; rfl)
       have c2 : w3.cell? ⟨W.heap.size, 2, none⟩ = some (.int .i64 l) := (by rw [cell_at hbx3]; rfl)
       have c3 : w3.cell? ⟨W.heap.size, 3, none⟩ = some (.int .i64 h) := (by rw [cell_at hbx3]; rfl)
       have c4 : w3.cell? ⟨W.heap.size, 4, none⟩ = some (.int .i64 b) := (by rw [cell_at hbx3]; rfl)
       have c5 : w3.cell? ⟨W.heap.size, 5, none⟩ = some (.int .i64 r) := (by rw [cell_at hbx3]; rfl))
    | (go_at_call 15; refine (hR _).mono ?_; rintro e w4 ⟨s, rfl, rfl, hs⟩; have hs' := nonempty (fun e => hf (hs.1 e))))
  go_ret
  exact ⟨rfl, (((hk0.trans hk1).trans hk2).trans hk3).alloc _⟩
end Go.Proofs.YtibcljekjjjnoaaGreatDoor.Kt
