import Derived.Test.YtibcljekjjjnoaaGreatDoorWa
import Derived.WalkSpells
/- A part of the proof of NatNews: Wb. -/
set_option linter.all false
namespace Go.Proofs.YtibcljekjjjnoaaGreatDoor.Kt
open Go Go.RowKit
set_option maxRecDepth 4000 in
theorem tableNew {W : World} {p n : Nat} (h : PlacesAt W p n) (k : Nat) (hk : k ∈ pows) : Calls Tryz.prog 44 #[.pointer (some ⟨p, 0, none⟩), .int .i64 k] W fun e w' => ∃ t, e = .returned (.tuple #[.pointer (some ⟨t, 0, none⟩), .int .i64 0]) ∧ Kept W w' ∧ W.heap.size ≤ t := by
  have hn : n ≤ 3072 := by obtain ⟨_, _, _, _, h3⟩ := h.at'; exact h3
  have hb : 2 ≤ k ∧ k ≤ 1024 := by
    simp only [pows, List.mem_cons, List.not_mem_nil, or_false] at hk
    omega
  obtain ⟨hb1, hb2⟩ := hb
  go_enter Tryz.func44, Tryz.ntmps44
  go_wp2_with (first
    | (go_at_call 77; refine (tableFine k hk _).mono ?_; rintro e w1 ⟨rfl, hk1⟩)
    | (go_at_call 55; refine (placesSize (h.keep hk1)).mono ?_; rintro e w2 ⟨rfl, hk2⟩)
    | (go_at_call 76; refine (cellsNewI _ (k + 1) (by omega) (by omega) (by omega) _).mono ?_; rintro e w3 ⟨b, g, rfl, hk3, hb3, hg3, hc3⟩))
  go_ret2
  have h4 := (hk1.trans hk2).trans hk3
  exact ⟨w3.heap.size, rfl, h4.alloc _, h4.size⟩

def cfgV (w o l h b r : Int) : Value := .agg #[.int .i64 w, .int .u32 o, .int .i64 l, .int .i64 h, .int .i64 b, .int .i64 r]
theorem between (n lo hi : Int) (w : World) : Calls Tryz.prog 68 #[.int .i64 n, .int .i64 lo, .int .i64 hi] w fun e w' => e = .returned (.bool (decide (lo ≤ n ∧ n ≤ hi))) ∧ w' = w := by
  by_cases h1 : lo ≤ n <;> by_cases h2 : n ≤ hi
  all_goals
    go_enter Tryz.func68, Tryz.ntmps68
    go_wp2
    go_ret
    refine ⟨?_, rfl⟩
    simp <;> omega
def Fine (wk o l h b r : Int) : Prop := (1 ≤ wk ∧ wk ≤ 64) ∧ (o ≠ 0 ∧ o ≠ 4294967295) ∧ (1 ≤ l ∧ h ≤ 65535 ∧ l ≤ h ∧ h - l < 1024) ∧ (2 ≤ b ∧ b ≤ 1024 ∧ bits BinOp.and IntKind.i64 b (b - 1) = 0) ∧ (1 ≤ r ∧ r ≤ 256)
def boxV (wk o l h b r : Int) : Obj := .cells #[.int .i64 wk, .int .u32 o, .int .i64 l, .int .i64 h, .int .i64 b, .int .i64 r] 33
set_option maxRecDepth 4000 in
theorem planWrong (wk o l h b r : Int) (w : World) : Calls Tryz.prog 28 #[cfgV wk o l h b r] w fun e w' => ∃ s, e = .returned (.string s) ∧ w' = w.alloc (boxV wk o l h b r) ∧ (s = ByteArray.empty ↔ Fine wk o l h b r) := by
  unfold cfgV
  go_enter Tryz.func28, Tryz.ntmps28
  go_wp2_with (first
    | (go_at_call 68; refine (between _ _ _ _).mono ?_; rintro e w1 ⟨rfl, rfl⟩))
  all_goals go_ret
  all_goals refine ⟨_, rfl, by first | rfl | (unfold boxV; simp_all), ?_⟩
  all_goals first
    | (refine iff_of_true rfl ?_; simp_all [Fine]; done)
    | (refine iff_of_false (by decide) ?_; rintro ⟨f1, f2, f3, f4, f5⟩; simp_all; omega)
    | (refine iff_of_false (by decide) ?_; rintro ⟨f1, f2, f3, f4, f5⟩; simp_all; done)
end Go.Proofs.YtibcljekjjjnoaaGreatDoor.Kt

namespace Go.Proofs.YtibcljekjjjnoaaGreatDoor.Kt
open Go Go.RowKit
set_option maxRecDepth 4000 in
theorem planPorts (wk o l h b r : Int) (hf : Fine wk o l h b r) (w : World) : Calls Tryz.prog 40 #[cfgV wk o l h b r] w fun e w' => e = .returned (.int .i64 (h - l + 1)) ∧ w' = (w.alloc (boxV wk o l h b r)).alloc (boxV wk o l h b r) := by
  have hW : Calls Tryz.prog 28 #[cfgV wk o l h b r] (w.alloc (boxV wk o l h b r)) fun e w' => e = .returned (.string ByteArray.empty) ∧ w' = (w.alloc (boxV wk o l h b r)).alloc (boxV wk o l h b r) :=
    (planWrong wk o l h b r _).mono fun e w' ⟨s, h1, h2, h3⟩ => ⟨by rw [h1, h3.2 hf], h2⟩
  obtain ⟨-, -, ⟨f1, f2, f3, f4⟩, -, -⟩ := hf
  unfold cfgV boxV at *
  go_enter Tryz.func40, Tryz.ntmps40
  go_wp2_with (first
    | (go_at_call 28; refine hW.mono ?_; rintro e w1 ⟨rfl, rfl⟩))
  go_ret
  exact ⟨rfl, rfl⟩
theorem planKind (p : Int) (k : Int) (hk : (p = 1 ∧ k = 0) ∨ (p = 6 ∧ k = 1) ∨ (p = 17 ∧ k = 2)) (w : World) : Calls Tryz.prog 80 #[.int .i64 p] w fun e w' => e = .returned (.int .i64 k) ∧ w' = w := by
  rcases hk with ⟨rfl, rfl⟩ | ⟨rfl, rfl⟩ | ⟨rfl, rfl⟩
  all_goals
    go_enter Tryz.func80, Tryz.ntmps80
    go_wp2
    go_ret
    exact ⟨rfl, rfl⟩
end Go.Proofs.YtibcljekjjjnoaaGreatDoor.Kt

namespace Go.Proofs.YtibcljekjjjnoaaGreatDoor.Kt
open Go Go.RowKit
set_option maxRecDepth 4000 in
theorem planPlaces (wk o l h b r : Int) (hf : Fine wk o l h b r) (w : World) : Calls Tryz.prog 43 #[cfgV wk o l h b r] w fun e w' => e = .returned (.int .i64 (3 * (h - l + 1))) ∧ Kept w w' := by
  have hW := planPorts wk o l h b r hf (w.alloc (boxV wk o l h b r))
  obtain ⟨-, -, ⟨f1, f2, f3, f4⟩, -, -⟩ := hf
  unfold cfgV boxV at *
  go_enter Tryz.func43, Tryz.ntmps43
  go_wp2_with (first
    | (go_at_call 40; refine hW.mono ?_; rintro e w1 ⟨rfl, rfl⟩))
  go_ret
  exact ⟨by go_num, Kept.alloc (Kept.alloc (Kept.alloc (Below.refl _ _) _) _) _⟩
set_option maxRecDepth 4000 in
theorem planPlaceIn (wk o l h b r : Int) (hf : Fine wk o l h b r) (p k port : Int) (hk : (p = 1 ∧ k = 0) ∨ (p = 6 ∧ k = 1) ∨ (p = 17 ∧ k = 2)) (h1 : l ≤ port) (h2 : port ≤ h) (w : World) :
    Calls Tryz.prog 48 #[cfgV wk o l h b r, .int .i64 p, .int .i64 port] w fun e w' => e = .returned (.int .i64 (k * (h - l + 1) + port - l)) ∧ Kept w w' := by
  have hW := planPorts wk o l h b r hf (w.alloc (boxV wk o l h b r))
  have hK := planKind p k hk (((w.alloc (boxV wk o l h b r)).alloc (boxV wk o l h b r)).alloc (boxV wk o l h b r))
  obtain ⟨-, -, ⟨f1, f2, f3, f4⟩, -, -⟩ := hf
  have hk0 : 0 ≤ k ∧ k ≤ 2 := by omega
  obtain ⟨hk0, hk2⟩ := hk0
  have hm : 0 ≤ k * (h - l + 1) := Int.mul_nonneg hk0 (by omega)
  have hm2 : k * (h - l + 1) ≤ 2 * 65536 := by
    have := Int.mul_le_mul hk2 (show h - l + 1 ≤ 65536 by omega) (by omega) (by decide)
    omega
  clear hk
  unfold cfgV boxV at *
  go_enter Tryz.func48, Tryz.ntmps48
  go_wp2_with (first
    | (go_at_call 40; refine hW.mono ?_; rintro e w1 ⟨rfl, rfl⟩)
    | (go_at_call 80; refine hK.mono ?_; rintro e w1 ⟨rfl, rfl⟩)
    | (go_at_call 68; refine (between _ _ _ _).mono ?_; rintro e w1 ⟨rfl, rfl⟩))
  · exfalso
    simp_all
    omega
  · go_ret
    refine ⟨?_, Kept.alloc (Kept.alloc (Kept.alloc (Below.refl _ _) _) _) _⟩
    have e1 := i64_id (k * (h - l + 1)) (by omega) (by omega)
    have e2 := i64_id (k * (h - l + 1) + port) (by omega) (by omega)
    have e3 := i64_id (k * (h - l + 1) + port - l) (by omega) (by omega)
    simp [e1, e2, e3]
set_option maxRecDepth 4000 in
theorem planPlaceOut (wk o l h b r : Int) (hf : Fine wk o l h b r) (p k port : Int) (hk : (p = 1 ∧ k = 0) ∨ (p = 6 ∧ k = 1) ∨ (p = 17 ∧ k = 2)) (h1 : port < l ∨ h < port) (w : World) :
    Calls Tryz.prog 48 #[cfgV wk o l h b r, .int .i64 p, .int .i64 port] w fun e w' => e = .returned (.int .i64 (-1)) ∧ Kept w w' := by
  have hW := planPorts wk o l h b r hf (w.alloc (boxV wk o l h b r))
  have hK := planKind p k hk (((w.alloc (boxV wk o l h b r)).alloc (boxV wk o l h b r)).alloc (boxV wk o l h b r))
  obtain ⟨-, -, ⟨f1, f2, f3, f4⟩, -, -⟩ := hf
  have hk0 : 0 ≤ k ∧ k ≤ 2 := by omega
  obtain ⟨hk0, hk2⟩ := hk0
  clear hk
  unfold cfgV boxV at *
  go_enter Tryz.func48, Tryz.ntmps48
  go_wp2_with (first
    | (go_at_call 40; refine hW.mono ?_; rintro e w1 ⟨rfl, rfl⟩)
    | (go_at_call 80; refine hK.mono ?_; rintro e w1 ⟨rfl, rfl⟩)
    | (go_at_call 68; refine (between _ _ _ _).mono ?_; rintro e w1 ⟨rfl, rfl⟩))
  · go_ret
    exact ⟨rfl, Kept.alloc (Kept.alloc (Kept.alloc (Below.refl _ _) _) _) _⟩
  · exfalso
    simp_all
    omega
end Go.Proofs.YtibcljekjjjnoaaGreatDoor.Kt

namespace Go.Proofs.YtibcljekjjjnoaaGreatDoor.Kt
open Go Go.RowKit
theorem setCell_same {W : World} {b i : Nat} {vs : Array Value} {t : TypeId} {z : Nat × Nat} {v : Value} (h : W.heap[b]? = some (.cells vs t z)) (hv : vs[i]? = some v) : W.setCell ⟨b, i, none⟩ v = W := by
  have e : vs.setIfInBounds i v = vs := by
    obtain ⟨hi, hx⟩ := Array.getElem?_eq_some_iff.1 hv
    apply Array.ext_getElem?
    intro j
    by_cases hj : i = j
    · subst hj; rw [Array.getElem?_setIfInBounds_self_of_lt hi, hv]
    · rw [Array.getElem?_setIfInBounds_ne hj]
  have hh : (W.setCell ⟨b, i, none⟩ v).heap = W.heap := by
    apply Array.ext_getElem?
    intro j
    by_cases hj : j = b
    · subst hj
      rw [heap_setCell_at h, e, h]
    · exact Below.heap_setCell _ _ _ _ hj
  have h2 : W.setCell ⟨b, i, none⟩ v = { W with heap := (W.setCell ⟨b, i, none⟩ v).heap } := rfl
  rw [h2, hh]

set_option maxRecDepth 4000 in
theorem placesThere {W : World} {p n : Nat} (h : PlacesAt W p n) (i : Nat) (hi : i < n) : Calls Tryz.prog 84 #[.pointer (some ⟨p, 0, none⟩), .int .i64 i] W fun e w' => e = .returned (.bool true) ∧ Kept W w' := by
  go_enter Tryz.func84, Tryz.ntmps84
  go_wp2_with (first
    | (go_at_call 55; refine (placesSize h).mono ?_; rintro e w1 ⟨rfl, hk1⟩))
  go_ret
  exact ⟨by first | (simp; done) | (simp; omega), hk1⟩
def word0 : Value := .agg #[.int .i64 0, .int .i64 0, .int .i64 0, .int .i64 0]
set_option maxRecDepth 4000 in
theorem unpack0 (W : World) : Calls Tryz.prog 85 #[.int .u64 0] W fun e w' => e = .returned word0 ∧ Kept W w' := by
  unfold word0
  go_enter Tryz.func85, Tryz.ntmps85
  go_wp2
  refine ⟨rfl, .agg #[.int .i64 0, .int .i64 0, .int .i64 0, .int .i64 0], ?_, rfl, ?_⟩
  · simp [results, Tryz.results85, go_sem]
    exact ⟨by kernel_rfl, by kernel_rfl, by kernel_rfl⟩
  · exact Kept.alloc (Below.refl _ _) _
set_option maxRecDepth 4000 in
theorem givenNil {W : World} {p n : Nat} (h : EpochsAt W p n) (i : Nat) (hi : i < n) : Calls Tryz.prog 88 #[.pointer (some ⟨p, 0, none⟩), .int .i64 i] W fun e w' => e = .returned (.slice none 0 0) ∧ Kept W w' := by
  obtain ⟨b, g, q, cap, cur, h1, h2, h3, h4, h5⟩ := h.at'
  have hc1 : W.cell? ⟨p, 1, none⟩ = some (.slice (some ⟨q, 0, none⟩) n cap) := by rw [cell_at h1]; rfl
  have hc2 : W.cell? ⟨q, i, none⟩ = some (.slice none 0 0) := by rw [cell_at h3]; exact h5 i hi
  clear h1 h2 h3 h5 h
  go_enter Tryz.func88, Tryz.ntmps88
  go_wp2
  refine wp_loop_rounds 1 ?_
  rw [rounds_succ]
  go_wp2
  go_ret
  exact ⟨rfl, Below.refl _ _⟩
set_option maxRecDepth 4000 in
theorem containsNil (x : Int) (W : World) : Calls Tryz.prog 49 #[.slice none 0 0, .int .i64 x] W fun e w' => e = .returned (.bool false) ∧ Kept W w' := by
  go_enter Tryz.func49, Tryz.ntmps49
  go_wp2
  refine wp_loop_rounds 1 ?_
  rw [rounds_succ]
  go_wp2
  go_ret
  exact ⟨rfl, Below.refl _ _⟩
set_option maxRecDepth 4000 in
theorem placesLoad {W : World} {p n : Nat} (h : PlacesAt W p n) (i : Nat) (hi : i < n) : Calls Tryz.prog 53 #[.pointer (some ⟨p, 0, none⟩), .int .i64 i] W fun e w' => e = .returned word0 ∧ Kept W w' := by
  have hk0 : Kept W (W.alloc (.cells #[.int .i64 0, .int .i64 0, .int .i64 0, .int .i64 0] 120)) := Kept.alloc (Below.refl _ _) _
  have hp := h.keep hk0
  have hT := placesThere hp i hi
  have hn : n ≤ 3072 := by obtain ⟨_, _, _, _, h3⟩ := h.at'; exact h3
  have hsz : W.heap.size < (W.alloc (.cells #[.int .i64 0, .int .i64 0, .int .i64 0, .int .i64 0] 120)).heap.size := by simp
  have hnew : (W.alloc (.cells #[.int .i64 0, .int .i64 0, .int .i64 0, .int .i64 0] 120)).heap[W.heap.size]? = some (.cells #[.int .i64 0, .int .i64 0, .int .i64 0, .int .i64 0] 120 (0, 0)) := heap_alloc_new _ _
  obtain ⟨b, g, q1, q2, q3⟩ := hp.at'
  have E2 : Hid ((2 : Int) * i = ((2 * i : Nat) : Int)) := (by omega : (2 : Int) * i = ((2 * i : Nat) : Int))
  go_enter Tryz.func53, Tryz.ntmps53
  go_wp2_with (first
    | (go_at_call 84; refine hT.mono ?_; rintro e w1 ⟨rfl, hk1⟩; have hc0 : w1.cell? ⟨p, 0, none⟩ = some (.pointer (some ⟨b, 0, none⟩)) := (by rw [cell_at (hk1.at q1)]; rfl))
    | (go_at_call 86; rw [E2.out]; refine (cellsLoad (q2.keep hk1) (2 * i) (by omega)).mono ?_; rintro e w2 ⟨rfl, hk2⟩)
    | (go_at_call 85; refine (unpack0 w2).mono ?_; rintro e w3 ⟨rfl, hk3⟩; have hn3 := hk3.at (hk2.at (hk1.at hnew)); have d0 : w3.cell? ⟨W.heap.size, 0, none⟩ = some (.int .i64 0) := (by rw [cell_at hn3]; rfl); have d1 : w3.cell? ⟨W.heap.size, 1, none⟩ = some (.int .i64 0) := (by rw [cell_at hn3]; rfl); have d2 : w3.cell? ⟨W.heap.size, 2, none⟩ = some (.int .i64 0) := (by rw [cell_at hn3]; rfl); have d3 : w3.cell? ⟨W.heap.size, 3, none⟩ = some (.int .i64 0) := (by rw [cell_at hn3]; rfl); have z0 := frozen_at hn3 0; have z1 := frozen_at hn3 1; have z2 := frozen_at hn3 2; have z3 := frozen_at hn3 3; unfold word0))
  have hkw : Kept W w3 := ((hk0.trans hk1).trans hk2).trans hk3
  have s0 := setCell_same (i := 0) (v := .int .i64 0) hn3 rfl
  have s1 := setCell_same (i := 1) (v := .int .i64 0) hn3 rfl
  have s2 := setCell_same (i := 2) (v := .int .i64 0) hn3 rfl
  have s3 := setCell_same (i := 3) (v := .int .i64 0) hn3 rfl
  rw [s0, s1, s2, s3]
  refine ⟨rfl, word0, ?_, rfl, hkw⟩
  unfold word0
  simp [results, Tryz.results53, go_sem, d0, d1, d2, d3]
end Go.Proofs.YtibcljekjjjnoaaGreatDoor.Kt

namespace Go.Proofs.YtibcljekjjjnoaaGreatDoor.Kt
open Go Go.RowKit
/-- an empty cache -/
def CacheAt (W : World) (c p : Nat) (k : Int) : Prop := W.heap[c]? = some (.cells #[.pointer (some ⟨p, 0, none⟩), .int .i64 k, .slice none 0 0, .pointer none] 182 (0, 0))
theorem CacheAt.keep {W W' : World} {c p : Nat} {k : Int} (h : CacheAt W c p k) (hk : Kept W W') : CacheAt W' c p k := hk.at h
set_option maxRecDepth 4000 in
theorem cloneNil (W : World) : Calls Tryz.prog 82 #[.slice none 0 0] W fun e w' => e = .returned (.slice none 0 0) ∧ Kept W w' := by
  have hd := run_eql_nil_slice (P := Tryz.prog) W 24 3 none 0 0 0 0 Tryz.underlying24
  go_enter Tryz.func82, Tryz.ntmps82
  go_wp2
  go_ret
  exact ⟨rfl, Below.refl _ _⟩
set_option maxRecDepth 4000 in
theorem cacheAll {W : World} {c p : Nat} {k : Int} (h : CacheAt W c p k) : Calls Tryz.prog 51 #[.pointer (some ⟨c, 0, none⟩)] W fun e w' => e = .returned (.slice none 0 0) ∧ Kept W w' := by
  have hc : W.cell? ⟨c, 2, none⟩ = some (.slice none 0 0) := by rw [cell_at h]; rfl
  go_enter Tryz.func51, Tryz.ntmps51
  go_wp2_with (go_at_call 82; refine (cloneNil _).mono ?_; rintro e w1 ⟨rfl, hk1⟩)
  go_ret
  exact ⟨rfl, hk1⟩
set_option maxRecDepth 4000 in
theorem cacheLeaving {W : World} {c p : Nat} {k : Int} (h : CacheAt W c p k) : Calls Tryz.prog 52 #[.pointer (some ⟨c, 0, none⟩)] W fun e w' => e = .returned (.slice none 0 0) ∧ Kept W w' := by
  have hc : W.cell? ⟨c, 3, none⟩ = some (.pointer none) := by rw [cell_at h]; rfl
  go_enter Tryz.func52, Tryz.ntmps52
  go_wp2
  go_ret
  exact ⟨rfl, Below.refl _ _⟩
set_option maxRecDepth 4000 in
theorem containsNilU (x : Int) (W : World) : Calls Tryz.prog 87 #[.slice none 0 0, .int .u64 x] W fun e w' => e = .returned (.bool false) ∧ Kept W w' := by
  go_enter Tryz.func87, Tryz.ntmps87
  go_wp2
  refine wp_loop_rounds 1 ?_
  rw [rounds_succ]
  go_wp2
  go_ret
  exact ⟨rfl, Below.refl _ _⟩
end Go.Proofs.YtibcljekjjjnoaaGreatDoor.Kt
