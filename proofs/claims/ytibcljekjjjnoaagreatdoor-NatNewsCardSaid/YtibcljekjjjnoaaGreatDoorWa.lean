import Derived.Test.YtibcljekjjjnoaaGreatDoorProg
import Derived.WalkKit
import Derived.ProofKit
import Derived.RowKit3
import Derived.Laws.LoneSync
import Derived.RegionTactic
import Derived.RegionCalls
import Derived.ChangeAlike
import Derived.Deep.RegionWith
/- A part of the proof of NatNews: Wa. -/
set_option linter.all false
namespace Go.Proofs.YtibcljekjjjnoaaGreatDoor.Kt
open Go Go.RowKit
theorem info290 : (Tryz.prog.info? 290).map (fun i => (i.zero, i.size, i.bytes)) = some (some (.agg #[.int .u64 0]), 1, 8) := by kernel_rfl

abbrev Kept (w w' : World) : Prop := Below w.heap.size w w'
theorem Kept.trans {a b c : World} (h : Kept a b) (k : Kept b c) : Kept a c := Below.trans h (Below.mono k h.size)
theorem Kept.alloc {a w : World} (h : Kept a w) (o : Obj) : Kept a (w.alloc o) := Below.alloc h h.size o
theorem Kept.at {a b : World} (h : Kept a b) {k : Nat} {o : Obj} (ho : a.heap[k]? = some o) : b.heap[k]? = some o := by
  rw [h.block k (Array.getElem?_eq_some_iff.1 ho).1]; exact ho

/-- a row of n numbers in block g, behind a pointer to block b -/
structure CellsAt (W : World) (b g n : Nat) (f : Nat → Nat) : Prop where
  row : ∃ cap cur, W.heap[b]? = some (.cells #[.slice (some ⟨g, 0, none⟩) n cap, .int .u32 0, .int .i32 0, .int .u32 0] 225 (0, 0)) ∧ W.heap[g]? = some (.cells cur 290 (0, 0)) ∧ n ≤ cur.size ∧ n ≤ maxLen ∧ g ≠ b ∧ ∀ i, i < n → cur[i]? = some (.int .u64 (f i))
theorem CellsAt.keep {W W' : World} {b g n : Nat} {f : Nat → Nat} (h : CellsAt W b g n f) (k : Kept W W') : CellsAt W' b g n f := by
  obtain ⟨cap, cur, h1, h2, h3⟩ := h.row
  exact ⟨cap, cur, k.at h1, k.at h2, h3⟩
theorem made_at (z : Value) (n i : Nat) (hi : i < n) : (madeCells #[z] n)[i]? = some z := by
  simp [madeCells, hi, Nat.mod_one]

set_option maxRecDepth 4000 in
theorem cellsNew (n : Nat) (h0 : 1 ≤ n) (h1 : n ≤ 65536) (w : World) : Calls Tryz.prog 76 #[.int .i64 n] w fun e w' => ∃ b g, e = .returned (.tuple #[.pointer (some ⟨b, 0, none⟩), .int .i64 0]) ∧ Kept w w' ∧ w.heap.size ≤ b ∧ w.heap.size ≤ g ∧ CellsAt w' b g n fun _ => 0 := by
  obtain ⟨i0, hi, hz0, hz1, hz2⟩ := info_parts info290
  go_enter Tryz.func76, Tryz.ntmps76
  go_wp2_with (at_make; refine wpList_make_full _ rfl _ _ 212 rfl w.heap.size 290 i0 (.agg #[.int .u64 0]) 1 Tryz.underlying212 hi hz0 hz1 .i64 .i64 n n n rfl rfl rfl rfl (by rw [hz2]; omega) (by unfold maxLen; omega) (Nat.le_refl _) ?_; intro w1 hown hgr)
  go_ret2
  have hk : Kept w w1 := (Below.refl _ _).grown hgr (Nat.le_refl _) (fun k hk => by cases hk)
  refine ⟨w1.heap.size, w.heap.size, rfl, hk.alloc _, hk.size, Nat.le_refl _, ⟨n, ?_⟩⟩
  obtain ⟨hl, ⟨hv, _⟩ | ⟨g, cap, cur, hv, hb, hc, hn, hcap, hsz, htk⟩⟩ := hown
  · cases hv
  · cases hv
    have hlt := (Array.getElem?_eq_some_iff.1 hc).1
    refine ⟨cur, heap_alloc_new _ _, by rw [Below.heap_alloc w1 _ _ hlt]; exact hc, by rw [hsz]; omega, by unfold maxLen; omega, by omega, fun i hi => ?_⟩
    have e1 : (cur.toList.take (n * 1))[i]? = (madeCells #[.int .u64 0] (n * 1)).toList[i]? := by rw [htk]; rfl
    rw [Nat.mul_one, List.getElem?_take_of_lt hi] at e1
    have e2 := made_at (.int .u64 0) n i hi
    simpa [e2] using e1
end Go.Proofs.YtibcljekjjjnoaaGreatDoor.Kt

namespace Go.Proofs.YtibcljekjjjnoaaGreatDoor.Kt
open Go Go.RowKit
theorem cell_at {W : World} {b : Nat} {vs : Array Value} {t : TypeId} {z : Nat × Nat} (h : W.heap[b]? = some (.cells vs t z)) (i : Nat) : W.cell? ⟨b, i, none⟩ = vs[i]? := by simp [World.cell?, h]
theorem frozen_at {W : World} {b : Nat} {vs : Array Value} {t : TypeId} (h : W.heap[b]? = some (.cells vs t (0, 0))) (i : Nat) : W.frozen? ⟨b, i, none⟩ = false := by simp [World.frozen?, h]
theorem CellsAt.cells {W : World} {b g n : Nat} {f : Nat → Nat} (h : CellsAt W b g n f) : ∃ cap, W.cell? ⟨b, 0, none⟩ = some (.slice (some ⟨g, 0, none⟩) n cap) ∧ n ≤ maxLen ∧ ∀ i, i < n → W.cell? ⟨g, i, none⟩ = some (.int .u64 (f i)) := by
  obtain ⟨cap, cur, h1, h2, h3, h4, h5, h6⟩ := h.row
  exact ⟨cap, by rw [cell_at h1]; rfl, h4, fun i hi => by rw [cell_at h2]; exact h6 i hi⟩

theorem load177 {w : World} {a : Addr} {x : Int} (hc : w.cell? a = some (.int .u64 x)) : (callFunc 177 #[.pointer (some a)]).run Tryz.prog w = .ok (.value (.int .u64 x)) w :=
  run_call_load Tryz.func177 (by kernel_rfl) (by kernel_rfl) (by kernel_rfl) .u64 (by kernel_rfl) hc
theorem store174 {w : World} {a : Addr} {x : Value} {y : Int} (hc : w.cell? a = some x) (hz : w.frozen? a = false) : (callFunc 174 #[.pointer (some a), .int .u64 y]).run Tryz.prog w = .ok (.value (.tuple #[])) (w.setCell a (.int .u64 y)) :=
  run_call_store Tryz.func174 (by kernel_rfl) (by kernel_rfl) (by kernel_rfl) (by kernel_rfl) hc hz

set_option maxRecDepth 4000 in
theorem cellsLoad {W : World} {b g n : Nat} {f : Nat → Nat} (h : CellsAt W b g n f) (i : Nat) (hi : i < n) : Calls Tryz.prog 86 #[.pointer (some ⟨b, 0, none⟩), .int .i64 i] W fun e w' => e = .returned (.int .u64 (f i)) ∧ Kept W w' := by
  obtain ⟨cap, h1, h2, h3⟩ := h.cells
  have hc := h3 i hi
  unfold maxLen at h2
  have hd := load177 hc
  go_enter Tryz.func86, Tryz.ntmps86
  go_wp2
  go_ret
  exact ⟨rfl, Below.refl _ _⟩
theorem CellsAt.free {W : World} {b g n : Nat} {f : Nat → Nat} (h : CellsAt W b g n f) (i : Nat) : W.frozen? ⟨g, i, none⟩ = false := by
  obtain ⟨cap, cur, h1, h2, _⟩ := h.row
  exact frozen_at h2 i
theorem heap_setCell_at {W : World} {g i : Nat} {cur : Array Value} {t : TypeId} {z : Nat × Nat} {v : Value} (h : W.heap[g]? = some (.cells cur t z)) : (W.setCell ⟨g, i, none⟩ v).heap[g]? = some (.cells (cur.setIfInBounds i v) t z) := by
  simp [World.setCell, Array.getElem?_modify, h]
theorem CellsAt.set {W : World} {b g n : Nat} {f : Nat → Nat} (h : CellsAt W b g n f) (i v : Nat) (hi : i < n) : CellsAt (W.setCell ⟨g, i, none⟩ (.int .u64 v)) b g n fun j => if j = i then v else f j := by
  obtain ⟨cap, cur, h1, h2, h3, h4, h5, h6⟩ := h.row
  refine ⟨cap, _, ?_, heap_setCell_at h2, by simpa using h3, h4, h5, fun j hj => ?_⟩
  · rw [Below.heap_setCell _ _ _ _ (by simpa using h5.symm)]; exact h1
  · by_cases e : j = i
    · subst e
      rw [if_pos rfl, Array.getElem?_setIfInBounds_self_of_lt (by omega)]
    · rw [if_neg e, Array.getElem?_setIfInBounds_ne (fun h => e h.symm)]
      exact h6 j hj

set_option maxRecDepth 4000 in
theorem cellsStore {W : World} {b g n : Nat} {f : Nat → Nat} (h : CellsAt W b g n f) (i v : Nat) (hi : i < n) : Calls Tryz.prog 78 #[.pointer (some ⟨b, 0, none⟩), .int .i64 i, .int .u64 v] W fun e w' => e = .returned (.tuple #[]) ∧ w' = W.setCell ⟨g, i, none⟩ (.int .u64 v) := by
  obtain ⟨cap, h1, h2, h3⟩ := h.cells
  have hc := h3 i hi
  have hz := h.free i
  unfold maxLen at h2
  have hd := store174 (y := (v : Int)) hc hz
  go_enter Tryz.func78, Tryz.ntmps78
  go_wp2
  go_end0
  go_wp2
  go_end0
  exact ⟨rfl, rfl⟩
set_option maxRecDepth 4000 in
theorem cellsSize {W : World} {b g n : Nat} {f : Nat → Nat} (h : CellsAt W b g n f) : Calls Tryz.prog 79 #[.pointer (some ⟨b, 0, none⟩)] W fun e w' => e = .returned (.int .i64 n) ∧ Kept W w' := by
  obtain ⟨cap, h1, h2, h3⟩ := h.cells
  go_enter Tryz.func79, Tryz.ntmps79
  go_wp2
  go_ret
  exact ⟨rfl, Below.refl _ _⟩
end Go.Proofs.YtibcljekjjjnoaaGreatDoor.Kt

namespace Go.Proofs.YtibcljekjjjnoaaGreatDoor.Kt
open Go Go.RowKit
theorem info28 : (Tryz.prog.info? 28).map (fun i => (i.zero, i.size, i.bytes)) = some (some (.int .u64 0), 1, 8) := by kernel_rfl
def words (f : Nat → Nat) (n : Nat) : List Value := (List.range n).map fun j => .int .u64 (f j)
theorem words_succ (f : Nat → Nat) (n : Nat) : words f (n + 1) = words f n ++ [.int .u64 (f n)] := by simp [words, List.range_succ]
theorem words_length (f : Nat → Nat) (n : Nat) : (words f n).length = n := by simp [words]

theorem own_keep {w w' : World} {base : Nat} {e : TypeId} {size : Nat} {v : Value} {n : Nat} {xs : List Value} (h : w.ownsRow base e size v n xs) (k : Kept w w') : w'.ownsRow base e size v n xs := by
  refine ⟨h.1, ?_⟩
  rcases h.2 with h2 | ⟨g, cap, cur, h1, h2, h3, h4⟩
  · exact .inl h2
  · exact .inr ⟨g, cap, cur, h1, h2, k.at h3, h4⟩

set_option maxRecDepth 4000 in
theorem cellsCopy {W : World} {b g n : Nat} {f : Nat → Nat} (h : CellsAt W b g n f) (hn : n ≤ 65536) : Calls Tryz.prog 69 #[.pointer (some ⟨b, 0, none⟩)] W fun e w' => ∃ v, e = .returned v ∧ Kept W w' ∧ w'.ownsRow W.heap.size 28 1 v n (words f n) := by
  obtain ⟨i0, hi, hz0, hz1, hz2⟩ := info_parts info28
  go_enter Tryz.func69, Tryz.ntmps69
  go_wp2_with (go_at_call 79; refine (cellsSize h).mono ?_; rintro e w1 ⟨rfl, hk1⟩)
  go_loopw [3, 7] (fun v i wr => ∃ k : Nat, k ≤ n ∧ i = .int .i64 k ∧ wr.ownsRow W.heap.size 28 1 v k (words f k) ∧ Kept W wr) (fun _ i _ => n - (intOf i).toNat)
  case atStart => exact ⟨0, Nat.zero_le _, rfl, World.ownsRow_nil _ _ _ _, hk1⟩
  case round =>
    obtain ⟨k, hk, rfl, hown, hkr⟩ := hrel
    have hsz := hkr.size
    go_wp2_with (first
      | (go_at_call 86; refine (cellsLoad (h.keep hkr) k (by omega)).mono ?_; rintro e w2 ⟨rfl, hk2⟩; have hown2 := own_keep hown hk2; have hs2 := hk2.size)
      | (at_builtin; refine wpList_append_own _ rfl _ _ 41 rfl W.heap.size 28 i0 (.int .u64 0) 1 8 Tryz.underlying41 hi hz0 hz1 hz2 rfl (by decide) _ _ _ rfl (hown2.alloc _) ⟨w2.heap.size, 0, none⟩ 1 1 [.int .u64 (f k)] rfl rfl ?c1 ?c2 ?c3 ?c4 ?c5 ?_))
    case c1 =>
      intro j u hj
      match j, hj with
      | 0, hj => simp at hj; subst hj; simp [Addr.add]
    case c2 => intro u hu; simp at hu; subst hu; rfl
    case c3 => unfold maxLen; omega
    case c4 => omega
    case c5 => simp; omega
    · intro v' w3 hown' hgrow _
      have hk3 : Kept W w3 := by
        refine ((hkr.trans hk2).alloc _).grown hgrow (by simp; omega) fun k hk => ?_
        rcases hown2.2 with ⟨e, _⟩ | ⟨g', cap', cur', e, hb, _⟩
        · rw [e] at hk; cases hk
        · rw [e] at hk; cases hk; exact hb
      rw [← words_succ] at hown'
      clear hgrow hown hown2
      go_wp2
      go_roundw
      case rel => exact ⟨k + 1, by omega, by go_num, hown', hk3⟩
      case measure => simp [intOf]; omega
    · have hkn : k = n := by omega
      subst hkn
      go_wp2
      go_ret
      exact ⟨_, rfl, hkr, hown⟩
end Go.Proofs.YtibcljekjjjnoaaGreatDoor.Kt

namespace Go.Proofs.YtibcljekjjjnoaaGreatDoor.Kt
open Go Go.RowKit
theorem cellsNewI (m : Int) (n : Nat) (hm : m = n) (h0 : 1 ≤ n) (h1 : n ≤ 65536) (w : World) : Calls Tryz.prog 76 #[.int .i64 m] w fun e w' => ∃ b g, e = .returned (.tuple #[.pointer (some ⟨b, 0, none⟩), .int .i64 0]) ∧ Kept w w' ∧ w.heap.size ≤ b ∧ w.heap.size ≤ g ∧ CellsAt w' b g n fun _ => 0 := by
  subst hm; exact cellsNew n h0 h1 w
theorem cellsStoreI {W : World} {b g n : Nat} {f : Nat → Nat} (h : CellsAt W b g n f) (m x : Int) (i v : Nat) (hm : m = i) (hx : x = v) (hi : i < n) : Calls Tryz.prog 78 #[.pointer (some ⟨b, 0, none⟩), .int .i64 m, .int .u64 x] W fun e w' => e = .returned (.tuple #[]) ∧ w' = W.setCell ⟨g, i, none⟩ (.int .u64 v) := by
  subst hm; subst hx; exact cellsStore h i v hi
theorem mask_eq : ∀ r, r < 32 → r ≠ 0 → bits BinOp.andNot .u64 4294967295 (IntKind.u64.wrap (IntKind.u64.wrap (2 ^ r) - 1)) = ((4294967296 - 2 ^ r : Nat) : Int) := by decide +kernel
theorem i64_id (x : Int) (h0 : -9223372036854775808 ≤ x) (h1 : x < 9223372036854775808) : IntKind.i64.wrap x = x := by
  unfold IntKind.wrap
  simp only [IntKind.signed, IntKind.bits]
  simp
  omega
/-- a pool of n numbers, all free -/
def freeWord (n j : Nat) : Nat := if n % 32 ≠ 0 ∧ j = (n + 31) / 32 - 1 then 4294967296 - 2 ^ (n % 32) else 0
structure PoolAt (W : World) (p n : Nat) : Prop where
  at' : ∃ b g, W.heap[p]? = some (.cells #[.pointer (some ⟨b, 0, none⟩), .int .i64 n] 162 (0, 0)) ∧ CellsAt W b g ((n + 31) / 32) (freeWord n)
theorem PoolAt.keep {W W' : World} {p n : Nat} (h : PoolAt W p n) (k : Kept W W') : PoolAt W' p n := by
  obtain ⟨b, g, h1, h2⟩ := h.at'
  exact ⟨b, g, k.at h1, h2.keep k⟩
theorem CellsAt.congr {W : World} {b g n : Nat} {f f' : Nat → Nat} (h : CellsAt W b g n f) (e : ∀ i, i < n → f i = f' i) : CellsAt W b g n f' := by
  obtain ⟨cap, cur, h1, h2, h3, h4, h5, h6⟩ := h.row
  exact ⟨cap, cur, h1, h2, h3, h4, h5, fun i hi => by rw [← e i hi]; exact h6 i hi⟩

set_option maxRecDepth 4000 in
theorem poolNew1 (n : Nat) (h0 : 1 ≤ n) (h1 : n ≤ 1024) (hr : ¬ n % 32 = 0) (w : World) : Calls Tryz.prog 45 #[.int .i64 n] w fun e w' => ∃ p, e = .returned (.tuple #[.pointer (some ⟨p, 0, none⟩), .int .i64 0]) ∧ Kept w w' ∧ w.heap.size ≤ p ∧ PoolAt w' p n := by
  have hr1 : (n : Int) % 32 = ((n % 32 : Nat) : Int) := by omega
  have hr2 : n % 32 < 32 := by omega
  have hm : IntKind.i64.wrap (((n : Int) + 31) / 32 - 1) = (((n + 31) / 32 - 1 : Nat) : Int) := by rw [i64_id _ (by omega) (by omega)]; omega
  have hx := mask_eq (n % 32) hr2 hr
  have hw : ∀ j, freeWord n j = if j = (n + 31) / 32 - 1 then 4294967296 - 2 ^ (n % 32) else 0 := fun j => by
    unfold freeWord
    by_cases e : j = (n + 31) / 32 - 1 <;> simp [hr, e]
  have Hw : Hid (∀ j, freeWord n j = if j = (n + 31) / 32 - 1 then 4294967296 - 2 ^ (n % 32) else 0) := hw
  clear hw
  generalize n % 32 = r at hr hr1 hr2 hx Hw
  have Hm : Hid _ := hm
  have Hx : Hid _ := hx
  clear hm hx
  go_enter Tryz.func45, Tryz.ntmps45
  go_wp2_with (first
    | (go_at_call 76; refine (cellsNewI _ ((n + 31) / 32) (by omega) (by omega) (by omega) _).mono ?_; rintro e w1 ⟨b, g, rfl, hk1, hb1, hg1, hc1⟩))
  go_region_with (first
    | (go_at_call 79; refine (cellsSize (hc1.keep (Below.drew (Below.refl _ _)))).mono ?_; rintro e w2 ⟨rfl, hk2⟩)
    | (go_at_call 78; refine (cellsStoreI ((hc1.keep (Below.drew (Below.refl _ _))).keep hk2) _ _ ((n + 31) / 32 - 1) (4294967296 - 2 ^ r) Hm.out Hx.out (by omega)).mono ?_; rintro e w3 ⟨rfl, rfl⟩))
  have hk3 : Kept w (w2.setCell ⟨g, (n + 31) / 32 - 1, none⟩ (.int .u64 (4294967296 - 2 ^ r : Nat))) := by
    have hkw : Kept w w2 := (hk1.trans (Below.drew (Below.refl _ _))).trans hk2
    exact hkw.setCell hg1 _
  have hc3 := ((hc1.keep (Below.drew (Below.refl _ _))).keep hk2).set ((n + 31) / 32 - 1) (4294967296 - 2 ^ r) (by omega)
  have hsz := hk3.size
  generalize w2.setCell ⟨g, (n + 31) / 32 - 1, none⟩ (.int .u64 (4294967296 - 2 ^ r : Nat)) = w4 at *
  go_wp2
  go_ret2
  refine ⟨w4.heap.size, rfl, hk3.alloc _, hsz, ⟨b, g, heap_alloc_new _ _, ?_⟩⟩
  refine (hc3.congr fun j hj => (Hw.out j).symm).keep ((Below.refl _ _).alloc (Nat.le_refl _) _)
end Go.Proofs.YtibcljekjjjnoaaGreatDoor.Kt

namespace Go.Proofs.YtibcljekjjjnoaaGreatDoor.Kt
open Go Go.RowKit
set_option maxRecDepth 4000 in
theorem poolNew0 (n : Nat) (h0 : 1 ≤ n) (h1 : n ≤ 1024) (hr : n % 32 = 0) (w : World) : Calls Tryz.prog 45 #[.int .i64 n] w fun e w' => ∃ p, e = .returned (.tuple #[.pointer (some ⟨p, 0, none⟩), .int .i64 0]) ∧ Kept w w' ∧ w.heap.size ≤ p ∧ PoolAt w' p n := by
  have hr1 : (n : Int) % 32 = 0 := by omega
  have hw : ∀ j, freeWord n j = 0 := fun j => by simp [freeWord, hr]
  have Hw : Hid (∀ j, freeWord n j = 0) := hw
  clear hw
  go_enter Tryz.func45, Tryz.ntmps45
  go_wp2_with (first
    | (go_at_call 76; refine (cellsNewI _ ((n + 31) / 32) (by omega) (by omega) (by omega) _).mono ?_; rintro e w1 ⟨b, g, rfl, hk1, hb1, hg1, hc1⟩))
  go_ret2
  exact ⟨w1.heap.size, rfl, hk1.alloc _, hk1.size, ⟨b, g, heap_alloc_new _ _, (hc1.congr fun j hj => (Hw.out j).symm).keep ((Below.refl _ _).alloc (Nat.le_refl _) _)⟩⟩
theorem poolNew (n : Nat) (h0 : 1 ≤ n) (h1 : n ≤ 1024) (w : World) : Calls Tryz.prog 45 #[.int .i64 n] w fun e w' => ∃ p, e = .returned (.tuple #[.pointer (some ⟨p, 0, none⟩), .int .i64 0]) ∧ Kept w w' ∧ w.heap.size ≤ p ∧ PoolAt w' p n := by
  by_cases h : n % 32 = 0
  · exact poolNew0 n h0 h1 h w
  · exact poolNew1 n h0 h1 h w

/-- places of n bindings, all free -/
structure PlacesAt (W : World) (p n : Nat) : Prop where
  at' : ∃ b g, W.heap[p]? = some (.cells #[.pointer (some ⟨b, 0, none⟩)] 158 (0, 0)) ∧ CellsAt W b g (2 * n) (fun _ => 0) ∧ n ≤ 3072
theorem PlacesAt.keep {W W' : World} {p n : Nat} (h : PlacesAt W p n) (k : Kept W W') : PlacesAt W' p n := by
  obtain ⟨b, g, h1, h2, h3⟩ := h.at'
  exact ⟨b, g, k.at h1, h2.keep k, h3⟩
set_option maxRecDepth 4000 in
theorem placeNew (n : Nat) (h0 : 1 ≤ n) (h1 : n ≤ 3072) (w : World) : Calls Tryz.prog 42 #[.int .i64 n] w fun e w' => ∃ p, e = .returned (.tuple #[.pointer (some ⟨p, 0, none⟩), .int .i64 0]) ∧ Kept w w' ∧ w.heap.size ≤ p ∧ PlacesAt w' p n := by
  go_enter Tryz.func42, Tryz.ntmps42
  go_wp2_with (first
    | (go_at_call 76; refine (cellsNewI _ (2 * n) (by omega) (by omega) (by omega) _).mono ?_; rintro e w1 ⟨b, g, rfl, hk1, hb1, hg1, hc1⟩))
  go_ret2
  exact ⟨w1.heap.size, rfl, hk1.alloc _, hk1.size, ⟨b, g, heap_alloc_new _ _, hc1.keep ((Below.refl _ _).alloc (Nat.le_refl _) _), h1⟩⟩
set_option maxRecDepth 4000 in
theorem placesSize {W : World} {p n : Nat} (h : PlacesAt W p n) : Calls Tryz.prog 55 #[.pointer (some ⟨p, 0, none⟩)] W fun e w' => e = .returned (.int .i64 n) ∧ Kept W w' := by
  obtain ⟨b, g, h1, h2, h3⟩ := h.at'
  have hc : W.cell? ⟨p, 0, none⟩ = some (.pointer (some ⟨b, 0, none⟩)) := by rw [cell_at h1]; rfl
  have he : (2 * (n : Int)) / 2 = n := by omega
  go_enter Tryz.func55, Tryz.ntmps55
  go_wp2_with (first
    | (go_at_call 79; refine (cellsSize h2).mono ?_; rintro e w1 ⟨rfl, hk1⟩))
  go_ret
  exact ⟨by go_num, hk1⟩
set_option maxRecDepth 4000 in
theorem cacheNew (p : Nat) (k : Int) (w : World) : Calls Tryz.prog 47 #[.pointer (some ⟨p, 0, none⟩), .int .i64 k] w fun e w' => ∃ c, e = .returned (.tuple #[.pointer (some ⟨c, 0, none⟩), .int .i64 0]) ∧ Kept w w' ∧ w.heap.size ≤ c ∧ w'.heap[c]? = some (.cells #[.pointer (some ⟨p, 0, none⟩), .int .i64 k, .slice none 0 0, .pointer none] 182 (0, 0)) := by
  go_enter Tryz.func47, Tryz.ntmps47
  go_wp2
  go_ret2
  exact ⟨w.heap.size, rfl, Kept.alloc (Below.refl _ _) _, Nat.le_refl _, heap_alloc_new _ _⟩
set_option maxRecDepth 8000 in
theorem wheelNew (w : World) : Calls Tryz.prog 46 #[] w fun e w' => ∃ c, e = .returned (.pointer (some ⟨c, 0, none⟩)) ∧ Kept w w' ∧ w.heap.size ≤ c := by
  go_enter Tryz.func46, Tryz.ntmps46
  go_wp2
  go_ret
  exact ⟨w.heap.size, rfl, Kept.alloc (Below.refl _ _) _, Nat.le_refl _⟩
end Go.Proofs.YtibcljekjjjnoaaGreatDoor.Kt

namespace Go.Proofs.YtibcljekjjjnoaaGreatDoor.Kt
open Go Go.RowKit
theorem info237 : (Tryz.prog.info? 237).map (fun i => (i.zero, i.size)) = some (some (.slice none 0 0), 1) := by kernel_rfl
theorem info237b : ((Tryz.prog.info? 237).map fun i => decide (i.bytes ≤ 64)) = some true := by kernel_rfl
/-- the epochs of n workers, nothing given up -/
structure EpochsAt (W : World) (p n : Nat) : Prop where
  at' : ∃ b g q cap cur, W.heap[p]? = some (.cells #[.pointer (some ⟨b, 0, none⟩), .slice (some ⟨q, 0, none⟩) n cap] 165 (0, 0)) ∧ CellsAt W b g (n + 1) (fun _ => 0) ∧ W.heap[q]? = some (.cells cur 237 (0, 0)) ∧ n ≤ 64 ∧ ∀ i, i < n → cur[i]? = some (.slice none 0 0)
theorem EpochsAt.keep {W W' : World} {p n : Nat} (h : EpochsAt W p n) (k : Kept W W') : EpochsAt W' p n := by
  obtain ⟨b, g, q, cap, cur, h1, h2, h3, h4⟩ := h.at'
  exact ⟨b, g, q, cap, cur, k.at h1, h2.keep k, k.at h3, h4⟩
set_option maxRecDepth 4000 in
theorem epochNew (n : Nat) (h0 : 1 ≤ n) (h1 : n ≤ 64) (w : World) : Calls Tryz.prog 41 #[.int .i64 n] w fun e w' => ∃ p, e = .returned (.tuple #[.pointer (some ⟨p, 0, none⟩), .int .i64 0]) ∧ Kept w w' ∧ w.heap.size ≤ p ∧ EpochsAt w' p n := by
  obtain ⟨i0, hi, hz⟩ := Option.map_eq_some_iff.1 info237
  have hz0 : i0.zero = some (.slice none 0 0) := congrArg Prod.fst hz
  have hz1 : i0.size = 1 := congrArg Prod.snd hz
  have hz2 : i0.bytes ≤ 64 := by
    obtain ⟨i1, e1, e2⟩ := Option.map_eq_some_iff.1 info237b
    rw [hi] at e1
    cases e1
    simpa using e2
  have hb3 : i0.bytes * n ≤ 281474976710656 := Nat.le_trans (Nat.mul_le_mul hz2 h1) (by decide)
  clear hz hz2
  go_enter Tryz.func41, Tryz.ntmps41
  go_wp2_with (first
    | (go_at_call 76; refine (cellsNewI _ (n + 1) (by omega) (by omega) (by omega) _).mono ?_; rintro e w1 ⟨b, g, rfl, hk1, hb1, hg1, hc1⟩; have hsz1 := hk1.size)
    | (at_make; refine wpList_make_full _ rfl _ _ 163 rfl w1.heap.size 237 i0 (.slice none 0 0) 1 Tryz.underlying163 hi hz0 hz1 .i64 .i64 n n n rfl rfl rfl rfl hb3 (by unfold maxLen; omega) (Nat.le_refl _) ?_; intro w2 hown hgr))
  go_ret2
  have hk2 : Kept w1 w2 := (Below.refl _ _).grown hgr (Nat.le_refl _) (fun k hk => by cases hk)
  have hk3 : Kept w2 (w2.alloc (.cells #[.pointer (some ⟨b, 0, none⟩), .slice (some ⟨w1.heap.size, 0, none⟩) n n] 165)) := (Below.refl _ _).alloc (Nat.le_refl _) _
  refine ⟨w2.heap.size, rfl, (hk1.trans hk2).trans hk3, Nat.le_trans hk1.size hk2.size, ?_⟩
  obtain ⟨hl, ⟨hv, _⟩ | ⟨g', cap, cur, hv, hb, hc, hn, hcap, hsz, htk⟩⟩ := hown
  · cases hv
  · cases hv
    refine ⟨b, g, w1.heap.size, n, cur, heap_alloc_new _ _, (hc1.keep hk2).keep hk3, hk3.at hc, h1, fun i hi' => ?_⟩
    have e1 : (cur.toList.take (n * 1))[i]? = (madeCells #[.slice none 0 0] (n * 1)).toList[i]? := by rw [htk]; rfl
    rw [Nat.mul_one, List.getElem?_take_of_lt hi'] at e1
    have e2 := made_at (.slice none 0 0) n i hi'
    simpa [e2] using e1

def pows : List Nat := [2, 4, 8, 16, 32, 64, 128, 256, 512, 1024]
set_option maxRecDepth 4000 in
theorem tableFine (n : Nat) (h : n ∈ pows) (w : World) : Calls Tryz.prog 77 #[.int .i64 n] w fun e w' => e = .returned (.bool true) ∧ Kept w w' := by
  simp only [pows, List.mem_cons, List.not_mem_nil, or_false] at h
  rcases h with rfl | rfl | rfl | rfl | rfl | rfl | rfl | rfl | rfl | rfl
  all_goals
    go_enter Tryz.func77, Tryz.ntmps77
    go_wp2
    go_ret
    exact ⟨by kernel_rfl, Below.refl _ _⟩
end Go.Proofs.YtibcljekjjjnoaaGreatDoor.Kt
