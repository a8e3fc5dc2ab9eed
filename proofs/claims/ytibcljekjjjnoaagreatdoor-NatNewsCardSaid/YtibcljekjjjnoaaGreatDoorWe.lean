import Derived.Test.YtibcljekjjjnoaaGreatDoorWd
import Derived.Deep.Cut
import Derived.Deep.DeepCutAuto
/- A part of the proof of NatNews: We. -/
set_option linter.all false
namespace Go.Proofs.YtibcljekjjjnoaaGreatDoor.Kt
open Go Go.RowKit
/-- the fields of a translator -/
def natC (wk o l h b r : Int) (n : Nat) (ep p0 p1 p2 pc tb sl : Value) : Array Value := #[.int .i64 wk, .int .u32 o, .int .i64 l, .int .i64 h, .int .i64 b, .int .i64 r, .int .i64 n, ep, p0, p1, p2, pc, tb, sl]
/-- all blocks but those of a translator and of its row of workers stay -/
def KeptX (W W' : World) : Prop := W.heap.size ≤ W'.heap.size ∧ ∀ (b : Nat) (vs : Array Value) (t : TypeId) (z : Nat × Nat), t ≠ 87 → t ≠ 78 → W.heap[b]? = some (.cells vs t z) → W'.heap[b]? = some (.cells vs t z)
theorem KeptX.of {W W' : World} (h : Kept W W') : KeptX W W' := ⟨h.size, fun _ _ _ _ _ _ hb => h.at hb⟩
theorem KeptX.refl (W : World) : KeptX W W := ⟨Nat.le_refl _, fun _ _ _ _ _ _ h => h⟩
theorem KeptX.trans {a b c : World} (h : KeptX a b) (k : KeptX b c) : KeptX a c := ⟨Nat.le_trans h.1 k.1, fun _ _ _ _ h1 h2 h3 => k.2 _ _ _ _ h1 h2 (h.2 _ _ _ _ h1 h2 h3)⟩
theorem size_setCell (W : World) (a : Addr) (v : Value) : (W.setCell a v).heap.size = W.heap.size := by
  unfold World.setCell; split <;> simp
theorem KeptX.set {W W' : World} (h : KeptX W W') {g i : Nat} {cur : Array Value} {z : Nat × Nat} {v : Value} (hg : W'.heap[g]? = some (.cells cur 87 z)) : KeptX W (W'.setCell ⟨g, i, none⟩ v) := by
  refine ⟨by rw [size_setCell]; exact h.1, fun b vs t z' h1 h2 h3 => ?_⟩
  have h4 := h.2 _ _ _ _ h1 h2 h3
  by_cases hb : b = g
  · subst hb; rw [hg] at h4; cases h4; exact absurd rfl h1
  · rw [Below.heap_setCell _ _ _ _ hb]; exact h4
theorem KeptX.setNew {W W' : World} (h : KeptX W W') {g i : Nat} {v : Value} (hg : W.heap.size ≤ g) : KeptX W (W'.setCell ⟨g, i, none⟩ v) := by
  refine ⟨by rw [size_setCell]; exact h.1, fun b vs t z' h1 h2 h3 => ?_⟩
  have hlt := (Array.getElem?_eq_some_iff.1 h3).1
  rw [Below.heap_setCell _ _ _ _ (show b ≠ g by omega)]
  exact h.2 _ _ _ _ h1 h2 h3
theorem CellsAt.keepX {W W' : World} {b g n : Nat} {f : Nat → Nat} (h : CellsAt W b g n f) (k : KeptX W W') : CellsAt W' b g n f := by
  obtain ⟨cap, cur, h1, h2, h3⟩ := h.row
  exact ⟨cap, cur, k.2 _ _ _ _ (by decide) (by decide) h1, k.2 _ _ _ _ (by decide) (by decide) h2, h3⟩
theorem PoolAt.keepX {W W' : World} {p n : Nat} (h : PoolAt W p n) (k : KeptX W W') : PoolAt W' p n := by
  obtain ⟨b, g, h1, h2⟩ := h.at'
  exact ⟨b, g, k.2 _ _ _ _ (by decide) (by decide) h1, h2.keepX k⟩
theorem PlacesAt.keepX {W W' : World} {p n : Nat} (h : PlacesAt W p n) (k : KeptX W W') : PlacesAt W' p n := by
  obtain ⟨b, g, h1, h2⟩ := h.at'
  exact ⟨b, g, k.2 _ _ _ _ (by decide) (by decide) h1, h2.1.keepX k, h2.2⟩
theorem EpochsAt.keepX {W W' : World} {p n : Nat} (h : EpochsAt W p n) (k : KeptX W W') : EpochsAt W' p n := by
  obtain ⟨b, g, q, cap, cur, h1, h2, h3, h4⟩ := h.at'
  exact ⟨b, g, q, cap, cur, k.2 _ _ _ _ (by decide) (by decide) h1, h2.keepX k, k.2 _ _ _ _ (by decide) (by decide) h3, h4⟩
theorem CacheAt.keepX {W W' : World} {c p : Nat} {q : Int} (h : CacheAt W c p q) (k : KeptX W W') : CacheAt W' c p q := k.2 _ _ _ _ (by decide) (by decide) h
theorem WorkerAt.keepX {W W' : World} {x p0 p1 p2 : Nat} {q : Int} (h : WorkerAt W x p0 p1 p2 q) (k : KeptX W W') : WorkerAt W' x p0 p1 p2 q := by
  obtain ⟨c0, c1, c2, wh, mp, h1, h2, h3, h4⟩ := h.at'
  exact ⟨c0, c1, c2, wh, mp, k.2 _ _ _ _ (by decide) (by decide) h1, h2.keepX k, h3.keepX k, h4.keepX k⟩
end Go.Proofs.YtibcljekjjjnoaaGreatDoor.Kt

namespace Go.Proofs.YtibcljekjjjnoaaGreatDoor.Kt
open Go Go.RowKit
abbrev ptr (b : Nat) : Value := .pointer (some ⟨b, 0, none⟩)
theorem placeNewI (m : Int) (n : Nat) (hm : m = n) (h0 : 1 ≤ n) (h1 : n ≤ 3072) (w : World) : Calls Tryz.prog 42 #[.int .i64 m] w fun e w' => ∃ p, e = .returned (.tuple #[.pointer (some ⟨p, 0, none⟩), .int .i64 0]) ∧ Kept w w' ∧ w.heap.size ≤ p ∧ PlacesAt w' p n := by
  subst hm; exact placeNew n h0 h1 w
theorem poolNewI (m : Int) (n : Nat) (hm : m = n) (h0 : 1 ≤ n) (h1 : n ≤ 1024) (w : World) : Calls Tryz.prog 45 #[.int .i64 m] w fun e w' => ∃ p, e = .returned (.tuple #[.pointer (some ⟨p, 0, none⟩), .int .i64 0]) ∧ Kept w w' ∧ w.heap.size ≤ p ∧ PoolAt w' p n := by
  subst hm; exact poolNew n h0 h1 w
/-- how far a new translator is made -/
structure Stage (W w : World) (nt nw kb n : Nat) (o l h r : Int) (ep p0 p1 p2 pc tb sl : Value) : Prop where
  kept : Kept W w
  lt : W.heap.size < nt
  box : w.heap[W.heap.size]? = some (.cells #[.int .i64 nw, .int .u32 o, .int .i64 l, .int .i64 h, .int .i64 kb, .int .i64 r] 33 (0, 0))
  at' : w.heap[nt]? = some (.cells (natC nw o l h kb r n ep p0 p1 p2 pc tb sl) 87 (0, 0))
section
variable {W w : World} {nt nw kb n : Nat} {o l h r : Int} {ep p0 p1 p2 pc tb sl : Value}
theorem Stage.keep (S : Stage W w nt nw kb n o l h r ep p0 p1 p2 pc tb sl) {w' : World} (k : Kept w w') : Stage W w' nt nw kb n o l h r ep p0 p1 p2 pc tb sl :=
  ⟨S.kept.trans k, S.lt, k.at S.box, k.at S.at'⟩
theorem Stage.set (S : Stage W w nt nw kb n o l h r ep p0 p1 p2 pc tb sl) {i : Nat} {v : Value} {ep' p0' p1' p2' pc' tb' sl' : Value} (e : (natC nw o l h kb r n ep p0 p1 p2 pc tb sl).setIfInBounds i v = natC nw o l h kb r n ep' p0' p1' p2' pc' tb' sl') : Stage W (w.setCell ⟨nt, i, none⟩ v) nt nw kb n o l h r ep' p0' p1' p2' pc' tb' sl' := by
  refine ⟨S.kept.setCell (Nat.le_of_lt S.lt) _, S.lt, ?_, ?_⟩
  · rw [Below.heap_setCell _ _ _ _ (show W.heap.size ≠ nt from Nat.ne_of_lt S.lt)]; exact S.box
  · rw [heap_setCell_at S.at', e]
theorem Stage.cell (S : Stage W w nt nw kb n o l h r ep p0 p1 p2 pc tb sl) (i : Nat) : w.cell? ⟨nt, i, none⟩ = (natC nw o l h kb r n ep p0 p1 p2 pc tb sl)[i]? := cell_at S.at' i
theorem Stage.free (S : Stage W w nt nw kb n o l h r ep p0 p1 p2 pc tb sl) (i : Nat) : w.frozen? ⟨nt, i, none⟩ = false := frozen_at S.at' i
theorem Stage.bx (S : Stage W w nt nw kb n o l h r ep p0 p1 p2 pc tb sl) (i : Nat) : w.cell? ⟨W.heap.size, i, none⟩ = (#[Value.int .i64 nw, .int .u32 o, .int .i64 l, .int .i64 h, .int .i64 kb, .int .i64 r])[i]? := cell_at S.box i
theorem Stage.keptX (S : Stage W w nt nw kb n o l h r ep p0 p1 p2 pc tb sl) (i : Nat) (v : Value) : KeptX w (w.setCell ⟨nt, i, none⟩ v) := (KeptX.refl w).set S.at'
end
end Go.Proofs.YtibcljekjjjnoaaGreatDoor.Kt

namespace Go.Proofs.YtibcljekjjjnoaaGreatDoor.Kt
open Go Go.RowKit
theorem info78 : (Tryz.prog.info? 78).map (fun i => (i.zero, i.size, i.bytes)) = some (some (.pointer none), 1, 8) := by kernel_rfl
theorem Stage.size {W w : World} {nt nw kb n : Nat} {o l h r : Int} {ep p0 p1 p2 pc tb sl : Value} (S : Stage W w nt nw kb n o l h r ep p0 p1 p2 pc tb sl) : nt < w.heap.size := (Array.getElem?_eq_some_iff.1 S.at').1
/-- a row of workers grows: all other blocks stay -/
theorem KeptX.grown {w w' : World} {base n : Nat} {v : Value} {xs : List Value} (hown : w.ownsRow base 78 1 v n xs) (hg : w.grownBy w' v.ownBlock) : KeptX w w' := by
  refine ⟨hg.size, fun b vs t z h1 h2 h3 => ?_⟩
  rw [hg.block b (Array.getElem?_eq_some_iff.1 h3).1 ?_]
  · exact h3
  · intro e
    rcases hown.2 with ⟨e1, _⟩ | ⟨g', cap', cur', e1, hb, hc, _⟩
    · rw [e1] at e; cases e
    · rw [e1] at e; cases e
      rw [hc] at h3; cases h3; exact h2 rfl
theorem Stage.grown {W w w' : World} {nt nw kb n k : Nat} {o l h r : Int} {ep p0 p1 p2 pc tb sl : Value} (S : Stage W w nt nw kb n o l h r ep p0 p1 p2 pc tb sl) {v : Value} {xs : List Value} (hown : w.ownsRow (nt + 1) 78 1 v k xs) (hg : w.grownBy w' v.ownBlock) : Stage W w' nt nw kb n o l h r ep p0 p1 p2 pc tb sl := by
  have hlt := S.lt
  have hb : Below (nt + 1) w w' := (Below.refl _ _).grown hg S.size fun q hq => by
    rcases hown.2 with ⟨e1, _⟩ | ⟨g', cap', cur', e1, hb, hc, _⟩
    · rw [e1] at hq; cases hq
    · rw [e1] at hq; cases hq; exact hb
  refine ⟨Below.trans S.kept (hb.mono (by omega)), S.lt, ?_, ?_⟩
  · rw [hb.block W.heap.size (by omega)]; exact S.box
  · rw [hb.block nt (by omega)]; exact S.at'
/-- a worker that is being made -/
def wkC (c0 c1 c2 : Value) (wh mp : Nat) : Array Value := #[c0, c1, c2, ptr wh, .map (some mp), .pointer none, .pointer none, .slice none 0 0, .int .i64 0, .bool false, .slice none 0 0]
theorem keep_set {w : World} {x i b : Nat} {cur vs : Array Value} {t t' : TypeId} {z z' : Nat × Nat} {v : Value} (hx : w.heap[x]? = some (.cells cur t z)) (hb : w.heap[b]? = some (.cells vs t' z')) (ht : t' ≠ t) : (w.setCell ⟨x, i, none⟩ v).heap[b]? = some (.cells vs t' z') := by
  rw [Below.heap_setCell _ _ _ _ ?_]
  · exact hb
  · intro e
    have e : b = x := e
    subst e
    rw [hx] at hb; cases hb; exact ht rfl
end Go.Proofs.YtibcljekjjjnoaaGreatDoor.Kt
