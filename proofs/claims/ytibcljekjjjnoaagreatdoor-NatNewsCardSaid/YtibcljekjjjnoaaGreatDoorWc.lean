import Derived.Test.YtibcljekjjjnoaaGreatDoorWb
/- A part of the proof of NatNews: Wc. -/
set_option linter.all false
namespace Go.Proofs.YtibcljekjjjnoaaGreatDoor.Kt
open Go Go.RowKit
theorem info3 : (Tryz.prog.info? 3).map (fun i => (i.zero, i.size, i.bytes)) = some (some (.int .i64 0), 1, 8) := by kernel_rfl
def nums (m : Nat) : List Value := (List.range m).map fun (j : Nat) => .int .i64 (j : Int)
theorem nums_succ (m : Nat) : nums (m + 1) = nums m ++ [.int .i64 m] := by simp [nums, List.range_succ]
theorem words_at (f : Nat → Nat) (n i : Nat) (h : i < n) : (words f n)[i]? = some (.int .u64 (f i)) := by simp [words, h]
theorem own_cell {w : World} {base : Nat} {e : TypeId} {v : Value} {n : Nat} {xs : List Value} (h : w.ownsRow base e 1 v n xs) (h1 : 1 ≤ n) : ∃ g cap cur, v = .slice (some ⟨g, 0, none⟩) n cap ∧ w.heap[g]? = some (.cells cur e (0, 0)) ∧ n ≤ maxLen ∧ ∀ i, i < n → cur[i]? = xs[i]? := by
  rcases h.2 with ⟨_, h2⟩ | ⟨g, cap, cur, h2, h3, h4, h5, h6, h7, h8⟩
  · omega
  · refine ⟨g, cap, cur, h2, h4, by omega, fun i hi => ?_⟩
    rw [← h8, Nat.mul_one, List.getElem?_take_of_lt hi]
    simp
theorem bit_tab : ∀ r, r < 32 → r ≠ 0 → ∀ j, j < 32 → (bits BinOp.and IntKind.u64 (((4294967296 - 2 ^ r : Nat) : Int) / 2 ^ j) 1 == 0) = decide (j < r) := by decide +kernel
theorem bit_zero (j : Nat) : (bits BinOp.and IntKind.u64 (((0 : Nat) : Int) / 2 ^ j) 1 == 0) = true := by
  rw [show ((0 : Nat) : Int) / 2 ^ j = 0 from by simp]
  rfl
theorem bit_eq (n k j : Nat) (hk : k < (n + 31) / 32) (hj : j < 32) : (bits BinOp.and IntKind.u64 ((freeWord n k : Int) / 2 ^ j) 1 == 0) = decide (32 * k + j < n) := by
  unfold freeWord
  split
  · rename_i h
    rw [bit_tab (n % 32) (by omega) h.1 j hj]
    have : (j < n % 32) ↔ (32 * k + j < n) := by omega
    simp only [this]
  · rename_i h
    rw [bit_zero]
    have : 32 * k + j < n := by omega
    simp [this]
theorem own_base {w : World} {base base' : Nat} {e : TypeId} {size : Nat} {v : Value} {n : Nat} {xs : List Value} (h : w.ownsRow base e size v n xs) (hb : base' ≤ base) : w.ownsRow base' e size v n xs := by
  refine ⟨h.1, ?_⟩
  rcases h.2 with h2 | ⟨g, cap, cur, h1, h2, h3⟩
  · exact .inl h2
  · exact .inr ⟨g, cap, cur, h1, by omega, h3⟩
set_option maxRecDepth 4000 in
theorem poolFree {W : World} {p n : Nat} (h : PoolAt W p n) (h0 : 1 ≤ n) (hn : n ≤ 1024) : Calls Tryz.prog 50 #[.pointer (some ⟨p, 0, none⟩)] W fun e w' => ∃ v, e = .returned v ∧ Kept W w' ∧ w'.ownsRow W.heap.size 3 1 v n (nums n) := by
  obtain ⟨i0, hi, hz0, hz1, hz2⟩ := info_parts info3
  obtain ⟨b, g, h1, h2⟩ := h.at'
  have hc0 : W.cell? ⟨p, 0, none⟩ = some (.pointer (some ⟨b, 0, none⟩)) := by rw [cell_at h1]; rfl
  obtain ⟨M, hM⟩ : ∃ M, M = (n + 31) / 32 := ⟨_, rfl⟩
  rw [← hM] at h2
  have hM1 : 1 ≤ M := by omega
  have hM2 : M ≤ 32 := by omega
  have HM : Hid (M = (n + 31) / 32) := hM
  clear hM h h1
  go_enter Tryz.func50, Tryz.ntmps50
  go_wp2_with (go_at_call 69; refine (cellsCopy h2 (by omega)).mono ?_; rintro e w2 ⟨vw, rfl, hk2, hown2⟩; obtain ⟨gq, capq, curq, rfl, hq1, hq2, hq3⟩ := own_cell hown2 hM1)
  go_loopw [3, 15] (fun v i wr => ∃ k : Nat, k ≤ M ∧ i = .int .i64 k ∧ wr.ownsRow w2.heap.size 3 1 v (min n (32 * k)) (nums (min n (32 * k))) ∧ Kept w2 wr) (fun _ i _ => M - (intOf i).toNat)
  case atStart => exact ⟨0, Nat.zero_le _, rfl, by simpa [nums] using World.ownsRow_nil _ _ _ _, Below.refl _ _⟩
  case round =>
    obtain ⟨k, hk, rfl, hown, hkr⟩ := hrel
    have hcq : k < M → wr.cell? ⟨gq, k, none⟩ = some (.int .u64 (freeWord n k)) := fun hkM => by
      rw [cell_at (hkr.at hq1), hq3 k hkM, words_at _ _ _ hkM]
    unfold maxLen at hq2
    go_wp2
    · have hlt : k < M := by assumption
      have hbit : ∀ j, j < 32 → (bits BinOp.and IntKind.u64 ((freeWord n k : Int) / 2 ^ j) 1 == 0) = decide (32 * k + j < n) := fun j hj => bit_eq n k j (by rw [← HM.out]; exact hlt) hj
      have Hbit : Hid (∀ j, j < 32 → (bits BinOp.and IntKind.u64 ((freeWord n k : Int) / 2 ^ j) 1 == 0) = decide (32 * k + j < n)) := hbit
      clear hbit
      go_loopw [3, 20] (fun v i ws => ∃ j : Nat, j ≤ 32 ∧ i = .int .i64 j ∧ ws.ownsRow w2.heap.size 3 1 v (min n (32 * k + j)) (nums (min n (32 * k + j))) ∧ Kept w2 ws) (fun _ i _ => 32 - (intOf i).toNat)
      case atStart => exact ⟨0, Nat.zero_le _, rfl, by simpa using hown, hkr⟩
      case round =>
        obtain ⟨j, hj, rfl, hown3, hkr3⟩ := hrel
        have hsz3 := hkr3.size
        go_wp2_with (at_builtin; refine wpList_append_own _ rfl _ _ 24 rfl w2.heap.size 3 i0 (.int .i64 0) 1 8 Tryz.underlying24 hi hz0 hz1 hz2 rfl (by decide) _ _ _ rfl (hown3.alloc _) ⟨wr.heap.size, 0, none⟩ 1 1 [.int .i64 (k * 32 + j)] rfl rfl ?c1 ?c2 ?c3 ?c4 ?c5 ?_)
        case c1 =>
          intro q u hq
          match q, hq with
          | 0, hq => simp at hq; subst hq; simp [Addr.add]
        case c2 => intro u hu; simp at hu; subst hu; rfl
        case c3 => unfold maxLen; omega
        case c4 => omega
        case c5 => simp; omega
        · intro v' w5 hown' hgrow _
          have hj32 : j < 32 := by omega
          have hlt2 : 32 * k + j < n := by
            have ht : (bits BinOp.and IntKind.u64 ((freeWord n k : Int) / 2 ^ j) 1 == 0) = true := by assumption
            rw [Hbit.out j hj32] at ht
            simpa using ht
          have hk5 : Kept w2 w5 := by
            refine (hkr3.alloc _).grown hgrow (by simp; omega) fun q hq => ?_
            rcases hown3.2 with ⟨e, _⟩ | ⟨g', cap', cur', e, hb, _⟩
            · rw [e] at hq; cases hq
            · rw [e] at hq; cases hq; exact hb
          have e1 : min n (32 * k + j) = 32 * k + j := by omega
          have e2 : min n (32 * k + (j + 1)) = 32 * k + j + 1 := by omega
          have e3 : ((k : Int) * 32 + j) = ((32 * k + j : Nat) : Int) := by omega
          rw [e1, e3, ← nums_succ] at hown'
          have hfin : w5.ownsRow w2.heap.size 3 1 v' (min n (32 * k + (j + 1))) (nums (min n (32 * k + (j + 1)))) := by rw [e2]; exact hown'
          clear hgrow hown3 e1 e2 e3 hown'
          go_wp2
          simp only [hlt, decide_true]
          refine ⟨⟨_, _, _, _, _, _, _, _, _, _, _, _, _, _, _, _, _, _, ⟨j + 1, by omega, ?_, hfin, hk5⟩, rfl⟩, ?_⟩
          · go_num
          · simp [intOf]; omega
        · have hj32 : j < 32 := by omega
          have hge : n ≤ 32 * k + j := by
            have ht : (bits BinOp.and IntKind.u64 ((freeWord n k : Int) / 2 ^ j) 1 == 0) = false := by assumption
            rw [Hbit.out j hj32] at ht
            simpa using ht
          have hfin : wr.ownsRow w2.heap.size 3 1 u3 (min n (32 * k + (j + 1))) (nums (min n (32 * k + (j + 1)))) := by
            rw [show min n (32 * k + (j + 1)) = min n (32 * k + j) by omega]; exact hown3
          go_roundw
          case rel => exact ⟨j + 1, by omega, by go_num, hfin, hkr3⟩
          case measure => simp [intOf]; omega
        · have hj32 : j = 32 := by omega
          subst hj32
          go_roundw
          case rel => exact ⟨k + 1, by omega, by go_num, by simpa [Nat.mul_add] using hown3, hkr3⟩
          case measure => simp [intOf]; omega
    · have hkM : k = M := by omega
      subst hkM
      have hmin : min n (32 * k) = n := by have := HM.out; omega
      rw [hmin] at hown
      go_ret
      refine ⟨_, rfl, hk2.trans hkr, ?_⟩
      exact own_base hown hk2.size
end Go.Proofs.YtibcljekjjjnoaaGreatDoor.Kt

namespace Go.Proofs.YtibcljekjjjnoaaGreatDoor.Kt
open Go Go.RowKit
set_option maxRecDepth 4000 in
theorem indexNums {W : World} {v : Value} {n base : Nat} (h : W.ownsRow base 3 1 v n (nums n)) (x : Nat) (hx : x < n) : Calls Tryz.prog 81 #[v, .int .i64 x] W fun e w' => e = .returned (.int .i64 x) ∧ Kept W w' := by
  obtain ⟨g, cap, cur, rfl, h1, h2, h3⟩ := own_cell h (by omega)
  unfold maxLen at h2
  have hc : ∀ i, i < n → W.cell? ⟨g, i, none⟩ = some (.int .i64 i) := fun i hi => by
    rw [cell_at h1, h3 i hi]
    simp [nums, hi]
  clear h h1 h3
  go_enter Tryz.func81, Tryz.ntmps81
  go_wp2
  go_loop [8] (fun i => ∃ k : Nat, k ≤ x ∧ i = .int .i64 k) (fun i => n - (intOf i).toNat)
  case atStart => exact ⟨0, Nat.zero_le _, rfl⟩
  case round =>
    obtain ⟨k, hk, rfl⟩ := hrel
    have hck := hc k (by omega)
    go_wp2
    · have e : (x : Int) = k := by
        have ht : ((x : Int) == (k : Int)) = true := by assumption
        simpa using ht
      have e' : x = k := by omega
      subst e'
      go_ret
      exact ⟨rfl, Below.refl _ _⟩
    · have e : ¬ (x : Int) = k := by
        have ht : ((x : Int) == (k : Int)) = false := by assumption
        simpa using ht
      go_round
      case rel => exact ⟨k + 1, by omega, by go_num⟩
      case measure => simp [intOf]; omega
set_option maxRecDepth 4000 in
theorem containsNums {W : World} {v : Value} {n base : Nat} (h : W.ownsRow base 3 1 v n (nums n)) (x : Nat) (hx : x < n) : Calls Tryz.prog 49 #[v, .int .i64 x] W fun e w' => e = .returned (.bool true) ∧ Kept W w' := by
  go_enter Tryz.func49, Tryz.ntmps49
  go_wp2_with (go_at_call 81; refine (indexNums h x hx).mono ?_; rintro e w1 ⟨rfl, hk1⟩)
  go_ret
  exact ⟨by simp, hk1⟩
end Go.Proofs.YtibcljekjjjnoaaGreatDoor.Kt

namespace Go.Proofs.YtibcljekjjjnoaaGreatDoor.Kt
open Go Go.RowKit
/-- a worker that does nothing, with empty caches -/
structure WorkerAt (W : World) (x : Nat) (p0 p1 p2 : Nat) (k : Int) : Prop where
  at' : ∃ c0 c1 c2 wh mp, W.heap[x]? = some (.cells #[.pointer (some ⟨c0, 0, none⟩), .pointer (some ⟨c1, 0, none⟩), .pointer (some ⟨c2, 0, none⟩), .pointer (some ⟨wh, 0, none⟩), .map (some mp), .pointer none, .pointer none, .slice none 0 0, .int .i64 0, .bool false, .slice none 0 0] 113 (0, 0)) ∧
    CacheAt W c0 p0 k ∧ CacheAt W c1 p1 k ∧ CacheAt W c2 p2 k
theorem WorkerAt.keep {W W' : World} {x p0 p1 p2 : Nat} {k : Int} (h : WorkerAt W x p0 p1 p2 k) (hk : Kept W W') : WorkerAt W' x p0 p1 p2 k := by
  obtain ⟨c0, c1, c2, wh, mp, h1, h2, h3, h4⟩ := h.at'
  exact ⟨c0, c1, c2, wh, mp, hk.at h1, h2.keep hk, h3.keep hk, h4.keep hk⟩
/-- a new translator: of wk workers, with n ports -/
structure NatAt (W : World) (nt : Nat) (wk o l h b r : Int) (nw n : Nat) : Prop where
  wkn : wk = nw
  lo : 1 ≤ nw ∧ nw ≤ 64
  pn : h - l + 1 = n
  pl : 1 ≤ n ∧ n ≤ 1024
  at' : ∃ ep p0 p1 p2 pc tb ws cap cur, W.heap[nt]? = some (.cells #[.int .i64 wk, .int .u32 o, .int .i64 l, .int .i64 h, .int .i64 b, .int .i64 r, .int .i64 n, .pointer (some ⟨ep, 0, none⟩), .pointer (some ⟨p0, 0, none⟩), .pointer (some ⟨p1, 0, none⟩), .pointer (some ⟨p2, 0, none⟩),
      .pointer (some ⟨pc, 0, none⟩), .pointer (some ⟨tb, 0, none⟩), .slice (some ⟨ws, 0, none⟩) nw cap] 87 (0, 0)) ∧
    EpochsAt W ep nw ∧ PoolAt W p0 n ∧ PoolAt W p1 n ∧ PoolAt W p2 n ∧ PlacesAt W pc (3 * n) ∧ W.heap[ws]? = some (.cells cur 78 (0, 0)) ∧
    ∀ i, i < nw → ∃ x, cur[i]? = some (.pointer (some ⟨x, 0, none⟩)) ∧ WorkerAt W x p0 p1 p2 i
theorem NatAt.keep {W W' : World} {nt : Nat} {wk o l h b r : Int} {nw n : Nat} (N : NatAt W nt wk o l h b r nw n) (k : Kept W W') : NatAt W' nt wk o l h b r nw n := by
  obtain ⟨a1, a2, a3, a4, ep, p0, p1, p2, pc, tb, ws, cap, cur, h1, h2, h3, h4, h5, h6, h7, h8⟩ := N
  refine ⟨a1, a2, a3, a4, ep, p0, p1, p2, pc, tb, ws, cap, cur, k.at h1, h2.keep k, h3.keep k, h4.keep k, h5.keep k, h6.keep k, k.at h7, fun i hi => ?_⟩
  obtain ⟨x, e1, e2⟩ := h8 i hi
  exact ⟨x, e1, e2.keep k⟩

set_option maxRecDepth 4000 in
theorem natRetired {W : World} {nt : Nat} {wk o l h b r : Int} {nw n : Nat} (N : NatAt W nt wk o l h b r nw n) (i : Nat) (hi : i < nw) (id : Int) (h0 : 0 ≤ id) (h1 : id < 4096) : Calls Tryz.prog 54 #[.pointer (some ⟨nt, 0, none⟩), .int .i64 i, .int .i64 id] W fun e w' => e = .returned (.bool false) ∧ Kept W w' := by
  have hnw := N.lo
  obtain ⟨ep, p0, p1, p2, pc, tb, ws, cap, cur, a1, a2, a3, a4, a5, a6, a7, a8⟩ := N.at'
  obtain ⟨x, b1, ⟨c0, c1, c2, wh, mp, b2, -, -, -⟩⟩ := a8 i hi
  have f1 : W.cell? ⟨nt, 7, none⟩ = some (.pointer (some ⟨ep, 0, none⟩)) := by rw [cell_at a1]; rfl
  clear a3 a4 a5 a6 a8
  go_enter Tryz.func54, Tryz.ntmps54
  go_wp2_with (first
    | (go_at_call 88; refine (givenNil a2 i hi).mono ?_; rintro e w1 ⟨rfl, hk1⟩)
    | (go_at_call 87; refine (containsNilU _ _).mono ?_; rintro e w2 ⟨rfl, hk2⟩; have g1 : w2.cell? ⟨nt, 13, none⟩ = some (.slice (some ⟨ws, 0, none⟩) nw cap) := (by rw [cell_at (hk2.at (hk1.at a1))]; rfl); have g2 : w2.cell? ⟨ws, i, none⟩ = some (.pointer (some ⟨x, 0, none⟩)) := (by rw [cell_at (hk2.at (hk1.at a7))]; exact b1); have g3 : w2.cell? ⟨x, 6, none⟩ = some (.pointer none) := (by rw [cell_at (hk2.at (hk1.at b2))]; rfl)))
  go_ret
  exact ⟨rfl, hk1.trans hk2⟩
end Go.Proofs.YtibcljekjjjnoaaGreatDoor.Kt

namespace Go.Proofs.YtibcljekjjjnoaaGreatDoor.Kt
open Go Go.RowKit
set_option maxRecDepth 4000 in
theorem natBindings {W : World} {nt : Nat} {wk o l h b r : Int} {nw n : Nat} (N : NatAt W nt wk o l h b r nw n) : Calls Tryz.prog 18 #[.pointer (some ⟨nt, 0, none⟩)] W fun e w' => e = .returned (.slice none 0 0) ∧ Kept W w' := by
  obtain ⟨hp0, hp1⟩ := N.pl
  obtain ⟨ep, p0, p1, p2, pc, tb, ws, cap, cur, a1, a2, a3, a4, a5, a6, a7, a8⟩ := N.at'
  have f1 : W.cell? ⟨nt, 11, none⟩ = some (.pointer (some ⟨pc, 0, none⟩)) := by rw [cell_at a1]; rfl
  clear a2 a3 a4 a5 a7 a8
  obtain ⟨q, hq⟩ : ∃ q, q = 3 * n := ⟨_, rfl⟩
  rw [← hq] at a6
  have hq2 : q ≤ 3072 := by omega
  clear hq
  go_enter Tryz.func18, Tryz.ntmps18
  go_wp2_with (go_at_call 55; refine (placesSize a6).mono ?_; rintro e w1 ⟨rfl, hk1⟩)
  go_loopw [3, 15] (fun v i wr => ∃ k : Nat, k ≤ q ∧ v = .slice none 0 0 ∧ i = .int .i64 k ∧ Kept W wr) (fun _ i _ => q - (intOf i).toNat)
  case atStart => exact ⟨0, Nat.zero_le _, rfl, rfl, hk1⟩
  case round =>
    obtain ⟨k, hk, rfl, rfl, hkr⟩ := hrel
    have f2 : wr.cell? ⟨nt, 11, none⟩ = some (.pointer (some ⟨pc, 0, none⟩)) := by rw [cell_at (hkr.at a1)]; rfl
    go_wp2_with (go_at_call 53; refine (placesLoad (a6.keep hkr) k (by omega)).mono ?_; rintro e w2 ⟨rfl, hk2⟩; unfold word0)
    · have hk3 : Kept W (w2.alloc (.cells #[.int .i64 0, .int .i64 0, .int .i64 0, .int .i64 0] 120)) := (hkr.trans hk2).alloc _
      exact ⟨⟨k + 1, by omega, rfl, by go_num, hk3⟩, by simp [intOf]; omega⟩
    · go_ret
      exact ⟨rfl, hkr⟩
set_option maxRecDepth 4000 in
theorem planTo (wk o l h b r : Int) (W : World) : Calls Tryz.prog 9 #[cfgV wk o l h b r] W fun e w' => e = .returned (cfgV wk o l h b r) ∧ Kept W w' := by
  unfold cfgV
  go_enter Tryz.func9, Tryz.ntmps9
  go_wp2
  refine ⟨rfl, cfgV wk o l h b r, ?_, rfl, ((Below.refl _ _).alloc (Nat.le_refl _) _).alloc (by simp) _⟩
  simp [results, Tryz.results9, go_sem, cfgV]
set_option maxRecDepth 4000 in
theorem natConfig {W : World} {nt : Nat} {wk o l h b r : Int} {nw n : Nat} (N : NatAt W nt wk o l h b r nw n) : Calls Tryz.prog 17 #[.pointer (some ⟨nt, 0, none⟩)] W fun e w' => e = .returned (cfgV wk o l h b r) ∧ Kept W w' := by
  obtain ⟨ep, p0, p1, p2, pc, tb, ws, cap, cur, a0, -, -, -, -, -, -, -⟩ := N.at'
  obtain ⟨W', hW'⟩ : ∃ W', W' = W.alloc (.cells #[.int .i64 0, .int .u32 0, .int .i64 0, .int .i64 0, .int .i64 0, .int .i64 0] 33) := ⟨_, rfl⟩
  have hk : Kept W W' := by rw [hW']; exact (Below.refl _ _).alloc (Nat.le_refl _) _
  have a1 := hk.at a0
  have f0 : W'.cell? ⟨nt, 0, none⟩ = some (.int .i64 wk) := by rw [cell_at a1]; rfl
  have f1 : W'.cell? ⟨nt, 1, none⟩ = some (.int .u32 o) := by rw [cell_at a1]; rfl
  have f2 : W'.cell? ⟨nt, 2, none⟩ = some (.int .i64 l) := by rw [cell_at a1]; rfl
  have f3 : W'.cell? ⟨nt, 3, none⟩ = some (.int .i64 h) := by rw [cell_at a1]; rfl
  have f4 : W'.cell? ⟨nt, 4, none⟩ = some (.int .i64 b) := by rw [cell_at a1]; rfl
  have f5 : W'.cell? ⟨nt, 5, none⟩ = some (.int .i64 r) := by rw [cell_at a1]; rfl
  rw [hW'] at f0 f1 f2 f3 f4 f5
  unfold cfgV
  go_enter Tryz.func17, Tryz.ntmps17
  go_wp2
  refine ⟨rfl, cfgV wk o l h b r, ?_, rfl, (Below.refl _ _).alloc (Nat.le_refl _) _⟩
  simp [results, Tryz.results17, go_sem, cfgV]
end Go.Proofs.YtibcljekjjjnoaaGreatDoor.Kt

namespace Go.Proofs.YtibcljekjjjnoaaGreatDoor.Kt
open Go Go.RowKit
set_option maxRecDepth 4000 in
theorem claimsOut {W : World} {nt : Nat} {wk o l h b r : Int} {nw n : Nat} (N : NatAt W nt wk o l h b r nw n) (hf : Fine wk o l h b r) (p k port : Int) (hk : (p = 1 ∧ k = 0) ∨ (p = 6 ∧ k = 1) ∨ (p = 17 ∧ k = 2)) (ho : port < l ∨ h < port) : Calls Tryz.prog 16 #[.pointer (some ⟨nt, 0, none⟩), .int .i64 p, .int .i64 port] W fun e w' => e = .returned (.slice none 0 0) ∧ Kept W w' := by
  obtain ⟨ep, p0, p1, p2, pc, tb, ws, cap, cur, a1, -, -, -, -, -, -, -⟩ := N.at'
  have f0 : W.cell? ⟨nt, 0, none⟩ = some (.int .i64 wk) := by rw [cell_at a1]; rfl
  have f1 : W.cell? ⟨nt, 1, none⟩ = some (.int .u32 o) := by rw [cell_at a1]; rfl
  have f2 : W.cell? ⟨nt, 2, none⟩ = some (.int .i64 l) := by rw [cell_at a1]; rfl
  have f3 : W.cell? ⟨nt, 3, none⟩ = some (.int .i64 h) := by rw [cell_at a1]; rfl
  have f4 : W.cell? ⟨nt, 4, none⟩ = some (.int .i64 b) := by rw [cell_at a1]; rfl
  have f5 : W.cell? ⟨nt, 5, none⟩ = some (.int .i64 r) := by rw [cell_at a1]; rfl
  have hP := planPlaceOut wk o l h b r hf p k port hk ho W
  unfold cfgV at hP
  clear hk hf
  go_enter Tryz.func16, Tryz.ntmps16
  go_wp2_with (first
    | (go_at_call 48; refine hP.mono ?_; rintro e w1 ⟨rfl, hk1⟩))
  go_ret
  exact ⟨rfl, hk1⟩
end Go.Proofs.YtibcljekjjjnoaaGreatDoor.Kt
