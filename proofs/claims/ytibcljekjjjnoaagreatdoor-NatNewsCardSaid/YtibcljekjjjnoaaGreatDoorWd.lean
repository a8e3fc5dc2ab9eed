import Derived.Test.YtibcljekjjjnoaaGreatDoorWc
import Derived.Deep.QuietTactic
import Derived.BigQuiet
import Derived.Laws.Closers25b
/- A part of the proof of NatNews: Wd. -/
set_option linter.all false
namespace Go.Proofs.YtibcljekjjjnoaaGreatDoor.Kt
open Go Go.RowKit
theorem info52 : (Tryz.prog.info? 52).map (fun i => (i.zero, i.size, i.bytes)) = some (some (.agg #[.int .i64 0, .int .i64 0]), 2, 16) := by kernel_rfl
theorem field120 (w : World) : Sem.run Tryz.prog (Instr.field 120 (.agg #[.int .i64 0, .int .i64 0, .int .i64 0, .int .i64 0]) 0) w = .ok (.int .i64 0) w := by
  kernel_rfl
theorem Kept.drewN {a w : World} (h : Kept a w) (n : Nat) : Kept a (w.drewN n) := ⟨h.os, h.tape, h.output, h.size, h.block⟩
theorem Kept.grow {a w w' : World} (h : Kept a w) (g : w.grownBy w' none) : Kept a w' := Below.grown h g h.size (fun q hq => by cases hq)
/-- what the walk through Claims reads: the pool and the caches of one kind -/
structure KindAt (W : World) (nt k nw n pc : Nat) : Prop where
  pool : ∃ P, W.cell? ⟨nt, 8 + k, none⟩ = some (.pointer (some ⟨P, 0, none⟩)) ∧ PoolAt W P n
  wks : ∃ ws cap, W.cell? ⟨nt, 13, none⟩ = some (.slice (some ⟨ws, 0, none⟩) nw cap) ∧ ∃ cur, W.heap[ws]? = some (.cells cur 78 (0, 0)) ∧ ∀ i, i < nw → ∃ x c P q vs, cur[i]? = some (.pointer (some ⟨x, 0, none⟩)) ∧ W.heap[x]? = some (.cells vs 113 (0, 0)) ∧ vs[k]? = some (.pointer (some ⟨c, 0, none⟩)) ∧ CacheAt W c P q
  prts : W.cell? ⟨nt, 6, none⟩ = some (.int .i64 n)
  plcs : W.cell? ⟨nt, 11, none⟩ = some (.pointer (some ⟨pc, 0, none⟩))
theorem KindAt.of {W : World} {nt : Nat} {wk o l h b r : Int} {nw n : Nat} (N : NatAt W nt wk o l h b r nw n) : ∃ pc, PlacesAt W pc (3 * n) ∧ ∀ k, k < 3 → KindAt W nt k nw n pc := by
  obtain ⟨ep, p0, p1, p2, pc, tb, ws, cap, cur, a1, a2, a3, a4, a5, a6, a7, a8⟩ := N.at'
  refine ⟨pc, a6, fun k hk => ⟨?_, ?_, by rw [cell_at a1]; rfl, by rw [cell_at a1]; rfl⟩⟩
  · match k, hk with
    | 0, _ => exact ⟨p0, by rw [cell_at a1]; rfl, a3⟩
    | 1, _ => exact ⟨p1, by rw [cell_at a1]; rfl, a4⟩
    | 2, _ => exact ⟨p2, by rw [cell_at a1]; rfl, a5⟩
  · refine ⟨ws, cap, by rw [cell_at a1]; rfl, cur, a7, fun i hi => ?_⟩
    obtain ⟨x, b1, ⟨c0, c1, c2, wh, mp, b2, b3, b4, b5⟩⟩ := a8 i hi
    match k, hk with
    | 0, _ => exact ⟨x, c0, p0, i, _, b1, b2, rfl, b3⟩
    | 1, _ => exact ⟨x, c1, p1, i, _, b1, b2, rfl, b4⟩
    | 2, _ => exact ⟨x, c2, p2, i, _, b1, b2, rfl, b5⟩
theorem NatAt.wks {W : World} {nt : Nat} {wk o l h b r : Int} {nw n : Nat} (N : NatAt W nt wk o l h b r nw n) : ∃ ws cap, W.cell? ⟨nt, 13, none⟩ = some (.slice (some ⟨ws, 0, none⟩) nw cap) := by
  obtain ⟨ep, p0, p1, p2, pc', tb, ws, cap, cur, a1, -, -, -, -, -, -, -⟩ := N.at'
  exact ⟨ws, cap, by rw [cell_at a1]; rfl⟩
set_option maxRecDepth 4000 in
theorem claimsIn0 {W : World} {nt : Nat} {wk o l h b r : Int} {nw n : Nat} (N : NatAt W nt wk o l h b r nw n) (hf : Fine wk o l h b r) (x : Nat) (port : Int) (hp : port = l + x) (hx : x < n) : Calls Tryz.prog 16 #[.pointer (some ⟨nt, 0, none⟩), .int .i64 1, .int .i64 port] W fun e w' => ∃ v, e = .returned v ∧ Kept W w' ∧ w'.ownsRow W.heap.size 52 2 v 1 [.int .i64 1, .int .i64 (-1)] := by
  obtain ⟨i0, hi, hz0, hz1, hz2⟩ := info_parts info52
  have hfd := field120
  have hN := N.pn
  have hnn := N.pl
  have hww := N.lo
  have f0 : W.cell? ⟨nt, 0, none⟩ = some (.int .i64 wk) := by obtain ⟨ep, p0, p1, p2, pc, tb, ws, cap, cur, a1, -, -, -, -, -, -, -⟩ := N.at'; rw [cell_at a1]; rfl
  have f1 : W.cell? ⟨nt, 1, none⟩ = some (.int .u32 o) := by obtain ⟨ep, p0, p1, p2, pc, tb, ws, cap, cur, a1, -, -, -, -, -, -, -⟩ := N.at'; rw [cell_at a1]; rfl
  have f2 : W.cell? ⟨nt, 2, none⟩ = some (.int .i64 l) := by obtain ⟨ep, p0, p1, p2, pc, tb, ws, cap, cur, a1, -, -, -, -, -, -, -⟩ := N.at'; rw [cell_at a1]; rfl
  have f3 : W.cell? ⟨nt, 3, none⟩ = some (.int .i64 h) := by obtain ⟨ep, p0, p1, p2, pc, tb, ws, cap, cur, a1, -, -, -, -, -, -, -⟩ := N.at'; rw [cell_at a1]; rfl
  have f4 : W.cell? ⟨nt, 4, none⟩ = some (.int .i64 b) := by obtain ⟨ep, p0, p1, p2, pc, tb, ws, cap, cur, a1, -, -, -, -, -, -, -⟩ := N.at'; rw [cell_at a1]; rfl
  have f5 : W.cell? ⟨nt, 5, none⟩ = some (.int .i64 r) := by obtain ⟨ep, p0, p1, p2, pc, tb, ws, cap, cur, a1, -, -, -, -, -, -, -⟩ := N.at'; rw [cell_at a1]; rfl
  have hP := planPlaceIn wk o l h b r hf 1 0 port (by omega) (by omega) (by omega) W
  rw [show 0 * (h - l + 1) + port - l = ((0 * n + x : Nat) : Int) by omega] at hP
  obtain ⟨y, hy⟩ : ∃ y : Nat, y = 0 * n + x := ⟨_, rfl⟩
  rw [← hy] at hP
  unfold cfgV at hP
  have hq1 : y / n = 0 := by rw [hy, Nat.mul_comm, Nat.mul_add_div (by omega), Nat.div_eq_of_lt hx]
  have hq2 : y % n = x := by rw [hy, Nat.mul_comm, Nat.mul_add_mod, Nat.mod_eq_of_lt hx]
  have Hq1 : Hid (y / n = 0) := hq1
  have Hq2 : Hid (y % n = x) := hq2
  clear hf hy hq1 hq2 hN hp
  go_enter Tryz.func16, Tryz.ntmps16
  go_wp2_with (first
    | (go_at_call 48; refine hP.mono ?_; rintro e w1 ⟨rfl, hk1⟩; have g1 : w1.cell? ⟨nt, 6, none⟩ = some (.int .i64 n) := (by obtain ⟨ep, p0, p1, p2, pc, tb, ws, cap, cur, a1, -, -, -, -, -, -, -⟩ := (N.keep hk1).at'; rw [cell_at a1]; rfl)))
  go_quiet (fail)
  have e1 : wrap64 ((y : Int) / n) = 0 := by rw [show (y : Int) / n = ((y / n : Nat) : Int) from rfl, Hq1.out]; kernel_rfl
  have e2 : (y : Int) % n = x := by rw [show (y : Int) % n = ((y % n : Nat) : Int) from rfl, Hq2.out]
  rw [e1, e2]
  clear e1 e2
  have hka : Kept W (w1.drewN nq) := hk1.drewN nq
  generalize w1.drewN nq = wa at hka ⊢
  have Na := N.keep hka
  obtain ⟨pc, hpc, hK⟩ := KindAt.of Na
  obtain ⟨⟨P, q1, q2⟩, -, -, -⟩ := hK 0 (by decide)
  simp only [Nat.reduceAdd] at q1
  clear hP f0 f1 f2 f3 f4 f5 hK N g1
  go_wp2_with (first
    | (go_at_call 50; refine (poolFree q2 (by omega) (by omega)).mono ?_; rintro e w2 ⟨v2, rfl, hk2, hown2⟩)
    | (go_at_call 49; refine (containsNums hown2 x hx).mono ?_; rintro e w3 ⟨rfl, hk3⟩)
    | (at_builtin; refine wpList_append_own _ rfl _ _ 49 rfl W.heap.size 52 i0 (.agg #[.int .i64 0, .int .i64 0]) 2 16 Tryz.underlying49 hi hz0 hz1 hz2 rfl (by decide) (.slice none 0 0) 0 [] rfl (World.ownsRow_nil _ _ _ _) ⟨w3.heap.size, 0, none⟩ 1 1 [.int .i64 1, .int .i64 (-1)] rfl rfl ?c1 ?c2 ?c3 ?c4 ?c5 ?_))
  case c1 =>
    intro q u hq
    match q, hq with
    | 0, hq => simp at hq; subst hq; simp [Addr.add]
    | 1, hq => simp at hq; subst hq; simp [Addr.add]
  case c2 => intro u hu; simp at hu; rcases hu with rfl | rfl <;> rfl
  case c3 => unfold maxLen; omega
  case c4 => omega
  case c5 => have := ((hka.trans hk2).trans hk3).size; simp; omega
  intro v' w5 hown' hgrow _
  have hk5 : Kept W w5 := by
    have hk4 := ((hka.trans hk2).trans hk3).alloc (Obj.cells #[Value.int IntKind.i64 1, Value.int IntKind.i64 (-1)] 52)
    exact hk4.grown hgrow hk4.size (fun q hq => by cases hq)
  have Nb : NatAt w5 nt wk o l h b r nw n := Na.keep (((hk2.trans hk3).alloc (Obj.cells #[Value.int IntKind.i64 1, Value.int IntKind.i64 (-1)] 52)).grow hgrow)
  clear hgrow hown2 hk2 hk3 q1 q2 hpc Na
  obtain ⟨pc, hpc, hK⟩ := KindAt.of Nb
  obtain ⟨-, ⟨ws, cap, q3, cur, q4, q7⟩, -, q6⟩ := hK 0 (by decide)
  clear hK
  go_wp2
  go_loopw [10, 57] (fun v i wr => ∃ k : Nat, k ≤ nw ∧ v = v' ∧ i = .int .i64 k ∧ Kept w5 wr) (fun _ i _ => nw - (intOf i).toNat)
  case atStart => exact ⟨0, Nat.zero_le _, rfl, rfl, Below.refl _ _⟩
  case round =>
    obtain ⟨k, hk, rfl, rfl, hkr⟩ := hrel
    by_cases hkn : k < nw
    · obtain ⟨x', c, P', q, vs, y1, y2, y3, y4⟩ := q7 k hkn
      have z1 : wr.cell? ⟨ws, k, none⟩ = some (.pointer (some ⟨x', 0, none⟩)) := by rw [cell_at (hkr.at q4)]; exact y1
      have z2 : wr.cell? ⟨x', 0, none⟩ = some (.pointer (some ⟨c, 0, none⟩)) := by rw [cell_at (hkr.at y2)]; exact y3
      have z3 := y4.keep hkr
      clear y1 y2 y3 y4 q7 q4
      go_wp2_with (first
        | (go_at_call 51; refine (cacheAll z3).mono ?_; rintro e w6 ⟨rfl, hk6⟩)
        | (go_at_call 52; refine (cacheLeaving ((z3.keep hk6).keep hk7)).mono ?_; rintro e w8 ⟨rfl, hk8⟩)
        | (go_at_call 49; refine (containsNil _ _).mono ?_; first | (have := hk8; rintro e w9 ⟨rfl, hk9⟩) | (rintro e w7 ⟨rfl, hk7⟩)))
      exact ⟨⟨k + 1, by omega, rfl, by go_num, (((hkr.trans hk6).trans hk7).trans hk8).trans hk9⟩, by simp [intOf]; omega⟩
    · have hkn' : k = nw := by omega
      subst hkn'
      clear hk hkn q7 q4
      have q6' : wr.cell? ⟨nt, 11, none⟩ = some (.pointer (some ⟨pc, 0, none⟩)) := by
        obtain ⟨ep, p0, p1, p2, pc', tb, ws, cap, cur, a1, -, -, -, -, -, -, -⟩ := Nb.at'
        rw [cell_at a1] at q6
        rw [cell_at (hkr.at a1)]
        exact q6
      have Nr := Nb.keep hkr
      clear q6 q3 Nb
      have hyn : y < 3 * n := by
        have h1 := Hq1.out
        have h2 := Nat.div_add_mod y n
        have h3 := Nat.mod_lt y (show 0 < n by omega)
        rw [h1] at h2
        omega
      go_wp2_with (first
        | (go_at_call 53; refine (placesLoad (hpc.keep hkr) y hyn).mono ?_; rintro e w6 ⟨rfl, hk6⟩; unfold word0; obtain ⟨ws3, cap3, q9⟩ := (Nr.keep hk6).wks))
      go_loopw [10, 106] (fun v i ws => ∃ j : Nat, j ≤ k ∧ v = u10 ∧ i = .int .i64 j ∧ Kept wr ws) (fun _ i _ => k - (intOf i).toNat)
      case atStart => exact ⟨0, Nat.zero_le _, rfl, rfl, hk6⟩
      case round =>
        obtain ⟨j, hj, rfl, rfl, hkr2⟩ := hrel
        by_cases hjn : j < k
        · go_wp2_with (first
            | (go_at_call 54; refine (natRetired (Nr.keep hkr2) j hjn y (by omega) (by omega)).mono ?_; rintro e w7 ⟨rfl, hk7⟩))
          exact ⟨⟨j + 1, by omega, rfl, by go_num, hkr2.trans hk7⟩, by simp [intOf]; omega⟩
        · have hjn' : j = k := by omega
          subst hjn'
          have hke := (hk5.trans hkr).trans hkr2
          have hoe := own_keep (own_keep hown' hkr) hkr2
          go_wp2
          go_ret
          exact ⟨_, rfl, hke, hoe⟩
set_option maxRecDepth 4000 in
theorem claimsIn1 {W : World} {nt : Nat} {wk o l h b r : Int} {nw n : Nat} (N : NatAt W nt wk o l h b r nw n) (hf : Fine wk o l h b r) (x : Nat) (port : Int) (hp : port = l + x) (hx : x < n) : Calls Tryz.prog 16 #[.pointer (some ⟨nt, 0, none⟩), .int .i64 6, .int .i64 port] W fun e w' => ∃ v, e = .returned v ∧ Kept W w' ∧ w'.ownsRow W.heap.size 52 2 v 1 [.int .i64 1, .int .i64 (-1)] := by
  obtain ⟨i0, hi, hz0, hz1, hz2⟩ := info_parts info52
  have hfd := field120
  have hN := N.pn
  have hnn := N.pl
  have hww := N.lo
  have f0 : W.cell? ⟨nt, 0, none⟩ = some (.int .i64 wk) := by obtain ⟨ep, p0, p1, p2, pc, tb, ws, cap, cur, a1, -, -, -, -, -, -, -⟩ := N.at'; rw [cell_at a1]; rfl
  have f1 : W.cell? ⟨nt, 1, none⟩ = some (.int .u32 o) := by obtain ⟨ep, p0, p1, p2, pc, tb, ws, cap, cur, a1, -, -, -, -, -, -, -⟩ := N.at'; rw [cell_at a1]; rfl
  have f2 : W.cell? ⟨nt, 2, none⟩ = some (.int .i64 l) := by obtain ⟨ep, p0, p1, p2, pc, tb, ws, cap, cur, a1, -, -, -, -, -, -, -⟩ := N.at'; rw [cell_at a1]; rfl
  have f3 : W.cell? ⟨nt, 3, none⟩ = some (.int .i64 h) := by obtain ⟨ep, p0, p1, p2, pc, tb, ws, cap, cur, a1, -, -, -, -, -, -, -⟩ := N.at'; rw [cell_at a1]; rfl
  have f4 : W.cell? ⟨nt, 4, none⟩ = some (.int .i64 b) := by obtain ⟨ep, p0, p1, p2, pc, tb, ws, cap, cur, a1, -, -, -, -, -, -, -⟩ := N.at'; rw [cell_at a1]; rfl
  have f5 : W.cell? ⟨nt, 5, none⟩ = some (.int .i64 r) := by obtain ⟨ep, p0, p1, p2, pc, tb, ws, cap, cur, a1, -, -, -, -, -, -, -⟩ := N.at'; rw [cell_at a1]; rfl
  have hP := planPlaceIn wk o l h b r hf 6 1 port (by omega) (by omega) (by omega) W
  rw [show 1 * (h - l + 1) + port - l = ((1 * n + x : Nat) : Int) by omega] at hP
  obtain ⟨y, hy⟩ : ∃ y : Nat, y = 1 * n + x := ⟨_, rfl⟩
  rw [← hy] at hP
  unfold cfgV at hP
  have hq1 : y / n = 1 := by rw [hy, Nat.mul_comm, Nat.mul_add_div (by omega), Nat.div_eq_of_lt hx]
  have hq2 : y % n = x := by rw [hy, Nat.mul_comm, Nat.mul_add_mod, Nat.mod_eq_of_lt hx]
  have Hq1 : Hid (y / n = 1) := hq1
  have Hq2 : Hid (y % n = x) := hq2
  clear hf hy hq1 hq2 hN hp
  go_enter Tryz.func16, Tryz.ntmps16
  go_wp2_with (first
    | (go_at_call 48; refine hP.mono ?_; rintro e w1 ⟨rfl, hk1⟩; have g1 : w1.cell? ⟨nt, 6, none⟩ = some (.int .i64 n) := (by obtain ⟨ep, p0, p1, p2, pc, tb, ws, cap, cur, a1, -, -, -, -, -, -, -⟩ := (N.keep hk1).at'; rw [cell_at a1]; rfl)))
  go_quiet (fail)
  have e1 : wrap64 ((y : Int) / n) = 1 := by rw [show (y : Int) / n = ((y / n : Nat) : Int) from rfl, Hq1.out]; kernel_rfl
  have e2 : (y : Int) % n = x := by rw [show (y : Int) % n = ((y % n : Nat) : Int) from rfl, Hq2.out]
  rw [e1, e2]
  clear e1 e2
  have hka : Kept W (w1.drewN nq) := hk1.drewN nq
  generalize w1.drewN nq = wa at hka ⊢
  have Na := N.keep hka
  obtain ⟨pc, hpc, hK⟩ := KindAt.of Na
  obtain ⟨⟨P, q1, q2⟩, -, -, -⟩ := hK 1 (by decide)
  simp only [Nat.reduceAdd] at q1
  clear hP f0 f1 f2 f3 f4 f5 hK N g1
  go_wp2_with (first
    | (go_at_call 50; refine (poolFree q2 (by omega) (by omega)).mono ?_; rintro e w2 ⟨v2, rfl, hk2, hown2⟩)
    | (go_at_call 49; refine (containsNums hown2 x hx).mono ?_; rintro e w3 ⟨rfl, hk3⟩)
    | (at_builtin; refine wpList_append_own _ rfl _ _ 49 rfl W.heap.size 52 i0 (.agg #[.int .i64 0, .int .i64 0]) 2 16 Tryz.underlying49 hi hz0 hz1 hz2 rfl (by decide) (.slice none 0 0) 0 [] rfl (World.ownsRow_nil _ _ _ _) ⟨w3.heap.size, 0, none⟩ 1 1 [.int .i64 1, .int .i64 (-1)] rfl rfl ?c1 ?c2 ?c3 ?c4 ?c5 ?_))
  case c1 =>
    intro q u hq
    match q, hq with
    | 0, hq => simp at hq; subst hq; simp [Addr.add]
    | 1, hq => simp at hq; subst hq; simp [Addr.add]
  case c2 => intro u hu; simp at hu; rcases hu with rfl | rfl <;> rfl
  case c3 => unfold maxLen; omega
  case c4 => omega
  case c5 => have := ((hka.trans hk2).trans hk3).size; simp; omega
  intro v' w5 hown' hgrow _
  have hk5 : Kept W w5 := by
    have hk4 := ((hka.trans hk2).trans hk3).alloc (Obj.cells #[Value.int IntKind.i64 1, Value.int IntKind.i64 (-1)] 52)
    exact hk4.grown hgrow hk4.size (fun q hq => by cases hq)
  have Nb : NatAt w5 nt wk o l h b r nw n := Na.keep (((hk2.trans hk3).alloc (Obj.cells #[Value.int IntKind.i64 1, Value.int IntKind.i64 (-1)] 52)).grow hgrow)
  clear hgrow hown2 hk2 hk3 q1 q2 hpc Na
  obtain ⟨pc, hpc, hK⟩ := KindAt.of Nb
  obtain ⟨-, ⟨ws, cap, q3, cur, q4, q7⟩, -, q6⟩ := hK 1 (by decide)
  clear hK
  go_wp2
  go_loopw [10, 57] (fun v i wr => ∃ k : Nat, k ≤ nw ∧ v = v' ∧ i = .int .i64 k ∧ Kept w5 wr) (fun _ i _ => nw - (intOf i).toNat)
  case atStart => exact ⟨0, Nat.zero_le _, rfl, rfl, Below.refl _ _⟩
  case round =>
    obtain ⟨k, hk, rfl, rfl, hkr⟩ := hrel
    by_cases hkn : k < nw
    · obtain ⟨x', c, P', q, vs, y1, y2, y3, y4⟩ := q7 k hkn
      have z1 : wr.cell? ⟨ws, k, none⟩ = some (.pointer (some ⟨x', 0, none⟩)) := by rw [cell_at (hkr.at q4)]; exact y1
      have z2 : wr.cell? ⟨x', 1, none⟩ = some (.pointer (some ⟨c, 0, none⟩)) := by rw [cell_at (hkr.at y2)]; exact y3
      have z3 := y4.keep hkr
      clear y1 y2 y3 y4 q7 q4
      go_wp2_with (first
        | (go_at_call 51; refine (cacheAll z3).mono ?_; rintro e w6 ⟨rfl, hk6⟩)
        | (go_at_call 52; refine (cacheLeaving ((z3.keep hk6).keep hk7)).mono ?_; rintro e w8 ⟨rfl, hk8⟩)
        | (go_at_call 49; refine (containsNil _ _).mono ?_; first | (have := hk8; rintro e w9 ⟨rfl, hk9⟩) | (rintro e w7 ⟨rfl, hk7⟩)))
      exact ⟨⟨k + 1, by omega, rfl, by go_num, (((hkr.trans hk6).trans hk7).trans hk8).trans hk9⟩, by simp [intOf]; omega⟩
    · have hkn' : k = nw := by omega
      subst hkn'
      clear hk hkn q7 q4
      have q6' : wr.cell? ⟨nt, 11, none⟩ = some (.pointer (some ⟨pc, 0, none⟩)) := by
        obtain ⟨ep, p0, p1, p2, pc', tb, ws, cap, cur, a1, -, -, -, -, -, -, -⟩ := Nb.at'
        rw [cell_at a1] at q6
        rw [cell_at (hkr.at a1)]
        exact q6
      have Nr := Nb.keep hkr
      clear q6 q3 Nb
      have hyn : y < 3 * n := by
        have h1 := Hq1.out
        have h2 := Nat.div_add_mod y n
        have h3 := Nat.mod_lt y (show 0 < n by omega)
        rw [h1] at h2
        omega
      go_wp2_with (first
        | (go_at_call 53; refine (placesLoad (hpc.keep hkr) y hyn).mono ?_; rintro e w6 ⟨rfl, hk6⟩; unfold word0; obtain ⟨ws3, cap3, q9⟩ := (Nr.keep hk6).wks))
      go_loopw [10, 106] (fun v i ws => ∃ j : Nat, j ≤ k ∧ v = u10 ∧ i = .int .i64 j ∧ Kept wr ws) (fun _ i _ => k - (intOf i).toNat)
      case atStart => exact ⟨0, Nat.zero_le _, rfl, rfl, hk6⟩
      case round =>
        obtain ⟨j, hj, rfl, rfl, hkr2⟩ := hrel
        by_cases hjn : j < k
        · go_wp2_with (first
            | (go_at_call 54; refine (natRetired (Nr.keep hkr2) j hjn y (by omega) (by omega)).mono ?_; rintro e w7 ⟨rfl, hk7⟩))
          exact ⟨⟨j + 1, by omega, rfl, by go_num, hkr2.trans hk7⟩, by simp [intOf]; omega⟩
        · have hjn' : j = k := by omega
          subst hjn'
          have hke := (hk5.trans hkr).trans hkr2
          have hoe := own_keep (own_keep hown' hkr) hkr2
          go_wp2
          go_ret
          exact ⟨_, rfl, hke, hoe⟩
set_option maxRecDepth 4000 in
theorem claimsIn2 {W : World} {nt : Nat} {wk o l h b r : Int} {nw n : Nat} (N : NatAt W nt wk o l h b r nw n) (hf : Fine wk o l h b r) (x : Nat) (port : Int) (hp : port = l + x) (hx : x < n) : Calls Tryz.prog 16 #[.pointer (some ⟨nt, 0, none⟩), .int .i64 17, .int .i64 port] W fun e w' => ∃ v, e = .returned v ∧ Kept W w' ∧ w'.ownsRow W.heap.size 52 2 v 1 [.int .i64 1, .int .i64 (-1)] := by
  obtain ⟨i0, hi, hz0, hz1, hz2⟩ := info_parts info52
  have hfd := field120
  have hN := N.pn
  have hnn := N.pl
  have hww := N.lo
  have f0 : W.cell? ⟨nt, 0, none⟩ = some (.int .i64 wk) := by obtain ⟨ep, p0, p1, p2, pc, tb, ws, cap, cur, a1, -, -, -, -, -, -, -⟩ := N.at'; rw [cell_at a1]; rfl
  have f1 : W.cell? ⟨nt, 1, none⟩ = some (.int .u32 o) := by obtain ⟨ep, p0, p1, p2, pc, tb, ws, cap, cur, a1, -, -, -, -, -, -, -⟩ := N.at'; rw [cell_at a1]; rfl
  have f2 : W.cell? ⟨nt, 2, none⟩ = some (.int .i64 l) := by obtain ⟨ep, p0, p1, p2, pc, tb, ws, cap, cur, a1, -, -, -, -, -, -, -⟩ := N.at'; rw [cell_at a1]; rfl
  have f3 : W.cell? ⟨nt, 3, none⟩ = some (.int .i64 h) := by obtain ⟨ep, p0, p1, p2, pc, tb, ws, cap, cur, a1, -, -, -, -, -, -, -⟩ := N.at'; rw [cell_at a1]; rfl
  have f4 : W.cell? ⟨nt, 4, none⟩ = some (.int .i64 b) := by obtain ⟨ep, p0, p1, p2, pc, tb, ws, cap, cur, a1, -, -, -, -, -, -, -⟩ := N.at'; rw [cell_at a1]; rfl
  have f5 : W.cell? ⟨nt, 5, none⟩ = some (.int .i64 r) := by obtain ⟨ep, p0, p1, p2, pc, tb, ws, cap, cur, a1, -, -, -, -, -, -, -⟩ := N.at'; rw [cell_at a1]; rfl
  have hP := planPlaceIn wk o l h b r hf 17 2 port (by omega) (by omega) (by omega) W
  rw [show 2 * (h - l + 1) + port - l = ((2 * n + x : Nat) : Int) by omega] at hP
  obtain ⟨y, hy⟩ : ∃ y : Nat, y = 2 * n + x := ⟨_, rfl⟩
  rw [← hy] at hP
  unfold cfgV at hP
  have hq1 : y / n = 2 := by rw [hy, Nat.mul_comm, Nat.mul_add_div (by omega), Nat.div_eq_of_lt hx]
  have hq2 : y % n = x := by rw [hy, Nat.mul_comm, Nat.mul_add_mod, Nat.mod_eq_of_lt hx]
  have Hq1 : Hid (y / n = 2) := hq1
  have Hq2 : Hid (y % n = x) := hq2
  clear hf hy hq1 hq2 hN hp
  go_enter Tryz.func16, Tryz.ntmps16
  go_wp2_with (first
    | (go_at_call 48; refine hP.mono ?_; rintro e w1 ⟨rfl, hk1⟩; have g1 : w1.cell? ⟨nt, 6, none⟩ = some (.int .i64 n) := (by obtain ⟨ep, p0, p1, p2, pc, tb, ws, cap, cur, a1, -, -, -, -, -, -, -⟩ := (N.keep hk1).at'; rw [cell_at a1]; rfl)))
  go_quiet (fail)
  have e1 : wrap64 ((y : Int) / n) = 2 := by rw [show (y : Int) / n = ((y / n : Nat) : Int) from rfl, Hq1.out]; kernel_rfl
  have e2 : (y : Int) % n = x := by rw [show (y : Int) % n = ((y % n : Nat) : Int) from rfl, Hq2.out]
  rw [e1, e2]
  clear e1 e2
  have hka : Kept W (w1.drewN nq) := hk1.drewN nq
  generalize w1.drewN nq = wa at hka ⊢
  have Na := N.keep hka
  obtain ⟨pc, hpc, hK⟩ := KindAt.of Na
  obtain ⟨⟨P, q1, q2⟩, -, -, -⟩ := hK 2 (by decide)
  simp only [Nat.reduceAdd] at q1
  clear hP f0 f1 f2 f3 f4 f5 hK N g1
  go_wp2_with (first
    | (go_at_call 50; refine (poolFree q2 (by omega) (by omega)).mono ?_; rintro e w2 ⟨v2, rfl, hk2, hown2⟩)
    | (go_at_call 49; refine (containsNums hown2 x hx).mono ?_; rintro e w3 ⟨rfl, hk3⟩)
    | (at_builtin; refine wpList_append_own _ rfl _ _ 49 rfl W.heap.size 52 i0 (.agg #[.int .i64 0, .int .i64 0]) 2 16 Tryz.underlying49 hi hz0 hz1 hz2 rfl (by decide) (.slice none 0 0) 0 [] rfl (World.ownsRow_nil _ _ _ _) ⟨w3.heap.size, 0, none⟩ 1 1 [.int .i64 1, .int .i64 (-1)] rfl rfl ?c1 ?c2 ?c3 ?c4 ?c5 ?_))
  case c1 =>
    intro q u hq
    match q, hq with
    | 0, hq => simp at hq; subst hq; simp [Addr.add]
    | 1, hq => simp at hq; subst hq; simp [Addr.add]
  case c2 => intro u hu; simp at hu; rcases hu with rfl | rfl <;> rfl
  case c3 => unfold maxLen; omega
  case c4 => omega
  case c5 => have := ((hka.trans hk2).trans hk3).size; simp; omega
  intro v' w5 hown' hgrow _
  have hk5 : Kept W w5 := by
    have hk4 := ((hka.trans hk2).trans hk3).alloc (Obj.cells #[Value.int IntKind.i64 1, Value.int IntKind.i64 (-1)] 52)
    exact hk4.grown hgrow hk4.size (fun q hq => by cases hq)
  have Nb : NatAt w5 nt wk o l h b r nw n := Na.keep (((hk2.trans hk3).alloc (Obj.cells #[Value.int IntKind.i64 1, Value.int IntKind.i64 (-1)] 52)).grow hgrow)
  clear hgrow hown2 hk2 hk3 q1 q2 hpc Na
  obtain ⟨pc, hpc, hK⟩ := KindAt.of Nb
  obtain ⟨-, ⟨ws, cap, q3, cur, q4, q7⟩, -, q6⟩ := hK 2 (by decide)
  clear hK
  go_wp2
  go_loopw [10, 57] (fun v i wr => ∃ k : Nat, k ≤ nw ∧ v = v' ∧ i = .int .i64 k ∧ Kept w5 wr) (fun _ i _ => nw - (intOf i).toNat)
  case atStart => exact ⟨0, Nat.zero_le _, rfl, rfl, Below.refl _ _⟩
  case round =>
    obtain ⟨k, hk, rfl, rfl, hkr⟩ := hrel
    by_cases hkn : k < nw
    · obtain ⟨x', c, P', q, vs, y1, y2, y3, y4⟩ := q7 k hkn
      have z1 : wr.cell? ⟨ws, k, none⟩ = some (.pointer (some ⟨x', 0, none⟩)) := by rw [cell_at (hkr.at q4)]; exact y1
      have z2 : wr.cell? ⟨x', 2, none⟩ = some (.pointer (some ⟨c, 0, none⟩)) := by rw [cell_at (hkr.at y2)]; exact y3
      have z3 := y4.keep hkr
      clear y1 y2 y3 y4 q7 q4
      go_wp2_with (first
        | (go_at_call 51; refine (cacheAll z3).mono ?_; rintro e w6 ⟨rfl, hk6⟩)
        | (go_at_call 52; refine (cacheLeaving ((z3.keep hk6).keep hk7)).mono ?_; rintro e w8 ⟨rfl, hk8⟩)
        | (go_at_call 49; refine (containsNil _ _).mono ?_; first | (have := hk8; rintro e w9 ⟨rfl, hk9⟩) | (rintro e w7 ⟨rfl, hk7⟩)))
      exact ⟨⟨k + 1, by omega, rfl, by go_num, (((hkr.trans hk6).trans hk7).trans hk8).trans hk9⟩, by simp [intOf]; omega⟩
    · have hkn' : k = nw := by omega
      subst hkn'
      clear hk hkn q7 q4
      have q6' : wr.cell? ⟨nt, 11, none⟩ = some (.pointer (some ⟨pc, 0, none⟩)) := by
        obtain ⟨ep, p0, p1, p2, pc', tb, ws, cap, cur, a1, -, -, -, -, -, -, -⟩ := Nb.at'
        rw [cell_at a1] at q6
        rw [cell_at (hkr.at a1)]
        exact q6
      have Nr := Nb.keep hkr
      clear q6 q3 Nb
      have hyn : y < 3 * n := by
        have h1 := Hq1.out
        have h2 := Nat.div_add_mod y n
        have h3 := Nat.mod_lt y (show 0 < n by omega)
        rw [h1] at h2
        omega
      go_wp2_with (first
        | (go_at_call 53; refine (placesLoad (hpc.keep hkr) y hyn).mono ?_; rintro e w6 ⟨rfl, hk6⟩; unfold word0; obtain ⟨ws3, cap3, q9⟩ := (Nr.keep hk6).wks))
      go_loopw [10, 106] (fun v i ws => ∃ j : Nat, j ≤ k ∧ v = u10 ∧ i = .int .i64 j ∧ Kept wr ws) (fun _ i _ => k - (intOf i).toNat)
      case atStart => exact ⟨0, Nat.zero_le _, rfl, rfl, hk6⟩
      case round =>
        obtain ⟨j, hj, rfl, rfl, hkr2⟩ := hrel
        by_cases hjn : j < k
        · go_wp2_with (first
            | (go_at_call 54; refine (natRetired (Nr.keep hkr2) j hjn y (by omega) (by omega)).mono ?_; rintro e w7 ⟨rfl, hk7⟩))
          exact ⟨⟨j + 1, by omega, rfl, by go_num, hkr2.trans hk7⟩, by simp [intOf]; omega⟩
        · have hjn' : j = k := by omega
          subst hjn'
          have hke := (hk5.trans hkr).trans hkr2
          have hoe := own_keep (own_keep hown' hkr) hkr2
          go_wp2
          go_ret
          exact ⟨_, rfl, hke, hoe⟩
end Go.Proofs.YtibcljekjjjnoaaGreatDoor.Kt

namespace Go.Proofs.YtibcljekjjjnoaaGreatDoor.Kt
open Go Go.RowKit
theorem claimsIn {W : World} {nt : Nat} {wk o l h b r : Int} {nw n : Nat} (N : NatAt W nt wk o l h b r nw n) (hf : Fine wk o l h b r) (p k port : Int) (hk : (p = 1 ∧ k = 0) ∨ (p = 6 ∧ k = 1) ∨ (p = 17 ∧ k = 2)) (h1 : l ≤ port) (h2 : port ≤ h) : Calls Tryz.prog 16 #[.pointer (some ⟨nt, 0, none⟩), .int .i64 p, .int .i64 port] W fun e w' => ∃ v, e = .returned v ∧ Kept W w' ∧ w'.ownsRow W.heap.size 52 2 v 1 [.int .i64 1, .int .i64 (-1)] := by
  have hn := N.pn
  have e1 : port = l + ((port - l).toNat : Int) := by omega
  have e2 : (port - l).toNat < n := by omega
  rcases hk with ⟨rfl, rfl⟩ | ⟨rfl, rfl⟩ | ⟨rfl, rfl⟩
  · exact claimsIn0 N hf _ port e1 e2
  · exact claimsIn1 N hf _ port e1 e2
  · exact claimsIn2 N hf _ port e1 e2
theorem pows_tab : ∀ b : Nat, b < 1025 → 2 ≤ b → bits BinOp.and IntKind.i64 (b : Int) ((b : Int) - 1) = 0 → b ∈ pows := by decide +kernel
theorem pows_of {b : Int} (h1 : 2 ≤ b) (h2 : b ≤ 1024) (h3 : bits BinOp.and IntKind.i64 b (b - 1) = 0) : ∃ k : Nat, b = k ∧ k ∈ pows := by
  obtain ⟨k, rfl⟩ : ∃ k : Nat, b = k := ⟨b.toNat, by omega⟩
  exact ⟨k, rfl, pows_tab k (by omega) (by omega) h3⟩
theorem nonempty {s : ByteArray} (h : ¬ s = ByteArray.empty) : s.toList.isEmpty = false := by
  cases e : s.toList.isEmpty with
  | false => rfl
  | true => exact absurd ((toList_nil_iff_emptyBytes s).1 (List.isEmpty_iff.1 e)) h
theorem emptyOf {s : ByteArray} (h : s = ByteArray.empty) : s.toList.isEmpty = true := by
  rw [(toList_nil_iff_emptyBytes s).2 h]; rfl
set_option maxRecDepth 4000 in
theorem natNewBad (wk o l h b r : Int) (hf : ¬ Fine wk o l h b r) (W : World) : Calls Tryz.prog 14 #[cfgV wk o l h b r] W fun e w' => e = .returned (.tuple #[.pointer none, .int .i64 1]) ∧ Kept W w' := by
  have hW := planWrong wk o l h b r (W.alloc (boxV wk o l h b r))
  unfold cfgV boxV at *
  go_enter Tryz.func14, Tryz.ntmps14
  go_wp2_with (first
    | (go_at_call 28; refine hW.mono ?_; rintro e w1 ⟨s, rfl, rfl, hs⟩; have hs' := nonempty (fun e => hf (hs.1 e))))
  go_ret2
  exact ⟨rfl, Kept.alloc (Kept.alloc (Below.refl _ _) _) _⟩

end Go.Proofs.YtibcljekjjjnoaaGreatDoor.Kt
