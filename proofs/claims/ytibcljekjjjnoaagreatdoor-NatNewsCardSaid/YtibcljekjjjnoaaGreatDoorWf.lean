import Derived.Test.YtibcljekjjjnoaaGreatDoorWe
/- A part of the proof of NatNews: Wf. -/
set_option linter.all false
namespace Go.Proofs.YtibcljekjjjnoaaGreatDoor.Kt
open Go Go.RowKit
set_option maxHeartbeats 8000000 in
set_option maxRecDepth 100000 in
theorem natNew1 (nw kb n : Nat) (o l h r : Int) (hf : Fine nw o l h kb r) (hb : kb ∈ pows) (hn : h - l + 1 = n) (W : World) : Calls Tryz.prog 14 #[cfgV nw o l h kb r] W fun e w' => ∃ nt, e = .returned (.tuple #[.pointer (some ⟨nt, 0, none⟩), .int .i64 0]) ∧ Kept W w' ∧ NatAt w' nt nw o l h kb r nw n := by
  have hW := planWrong nw o l h kb r (W.alloc (boxV nw o l h kb r))
  have hP := planPorts nw o l h kb r hf ((W.alloc (boxV nw o l h kb r)).alloc (boxV nw o l h kb r)).drew
  rw [hn] at hP
  have hbx : Kept W ((W.alloc (boxV nw o l h kb r)).alloc (boxV nw o l h kb r)) := Kept.alloc (Kept.alloc (Below.refl _ _) _) _
  have hlo := hf.1
  have hpn : n ≤ 1024 ∧ 1 ≤ n := by obtain ⟨-, -, ⟨f1, f2, f3, f4⟩, -, -⟩ := hf; omega
  unfold cfgV boxV at *
  have hPl : ∀ w, Calls Tryz.prog 43 #[cfgV nw o l h kb r] w fun e w' => e = .returned (.int .i64 (3 * n)) ∧ Kept w w' := fun w => by
    have := planPlaces nw o l h kb r hf w
    rw [hn] at this
    exact this
  have Hn : Hid (h - l + 1 = n) := hn
  clear hn
  go_enter Tryz.func14, Tryz.ntmps14
  go_wp2_with (first
    | (go_at_call 28; refine hW.mono ?_; rintro e w1 ⟨s, rfl, rfl, hs⟩; have hs' := emptyOf (hs.2 hf); clear hs hW))
  go_cut [4] (fun v4 wx => ∃ nt, v4 = ptr nt ∧ Stage W wx nt nw kb n o l h r (.pointer none) (.pointer none) (.pointer none) (.pointer none) (.pointer none) (.pointer none) (.slice none 0 0))
  case first =>
    go_region_with (first
      | (go_at_call 40; refine hP.mono ?_; rintro e w1 ⟨rfl, rfl⟩))
    all_goals (go_wp2_with fail; go_meet)
    all_goals
      refine ⟨_, rfl, Below.drew (((hbx.alloc _).alloc _).alloc _), by omega, ?_, ?_⟩
    all_goals first
      | exact Kept.at (Below.drew ((((Kept.alloc (Below.refl _ _) _).alloc _).alloc _).alloc _)) (heap_alloc_new W _)
      | (have e := heap_alloc_new ((((W.alloc (boxV nw o l h kb r)).alloc (boxV nw o l h kb r)).alloc (boxV nw o l h kb r)).alloc (boxV nw o l h kb r)) (.cells (natC nw o l h kb r n (.pointer none) (.pointer none) (.pointer none) (.pointer none) (.pointer none) (.pointer none) (.slice none 0 0)) 87); simp only [World.size_alloc] at e; exact e)
  case rest =>
    obtain ⟨nt, rfl, S0⟩ := hcut
    clear hP hbx
    have b0 := S0.bx 0
    simp at b0
    go_upto_region 4 with fail
    go_cut [] (fun wx => ∃ ep, Stage W wx nt nw kb n o l h r (ptr ep) (.pointer none) (.pointer none) (.pointer none) (.pointer none) (.pointer none) (.slice none 0 0) ∧ EpochsAt wx ep nw)
    case first =>
      go_wp2_with (first
        | (go_at_call 41; refine (epochNew nw (by omega) (by omega) _).mono ?_; rintro e w1 ⟨ep, rfl, hk1, hep, hE⟩
           have S1 := S0.keep hk1
           have g1 : w1.cell? ⟨nt, 7, none⟩ = some (.pointer none) := (by rw [S1.cell]; rfl)
           have g2 := S1.free 7))
      go_meet
      exact ⟨ep, S1.set rfl, hE.keepX (S1.keptX 7 _)⟩
    case rest =>
      clear S0 b0
      obtain ⟨ep, S0, hE⟩ := hcut
      have b0 := S0.bx 0
      have b1 := S0.bx 1
      have b2 := S0.bx 2
      have b3 := S0.bx 3
      have b4 := S0.bx 4
      have b5 := S0.bx 5
      simp at b0 b1 b2 b3 b4 b5
      go_upto_region 5 with fail
      go_cut [] (fun wx => ∃ pc, Stage W wx nt nw kb n o l h r (ptr ep) (.pointer none) (.pointer none) (.pointer none) (ptr pc) (.pointer none) (.slice none 0 0) ∧ EpochsAt wx ep nw ∧ PlacesAt wx pc (3 * n))
      case first =>
        go_wp2_with (first
          | (go_at_call 43; refine (hPl _).mono ?_; rintro e w1 ⟨rfl, hk1⟩)
          | (go_at_call 42; refine (placeNewI _ (3 * n) (by omega) (by omega) (by omega) _).mono ?_; rintro e w2 ⟨pc, rfl, hk2, hpc, hC⟩
             have S1 := S0.keep (hk1.trans hk2)
             have g1 : w2.cell? ⟨nt, 11, none⟩ = some (.pointer none) := (by rw [S1.cell]; rfl)
             have g2 := S1.free 11))
        go_meet
        exact ⟨pc, S1.set rfl, (hE.keep (hk1.trans hk2)).keepX (S1.keptX 11 _), hC.keepX (S1.keptX 11 _)⟩
      case rest =>
        clear S0 b0 b1 b2 b3 b4 b5 hE
        obtain ⟨pc, S0, hE, hC⟩ := hcut
        have S1 : Stage W wc.drew nt nw kb n o l h r (ptr ep) (.pointer none) (.pointer none) (.pointer none) (ptr pc) (.pointer none) (.slice none 0 0) := S0.keep (Below.drew (Below.refl _ _))
        have hC1 : PlacesAt wc.drew pc (3 * n) := hC.keep (Below.drew (Below.refl _ _))
        have hT := tableNew hC1 kb hb
        have b4 := S1.bx 4
        have b6 := S1.cell 11
        have b4' := S0.bx 4
        have b6' := S0.cell 11
        simp [natC] at b4 b6 b4' b6'
        go_upto_region 6 with fail
        go_cut [] (fun wx => ∃ tb, Stage W wx nt nw kb n o l h r (ptr ep) (.pointer none) (.pointer none) (.pointer none) (ptr pc) (ptr tb) (.slice none 0 0) ∧ EpochsAt wx ep nw ∧ PlacesAt wx pc (3 * n))
        case first =>
          go_region_with (first
            | (go_at_call 44; refine hT.mono ?_; rintro e w1 ⟨tb, rfl, hk1, htb⟩
               have S2 := S1.keep hk1
               have g1 : w1.cell? ⟨nt, 12, none⟩ = some (.pointer none) := (by rw [S2.cell]; rfl)
               have g2 := S2.free 12))
          all_goals
            go_wp2_with fail
            go_meet
            exact ⟨tb, S2.set rfl, ((hE.keep (Below.drew (Below.refl _ _))).keep hk1).keepX (S2.keptX 12 _), (hC1.keep hk1).keepX (S2.keptX 12 _)⟩
        case rest =>
          clear S0 S1 b4 b6 b4' b6' hE hC hC1 hT
          obtain ⟨tb, S0, hE, hC⟩ := hcut
          go_wp2_with (fail)
          go_loopw [48] (fun i wr => ∃ k : Nat, k ≤ 3 ∧ i = .int .i64 k ∧ ∃ P0 P1 P2, Stage W wr nt nw kb n o l h r (ptr ep) P0 P1 P2 (ptr pc) (ptr tb) (.slice none 0 0) ∧ EpochsAt wr ep nw ∧ PlacesAt wr pc (3 * n) ∧
            (k = 0 → P0 = .pointer none) ∧ (k ≤ 1 → P1 = .pointer none) ∧ (k ≤ 2 → P2 = .pointer none) ∧
            (0 < k → ∃ p, P0 = ptr p ∧ PoolAt wr p n) ∧ (1 < k → ∃ p, P1 = ptr p ∧ PoolAt wr p n) ∧ (2 < k → ∃ p, P2 = ptr p ∧ PoolAt wr p n)) (fun i _ => 3 - (intOf i).toNat)
          case atStart => exact ⟨0, by omega, rfl, _, _, _, S0, hE, hC, fun _ => rfl, fun _ => rfl, fun _ => rfl, fun h => by omega, fun h => by omega, fun h => by omega⟩
          case round =>
            clear S0 hE hC
            obtain ⟨k, hk, rfl, P0, P1, P2, S0, hE, hC, e0, e1, e2, d0, d1, d2⟩ := hrel
            have hk4 : k = 0 ∨ k = 1 ∨ k = 2 ∨ k = 3 := by omega
            rcases hk4 with rfl | rfl | rfl | rfl
            · obtain rfl := e0 rfl
              obtain rfl := e1 (by omega)
              obtain rfl := e2 (by omega)
              clear d0 d1 d2 e0 e1 e2
              have S1 := S0.keep (Below.drew (Below.refl _ _))
              have b0 := S0.cell 6
              simp [natC] at b0
              go_wp2_with (fail)
              go_region_with (first
                | (go_at_call 45; refine (poolNewI _ n (by omega) (by omega) (by omega) _).mono ?_; rintro e w1 ⟨p0, rfl, hk1, hpp, D0⟩
                   have S2 := S1.keep hk1
                   have g1 : w1.cell? ⟨nt, 8, none⟩ = some (.pointer none) := (by rw [S2.cell]; rfl)
                   have g2 := S2.free 8))
              have kx : KeptX wr (w1.setCell ⟨nt, 8, none⟩ (ptr p0)) := ((KeptX.of (Below.drew (Below.refl _ _))).trans (KeptX.of hk1)).trans (S2.keptX 8 _)
              have fin : ∃ k : Nat, k ≤ 3 ∧ Value.int .i64 1 = .int .i64 k ∧ ∃ P0 P1 P2, Stage W (w1.setCell ⟨nt, 8, none⟩ (ptr p0)) nt nw kb n o l h r (ptr ep) P0 P1 P2 (ptr pc) (ptr tb) (.slice none 0 0) ∧ EpochsAt (w1.setCell ⟨nt, 8, none⟩ (ptr p0)) ep nw ∧ PlacesAt (w1.setCell ⟨nt, 8, none⟩ (ptr p0)) pc (3 * n) ∧
                  (k = 0 → P0 = .pointer none) ∧ (k ≤ 1 → P1 = .pointer none) ∧ (k ≤ 2 → P2 = .pointer none) ∧ (0 < k → ∃ p, P0 = ptr p ∧ PoolAt (w1.setCell ⟨nt, 8, none⟩ (ptr p0)) p n) ∧ (1 < k → ∃ p, P1 = ptr p ∧ PoolAt (w1.setCell ⟨nt, 8, none⟩ (ptr p0)) p n) ∧ (2 < k → ∃ p, P2 = ptr p ∧ PoolAt (w1.setCell ⟨nt, 8, none⟩ (ptr p0)) p n) :=
                ⟨1, by omega, rfl, _, _, _, S2.set rfl, hE.keepX kx, hC.keepX kx, (fun h => by omega), (fun _ => rfl), (fun _ => rfl), (fun _ => ⟨p0, rfl, D0.keepX (S2.keptX 8 _)⟩), (fun h => by omega), (fun h => by omega)⟩
              clear kx S0 S1 S2 hE hC b0
              go_wp2
              exact ⟨fin, by simp [intOf]⟩
            · obtain ⟨p0, rfl, D0⟩ := d0 (by omega)
              obtain rfl := e1 (by omega)
              obtain rfl := e2 (by omega)
              clear d0 d1 d2 e0 e1 e2
              have S1 := S0.keep (Below.drew (Below.refl _ _))
              have b0 := S0.cell 6
              simp [natC] at b0
              go_wp2_with (fail)
              go_region_with (first
                | (go_at_call 45; refine (poolNewI _ n (by omega) (by omega) (by omega) _).mono ?_; rintro e w1 ⟨p1, rfl, hk1, hpp, D1⟩
                   have S2 := S1.keep hk1
                   have g1 : w1.cell? ⟨nt, 9, none⟩ = some (.pointer none) := (by rw [S2.cell]; rfl)
                   have g2 := S2.free 9))
              have kx : KeptX wr (w1.setCell ⟨nt, 9, none⟩ (ptr p1)) := ((KeptX.of (Below.drew (Below.refl _ _))).trans (KeptX.of hk1)).trans (S2.keptX 9 _)
              have fin : ∃ k : Nat, k ≤ 3 ∧ Value.int .i64 2 = .int .i64 k ∧ ∃ P0 P1 P2, Stage W (w1.setCell ⟨nt, 9, none⟩ (ptr p1)) nt nw kb n o l h r (ptr ep) P0 P1 P2 (ptr pc) (ptr tb) (.slice none 0 0) ∧ EpochsAt (w1.setCell ⟨nt, 9, none⟩ (ptr p1)) ep nw ∧ PlacesAt (w1.setCell ⟨nt, 9, none⟩ (ptr p1)) pc (3 * n) ∧
                  (k = 0 → P0 = .pointer none) ∧ (k ≤ 1 → P1 = .pointer none) ∧ (k ≤ 2 → P2 = .pointer none) ∧ (0 < k → ∃ p, P0 = ptr p ∧ PoolAt (w1.setCell ⟨nt, 9, none⟩ (ptr p1)) p n) ∧ (1 < k → ∃ p, P1 = ptr p ∧ PoolAt (w1.setCell ⟨nt, 9, none⟩ (ptr p1)) p n) ∧ (2 < k → ∃ p, P2 = ptr p ∧ PoolAt (w1.setCell ⟨nt, 9, none⟩ (ptr p1)) p n) :=
                ⟨2, by omega, rfl, _, _, _, S2.set rfl, hE.keepX kx, hC.keepX kx, (fun h => by omega), (fun h => by omega), (fun _ => rfl), (fun _ => ⟨p0, rfl, D0.keepX kx⟩), (fun _ => ⟨p1, rfl, D1.keepX (S2.keptX 9 _)⟩), (fun h => by omega)⟩
              clear kx S0 S1 S2 hE hC b0
              go_wp2
              exact ⟨fin, by simp [intOf]⟩
            · obtain ⟨p0, rfl, D0⟩ := d0 (by omega)
              obtain ⟨p1, rfl, D1⟩ := d1 (by omega)
              obtain rfl := e2 (by omega)
              clear d0 d1 d2 e0 e1 e2
              have S1 := S0.keep (Below.drew (Below.refl _ _))
              have b0 := S0.cell 6
              simp [natC] at b0
              go_wp2_with (fail)
              go_region_with (first
                | (go_at_call 45; refine (poolNewI _ n (by omega) (by omega) (by omega) _).mono ?_; rintro e w1 ⟨p2, rfl, hk1, hpp, D2⟩
                   have S2 := S1.keep hk1
                   have g1 : w1.cell? ⟨nt, 10, none⟩ = some (.pointer none) := (by rw [S2.cell]; rfl)
                   have g2 := S2.free 10))
              have kx : KeptX wr (w1.setCell ⟨nt, 10, none⟩ (ptr p2)) := ((KeptX.of (Below.drew (Below.refl _ _))).trans (KeptX.of hk1)).trans (S2.keptX 10 _)
              have fin : ∃ k : Nat, k ≤ 3 ∧ Value.int .i64 3 = .int .i64 k ∧ ∃ P0 P1 P2, Stage W (w1.setCell ⟨nt, 10, none⟩ (ptr p2)) nt nw kb n o l h r (ptr ep) P0 P1 P2 (ptr pc) (ptr tb) (.slice none 0 0) ∧ EpochsAt (w1.setCell ⟨nt, 10, none⟩ (ptr p2)) ep nw ∧ PlacesAt (w1.setCell ⟨nt, 10, none⟩ (ptr p2)) pc (3 * n) ∧
                  (k = 0 → P0 = .pointer none) ∧ (k ≤ 1 → P1 = .pointer none) ∧ (k ≤ 2 → P2 = .pointer none) ∧ (0 < k → ∃ p, P0 = ptr p ∧ PoolAt (w1.setCell ⟨nt, 10, none⟩ (ptr p2)) p n) ∧ (1 < k → ∃ p, P1 = ptr p ∧ PoolAt (w1.setCell ⟨nt, 10, none⟩ (ptr p2)) p n) ∧ (2 < k → ∃ p, P2 = ptr p ∧ PoolAt (w1.setCell ⟨nt, 10, none⟩ (ptr p2)) p n) :=
                ⟨3, by omega, rfl, _, _, _, S2.set rfl, hE.keepX kx, hC.keepX kx, (fun h => by omega), (fun h => by omega), (fun h => by omega), (fun _ => ⟨p0, rfl, D0.keepX kx⟩), (fun _ => ⟨p1, rfl, D1.keepX kx⟩), (fun _ => ⟨p2, rfl, D2.keepX (S2.keptX 10 _)⟩)⟩
              clear kx S0 S1 S2 hE hC b0
              go_wp2
              exact ⟨fin, by simp [intOf]⟩
            · obtain ⟨p0, rfl, D0⟩ := d0 (by omega)
              obtain ⟨p1, rfl, D1⟩ := d1 (by omega)
              obtain ⟨p2, rfl, D2⟩ := d2 (by omega)
              clear d0 d1 d2 e0 e1 e2
              have b0 := S0.bx 0
              simp at b0
              go_wp2_with (fail)
              go_loopw [67] (fun i ws => ∃ k : Nat, k ≤ nw ∧ i = .int .i64 k ∧ ∃ sl xs, Stage W ws nt nw kb n o l h r (ptr ep) (ptr p0) (ptr p1) (ptr p2) (ptr pc) (ptr tb) sl ∧ EpochsAt ws ep nw ∧ PlacesAt ws pc (3 * n) ∧ PoolAt ws p0 n ∧ PoolAt ws p1 n ∧ PoolAt ws p2 n ∧
                ws.ownsRow (nt + 1) 78 1 sl k xs ∧ ∀ i, i < k → ∃ x, xs[i]? = some (ptr x) ∧ WorkerAt ws x p0 p1 p2 i) (fun i _ => nw - (intOf i).toNat)
              case atStart => exact ⟨0, by omega, rfl, _, [], S0, hE, hC, D0, D1, D2, World.ownsRow_nil _ _ _ _, fun i hi => by omega⟩
              case round =>
                clear S0 hE hC D0 D1 D2 b0
                obtain ⟨k, hk, rfl, sl, xs, S0, hE, hC, D0, D1, D2, hown, hall⟩ := hrel
                have hmm := @run_makeMap Tryz.prog
                obtain ⟨i0, hi, hz0, hz1, hz2⟩ := info_parts info78
                have hlt := S0.size
                by_cases hkn : k < nw
                · go_wp2_with (first
                    | (go_at_call 46; refine (wheelNew _).mono ?_; rintro e w1 ⟨wh, rfl, hk1, hwh⟩; have hs1 := hk1.size))
                  obtain ⟨X, hX⟩ : ∃ X, X = w1.heap.size + 1 := ⟨_, rfl⟩
                  have hsz2 : (w1.alloc (.map #[] 0)).heap.size = X := by simp [hX]
                  simp only [← hX]
                  have hkm := (hk1.alloc (.map #[] 0)).alloc (.cells (wkC (.pointer none) (.pointer none) (.pointer none) wh w1.heap.size) 113)
                  have hxm := heap_alloc_new (w1.alloc (.map #[] 0)) (.cells (wkC (.pointer none) (.pointer none) (.pointer none) wh w1.heap.size) 113)
                  rw [hsz2] at hxm
                  have hXle : wr.heap.size ≤ X := by omega
                  have hXn : X ≠ nt := by omega
                  unfold wkC at hkm hxm
                  generalize ((w1.alloc (.map #[] 0)).alloc (.cells #[.pointer none, .pointer none, .pointer none, .pointer (some ⟨wh, 0, none⟩), .map (some w1.heap.size), .pointer none, .pointer none, .slice none 0 0, .int .i64 0, .bool false, .slice none 0 0] 113)) = wm at hkm hxm ⊢
                  generalize w1.heap.size = mp at hxm ⊢
                  clear hk1 hs1 hwh hsz2 hX hmm w1
                  obtain ⟨wq, hwq⟩ : ∃ wq, wq = wr := ⟨_, rfl⟩
                  rw [← hwq] at hkm S0 hE hC D0 D1 D2 hown hall hXle
                  go_loopw [74] (fun i ws => ∃ j : Nat, j ≤ 3 ∧ i = .int .i64 j ∧ Kept wq ws ∧ ∃ C0 C1 C2, ws.heap[X]? = some (.cells (wkC C0 C1 C2 wh mp) 113 (0, 0)) ∧
                    (0 < j → ∃ c, C0 = ptr c ∧ CacheAt ws c p0 k) ∧ (1 < j → ∃ c, C1 = ptr c ∧ CacheAt ws c p1 k) ∧ (2 < j → ∃ c, C2 = ptr c ∧ CacheAt ws c p2 k)) (fun i _ => 3 - (intOf i).toNat)
                  case atStart => exact ⟨0, by omega, rfl, hkm, _, _, _, hxm, fun h => by omega, fun h => by omega, fun h => by omega⟩
                  case round =>
                    clear hkm hxm hwq
                    obtain ⟨j, hj, rfl, hkr, C0, C1, C2, hx, d0, d1, d2⟩ := hrel
                    have T0 := S0.keep hkr
                    have hj4 : j = 0 ∨ j = 1 ∨ j = 2 ∨ j = 3 := by omega
                    rcases hj4 with rfl | rfl | rfl | rfl
                    · clear d0 d1 d2
                      have T1 := T0.keep (Below.drew (Below.refl _ _))
                      have b0 := T1.cell 8
                      simp [natC] at b0
                      go_wp2_with (fail)
                      go_region_with (first
                        | (go_at_call 47; refine (cacheNew _ _ _).mono ?_; rintro e w1 ⟨c, rfl, hk1, hcc, GG⟩
                           have hx1 := hk1.at (show _ = _ from hx)
                           have g1 : w1.cell? ⟨X, 0, none⟩ = some C0 := (by rw [cell_at hx1]; rfl)
                           have g2 := frozen_at hx1 0))
                      have hx2 : (w1.setCell ⟨X, 0, none⟩ (ptr c)).heap[X]? = some (.cells (wkC (ptr c) C1 C2 wh mp) 113 (0, 0)) := (by rw [heap_setCell_at hx1]; rfl)
                      have K0 : CacheAt (w1.setCell ⟨X, 0, none⟩ (ptr c)) c p0 k := keep_set hx1 GG (by decide)
                      have hk2 : Kept wq (w1.setCell ⟨X, 0, none⟩ (ptr c)) := ((hkr.trans (Below.drew (Below.refl _ _))).trans hk1).setCell hXle _
                      have fin : ∃ j : Nat, j ≤ 3 ∧ Value.int .i64 1 = .int .i64 j ∧ Kept wq (w1.setCell ⟨X, 0, none⟩ (ptr c)) ∧ ∃ C0 C1 C2, (w1.setCell ⟨X, 0, none⟩ (ptr c)).heap[X]? = some (.cells (wkC C0 C1 C2 wh mp) 113 (0, 0)) ∧
                          (0 < j → ∃ d, C0 = ptr d ∧ CacheAt (w1.setCell ⟨X, 0, none⟩ (ptr c)) d p0 k) ∧ (1 < j → ∃ d, C1 = ptr d ∧ CacheAt (w1.setCell ⟨X, 0, none⟩ (ptr c)) d p1 k) ∧ (2 < j → ∃ d, C2 = ptr d ∧ CacheAt (w1.setCell ⟨X, 0, none⟩ (ptr c)) d p2 k) :=
                        ⟨1, by omega, rfl, hk2, _, _, _, hx2, (fun _ => ⟨c, rfl, K0⟩), (fun h => by omega), (fun h => by omega)⟩
                      clear T0 T1 hk2 hx2 b0 K0
                      go_wp2
                      exact ⟨fin, by simp [intOf]⟩
                    · obtain ⟨c0, rfl, G0⟩ := d0 (by omega)
                      clear d0 d1 d2
                      have T1 := T0.keep (Below.drew (Below.refl _ _))
                      have b0 := T1.cell 9
                      simp [natC] at b0
                      go_wp2_with (fail)
                      go_region_with (first
                        | (go_at_call 47; refine (cacheNew _ _ _).mono ?_; rintro e w1 ⟨c, rfl, hk1, hcc, GG⟩
                           have hx1 := hk1.at (show _ = _ from hx)
                           have g1 : w1.cell? ⟨X, 1, none⟩ = some C1 := (by rw [cell_at hx1]; rfl)
                           have g2 := frozen_at hx1 1))
                      have hx2 : (w1.setCell ⟨X, 1, none⟩ (ptr c)).heap[X]? = some (.cells (wkC (ptr c0) (ptr c) C2 wh mp) 113 (0, 0)) := (by rw [heap_setCell_at hx1]; rfl)
                      have K0 : CacheAt (w1.setCell ⟨X, 1, none⟩ (ptr c)) c0 p0 k := keep_set hx1 (hk1.at (show _ = _ from G0)) (by decide)
                      have K1 : CacheAt (w1.setCell ⟨X, 1, none⟩ (ptr c)) c p1 k := keep_set hx1 GG (by decide)
                      have hk2 : Kept wq (w1.setCell ⟨X, 1, none⟩ (ptr c)) := ((hkr.trans (Below.drew (Below.refl _ _))).trans hk1).setCell hXle _
                      have fin : ∃ j : Nat, j ≤ 3 ∧ Value.int .i64 2 = .int .i64 j ∧ Kept wq (w1.setCell ⟨X, 1, none⟩ (ptr c)) ∧ ∃ C0 C1 C2, (w1.setCell ⟨X, 1, none⟩ (ptr c)).heap[X]? = some (.cells (wkC C0 C1 C2 wh mp) 113 (0, 0)) ∧
                          (0 < j → ∃ d, C0 = ptr d ∧ CacheAt (w1.setCell ⟨X, 1, none⟩ (ptr c)) d p0 k) ∧ (1 < j → ∃ d, C1 = ptr d ∧ CacheAt (w1.setCell ⟨X, 1, none⟩ (ptr c)) d p1 k) ∧ (2 < j → ∃ d, C2 = ptr d ∧ CacheAt (w1.setCell ⟨X, 1, none⟩ (ptr c)) d p2 k) :=
                        ⟨2, by omega, rfl, hk2, _, _, _, hx2, (fun _ => ⟨c0, rfl, K0⟩), (fun _ => ⟨c, rfl, K1⟩), (fun h => by omega)⟩
                      clear T0 T1 hk2 hx2 b0 K0 K1
                      go_wp2
                      exact ⟨fin, by simp [intOf]⟩
                    · obtain ⟨c0, rfl, G0⟩ := d0 (by omega)
                      obtain ⟨c1, rfl, G1⟩ := d1 (by omega)
                      clear d0 d1 d2
                      have T1 := T0.keep (Below.drew (Below.refl _ _))
                      have b0 := T1.cell 10
                      simp [natC] at b0
                      go_wp2_with (fail)
                      go_region_with (first
                        | (go_at_call 47; refine (cacheNew _ _ _).mono ?_; rintro e w1 ⟨c, rfl, hk1, hcc, GG⟩
                           have hx1 := hk1.at (show _ = _ from hx)
                           have g1 : w1.cell? ⟨X, 2, none⟩ = some C2 := (by rw [cell_at hx1]; rfl)
                           have g2 := frozen_at hx1 2))
                      have hx2 : (w1.setCell ⟨X, 2, none⟩ (ptr c)).heap[X]? = some (.cells (wkC (ptr c0) (ptr c1) (ptr c) wh mp) 113 (0, 0)) := (by rw [heap_setCell_at hx1]; rfl)
                      have K0 : CacheAt (w1.setCell ⟨X, 2, none⟩ (ptr c)) c0 p0 k := keep_set hx1 (hk1.at (show _ = _ from G0)) (by decide)
                      have K1 : CacheAt (w1.setCell ⟨X, 2, none⟩ (ptr c)) c1 p1 k := keep_set hx1 (hk1.at (show _ = _ from G1)) (by decide)
                      have K2 : CacheAt (w1.setCell ⟨X, 2, none⟩ (ptr c)) c p2 k := keep_set hx1 GG (by decide)
                      have hk2 : Kept wq (w1.setCell ⟨X, 2, none⟩ (ptr c)) := ((hkr.trans (Below.drew (Below.refl _ _))).trans hk1).setCell hXle _
                      have fin : ∃ j : Nat, j ≤ 3 ∧ Value.int .i64 3 = .int .i64 j ∧ Kept wq (w1.setCell ⟨X, 2, none⟩ (ptr c)) ∧ ∃ C0 C1 C2, (w1.setCell ⟨X, 2, none⟩ (ptr c)).heap[X]? = some (.cells (wkC C0 C1 C2 wh mp) 113 (0, 0)) ∧
                          (0 < j → ∃ d, C0 = ptr d ∧ CacheAt (w1.setCell ⟨X, 2, none⟩ (ptr c)) d p0 k) ∧ (1 < j → ∃ d, C1 = ptr d ∧ CacheAt (w1.setCell ⟨X, 2, none⟩ (ptr c)) d p1 k) ∧ (2 < j → ∃ d, C2 = ptr d ∧ CacheAt (w1.setCell ⟨X, 2, none⟩ (ptr c)) d p2 k) :=
                        ⟨3, by omega, rfl, hk2, _, _, _, hx2, (fun _ => ⟨c0, rfl, K0⟩), (fun _ => ⟨c1, rfl, K1⟩), (fun _ => ⟨c, rfl, K2⟩)⟩
                      clear T0 T1 hk2 hx2 b0 K0 K1 K2
                      go_wp2
                      exact ⟨fin, by simp [intOf]⟩
                    · obtain ⟨c0, rfl, G0⟩ := d0 (by omega)
                      obtain ⟨c1, rfl, G1⟩ := d1 (by omega)
                      obtain ⟨c2, rfl, G2⟩ := d2 (by omega)
                      clear d0 d1 d2
                      have b13 := T0.cell 13
                      simp [natC] at b13
                      have hown1 := own_keep hown hkr
                      have hszr := T0.size
                      go_wp2_with (first
                        | (at_builtin; refine wpList_append_own _ rfl _ _ 85 rfl (nt + 1) 78 i0 (.pointer none) 1 8 Tryz.underlying85 hi hz0 hz1 hz2 rfl (by decide) sl k xs rfl (hown1.alloc _) ⟨wr.heap.size, 0, none⟩ 1 1 [ptr X] rfl rfl ?c1 ?c2 ?c3 ?c4 ?c5 ?_))
                      case c1 =>
                        intro q u hq
                        match q, hq with
                        | 0, hq => simp at hq; subst hq; simp [Addr.add]
                      case c2 => intro u hu; simp at hu; subst hu; rfl
                      case c3 => unfold maxLen; omega
                      case c4 => omega
                      case c5 => simp; omega
                      intro v' w5 hown' hgrow _
                      obtain ⟨gr, capr, hvr⟩ : ∃ g cap, v' = .slice (some ⟨g, 0, none⟩) (k + 1) cap := by
                        obtain ⟨g, cap, cur, e, _⟩ := own_cell hown' (by omega)
                        exact ⟨g, cap, e⟩
                      subst hvr
                      have ka := (Below.refl wr.heap.size wr).alloc (Nat.le_refl _) (.cells #[ptr X] 78)
                      have Ta := (T0.keep ka).grown (hown1.alloc _) hgrow
                      have kx : KeptX wq w5 := ((KeptX.of hkr).trans (KeptX.of ka)).trans (KeptX.grown (hown1.alloc _) hgrow)
                      have g1 : w5.cell? ⟨nt, 13, none⟩ = some sl := (by rw [Ta.cell]; rfl)
                      have g2 := Ta.free 13
                      have hW5 : WorkerAt w5 X p0 p1 p2 k := WorkerAt.keepX ⟨c0, c1, c2, wh, mp, hx, G0, G1, G2⟩ ((KeptX.of ka).trans (KeptX.grown (hown1.alloc _) hgrow))
                      have kx2 := Ta.keptX 13 (.slice (some ⟨gr, 0, none⟩) (k + 1) capr)
                      have hall2 : ∀ i, i < k + 1 → ∃ x, (xs ++ [ptr X])[i]? = some (ptr x) ∧ WorkerAt (w5.setCell ⟨nt, 13, none⟩ (.slice (some ⟨gr, 0, none⟩) (k + 1) capr)) x p0 p1 p2 i := fun i hi => by
                        by_cases hik : i < k
                        · obtain ⟨x, e1, e2⟩ := hall i hik
                          refine ⟨x, ?_, (e2.keepX kx).keepX kx2⟩
                          rw [List.getElem?_append_left (List.getElem?_eq_some_iff.1 e1).1]
                          exact e1
                        · obtain rfl : i = k := by omega
                          refine ⟨X, ?_, hW5.keepX kx2⟩
                          have hl : xs.length = i := by have := hown.1; omega
                          rw [List.getElem?_append_right (by omega), hl]
                          simp
                      have fin : ∃ q : Nat, q ≤ nw ∧ Value.int .i64 ((k : Int) + 1) = .int .i64 q ∧ ∃ sl xs, Stage W (w5.setCell ⟨nt, 13, none⟩ (.slice (some ⟨gr, 0, none⟩) (k + 1) capr)) nt nw kb n o l h r (ptr ep) (ptr p0) (ptr p1) (ptr p2) (ptr pc) (ptr tb) sl ∧ EpochsAt (w5.setCell ⟨nt, 13, none⟩ (.slice (some ⟨gr, 0, none⟩) (k + 1) capr)) ep nw ∧ PlacesAt (w5.setCell ⟨nt, 13, none⟩ (.slice (some ⟨gr, 0, none⟩) (k + 1) capr)) pc (3 * n) ∧ PoolAt (w5.setCell ⟨nt, 13, none⟩ (.slice (some ⟨gr, 0, none⟩) (k + 1) capr)) p0 n ∧ PoolAt (w5.setCell ⟨nt, 13, none⟩ (.slice (some ⟨gr, 0, none⟩) (k + 1) capr)) p1 n ∧ PoolAt (w5.setCell ⟨nt, 13, none⟩ (.slice (some ⟨gr, 0, none⟩) (k + 1) capr)) p2 n ∧
                          (w5.setCell ⟨nt, 13, none⟩ (.slice (some ⟨gr, 0, none⟩) (k + 1) capr)).ownsRow (nt + 1) 78 1 sl q xs ∧ ∀ i, i < q → ∃ x, xs[i]? = some (ptr x) ∧ WorkerAt (w5.setCell ⟨nt, 13, none⟩ (.slice (some ⟨gr, 0, none⟩) (k + 1) capr)) x p0 p1 p2 i :=
                        ⟨k + 1, by omega, rfl, _, xs ++ [ptr X], Ta.set rfl, (hE.keepX kx).keepX kx2, (hC.keepX kx).keepX kx2, (D0.keepX kx).keepX kx2, (D1.keepX kx).keepX kx2, (D2.keepX kx).keepX kx2, ownsRow_setCell_below hown' (by simp) _, hall2⟩
                      clear T0 ka Ta kx hW5 kx2 hall2 hgrow hown' hown1 hown hall hE hC D0 D1 D2 S0 b13 hx G0 G1 G2
                      go_wp2
                      refine ⟨⟨_, _, _, _, _, _, _, _, _, _, _, _, _, _, _, _, _, _, _, _, _, _, _, _, _, _, _, _, _, _, _, _, _, _, _, _, _, _, _, _, _, fin, rfl⟩, ?_⟩
                      simp [intOf]; omega
                · have hkn' : k = nw := by omega
                  clear hmm hi hz0 hz1 hz2
                  subst hkn'
                  obtain ⟨gr, capr, curr, rfl, q1, q2, q3⟩ := own_cell hown (by omega)
                  have fin : NatAt wr nt k o l h kb r k n := ⟨rfl, by omega, Hn.out, ⟨hpn.2, hpn.1⟩, ep, p0, p1, p2, pc, tb, gr, capr, curr, S0.at', hE, D0, D1, D2, hC, q1, fun i hi => by
                    obtain ⟨x, e1, e2⟩ := hall i hi
                    exact ⟨x, by rw [q3 i hi]; exact e1, e2⟩⟩
                  have hkw := S0.kept
                  clear S0 hE hC D0 D1 D2 hown hall q1 q2 q3
                  go_wp2
                  go_ret2
                  exact ⟨nt, rfl, hkw, fin⟩
end Go.Proofs.YtibcljekjjjnoaaGreatDoor.Kt

namespace Go.Proofs.YtibcljekjjjnoaaGreatDoor.Kt
open Go Go.RowKit
theorem natNewGood (wk o l h b r : Int) (hf : Fine wk o l h b r) (W : World) : Calls Tryz.prog 14 #[cfgV wk o l h b r] W fun e w' => ∃ nt nw n, e = .returned (.tuple #[.pointer (some ⟨nt, 0, none⟩), .int .i64 0]) ∧ Kept W w' ∧ NatAt w' nt wk o l h b r nw n := by
  obtain ⟨f1, f2, f3, f4, f5⟩ := id hf
  obtain ⟨kb, rfl, hkb⟩ := pows_of f4.1 f4.2.1 f4.2.2
  obtain ⟨nw, rfl⟩ : ∃ nw : Nat, wk = nw := ⟨wk.toNat, by omega⟩
  obtain ⟨n, hn⟩ : ∃ n : Nat, h - l + 1 = n := ⟨(h - l + 1).toNat, by omega⟩
  exact (natNew1 nw kb n o l h r hf hkb hn W).mono fun e w' ⟨nt, h1, h2, h3⟩ => ⟨nt, nw, n, h1, h2, h3⟩
end Go.Proofs.YtibcljekjjjnoaaGreatDoor.Kt
