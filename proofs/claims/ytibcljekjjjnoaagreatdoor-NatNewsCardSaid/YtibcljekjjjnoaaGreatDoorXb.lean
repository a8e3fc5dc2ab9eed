import Derived.Test.YtibcljekjjjnoaaGreatDoorXa
import Derived.Test.YtibcljekjjjnoaaGreatDoorWh
import Derived.Test.YtibcljekjjjnoaaGreatDoorRows
import Derived.Test.YtibcljekjjjnoaaGreatDoorTie
import Derived.Test.YtibcljekjjjnoaaGreatDoorCards
import Derived.WalkKit
import Derived.ProofKit
import Derived.OpenShut
import Derived.LaidMore
import Derived.Stop.Joined
import Derived.SevenTiedAt
import Derived.Lib.SmallJoins
/- A part of the proof of NatNews: Xb. -/
set_option linter.all false
open Go Go.Ab
namespace Go.Proofs.YtibcljekjjjnoaaGreatDoor
set_option maxRecDepth 100000
theorem lift7 (h : saysTrue (runC 200 7 [] m0) = true) : saysTrue (run 100000 200 7 [] m0) = true := by
  rcases F.evS_le (plans := plans) (fns := fns) (cfs := cfF) (fs := fsC) (ext := ext)  cfF_eq (extX_eq 174 177 270) printed 200 7 [] m0 with e | e
  · have h' : saysTrue (F.evS fsC (extX 174 177 270) 200 7 [] m0) = true := h
    rw [e] at h'; cases h'
  · have h' : saysTrue (F.evS fsC (extX 174 177 270) 200 7 [] m0) = true := h
    rw [e] at h'; exact h'
theorem leaves_keeps {w w' : World} (h : Leaves w w') : Kt.Kept w w' :=
  ⟨h.os, h.tape, h.output, h.size, fun i hi => by
    by_cases h0 : i = 0
    · subst h0; exact h.zero
    · exact h.keep i hi h0⟩
theorem works_true {w : World} (hw : TabAt w) : Calls Tryz.prog 7 #[] w fun e w' => e = .returned (.bool true) ∧ Kt.Kept w w' :=
  (says (lift7 n7run) (by kernel_rfl) (by rfl) hw).mono fun e w' ⟨h1, h2⟩ => ⟨h1, leaves_keeps h2⟩
theorem tab_keep (w w' : World) (h : TabAt w) (k : Kt.Kept w w') : TabAt w' := by
  obtain ⟨e, fz, h0, hz⟩ := h
  exact ⟨e, fz, k.at h0, hz⟩
/-- THE WALK: whatever the Config is, where the table is laid, the function returns true and leaves all that was as it was -/
theorem walk4 (wk o l h b r : Int) {w : World} (hw : TabAt w) : Calls Tryz.prog 4 #[.agg #[.int .i64 wk, .int .u32 o, .int .i64 l, .int .i64 h, .int .i64 b, .int .i64 r]] w fun e w' => e = .returned (.bool true) ∧ w.keptBut w' (fun _ => False) := by
  by_cases hf : Kt.Fine wk o l h b r
  · exact (Kt.lawGood TabAt tab_keep (fun _ h => works_true h) wk o l h b r hf w hw).mono fun e w' ⟨h1, h2⟩ => ⟨h1, h2.frame _⟩
  · exact (Kt.lawBad TabAt tab_keep (fun _ h => works_true h) wk o l h b r hf w hw).mono fun e w' ⟨h1, h2⟩ => ⟨h1, h2.frame _⟩
end Go.Proofs.YtibcljekjjjnoaaGreatDoor

namespace Go.Proofs.YtibcljekjjjnoaaGreatDoor
open Go Go.Ab Go.ChangeShapes Go.WideShapes Go.ChangeAt Go.WideMaps Go.WideElems Go.RowKit
theorem own : ownKnob Tryz.prog.godebug = none := by kernel_rfl
abbrev laid1 : List (String × DataW Unit) := [("math/bits.deBruijn64tab", Rows.laid_math_bits_deBruijn64tab)]
theorem gTab : Tryz.prog.globalNamed "math/bits.deBruijn64tab" = some 0 := by kernel_rfl
theorem tTab : (Tryz.prog.globals[0]?).map (·.type) = some 380 := by kernel_rfl
theorem uTab : Tryz.prog.underlying 380 = some (.array 64 5) := by kernel_rfl
theorem u5 : Tryz.prog.underlying 5 = some (.int .u8) := by kernel_rfl
theorem c5of : Tryz.prog.cellsOf 5 = 1 := by kernel_rfl
theorem cTab : Tryz.prog.cellsOf 380 = 64 := by kernel_rfl

def laidL : List (DataW Unit) := match (Rows.laid_math_bits_deBruijn64tab : DataW Unit) with | .agg l => l | _ => []
theorem laid_all : (List.range 64).all (fun i => match laidL[i]?, tabV[i]? with | some (.lit (.int .u8 n)), some (.int .u8 k) => n == k | _, _ => false) = true := by kernel_rfl
theorem laid_tab (i : Nat) (hi : i < 64) : match laidL[i]? with | some (.lit (.int .u8 n)) => tabV[i]? = some (.int .u8 n) | _ => True := by
  have h := List.all_eq_true.1 laid_all i (List.mem_range.2 hi)
  split
  · rename_i n hn
    rw [hn] at h
    cases hk : tabV[i]? with
    | none => rw [hk] at h; cases h
    | some v =>
      rw [hk] at h
      cases v <;> try cases h
      rename_i kk k
      cases kk <;> try cases h
      have : n = k := by simpa using h
      rw [this]
  · trivial
/-- what the row lists gives the table -/
theorem tab_of_laid {W : World} (h : laidMetH Tryz.prog laid1 W) : TabAt W := by
  rw [MakeChecks.laidMetH_plain _ _ _ (by kernel_rfl)] at h
  obtain ⟨ps, ⟨g0, t0, cs0, f0, p0, q0, hg0, ht0, hv0, hd0, _, hps⟩, _, hfz⟩ := h
  obtain rfl := Option.some.inj (gTab.symm.trans hg0)
  obtain rfl := Option.some.inj (tTab.symm.trans ht0)
  obtain ⟨xs, m1, rfl, hx1, hlen, hn, hel⟩ := DataW.trod_array uTab hd0
  rw [cTab] at hlen
  have hsz : cs0.size = 64 := by simpa using hlen
  have hvar : ∃ e fz, W.heap[0]? = some (.cells cs0 e fz) := by
    simp only [World.var?, gTab, Option.bind_some] at hv0
    split at hv0
    · rename_i cs e fz he
      cases hv0
      exact ⟨e, fz, he⟩
    · cases hv0
  obtain ⟨e, fz, he⟩ := hvar
  have hfz0 : fz = (0, 0) := by
    obtain ⟨⟨c, t, hc⟩, _⟩ := hfz 0 0 (by
      rw [hps]
      refine List.mem_append_left _ (List.mem_append_left _ ?_)
      unfold MemPlace.row
      simp [hsz])
    rw [he] at hc
    cases hc
    rfl
  have hcells : cs0 = tabV.toArray := by
    apply Array.ext'
    apply List.ext_getElem?
    intro i
    by_cases hi : i < 64
    · have hi' := hel i hi
      rw [c5of, Nat.mul_one] at hi'
      have hxi : i < xs.length := by rw [hn]; exact hi
      rw [List.getElem?_eq_getElem hxi] at hi'
      obtain ⟨n, h1, h2, _⟩ := DataW.trod_int u5 hi'
      have hd : (xs.map (·.1))[i]? = some (.lit (.int .u8 n)) := by
        rw [List.getElem?_map, List.getElem?_eq_getElem hxi, h2]
        rfl
      have hx2 : DataW.agg (xs.map (·.1)) = Rows.laid_math_bits_deBruijn64tab := (Prod.mk.inj hx1).1.symm
      have hx3 : xs.map (·.1) = laidL := DataW.agg.inj (hx2.trans rfl)
      rw [hx3] at hd
      have hc : (cs0.toList.drop i).take 1 = [.int .u8 n] := h1
      have hget : cs0.toList[i]? = some (.int .u8 n) := by
        have := congrArg (fun l => l[0]?) hc
        simpa using this
      rw [hget]
      have hall := laid_tab i hi
      rw [hd] at hall
      exact hall.symm
    · rw [List.getElem?_eq_none (by simp [hsz]; omega), List.getElem?_eq_none (by simp [tabV_len]; omega)]
  subst hcells
  exact ⟨e, fz, he, by rw [hfz0]; exact .inl rfl⟩

end Go.Proofs.YtibcljekjjjnoaaGreatDoor
