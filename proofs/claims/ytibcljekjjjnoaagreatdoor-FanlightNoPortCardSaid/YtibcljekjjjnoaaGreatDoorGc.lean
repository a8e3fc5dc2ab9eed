import Derived.Test.YtibcljekjjjnoaaGreatDoorGb
/- PROVED: FanlightNoPort returns true for every two numbers, and leaves all that was as it was: the tied card. Its conditions: those of the given row and card (the one listed variable holds what the program's text lays). -/
set_option linter.all false
namespace Go.Proofs.YtibcljekjjjnoaaGreatDoor
open Go Go.Ab Go.ChangeShapes Go.WideShapes Go.ChangeAt Go.WideMaps Go.WideElems Go.RowKit
theorem wf5 : Rows.fanlightNoPortRow.wfByText (OpenSpec.ofChange Rows.fanlightNoPortSpec) = true := by kernel_rfl
theorem goes5 : false = Rows.fanlightNoPortRow.goesBy Tryz.pinned.checked.prog := by kernel_rfl
theorem main5 : Tryz.pinned.checked.prog.mainIs = some (true, "232f80545412ee8144cdcf124eec2b3b138c2d90ad1f225f974eaea11d337379".toList) := by kernel_rfl
theorem fnamed5 : Tryz.prog.funcNamed "fanlight/fanlighttop.FanlightNoPort" = some 5 := by kernel_rfl
theorem looks5 : false = Tryz.pinned.checked.prog.looks [] := by kernel_rfl
theorem stand5 : ([3, 3].all fun u => !Tryz.prog.wantsStandIn u) = true := by kernel_rfl
/-- THE TIED CARD -/
theorem fanlightNoPort_card : Rows.FanlightNoPortCardSaid :=
  Claim7.holds_tied_plain_at .later [] [.data] true (true, "232f80545412ee8144cdcf124eec2b3b138c2d90ad1f225f974eaea11d337379") false
    fanlightNoPort_holds (fun _ h => by cases h) wf5 (fun _ h => by cases h) fanlightNoPort_row_tie rfl ⟨rfl, rfl⟩ main5 rfl
    (fun f fn hf hfn => by
      obtain rfl : f = 5 := Option.some.inj (fnamed5.symm.trans hf) |>.symm
      obtain rfl : fn = Tryz.f5 := (Option.some.inj (Tryz.func5.symm.trans hfn)).symm
      exact ⟨looks5, fun j t ht => by
        rw [Tryz.params5] at ht
        have hm : t ∈ [3, 3] := by simpa using Array.mem_of_getElem? ht
        exact (show Tryz.prog.wantsStandIn t = false by simpa using List.all_eq_true.1 stand5 t hm)⟩)
    goes5
#print axioms fanlightNoPort_card
end Go.Proofs.YtibcljekjjjnoaaGreatDoor
