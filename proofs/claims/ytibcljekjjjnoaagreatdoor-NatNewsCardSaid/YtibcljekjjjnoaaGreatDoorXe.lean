import Derived.Test.YtibcljekjjjnoaaGreatDoorXd
/- PROVED: NatNews returns true for every Config, and leaves all that was as it was: the tied card. Its conditions: those of the given row and card (the one listed variable holds what the program's text lays). -/
set_option linter.all false
namespace Go.Proofs.YtibcljekjjjnoaaGreatDoor
open Go Go.Ab Go.ChangeShapes Go.WideShapes Go.ChangeAt Go.WideMaps Go.WideElems Go.RowKit
theorem wf4 : Rows.natNewsRow.wfByText (OpenSpec.ofChange Rows.natNewsSpec) = true := by kernel_rfl
theorem goes4 : false = Rows.natNewsRow.goesBy Tryz.pinned.checked.prog := by kernel_rfl
theorem main4 : Tryz.pinned.checked.prog.mainIs = some (true, "232f80545412ee8144cdcf124eec2b3b138c2d90ad1f225f974eaea11d337379".toList) := by kernel_rfl
theorem fnamed4 : Tryz.prog.funcNamed "fanlight/fanlightlaw16.NatNews" = some 4 := by kernel_rfl
theorem looks4 : false = Tryz.pinned.checked.prog.looks [] := by kernel_rfl
theorem stand4 : ([36].all fun u => !Tryz.prog.wantsStandIn u) = true := by kernel_rfl
/-- THE TIED CARD -/
theorem natNews_card : Rows.NatNewsCardSaid :=
  Claim7.holds_tied_plain_at .later [] [.data] true (true, "232f80545412ee8144cdcf124eec2b3b138c2d90ad1f225f974eaea11d337379") false
    natNews_holds (fun _ h => by cases h) wf4 (fun _ h => by cases h) natNews_row_tie rfl ⟨rfl, rfl⟩ main4 rfl
    (fun f fn hf hfn => by
      obtain rfl : f = 4 := Option.some.inj (fnamed4.symm.trans hf) |>.symm
      obtain rfl : fn = Tryz.f4 := (Option.some.inj (Tryz.func4.symm.trans hfn)).symm
      exact ⟨looks4, fun j t ht => by
        rw [Tryz.params4] at ht
        have hm : t ∈ [36] := by simpa using Array.mem_of_getElem? ht
        exact (show Tryz.prog.wantsStandIn t = false by simpa using List.all_eq_true.1 stand4 t hm)⟩)
    goes4
#print axioms natNews_card
end Go.Proofs.YtibcljekjjjnoaaGreatDoor
