import Derived.Test.YtibcljekjjjnoaaGreatDoorXc
/- A part of the proof of NatNews: Xd. -/
set_option linter.all false
namespace Go.Proofs.YtibcljekjjjnoaaGreatDoor
open Go Go.Ab Go.ChangeShapes Go.WideShapes Go.ChangeAt Go.WideMaps Go.WideElems Go.RowKit
theorem j1 : (Rows.natNewsRow.inPlace == Tryz.pinned.checked.prog.inPlace 4) = true := by kernel_rfl
theorem j2 : (Rows.natNewsRow.unfollowed == Tryz.pinned.checked.prog.unfollowed 4) = true := by kernel_rfl
theorem j3 : (Rows.natNewsRow.recurses == Tryz.pinned.checked.prog.recurses 4) = true := by kernel_rfl
theorem j4 : (Rows.natNewsRow.named == Tryz.pinned.checked.prog.varsNamed 4) = true := by kernel_rfl
theorem closed4 : joinedFacts Tryz.pinned.checked.prog 4 Tryz.f4 Rows.natNewsSpec Rows.natNewsRow = true := by
  unfold joinedFacts
  rw [j1, j2, j3, j4]
  kernel_rfl
theorem named4 : Tryz.pinned.checked.prog.funcNamed Rows.natNewsRow.func = some 4 := by kernel_rfl
theorem inst4 : decide (Tryz.f4.isInstance Tryz.pinned.checked.prog Rows.natNewsRow.origin Rows.natNewsRow.targs) = true := by kernel_rfl
theorem natNews_holds : Rows.NatNewsSaid :=
  OpenClaim.holds_of_wide 4 Tryz.f4 rfl rfl rfl rfl rfl rfl rfl ⟨rfl, rfl, rfl, rfl, rfl⟩ rfl rfl rfl rfl rfl named4 Tryz.func4 closed4
    (of_decide_eq_true inst4) (by unfold Func.isWrapper; first | (rw [if_pos (by decide +kernel)]; kernel_rfl) | (rw [if_neg (by decide +kernel)]; exact ⟨rfl, rfl⟩))
    (fun os started H enc _ => lifted os started H enc)
end Go.Proofs.YtibcljekjjjnoaaGreatDoor
