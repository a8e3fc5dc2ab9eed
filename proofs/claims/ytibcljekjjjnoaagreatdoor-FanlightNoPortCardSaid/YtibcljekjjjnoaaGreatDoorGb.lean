import Derived.Test.YtibcljekjjjnoaaGreatDoorGa
/- A part of the proof of FanlightNoPort: Gb. -/
set_option linter.all false
namespace Go.Proofs.YtibcljekjjjnoaaGreatDoor
open Go Go.Ab Go.ChangeShapes Go.WideShapes Go.ChangeAt Go.WideMaps Go.WideElems Go.RowKit
theorem j1 : (Rows.fanlightNoPortRow.inPlace == Tryz.pinned.checked.prog.inPlace 5) = true := by kernel_rfl
theorem j2 : (Rows.fanlightNoPortRow.unfollowed == Tryz.pinned.checked.prog.unfollowed 5) = true := by kernel_rfl
theorem j3 : (Rows.fanlightNoPortRow.recurses == Tryz.pinned.checked.prog.recurses 5) = true := by kernel_rfl
theorem j4 : (Rows.fanlightNoPortRow.named == Tryz.pinned.checked.prog.varsNamed 5) = true := by kernel_rfl
theorem closed5 : joinedFacts Tryz.pinned.checked.prog 5 Tryz.f5 Rows.fanlightNoPortSpec Rows.fanlightNoPortRow = true := by
  unfold joinedFacts
  rw [j1, j2, j3, j4]
  kernel_rfl
theorem named5 : Tryz.pinned.checked.prog.funcNamed Rows.fanlightNoPortRow.func = some 5 := by kernel_rfl
theorem inst5 : decide (Tryz.f5.isInstance Tryz.pinned.checked.prog Rows.fanlightNoPortRow.origin Rows.fanlightNoPortRow.targs) = true := by kernel_rfl
theorem fanlightNoPort_holds : Rows.FanlightNoPortSaid :=
  OpenClaim.holds_of_wide 5 Tryz.f5 rfl rfl rfl rfl rfl rfl rfl ⟨rfl, rfl, rfl, rfl, rfl⟩ rfl rfl rfl rfl rfl named5 Tryz.func5 closed5
    (of_decide_eq_true inst5) (by unfold Func.isWrapper; first | (rw [if_pos (by decide +kernel)]; kernel_rfl) | (rw [if_neg (by decide +kernel)]; exact ⟨rfl, rfl⟩))
    (fun os started H enc _ => lifted os started H enc)
end Go.Proofs.YtibcljekjjjnoaaGreatDoor
