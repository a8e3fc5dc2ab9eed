import Derived.Test.YtibcljekjjjnoaaGreatDoorSa
import Derived.KernelRfl
/- A part of the proof of NatNews: Xa. -/
set_option linter.all false
open Go Go.Ab
namespace Go.Proofs.YtibcljekjjjnoaaGreatDoor
set_option maxRecDepth 1000000
theorem n7run : saysTrue (runC 200 7 [] m0) = true := by kernel_rfl
end Go.Proofs.YtibcljekjjjnoaaGreatDoor
