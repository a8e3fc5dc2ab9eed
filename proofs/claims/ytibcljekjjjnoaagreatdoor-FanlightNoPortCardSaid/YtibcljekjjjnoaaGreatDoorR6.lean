import Derived.Test.YtibcljekjjjnoaaGreatDoorTb
import Derived.KernelRfl
/- A part of the proof of FanlightNoPort: R6. -/
set_option linter.all false
open Go Go.Ab
namespace Go.Proofs.YtibcljekjjjnoaaGreatDoor
set_option maxRecDepth 1000000
theorem n5x5 : saysTrue (runC 200 5 [.int .i64 5, .int .i64 5] m0) = true := by kernel_rfl
theorem n7x1 : saysTrue (runC 200 5 [.int .i64 7, .int .i64 1] m0) = true := by kernel_rfl
theorem n2x5 : saysTrue (runC 200 5 [.int .i64 2, .int .i64 5] m0) = true := by kernel_rfl
theorem n3x3 : saysTrue (runC 200 5 [.int .i64 3, .int .i64 3] m0) = true := by kernel_rfl
theorem n2x1 : saysTrue (runC 200 5 [.int .i64 2, .int .i64 1] m0) = true := by kernel_rfl
theorem n1x2 : saysTrue (runC 200 5 [.int .i64 1, .int .i64 2] m0) = true := by kernel_rfl
end Go.Proofs.YtibcljekjjjnoaaGreatDoor
