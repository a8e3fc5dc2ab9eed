import Derived.Test.YtibcljekjjjnoaaGreatDoorTb
import Derived.KernelRfl
/- A part of the proof of FanlightNoPort: R8. -/
set_option linter.all false
open Go Go.Ab
namespace Go.Proofs.YtibcljekjjjnoaaGreatDoor
set_option maxRecDepth 1000000
theorem n6x3 : saysTrue (runC 200 5 [.int .i64 6, .int .i64 3] m0) = true := by kernel_rfl
theorem n5x4 : saysTrue (runC 200 5 [.int .i64 5, .int .i64 4] m0) = true := by kernel_rfl
theorem n5x2 : saysTrue (runC 200 5 [.int .i64 5, .int .i64 2] m0) = true := by kernel_rfl
theorem n3x2 : saysTrue (runC 200 5 [.int .i64 3, .int .i64 2] m0) = true := by kernel_rfl
theorem n4x0 : saysTrue (runC 200 5 [.int .i64 4, .int .i64 0] m0) = true := by kernel_rfl
theorem n0x1 : saysTrue (runC 200 5 [.int .i64 0, .int .i64 1] m0) = true := by kernel_rfl
end Go.Proofs.YtibcljekjjjnoaaGreatDoor
