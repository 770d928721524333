/- The types of the translation, as the logic over data asks of them. No condition. -/
import Derived.Test.YtffmlijngfhhaaaDoorFwJ
import Derived.Test.YtffmlijngfhhaaaDoorChecked
import Derived.KernelRfl
namespace Go.Proofs.YtffmlijngfhhaaaDoor
open Go
def tab : List (Nat × TR) := [
  (2, ⟨false, 1, 8, false, false, false, 0, [], some .i64, [.int .i64 0], none⟩),
  (3, ⟨false, 1, 8, false, false, false, 0, [], some .i64, [.int .i64 0], none⟩),
  (4, ⟨false, 1, 1, false, false, true, 0, [], none, [.bool false], none⟩),
  (5, ⟨false, 1, 1, false, false, false, 0, [], some .u8, [.int .u8 0], none⟩),
  (7, ⟨true, 4, 24, false, false, false, 0, [(0, 1, false), (1, 1, false), (2, 1, false), (3, 1, false)], none, [.int .i64 0, .int .i64 0, .bool false, .int .u8 0], none⟩),
  (9, ⟨false, 1, 16, false, true, false, 0, [], none, [.str []], none⟩),
  (12, ⟨false, 1, 8, false, false, false, 0, [], some .u64, [.int .u64 0], none⟩),
  (13, ⟨true, 2, 24, false, false, false, 0, [(0, 1, false), (1, 1, false)], none, [.str [], .int .u64 0], none⟩),
  (15, ⟨false, 1, 8, false, false, false, 0, [], none, [.nilp], none⟩),
  (16, ⟨false, 1, 8, false, false, false, 0, [], none, [.nilp], none⟩),
  (17, ⟨false, 1, 8, false, false, false, 0, [], none, [.nilp], none⟩),
  (18, ⟨true, 1, 8, false, false, false, 0, [(0, 1, false)], none, [.nilp], none⟩),
  (21, ⟨false, 1, 4, false, false, false, 0, [], some .i32, [.int .i32 0], none⟩),
  (22, ⟨true, 2, 16, false, false, false, 0, [(0, 1, false), (1, 1, false)], none, [.int .i64 0, .int .i64 0], none⟩),
  (23, ⟨true, 2, 16, false, false, false, 0, [(0, 1, false), (1, 1, false)], none, [.int .i64 0, .int .i64 0], none⟩),
  (28, ⟨false, 1, 24, true, false, false, 9, [], none, [.nils], none⟩),
  (30, ⟨false, 1, 24, true, false, false, 4, [], none, [.nils], none⟩),
  (50, ⟨false, 1, 8, false, false, false, 0, [], some .u64, [.int .u64 0], none⟩),
  (53, ⟨false, 1, 8, false, false, false, 0, [], some .u64, [.int .u64 0], none⟩),
  (54, ⟨false, 1, 8, false, false, false, 0, [], none, [.nilp], none⟩),
  (61, ⟨false, 1, 24, true, false, false, 5, [], none, [.nils], none⟩),
  (67, ⟨false, 1, 4, false, false, false, 0, [], some .u32, [.int .u32 0], none⟩),
  (70, ⟨false, 1, 8, false, false, false, 0, [], none, [.nilp], none⟩),
  (71, ⟨false, 1, 8, false, false, false, 0, [], none, [.nilp], none⟩),
  (72, ⟨true, 1, 16, false, false, false, 0, [(0, 1, false)], none, [.str []], none⟩),
  (73, ⟨true, 1, 16, false, false, false, 0, [(0, 1, false)], none, [.str []], none⟩),
  (88, ⟨true, 4, 40, false, false, false, 0, [(0, 1, false), (1, 1, false), (2, 1, false), (3, 1, false)], none, [.nilp, .nilp, .nilp, .str []], none⟩)]
theorem tabIs : tabOk Tryd.prog tab = true := by kernel_rfl
theorem mixedIs : Tryd.prog.follows .mixedOrders = true := by kernel_rfl
end Go.Proofs.YtffmlijngfhhaaaDoor
