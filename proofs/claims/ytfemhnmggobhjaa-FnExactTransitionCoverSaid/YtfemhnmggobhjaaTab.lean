/- The types of the translation, as the logic over data asks of them. No condition. -/
import Derived.Test.YtfemhnmggobhjaaFwJ
import Derived.Test.YtfemhnmggobhjaaChecked
import Derived.KernelRfl
namespace Go.Proofs.Ytfemhnmggobhjaa
open Go
def tab : List (Nat × TR) := [
  (2, ⟨false, 1, 8, false, false, false, 0, [], some .i64, [.int .i64 0], none⟩),
  (3, ⟨false, 1, 8, false, false, false, 0, [], some .i64, [.int .i64 0], none⟩),
  (4, ⟨false, 1, 1, false, false, true, 0, [], none, [.bool false], none⟩),
  (5, ⟨false, 1, 1, false, false, false, 0, [], some .u8, [.int .u8 0], none⟩),
  (7, ⟨true, 4, 24, false, false, false, 0, [(0, 1, false), (1, 1, false), (2, 1, false), (3, 1, false)], none, [.int .i64 0, .int .i64 0, .bool false, .int .u8 0], none⟩),
  (9, ⟨false, 1, 16, false, true, false, 0, [], none, [.str []], none⟩),
  (12, ⟨false, 1, 8, false, false, false, 0, [], some .u64, [.int .u64 0], none⟩),
  (13, ⟨true, 2, 24, false, false, false, 0, [(0, 1, false), (1, 1, false)], none, [.str [], .int .u64 0], none⟩),
  (15, ⟨false, 1, 8, false, false, false, 0, [], none, [.nilp], none⟩),
  (16, ⟨false, 1, 8, false, false, false, 0, [], none, [.nilp], none⟩),
  (17, ⟨false, 1, 8, false, false, false, 0, [], none, [.nilp], none⟩),
  (18, ⟨true, 1, 8, false, false, false, 0, [(0, 1, false)], none, [.nilp], none⟩),
  (21, ⟨false, 1, 4, false, false, false, 0, [], some .i32, [.int .i32 0], none⟩),
  (22, ⟨false, 1, 24, true, false, false, 42, [], none, [.nils], none⟩),
  (23, ⟨true, 4, 64, false, false, false, 0, [(0, 1, false), (1, 1, false), (2, 1, false), (3, 1, false)], none, [.int .i64 0, .int .i64 0, .nils, .nils], none⟩),
  (24, ⟨true, 4, 64, false, false, false, 0, [(0, 1, false), (1, 1, false), (2, 1, false), (3, 1, false)], none, [.int .i64 0, .int .i64 0, .nils, .nils], none⟩),
  (28, ⟨true, 4, 64, false, false, false, 0, [(0, 1, false), (1, 1, false), (2, 1, false), (3, 1, false)], none, [.int .i64 0, .int .i64 0, .nils, .nils], none⟩),
  (36, ⟨false, 1, 8, false, false, false, 0, [], none, [.nilp], none⟩),
  (42, ⟨false, 1, 24, true, false, false, 2, [], none, [.nils], none⟩),
  (49, ⟨true, 2, 32, false, false, false, 0, [(0, 1, false), (1, 1, false)], none, [.int .i64 0, .nils], none⟩),
  (50, ⟨true, 2, 32, false, false, false, 0, [(0, 1, false), (1, 1, false)], none, [.int .i64 0, .nils], none⟩),
  (61, ⟨false, 1, 8, false, false, false, 0, [], none, [.nilp], none⟩),
  (68, ⟨false, 1, 8, false, false, false, 0, [], none, [.nilm], some (2, 42)⟩),
  (81, ⟨false, 1, 8, false, false, false, 0, [], some .u64, [.int .u64 0], none⟩),
  (85, ⟨false, 1, 8, false, false, false, 0, [], some .i64, [.int .i64 0], none⟩),
  (93, ⟨false, 1, 4, false, false, false, 0, [], some .u32, [.int .u32 0], none⟩),
  (95, ⟨false, 1, 8, false, false, false, 0, [], some .u64, [.int .u64 0], none⟩),
  (96, ⟨false, 1, 24, true, false, false, 3, [], none, [.nils], none⟩),
  (99, ⟨false, 1, 8, false, false, false, 0, [], some .u64, [.int .u64 0], none⟩),
  (103, ⟨false, 1, 8, false, false, false, 0, [], none, [.nilp], none⟩),
  (105, ⟨false, 1, 8, false, false, false, 0, [], none, [.nilp], none⟩),
  (109, ⟨true, 4, 40, false, false, false, 0, [(0, 1, false), (1, 1, false), (2, 1, false), (3, 1, false)], none, [.nilp, .nilp, .nilp, .str []], none⟩),
  (118, ⟨false, 1, 8, false, false, false, 0, [], none, [.nilp], none⟩)]
theorem tabIs : tabOk Try.prog tab = true := by kernel_rfl
theorem mixedIs : Try.prog.follows .mixedOrders = true := by kernel_rfl
end Go.Proofs.Ytfemhnmggobhjaa
