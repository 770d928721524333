/- The types of the translation, as the logic over data asks of them. No condition. -/
import Derived.Test.YtkomkhigcdkpdaaFwJ
import Derived.Test.YtkomkhigcdkpdaaChecked
import Derived.KernelRfl
namespace Go.Proofs.Ytkomkhigcdkpdaa
open Go
def tab : List (Nat × TR) := [
  (2, ⟨false, 1, 8, false, false, false, 0, [], some .i64, [.int .i64 0], none⟩),
  (3, ⟨false, 1, 8, false, false, false, 0, [], some .i64, [.int .i64 0], none⟩),
  (4, ⟨false, 1, 1, false, false, true, 0, [], none, [.bool false], none⟩),
  (5, ⟨false, 1, 1, false, false, false, 0, [], some .u8, [.int .u8 0], none⟩),
  (7, ⟨true, 4, 24, false, false, false, 0, [(0, 1, false), (1, 1, false), (2, 1, false), (3, 1, false)], none, [.int .i64 0, .int .i64 0, .bool false, .int .u8 0], none⟩),
  (9, ⟨false, 1, 16, false, true, false, 0, [], none, [.str []], none⟩),
  (12, ⟨false, 1, 8, false, false, false, 0, [], some .u64, [.int .u64 0], none⟩),
  (13, ⟨true, 2, 24, false, false, false, 0, [(0, 1, false), (1, 1, false)], none, [.str [], .int .u64 0], none⟩),
  (15, ⟨false, 1, 8, false, false, false, 0, [], none, [.nilp], none⟩),
  (16, ⟨false, 1, 8, false, false, false, 0, [], none, [.nilp], none⟩),
  (17, ⟨false, 1, 8, false, false, false, 0, [], none, [.nilp], none⟩),
  (18, ⟨true, 1, 8, false, false, false, 0, [(0, 1, false)], none, [.nilp], none⟩),
  (21, ⟨false, 1, 4, false, false, false, 0, [], some .i32, [.int .i32 0], none⟩),
  (22, ⟨false, 1, 24, true, false, false, 25, [], none, [.nils], none⟩),
  (23, ⟨true, 2, 32, false, false, false, 0, [(0, 1, false), (1, 1, false)], none, [.int .i64 0, .nils], none⟩),
  (24, ⟨true, 2, 32, false, false, false, 0, [(0, 1, false), (1, 1, false)], none, [.int .i64 0, .nils], none⟩),
  (25, ⟨false, 1, 24, true, false, false, 2, [], none, [.nils], none⟩),
  (26, ⟨true, 3, 56, false, false, false, 0, [(0, 2, true), (2, 1, false)], none, [.int .i64 0, .nils, .nils], none⟩),
  (27, ⟨true, 3, 56, false, false, false, 0, [(0, 2, true), (2, 1, false)], none, [.int .i64 0, .nils, .nils], none⟩),
  (31, ⟨true, 2, 32, false, false, false, 0, [(0, 1, false), (1, 1, false)], none, [.int .i64 0, .nils], none⟩),
  (32, ⟨true, 3, 56, false, false, false, 0, [(0, 2, true), (2, 1, false)], none, [.int .i64 0, .nils, .nils], none⟩),
  (33, ⟨true, 3, 56, false, false, false, 0, [(0, 2, true), (2, 1, false)], none, [.int .i64 0, .nils, .nils], none⟩),
  (44, ⟨true, 4, 64, false, false, false, 0, [(0, 1, false), (1, 1, false), (2, 1, false), (3, 1, false)], none, [.int .i64 0, .int .i64 0, .nils, .nils], none⟩),
  (45, ⟨true, 4, 64, false, false, false, 0, [(0, 1, false), (1, 1, false), (2, 1, false), (3, 1, false)], none, [.int .i64 0, .int .i64 0, .nils, .nils], none⟩),
  (49, ⟨true, 4, 64, false, false, false, 0, [(0, 1, false), (1, 1, false), (2, 1, false), (3, 1, false)], none, [.int .i64 0, .int .i64 0, .nils, .nils], none⟩),
  (67, ⟨false, 1, 8, false, false, false, 0, [], none, [.nilp], none⟩),
  (69, ⟨false, 1, 8, false, false, false, 0, [], none, [.nilp], none⟩),
  (76, ⟨false, 1, 8, false, false, false, 0, [], some .u64, [.int .u64 0], none⟩),
  (77, ⟨false, 1, 8, false, false, false, 0, [], some .u64, [.int .u64 0], none⟩),
  (86, ⟨false, 1, 8, false, false, false, 0, [], none, [.nilp], none⟩),
  (89, ⟨false, 1, 24, true, false, false, 91, [], none, [.nils], none⟩),
  (91, ⟨false, 1, 24, true, false, false, 4, [], none, [.nils], none⟩),
  (101, ⟨false, 1, 24, true, false, false, 3, [], none, [.nils], none⟩),
  (120, ⟨false, 1, 8, false, false, false, 0, [], some .u64, [.int .u64 0], none⟩),
  (124, ⟨false, 1, 8, false, false, false, 0, [], none, [.nilm], some (77, 2)⟩),
  (140, ⟨false, 1, 8, false, false, false, 0, [], none, [.nilp], none⟩),
  (141, ⟨true, 4, 64, false, false, false, 0, [(0, 1, false), (1, 1, false), (2, 1, false), (3, 1, false)], none, [.nilp, .nilp, .nils, .nils], none⟩),
  (142, ⟨true, 4, 64, false, false, false, 0, [(0, 1, false), (1, 1, false), (2, 1, false), (3, 1, false)], none, [.nilp, .nilp, .nils, .nils], none⟩),
  (145, ⟨true, 2, 16, false, false, false, 0, [(0, 1, false), (1, 1, false)], none, [.int .i64 0, .int .i64 0], none⟩),
  (146, ⟨true, 2, 16, false, false, false, 0, [(0, 1, false), (1, 1, false)], none, [.int .i64 0, .int .i64 0], none⟩),
  (147, ⟨false, 1, 24, true, false, false, 146, [], none, [.nils], none⟩),
  (148, ⟨false, 1, 8, false, false, false, 0, [], none, [.nilm], some (146, 25)⟩),
  (152, ⟨false, 1, 8, false, false, false, 0, [], none, [.nilp], none⟩),
  (157, ⟨false, 1, 24, true, false, false, 77, [], none, [.nils], none⟩),
  (158, ⟨false, 1, 8, false, false, false, 0, [], none, [.nilm], some (77, 4)⟩),
  (171, ⟨true, 4, 40, false, false, false, 0, [(0, 1, false), (1, 1, false), (2, 1, false), (3, 1, false)], none, [.nilp, .nilp, .nilp, .str []], none⟩),
  (177, ⟨false, 1, 4, false, false, false, 0, [], some .u32, [.int .u32 0], none⟩),
  (181, ⟨false, 1, 8, false, false, false, 0, [], none, [.nilp], none⟩)]
theorem tabIs : tabOk Try.prog tab = true := by kernel_rfl
theorem mixedIs : Try.prog.follows .mixedOrders = true := by kernel_rfl
end Go.Proofs.Ytkomkhigcdkpdaa
