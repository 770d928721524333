/- The types of the translation, as the logic over data asks of them. No condition. -/
import Derived.Test.YtfemhnmggobhjaaGreatFwJ
import Derived.Test.YtfemhnmggobhjaaGreatChecked
import Derived.KernelRfl
namespace Go.Proofs.YtfemhnmggobhjaaGreat
open Go
def tab : List (Nat × TR) := [
  (2, ⟨false, 1, 8, false, false, false, 0, [], some .i64, [.int .i64 0], none⟩),
  (3, ⟨false, 1, 8, false, false, false, 0, [], some .i64, [.int .i64 0], none⟩),
  (4, ⟨false, 1, 1, false, false, true, 0, [], none, [.bool false], none⟩),
  (5, ⟨false, 1, 1, false, false, false, 0, [], some .u8, [.int .u8 0], none⟩),
  (7, ⟨true, 4, 24, false, false, false, 0, [(0, 1, false), (1, 1, false), (2, 1, false), (3, 1, false)], none, [.int .i64 0, .int .i64 0, .bool false, .int .u8 0], none⟩),
  (9, ⟨false, 1, 16, false, true, false, 0, [], none, [.str []], none⟩),
  (12, ⟨false, 1, 8, false, false, false, 0, [], some .u64, [.int .u64 0], none⟩),
  (13, ⟨true, 2, 24, false, false, false, 0, [(0, 1, false), (1, 1, false)], none, [.str [], .int .u64 0], none⟩),
  (15, ⟨false, 1, 8, false, false, false, 0, [], none, [.nilp], none⟩),
  (16, ⟨false, 1, 8, false, false, false, 0, [], none, [.nilp], none⟩),
  (17, ⟨false, 1, 8, false, false, false, 0, [], none, [.nilp], none⟩),
  (18, ⟨true, 1, 8, false, false, false, 0, [(0, 1, false)], none, [.nilp], none⟩),
  (21, ⟨false, 1, 4, false, false, false, 0, [], some .i32, [.int .i32 0], none⟩),
  (22, ⟨false, 1, 24, true, false, false, 43, [], none, [.nils], none⟩),
  (23, ⟨true, 4, 64, false, false, false, 0, [(0, 1, false), (1, 1, false), (2, 1, false), (3, 1, false)], none, [.int .i64 0, .int .i64 0, .nils, .nils], none⟩),
  (24, ⟨true, 4, 64, false, false, false, 0, [(0, 1, false), (1, 1, false), (2, 1, false), (3, 1, false)], none, [.int .i64 0, .int .i64 0, .nils, .nils], none⟩),
  (28, ⟨true, 4, 64, false, false, false, 0, [(0, 1, false), (1, 1, false), (2, 1, false), (3, 1, false)], none, [.int .i64 0, .int .i64 0, .nils, .nils], none⟩),
  (35, ⟨false, 1, 24, true, false, false, 5, [], none, [.nils], none⟩),
  (43, ⟨false, 1, 24, true, false, false, 2, [], none, [.nils], none⟩),
  (62, ⟨false, 1, 8, false, false, false, 0, [], none, [.nilp], none⟩),
  (74, ⟨false, 1, 8, false, false, false, 0, [], none, [.nilm], some (9, 4)⟩),
  (80, ⟨false, 1, 8, false, false, false, 0, [], none, [.nilp], none⟩),
  (86, ⟨false, 1, 8, false, false, false, 0, [], none, [.nilm], some (2, 43)⟩),
  (106, ⟨true, 2, 32, false, false, false, 0, [(0, 1, false), (1, 1, false)], none, [.int .i64 0, .nils], none⟩),
  (107, ⟨true, 2, 32, false, false, false, 0, [(0, 1, false), (1, 1, false)], none, [.int .i64 0, .nils], none⟩),
  (110, ⟨false, 1, 8, false, false, false, 0, [], none, [.nilp], none⟩),
  (118, ⟨false, 1, 8, false, false, false, 0, [], some .u64, [.int .u64 0], none⟩),
  (119, ⟨true, 3, 40, false, false, false, 0, [(0, 1, false), (1, 1, false), (2, 1, false)], none, [.nils, .int .i64 0, .int .u64 0], none⟩),
  (120, ⟨true, 3, 40, false, false, false, 0, [(0, 1, false), (1, 1, false), (2, 1, false)], none, [.nils, .int .i64 0, .int .u64 0], none⟩),
  (126, ⟨true, 2, 16, false, false, false, 0, [(0, 1, false), (1, 1, false)], none, [.int .i64 0, .int .i64 0], none⟩),
  (127, ⟨true, 2, 16, false, false, false, 0, [(0, 1, false), (1, 1, false)], none, [.int .i64 0, .int .i64 0], none⟩),
  (128, ⟨false, 1, 24, true, false, false, 127, [], none, [.nils], none⟩),
  (129, ⟨false, 1, 8, false, false, false, 0, [], none, [.nilm], some (127, 43)⟩),
  (132, ⟨false, 1, 8, false, false, false, 0, [], none, [.nilp], none⟩),
  (135, ⟨false, 1, 8, false, false, false, 0, [], none, [.nilp], none⟩),
  (136, ⟨true, 4, 64, false, false, false, 0, [(0, 1, false), (1, 1, false), (2, 1, false), (3, 1, false)], none, [.nilp, .nilp, .nils, .nils], none⟩),
  (137, ⟨true, 4, 64, false, false, false, 0, [(0, 1, false), (1, 1, false), (2, 1, false), (3, 1, false)], none, [.nilp, .nilp, .nils, .nils], none⟩),
  (147, ⟨false, 1, 8, false, false, false, 0, [], some .u64, [.int .u64 0], none⟩),
  (158, ⟨false, 1, 8, false, false, false, 0, [], some .i64, [.int .i64 0], none⟩),
  (166, ⟨false, 1, 4, false, false, false, 0, [], some .u32, [.int .u32 0], none⟩),
  (168, ⟨false, 1, 24, true, false, false, 3, [], none, [.nils], none⟩),
  (171, ⟨false, 1, 8, false, false, false, 0, [], some .u64, [.int .u64 0], none⟩),
  (175, ⟨false, 1, 8, false, false, false, 0, [], none, [.nilp], none⟩),
  (177, ⟨false, 1, 8, false, false, false, 0, [], none, [.nilp], none⟩),
  (181, ⟨true, 4, 40, false, false, false, 0, [(0, 1, false), (1, 1, false), (2, 1, false), (3, 1, false)], none, [.nilp, .nilp, .nilp, .str []], none⟩),
  (190, ⟨false, 1, 8, false, false, false, 0, [], none, [.nilp], none⟩)]
theorem tabIs : tabOk Tryz.prog tab = true := by kernel_rfl
theorem mixedIs : Tryz.prog.follows .mixedOrders = true := by kernel_rfl
end Go.Proofs.YtfemhnmggobhjaaGreat
