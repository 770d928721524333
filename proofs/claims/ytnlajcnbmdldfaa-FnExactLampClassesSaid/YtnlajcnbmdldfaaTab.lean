/- The types of the translation, as the logic over data asks of them. No condition. -/
import Derived.Test.YtnlajcnbmdldfaaFwJ
import Derived.Test.YtnlajcnbmdldfaaChecked
import Derived.KernelRfl
namespace Go.Proofs.Ytnlajcnbmdldfaa
open Go
def tab : List (Nat × TR) := [
  (2, ⟨false, 1, 8, false, false, false, 0, [], some .i64, [.int .i64 0], none⟩),
  (3, ⟨false, 1, 8, false, false, false, 0, [], some .i64, [.int .i64 0], none⟩),
  (4, ⟨false, 1, 1, false, false, true, 0, [], none, [.bool false], none⟩),
  (5, ⟨false, 1, 1, false, false, false, 0, [], some .u8, [.int .u8 0], none⟩),
  (7, ⟨true, 4, 24, false, false, false, 0, [(0, 1, false), (1, 1, false), (2, 1, false), (3, 1, false)], none, [.int .i64 0, .int .i64 0, .bool false, .int .u8 0], none⟩),
  (9, ⟨false, 1, 16, false, true, false, 0, [], none, [.str []], none⟩),
  (12, ⟨false, 1, 8, false, false, false, 0, [], some .u64, [.int .u64 0], none⟩),
  (13, ⟨true, 2, 24, false, false, false, 0, [(0, 1, false), (1, 1, false)], none, [.str [], .int .u64 0], none⟩),
  (15, ⟨false, 1, 8, false, false, false, 0, [], none, [.nilp], none⟩),
  (16, ⟨false, 1, 8, false, false, false, 0, [], none, [.nilp], none⟩),
  (17, ⟨false, 1, 8, false, false, false, 0, [], none, [.nilp], none⟩),
  (18, ⟨true, 1, 8, false, false, false, 0, [(0, 1, false)], none, [.nilp], none⟩),
  (21, ⟨false, 1, 4, false, false, false, 0, [], some .i32, [.int .i32 0], none⟩),
  (22, ⟨false, 1, 24, true, false, false, 43, [], none, [.nils], none⟩),
  (23, ⟨true, 4, 64, false, false, false, 0, [(0, 1, false), (1, 1, false), (2, 1, false), (3, 1, false)], none, [.int .i64 0, .int .i64 0, .nils, .nils], none⟩),
  (24, ⟨true, 4, 64, false, false, false, 0, [(0, 1, false), (1, 1, false), (2, 1, false), (3, 1, false)], none, [.int .i64 0, .int .i64 0, .nils, .nils], none⟩),
  (29, ⟨true, 4, 64, false, false, false, 0, [(0, 1, false), (1, 1, false), (2, 1, false), (3, 1, false)], none, [.int .i64 0, .int .i64 0, .nils, .nils], none⟩),
  (41, ⟨true, 2, 32, false, false, false, 0, [(0, 1, false), (1, 1, false)], none, [.int .i64 0, .nils], none⟩),
  (42, ⟨true, 2, 32, false, false, false, 0, [(0, 1, false), (1, 1, false)], none, [.int .i64 0, .nils], none⟩),
  (43, ⟨false, 1, 24, true, false, false, 2, [], none, [.nils], none⟩),
  (44, ⟨true, 3, 56, false, false, false, 0, [(0, 2, true), (2, 1, false)], none, [.int .i64 0, .nils, .nils], none⟩),
  (45, ⟨true, 3, 56, false, false, false, 0, [(0, 2, true), (2, 1, false)], none, [.int .i64 0, .nils, .nils], none⟩),
  (48, ⟨true, 2, 32, false, false, false, 0, [(0, 1, false), (1, 1, false)], none, [.int .i64 0, .nils], none⟩),
  (49, ⟨true, 3, 56, false, false, false, 0, [(0, 2, true), (2, 1, false)], none, [.int .i64 0, .nils, .nils], none⟩),
  (50, ⟨true, 3, 56, false, false, false, 0, [(0, 2, true), (2, 1, false)], none, [.int .i64 0, .nils, .nils], none⟩),
  (71, ⟨false, 1, 24, true, false, false, 5, [], none, [.nils], none⟩),
  (83, ⟨false, 1, 8, false, false, false, 0, [], none, [.nilp], none⟩),
  (94, ⟨false, 1, 8, false, false, false, 0, [], none, [.nilp], none⟩),
  (99, ⟨false, 1, 8, false, false, false, 0, [], some .u64, [.int .u64 0], none⟩),
  (100, ⟨false, 1, 8, false, false, false, 0, [], some .u64, [.int .u64 0], none⟩),
  (107, ⟨false, 1, 8, false, false, false, 0, [], none, [.nilp], none⟩),
  (128, ⟨false, 1, 8, false, false, false, 0, [], none, [.nilp], none⟩),
  (148, ⟨false, 1, 8, false, false, false, 0, [], none, [.nilm], some (2, 43)⟩),
  (154, ⟨false, 1, 8, false, false, false, 0, [], none, [.nilp], none⟩),
  (157, ⟨false, 1, 8, false, false, false, 0, [], some .u64, [.int .u64 0], none⟩),
  (159, ⟨false, 1, 24, true, false, false, 3, [], none, [.nils], none⟩),
  (161, ⟨false, 1, 8, false, false, false, 0, [], none, [.nilm], some (100, 2)⟩),
  (166, ⟨true, 3, 40, false, false, false, 0, [(0, 1, false), (1, 1, false), (2, 1, false)], none, [.nils, .int .i64 0, .int .u64 0], none⟩),
  (167, ⟨true, 3, 40, false, false, false, 0, [(0, 1, false), (1, 1, false), (2, 1, false)], none, [.nils, .int .i64 0, .int .u64 0], none⟩),
  (168, ⟨true, 2, 16, false, false, false, 0, [(0, 1, false), (1, 1, false)], none, [.int .i64 0, .int .i64 0], none⟩),
  (169, ⟨true, 2, 16, false, false, false, 0, [(0, 1, false), (1, 1, false)], none, [.int .i64 0, .int .i64 0], none⟩),
  (170, ⟨false, 1, 24, true, false, false, 169, [], none, [.nils], none⟩),
  (171, ⟨false, 1, 8, false, false, false, 0, [], none, [.nilm], some (169, 43)⟩),
  (179, ⟨false, 1, 24, true, false, false, 100, [], none, [.nils], none⟩),
  (180, ⟨false, 1, 8, false, false, false, 0, [], none, [.nilm], some (100, 4)⟩),
  (184, ⟨true, 4, 40, false, false, false, 0, [(0, 1, false), (1, 1, false), (2, 1, false), (3, 1, false)], none, [.nilp, .nilp, .nilp, .str []], none⟩),
  (190, ⟨false, 1, 4, false, false, false, 0, [], some .u32, [.int .u32 0], none⟩),
  (194, ⟨false, 1, 8, false, false, false, 0, [], none, [.nilp], none⟩)]
theorem tabIs : tabOk Try.prog tab = true := by kernel_rfl
theorem mixedIs : Try.prog.follows .mixedOrders = true := by kernel_rfl
end Go.Proofs.Ytnlajcnbmdldfaa
