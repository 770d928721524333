/- The types of the translation, as the logic over data asks of them. No condition. -/
import Derived.Test.YtiefnlfgiejpkaaFwJ
import Derived.Test.YtiefnlfgiejpkaaChecked
import Derived.KernelRfl
namespace Go.Proofs.Ytiefnlfgiejpkaa
open Go
def tab : List (Nat × TR) := [
  (2, ⟨false, 1, 8, false, false, false, 0, [], some .i64, [.int .i64 0]⟩),
  (3, ⟨false, 1, 8, false, false, false, 0, [], some .i64, [.int .i64 0]⟩),
  (4, ⟨false, 1, 1, false, false, true, 0, [], none, [.bool false]⟩),
  (5, ⟨false, 1, 1, false, false, false, 0, [], some .u8, [.int .u8 0]⟩),
  (7, ⟨true, 4, 24, false, false, false, 0, [(0, 1, false), (1, 1, false), (2, 1, false), (3, 1, false)], none, [.int .i64 0, .int .i64 0, .bool false, .int .u8 0]⟩),
  (9, ⟨false, 1, 16, false, true, false, 0, [], none, [.str []]⟩),
  (12, ⟨false, 1, 8, false, false, false, 0, [], some .u64, [.int .u64 0]⟩),
  (13, ⟨true, 2, 24, false, false, false, 0, [(0, 1, false), (1, 1, false)], none, [.str [], .int .u64 0]⟩),
  (15, ⟨false, 1, 8, false, false, false, 0, [], none, [.nilp]⟩),
  (16, ⟨false, 1, 8, false, false, false, 0, [], none, [.nilp]⟩),
  (17, ⟨false, 1, 8, false, false, false, 0, [], none, [.nilp]⟩),
  (18, ⟨true, 1, 8, false, false, false, 0, [(0, 1, false)], none, [.nilp]⟩),
  (21, ⟨false, 1, 4, false, false, false, 0, [], some .i32, [.int .i32 0]⟩),
  (22, ⟨true, 2, 16, false, false, false, 0, [(0, 1, false), (1, 1, false)], none, [.int .i64 0, .int .i64 0]⟩),
  (23, ⟨true, 2, 16, false, false, false, 0, [(0, 1, false), (1, 1, false)], none, [.int .i64 0, .int .i64 0]⟩),
  (25, ⟨true, 2, 16, false, false, false, 0, [(0, 1, false), (1, 1, false)], none, [.int .i64 0, .int .i64 0]⟩),
  (28, ⟨false, 1, 24, true, false, false, 36, [], none, [.nils]⟩),
  (34, ⟨true, 2, 32, false, false, false, 0, [(0, 1, false), (1, 1, false)], none, [.int .i64 0, .nils]⟩),
  (35, ⟨true, 2, 32, false, false, false, 0, [(0, 1, false), (1, 1, false)], none, [.int .i64 0, .nils]⟩),
  (36, ⟨false, 1, 24, true, false, false, 2, [], none, [.nils]⟩),
  (37, ⟨true, 3, 56, false, false, false, 0, [(0, 2, true), (2, 1, false)], none, [.int .i64 0, .nils, .nils]⟩),
  (38, ⟨true, 3, 56, false, false, false, 0, [(0, 2, true), (2, 1, false)], none, [.int .i64 0, .nils, .nils]⟩),
  (41, ⟨true, 2, 32, false, false, false, 0, [(0, 1, false), (1, 1, false)], none, [.int .i64 0, .nils]⟩),
  (42, ⟨true, 3, 56, false, false, false, 0, [(0, 2, true), (2, 1, false)], none, [.int .i64 0, .nils, .nils]⟩),
  (43, ⟨true, 3, 56, false, false, false, 0, [(0, 2, true), (2, 1, false)], none, [.int .i64 0, .nils, .nils]⟩),
  (49, ⟨true, 4, 64, false, false, false, 0, [(0, 1, false), (1, 1, false), (2, 1, false), (3, 1, false)], none, [.int .i64 0, .int .i64 0, .nils, .nils]⟩),
  (50, ⟨true, 4, 64, false, false, false, 0, [(0, 1, false), (1, 1, false), (2, 1, false), (3, 1, false)], none, [.int .i64 0, .int .i64 0, .nils, .nils]⟩),
  (53, ⟨true, 4, 64, false, false, false, 0, [(0, 1, false), (1, 1, false), (2, 1, false), (3, 1, false)], none, [.int .i64 0, .int .i64 0, .nils, .nils]⟩),
  (65, ⟨false, 1, 8, false, false, false, 0, [], none, [.nilp]⟩),
  (66, ⟨false, 1, 24, true, false, false, 5, [], none, [.nils]⟩),
  (67, ⟨true, 2, 32, false, false, false, 0, [(0, 1, false), (1, 1, false)], none, [.nilp, .nils]⟩),
  (68, ⟨true, 2, 32, false, false, false, 0, [(0, 1, false), (1, 1, false)], none, [.nilp, .nils]⟩),
  (78, ⟨false, 1, 8, false, false, false, 0, [], none, [.nilp]⟩),
  (86, ⟨false, 1, 8, false, false, false, 0, [], none, [.nilp]⟩),
  (91, ⟨false, 1, 24, true, false, false, 9, [], none, [.nils]⟩),
  (92, ⟨false, 1, 24, true, false, false, 4, [], none, [.nils]⟩),
  (95, ⟨false, 1, 8, false, false, false, 0, [], none, [.nilp]⟩),
  (97, ⟨false, 1, 8, false, false, false, 0, [], none, [.nilp]⟩),
  (111, ⟨true, 4, 40, false, false, false, 0, [(0, 1, false), (1, 1, false), (2, 1, false), (3, 1, false)], none, [.nilp, .nilp, .nilp, .str []]⟩),
  (117, ⟨false, 1, 4, false, false, false, 0, [], some .u32, [.int .u32 0]⟩)]
theorem tabIs : tabOk Try.prog tab = true := by kernel_rfl
theorem mixedIs : Try.prog.follows .mixedOrders = true := by kernel_rfl
end Go.Proofs.Ytiefnlfgiejpkaa
