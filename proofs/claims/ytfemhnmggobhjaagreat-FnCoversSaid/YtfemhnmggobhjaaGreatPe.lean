/- Contracts of FirstFailing and Passes, in the program and in the reference. No condition. -/
import Derived.Test.YtfemhnmggobhjaaGreatPb
import Derived.Test.YtfemhnmggobhjaaGreatKf
import Derived.Test.YtfemhnmggobhjaaGreatNh
import Derived.Test.YtfemhnmggobhjaaGreatCa
import Derived.Test.YtfemhnmggobhjaaGreatFwY
namespace Go.Proofs.YtfemhnmggobhjaaGreat
open Go
attribute [local irreducible] awp awpL awpQL awpQ awpM pWalk Qt AC thenQ blockQ loopQ OpTo
set_option linter.unusedVariables false
set_option linter.unusedSimpArgs false
set_option maxHeartbeats 2000000
end Go.Proofs.YtfemhnmggobhjaaGreat
namespace Go.Proofs.YtfemhnmggobhjaaGreat
open Go
attribute [local irreducible] awp awpL awpQL awpQ awpM pWalk Qt AC thenQ blockQ loopQ OpTo
set_option linter.unusedVariables false
set_option linter.unusedSimpArgs false
set_option maxHeartbeats 2000000
end Go.Proofs.YtfemhnmggobhjaaGreat
namespace Go.Proofs.YtfemhnmggobhjaaGreat
open Go
attribute [local irreducible] awp awpL awpQL awpQ awpM pWalk Qt AC thenQ blockQ loopQ OpTo
set_option linter.unusedVariables false
set_option linter.unusedSimpArgs false
set_option maxHeartbeats 2000000
attribute [local irreducible] HC
theorem SuOk.rows {n : Nat} {ws : List (List Int)} (h : SuOk n ws) (hn : n ≤ 1000) : RowsOk ws :=
  ⟨fun w hw => ⟨fun l hl => by have := (h.all w hw).2 l hl; exact ⟨by omega, by omega⟩, by have := (h.all w hw).1; omega⟩, by have := h.len; omega⟩
section
variable {s o k : Int} {nx ou ws os : List (List Int)}
end
end Go.Proofs.YtfemhnmggobhjaaGreat
namespace Go.Proofs.YtfemhnmggobhjaaGreat
open Go
attribute [local irreducible] awp awpL awpQL awpQ awpM pWalk Qt AC thenQ blockQ loopQ OpTo
set_option linter.unusedVariables false
set_option linter.unusedSimpArgs false
set_option maxHeartbeats 2000000
attribute [local irreducible] HC
section
variable {code : List Int} {S O s : Int} {r ro : List Int} {nx ou : List (List Int)} {u : Src}
end
end Go.Proofs.YtfemhnmggobhjaaGreat
namespace Go.Proofs.YtfemhnmggobhjaaGreat
open Go
attribute [local irreducible] awp awpL awpQL awpQ awpM pWalk Qt AC thenQ blockQ loopQ OpTo
set_option linter.unusedVariables false
set_option linter.unusedSimpArgs false
set_option maxHeartbeats 2000000
attribute [local irreducible] HC
section
variable {s o s' o' : Int} {nx ou nx' ou' : List (List Int)}
theorem impl_isState {q : Int} (hs : 1 ≤ s ∧ s ≤ 1000) : AC Tryz.prog 75 [mach s o nx ou, .int .i64 q] (.bool (inB q 0 (s - 1))) := by
  have e1 := impl_within (n := q) (lo := 0) (hi := s - 1)
  unfold mach
  refine ac_intro tabIs _ Tryz.func75 rfl rfl Tryz.ntmps75 rfl rfl fun w0 ok0 => ?_
  repeat (first | refine zc ?_ | refine zk (e := by exact e1) (n := ?_) | refine zv ?_)
  refine zt ?_
  rfl
theorem impl_OutputsOf1 {q : Int} {w : List Int} (m : MV s o nx ou) (hq : 0 ≤ q ∧ q < s) (hw : w.length ≤ 400) (hl : ∀ l ∈ w, 0 ≤ l ∧ l < nx.length) : AC Tryz.prog 74 [.ptr (mach s o nx ou), .ptr (.int .i64 q), .ptr (ints w)] (.bool true) := by
  have hs := m.s1
  have e1 := impl_isState (o := o) (q := q) (nx := nx) (ou := ou) (s := s) (by omega)
  have e2 := impl_isWord (s := s) (o := o) (nx := nx) (ou := ou) (w := w) (by have := m.n1; omega) (by omega)
  rw [show inB q 0 (s - 1) = true by simp [inB]; omega] at e1
  rw [wordOk_of hw hl] at e2
  refine ac_intro tabIs _ Tryz.func74 rfl rfl Tryz.ntmps74 rfl rfl fun w0 ok0 => ?_
  repeat (first | refine zc ?_ | refine zk (e := by exact e1) (n := ?_) | refine zk (e := by exact e2) (n := ?_) | refine zv ?_)
  refine zt ?_
  rfl
theorem impl_OutputsOf {q : Int} {w : List Int} (m : MV s o nx ou) (hq : 0 ≤ q ∧ q < s) (hw : w.length ≤ 400) (hl : ∀ l ∈ w, 0 ≤ l ∧ l < nx.length) :
    AC Tryz.prog 28 [mach s o nx ou, .int .i64 q, ints w] (.tup [ints (runO nx ou q w), .int .i64 (runS nx q w), .int .i64 0]) := by
  have e1 := impl_code (s := s) (o := o) (g := 74) (cap := [.ptr (mach s o nx ou), .ptr (.int .i64 q), .ptr (ints w)]) m.rnx m.rou fun _ => impl_OutputsOf1 m hq hw hl
  rw [machOk_mv m] at e1
  have e2 := impl_outputs m hq hw hl
  refine ac_intro tabIs _ Tryz.func28 rfl rfl Tryz.ntmps28 rfl rfl fun w0 ok0 => ?_
  repeat (first | refine zc ?_ | refine zk (e := by exact e1) (n := ?_) | refine zk (e := by exact e2) (n := ?_) | refine zv ?_)
  refine zt ?_
  rfl
end
end Go.Proofs.YtfemhnmggobhjaaGreat
