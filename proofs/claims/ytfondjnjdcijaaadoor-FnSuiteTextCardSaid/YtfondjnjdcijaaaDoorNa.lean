/- Plain facts of a machine's mutants. No condition. -/
import Derived.Test.YtfondjnjdcijaaaDoorMa
import Derived.Test.YtfondjnjdcijaaaDoorPa
import Derived.Test.YtfondjnjdcijaaaDoorFwS
namespace Go.Proofs.YtfondjnjdcijaaaDoor
open Go
attribute [local irreducible] awp awpL awpQL awpQ awpM pWalk Qt AC thenQ blockQ loopQ OpTo
set_option linter.unusedVariables false
set_option linter.unusedSimpArgs false
set_option maxHeartbeats 2000000
attribute [local irreducible] HC

theorem rowsOk_tbl {s hi : Int} {xs : List (List Int)} (h : Tbl s hi xs) (hs : s ≤ 10) (hh : hi ≤ 10) (hn : xs.length ≤ 3) : RowsOk xs :=
  ⟨fun ns hm => by
    have := h ns hm
    exact ⟨fun n hn => by have := this.2 n hn; unfold I64; omega, by omega⟩, by omega⟩
theorem MV.rnx {s o : Int} {nx ou : List (List Int)} (m : MV s o nx ou) : RowsOk nx := rowsOk_tbl m.nx m.s1.2 m.s1.2 m.n1.2
theorem MV.rou {s o : Int} {nx ou : List (List Int)} (m : MV s o nx ou) : RowsOk ou := rowsOk_tbl m.ou m.s1.2 (by have := m.o1; omega) (by rw [m.eq]; exact m.n1.2)

end Go.Proofs.YtfondjnjdcijaaaDoor

/-! Contracts: copies of rows, and the reference's mutant. No condition. -/
namespace Go.Proofs.YtfondjnjdcijaaaDoor
open Go
attribute [local irreducible] awp awpL awpQL awpQ awpM pWalk Qt AC thenQ blockQ loopQ OpTo
set_option linter.unusedVariables false
set_option linter.unusedSimpArgs false
set_option maxHeartbeats 2000000
attribute [local irreducible] HC

end Go.Proofs.YtfondjnjdcijaaaDoor
