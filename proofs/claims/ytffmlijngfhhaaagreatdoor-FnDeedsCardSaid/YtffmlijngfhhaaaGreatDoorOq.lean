/- Lines in the laws' package. No condition. -/
import Derived.Test.YtffmlijngfhhaaaGreatDoorOm
namespace Go.Proofs.YtffmlijngfhhaaaGreatDoor
open Go
attribute [local irreducible] awp awpL awpQL awpQ awpM pWalk Qt AC thenQ blockQ loopQ OpTo
set_option linter.unusedVariables false
set_option linter.unusedSimpArgs false
set_option maxHeartbeats 2000000
attribute [local irreducible] HC

def skL (d : Dsk) (i j : Nat) : SV := .agg [.d (.int .i64 d.life), .own i, .d (.int .i64 d.sure), .own j]
def i64C (l : List Int) : Chunk := .arr 2 1 (l.map (.int .i64))
def laS (n : Ln) (a b c d e : Nat) : SV := .agg [.d (.int .i64 n.st), .d (.int .i64 n.life), .d (.int .i64 n.tk), .d (.int .i64 n.d.life), .own a, .d (.int .i64 n.d.sure), .own b, .d (.int .i64 n.sv.life), .own c, .d (.int .i64 n.sv.sure), .own d, .own e]

end Go.Proofs.YtffmlijngfhhaaaGreatDoor
