/- All states of an automaton. No condition. -/
import Derived.Test.YtkaffmojojnhhaaMa
namespace Go.Proofs.Ytkaffmojojnhhaa
open Go
attribute [local irreducible] awp awpL awpQL awpQ awpM pWalk Qt AC thenQ blockQ loopQ OpTo
set_option linter.unusedVariables false
set_option linter.unusedSimpArgs false
set_option maxHeartbeats 2000000
attribute [local irreducible] HC

section
attribute [local semireducible] AC HC
/-- What is made as memory of one's own is data too. -/
theorem ac_of_hc {P : Program} {f : Nat} {xs : List D} {r : SV} {h' : Heap} {d : D} (hc : HC P f (xs.map .d) [] r h') (hd : slotD h' r = some d) : AC P f xs d := by
  refine ⟨hc.1, fun w ok vs hok hvs => ?_⟩
  refine (hc.2.2 w ok (fun _ => ⟨0, 0, true, []⟩) vs hok ⟨by simp, by simp, by simp, by simp, by simp⟩ (RepSVs.ofD (by simpa using hvs.1) fun i v x hv hx => hvs.2 i v x (by simpa using hv) hx)).mono ?_
  rintro e w' ⟨v, σ', rfl, hE, hv⟩
  refine ⟨v, rfl, slotG_rep hE.rep (fun b hb => hb.1) (fun p hp b hb => ?_) hv hd, hE.os, hE.tape, hE.output, hE.size, fun b hb => hE.frame b hb (by simp)⟩
  rcases (hE.mine p hp b hb).2 with h | ⟨_, c, h, _⟩
  · exact .inr h
  · cases h
end

end Go.Proofs.Ytkaffmojojnhhaa
