/- Contracts of how the laws' package marks what it was given, looks for its marks, and copies. No condition. -/
import Derived.Test.YtfondjnjdcijaaaDoorWa
namespace Go.Proofs.YtfondjnjdcijaaaDoor
open Go
attribute [local irreducible] awp awpL awpQL awpQ awpM pWalk Qt AC thenQ blockQ loopQ OpTo
set_option linter.unusedVariables false
set_option linter.unusedSimpArgs false
set_option maxHeartbeats 2000000
attribute [local irreducible] HC

theorem likeIn_nil {h' : Heap} : likeIn [] h' := fun p hp => by cases hp
theorem likeIn_cons {h h' : Heap} {id : Nat} {c c' : Chunk} (hg : h'.get id = some c') (hl : c.like c') (hr : likeIn h h') : likeIn ((id, c) :: h) h' := fun p hp ha => by
  rcases List.mem_cons.1 hp with rfl | hp
  · exact ⟨c', hg, hl⟩
  · exact hr p hp ha

/-- Rows as the data of own rows. -/
def rws (nss : List (List Int)) : List (List D) := nss.map fun ns => ns.map (.int .i64)
theorem rws_length (nss : List (List Int)) : (rws nss).length = nss.length := by simp [rws]
theorem rws_lst (nss : List (List Int)) : (rws nss).map D.lst = nss.map ints := by
  unfold rws
  rw [List.map_map]
  rfl
theorem rws_dat (nss : List (List Int)) : D.lst ((rws nss).map D.lst) = rows nss := by rw [rws_lst]; rfl

end Go.Proofs.YtfondjnjdcijaaaDoor

/-! Contracts of how the laws' package looks for its marks, and of its copies as memory of one's own. No condition. -/
namespace Go.Proofs.YtfondjnjdcijaaaDoor
open Go
attribute [local irreducible] awp awpL awpQL awpQ awpM pWalk Qt AC thenQ blockQ loopQ OpTo
set_option linter.unusedVariables false
set_option linter.unusedSimpArgs false
set_option maxHeartbeats 2000000
attribute [local irreducible] HC

end Go.Proofs.YtfondjnjdcijaaaDoor

/-! All states of an automaton. No condition. -/
namespace Go.Proofs.YtfondjnjdcijaaaDoor
open Go
attribute [local irreducible] awp awpL awpQL awpQ awpM pWalk Qt AC thenQ blockQ loopQ OpTo
set_option linter.unusedVariables false
set_option linter.unusedSimpArgs false
set_option maxHeartbeats 2000000
attribute [local irreducible] HC

section
attribute [local semireducible] AC HC
/-- What is made as memory of one's own is data too. -/
theorem ac_of_hc {P : Program} {f : Nat} {xs : List D} {r : SV} {h' : Heap} {d : D} (hc : HC P f (xs.map .d) [] r h') (hd : slotD h' r = some d) : AC P f xs d := by
  refine ⟨hc.1, fun w ok vs hok hvs => ?_⟩
  refine (hc.2.2 w ok (fun _ => ⟨0, 0, true, []⟩) vs hok ⟨by simp, by simp, by simp, by simp, by simp⟩ (RepSVs.ofD (by simpa using hvs.1) fun i v x hv hx => hvs.2 i v x (by simpa using hv) hx)).mono ?_
  rintro e w' ⟨v, σ', rfl, hE, hv⟩
  refine ⟨v, rfl, slotG_rep hE.rep (fun b hb => hb.1) (fun p hp b hb => ?_) hv hd, hE.os, hE.tape, hE.output, hE.size, fun b hb => hE.frame b hb (by simp)⟩
  rcases (hE.mine p hp b hb).2 with h | ⟨_, c, h, _⟩
  · exact .inr h
  · cases h
end

def fnL (N : Nat) (F : Nat → Int) : List Int := (List.range N).map F

@[simp] theorem fnL_length {N : Nat} {F : Nat → Int} : (fnL N F).length = N := by simp [fnL]
theorem fnL_get {N k : Nat} {F : Nat → Int} (h : k < N) : (fnL N F)[k]? = some (F k) := by simp [fnL, h]
end Go.Proofs.YtfondjnjdcijaaaDoor
