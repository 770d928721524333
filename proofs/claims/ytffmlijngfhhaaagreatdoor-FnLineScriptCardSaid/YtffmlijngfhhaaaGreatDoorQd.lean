/- The law of what is told: the state of the machine is one of those that are told. No condition. -/
import Derived.Test.YtffmlijngfhhaaaGreatDoorOz
import Derived.Test.YtffmlijngfhhaaaGreatDoorOx
import Derived.Test.YtffmlijngfhhaaaGreatDoorOq
import Derived.Test.YtffmlijngfhhaaaGreatDoorFwX
namespace Go.Proofs.YtffmlijngfhhaaaGreatDoor
open Go
attribute [local irreducible] awp awpL awpQL awpQ awpM pWalk Qt AC thenQ blockQ loopQ OpTo
set_option linter.unusedVariables false
set_option linter.unusedSimpArgs false
set_option maxHeartbeats 2000000
attribute [local irreducible] HC
theorem ask_of {s st : Int} {nx : List (List Int)} {lp : List Int} {ds : List (Int × Int)} (hv : litOk s nx lp = true) (hst : 0 <= st /\ st < s) (hd : ∀ p ∈ ds, vdeed p.1 p.2 = true) (hl : ds.length <= 400) : askC s st nx lp ds = 0 := by
  unfold askC
  rw [if_pos hv, if_pos (List.all_eq_true.2 hd), if_pos ⟨hst.1, hst.2, hl⟩]
theorem rowsOk_of {s : Int} {nx : List (List Int)} {lp : List Int} (v : LV s nx lp) : RowsOk nx := by
  have hs := v.s1
  have hn := v.n1
  refine ⟨fun ns h => ⟨fun q hq => ?_, ?_⟩, by omega⟩
  . have := (v.nx ns h).2 q hq
    unfold I64
    omega
  . have := (v.nx ns h).1
    omega
theorem impl_LineAfter {s st : Int} {nx : List (List Int)} {lp : List Int} {ds : List (Int × Int)} (hv : litOk s nx lp = true) (hst : 0 <= st /\ st < s) (hd : ∀ p ∈ ds, vdeed p.1 p.2 = true) (hl : ds.length <= 400) :
    AC Tryz.prog 11 [ltD s nx lp, .int .i64 st, deedsD ds] (.tup [.agg (lnL (runF s nx lp (ln0 s st) ds)), .int .i64 (doneF (codesF s nx lp (ln0 s st) ds) : Nat), .int .i64 0]) := by
  have v := lv_of hv
  have hs := v.s1
  have := impl_LineAfterH (s := s) (st := st) (nx := nx) (lp := lp) (ds := ds) (rowsOk_of v) (by have := v.lp; omega) (by omega)
  unfold laD at this
  rw [if_pos (ask_of hv hst hd hl)] at this
  exact ac_of_hc this rfl
theorem impl_ToldAfter {s st : Int} {nx : List (List Int)} {lp : List Int} {ds : List (Int × Int)} (hv : litOk s nx lp = true) (hst : 0 <= st /\ st < s) (hd : ∀ p ∈ ds, vdeed p.1 p.2 = true) (hl : ds.length <= 400) :
    AC Tryz.prog 35 [ltD s nx lp, .int .i64 st, deedsD ds] (.tup [ints (toldD nx (runF s nx lp (ln0 s st) ds).d), .bool (decide ((runF s nx lp (ln0 s st) ds).d.life = (runF s nx lp (ln0 s st) ds).life)), .int .i64 0]) := by
  have v := lv_of hv
  have := impl_ToldAfterH (s := s) (st := st) (nx := nx) (lp := lp) (ds := ds) (rowsOk_of v) (by have := v.lp; have := v.s1; omega) (by omega)
  unfold tlD at this
  rw [if_pos (ask_of hv hst hd hl)] at this
  exact ac_of_hc this rfl
end Go.Proofs.YtffmlijngfhhaaaGreatDoor
