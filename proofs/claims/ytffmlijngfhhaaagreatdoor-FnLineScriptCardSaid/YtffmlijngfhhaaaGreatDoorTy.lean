/- Texts of words and suites, but for the program's SuiteText. No condition but bounds. -/
import Derived.Test.YtffmlijngfhhaaaGreatDoorWa
import Derived.Test.YtffmlijngfhhaaaGreatDoorFwW
namespace Go.Proofs.YtffmlijngfhhaaaGreatDoor
open Go
attribute [local irreducible] awp awpL awpQL awpQ awpM pWalk Qt AC thenQ blockQ loopQ OpTo
set_option linter.unusedVariables false
set_option linter.unusedSimpArgs false
set_option maxHeartbeats 2000000
attribute [local irreducible] HC
theorem u8_wrapT {n : Int} (h : 0 <= n /\ n < 256) : IntKind.u8.wrap n = n := wrap_in (by simp [IntKind.min, IntKind.signed, IntKind.bits]; omega) (by simp [IntKind.max, IntKind.signed, IntKind.bits]; omega)
def chB (l : Int) : UInt8 := UInt8.ofNat (97 + l).toNat
def wOkT (w : List Int) : Bool := decide ((w.length : Int) <= 400) && allIn w 0 2
def wtx (w : List Int) : List UInt8 := if wOkT w then (if w = [] then [45] else w.map chB) else []
theorem wtx_len (w : List Int) : (wtx w).length <= 401 := by
  unfold wtx wOkT
  split
  . rename_i h
    rw [Bool.and_eq_true, decide_eq_true_eq] at h
    split
    . simp
    . simp; omega
  . simp
theorem impl_WordText {w : List Int} (hl : w.length <= 1048576) : AC Tryz.prog 148 [ints w] (.str (wtx w)) := by
  have hwm : (List.map (D.int .i64) w).length = w.length := by simp
  have e1 := impl_areWithin (ns := w) (lo := 0) (hi := 2) (by omega)
  unfold wtx wOkT
  by_cases h4 : (w.length : Int) <= 400
  . rw [decide_eq_true h4, Bool.true_and]
    cases ha : allIn w 0 2 with
    | false =>
      rw [ha] at e1
      refine ac_intro tabIs _ Tryz.func148 rfl rfl Tryz.ntmps148 rfl rfl fun w0 ok0 he0 => ?_
      repeat (first | refine zc ?_ | refine zk (e := by exact e1) (n := ?_) | refine zv ?_ | refine zg ?_)
      refine zt ?_
      rfl
    | true =>
      rw [ha] at e1
      rw [if_pos rfl]
      by_cases hn : w = []
      . subst hn
        refine ac_intro tabIs _ Tryz.func148 rfl rfl Tryz.ntmps148 rfl rfl fun w0 ok0 he0 => ?_
        repeat (first | refine zc ?_ | refine zk (e := by exact e1) (n := ?_) | refine zv ?_ | refine zg ?_)
        refine zt ?_
        rfl
      . rw [if_neg hn]
        have hl0 : ¬ w.length = 0 := fun h => hn (List.length_eq_zero_iff.1 h)
        have hd0 : decide ((((List.map (D.int .i64) w).length : Nat) : Int) = 0) = false := decide_eq_false (by omega)
        have hr : ∀ l ∈ w, 0 <= l /\ l <= 2 := fun l h => by
          have := List.all_eq_true.1 ha l h
          simp only [inB, Bool.and_eq_true, decide_eq_true_eq] at this
          exact this
        refine ac_intro tabIs _ Tryz.func148 rfl rfl Tryz.ntmps148 rfl rfl fun w0 ok0 he0 => ?_
        repeat (first | refine v_w (t := 17) ?_ | refine zc ?_ | refine u_w (t := 17) ?_ | refine zk (e := by exact e1) (n := ?_) | refine zv ?_ | refine zg ?_)
        refine awp_loop (fun i : Nat => i <= w.length) (fun i => [(3, .own 17), (18, .d (ints w)), (19, .d (.int .i64 (List.map (D.int .i64) w).length)), (20, .d (.int .i64 i))]) (fun i => [(17, .arr 5 1 (((w.take i).map fun l => 97 + l).map (.int .u8)))]) (fun i => w.length - i) 0 (by omega) ?_ rfl ?_
        . exact zs
        . intro i hi
          have htl : (((w.take i).map fun l => 97 + l).map (D.int .u8)).length = i := by simp [hi]
          by_cases hlt : i < w.length
          . have hx := el_int hlt
            have hst := List.take_succ_eq_append_getElem hlt
            have hb := hr _ (List.getElem_mem hlt)
            generalize w[i] = n at *
            have hwr := congrArg (D.int .u8) (u8_wrapT (n := 97 + n) (by omega))
            repeat (first | refine zc ?_ | refine zv ?_)
            refine loop_n (i + 1) (by omega) ?_ ?_ (by omega)
            . exact zs
            . rw [hst, List.map_append, List.map_append]
              exact congrArg (fun d => [(17, Chunk.arr 5 1 (((w.take i).map fun l => 97 + l).map (D.int .u8) ++ [d]))]) hwr.symm
          . have hie : i = w.length := by omega
            subst hie
            rw [List.take_length]
            repeat (first | refine zc ?_ | refine zv ?_)
            refine zt ?_
            simp [chB]
  . rw [decide_eq_false h4, Bool.false_and]
    refine ac_intro tabIs _ Tryz.func148 rfl rfl Tryz.ntmps148 rfl rfl fun w0 ok0 he0 => ?_
    repeat (first | refine zc ?_ | refine zv ?_ | refine zg ?_)
    refine zt ?_
    rfl
theorem spec_WordText {w : List Int} (hl : w.length <= 1048576) : AC Tryz.prog 93 [ints w] (.str (wtx w)) := by
  have hwm : (List.map (D.int .i64) w).length = w.length := by simp
  unfold wtx wOkT
  by_cases h4 : (w.length : Int) <= 400
  . rw [decide_eq_true h4, Bool.true_and]
    refine ac_intro tabIs _ Tryz.func93 rfl rfl Tryz.ntmps93 rfl rfl fun w0 ok0 he0 => ?_
    repeat (first | refine v_w (t := 8) ?_ | refine zc ?_ | refine u_w (t := 8) ?_ | refine zv ?_)
    refine awp_loop (fun i : Nat => i <= w.length /\ ∀ k, k < i -> ∀ l, w[k]? = some l -> inB l 0 2 = true) (fun i => [(0, .d (ints w)), (3, .own 8), (4, .d (.int .i64 i))]) (fun i => [(8, .arr 5 1 (((w.take i).map fun l => 97 + l).map (.int .u8)))]) (fun i => w.length - i) 0 ⟨by omega, fun k h => by omega⟩ ?_ rfl ?_
    . exact zs
    . rintro i ⟨hi, hok⟩
      have htl : (((w.take i).map fun l => 97 + l).map (D.int .u8)).length = i := by simp [hi]
      by_cases hlt : i < w.length
      . have hx := el_int hlt
        have hst := List.take_succ_eq_append_getElem hlt
        have hg : w[i]? = some w[i] := List.getElem?_eq_getElem hlt
        have hmem : w[i] ∈ w := List.getElem_mem hlt
        generalize w[i] = n at *
        have e1 := spec_l00In (n := n) (lo := 0) (hi := 2)
        cases hb : inB n 0 2 with
        | false =>
          rw [hb] at e1
          have : allIn w 0 2 = false := Bool.eq_false_iff.2 fun h => by
            have := List.all_eq_true.1 h n hmem
            rw [hb] at this
            cases this
          rw [this]
          repeat (first | refine zc ?_ | refine zk (e := by exact e1) (n := ?_) | refine zv ?_)
          refine zt ?_
          rfl
        | true =>
          rw [hb] at e1
          have hb2 := hb
          simp only [inB, Bool.and_eq_true, decide_eq_true_eq] at hb2
          have hwr := congrArg (D.int .u8) (u8_wrapT (n := 97 + n) (by omega))
          repeat (first | refine zc ?_ | refine zk (e := by exact e1) (n := ?_) | refine zv ?_)
          refine loop_n (i + 1) ⟨by omega, fun k hk l hl => ?_⟩ ?_ ?_ (by omega)
          . by_cases e : k = i
            . subst e
              rw [hg] at hl; cases hl; exact hb
            . exact hok k (by omega) l hl
          . exact zs
          . rw [hst, List.map_append, List.map_append]
            exact congrArg (fun d => [(8, Chunk.arr 5 1 (((w.take i).map fun l => 97 + l).map (D.int .u8) ++ [d]))]) hwr.symm
      . have hie : i = w.length := by omega
        subst hie
        rw [List.take_length] at htl ⊢
        have hall : allIn w 0 2 = true := List.all_eq_true.2 fun l hl => by
          obtain ⟨k, hk, e⟩ := List.getElem_of_mem hl
          exact hok k hk l (by rw [List.getElem?_eq_getElem hk, e])
        rw [hall, if_pos rfl]
        by_cases hn : w = []
        . subst hn
          repeat (first | refine zc ?_ | refine zv ?_)
          refine zt ?_
          rfl
        . rw [if_neg hn]
          have hl0 : ¬ w.length = 0 := fun h => hn (List.length_eq_zero_iff.1 h)
          have hd0 : decide ((((((w.map fun l => 97 + l).map (D.int .u8)).length : Nat)) : Int) = 0) = false := decide_eq_false (by omega)
          repeat (first | refine zc ?_ | refine zv ?_)
          refine zt ?_
          simp [chB]
  . rw [decide_eq_false h4, Bool.false_and]
    refine ac_intro tabIs _ Tryz.func93 rfl rfl Tryz.ntmps93 rfl rfl fun w0 ok0 he0 => ?_
    repeat (first | refine zc ?_ | refine zv ?_)
    refine zt ?_
    rfl
end Go.Proofs.YtffmlijngfhhaaaGreatDoor
