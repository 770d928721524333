/- Deeds in the laws' package, and RefusedDeed in the program. No condition. -/
import Derived.Test.YtffmlijngfhhaaaGreatDoorOb
import Derived.Test.YtffmlijngfhhaaaGreatDoorOf
namespace Go.Proofs.YtffmlijngfhhaaaGreatDoor
open Go
attribute [local irreducible] awp awpL awpQL awpQ awpM pWalk Qt AC thenQ blockQ loopQ OpTo
set_option linter.unusedVariables false
set_option linter.unusedSimpArgs false
set_option maxHeartbeats 2000000
attribute [local irreducible] HC
theorem indexFunc_deed {xs : List (Int × Int)} {g : Nat} {cap : List D} (p : Int × Int -> Bool) (hp : ∀ x ∈ xs, AC Tryz.prog g (deedD x :: cap) (.bool (p x))) (hl : xs.length <= 9223372036854775807) :
    AC Tryz.prog 154 [deedsD xs, .fn g cap] (.int .i64 (findI p 0 xs)) := by
  unfold deedsD deedD at *
  refine ac_intro tabIs _ Tryz.func154 rfl rfl Tryz.ntmps154 rfl rfl fun w0 ok0 he0 => ?_
  have hle : (List.map (fun p : Int × Int => D.agg [.int .i64 p.1, .int .i64 p.2]) xs).length = xs.length := by simp
  repeat (first | refine zc ?_ | refine zv ?_)
  refine awp_loop (fun k : Nat => k <= xs.length /\ findI p k (xs.drop k) = findI p 0 xs)
    (fun k => [(0, .d (deedsD xs)), (1, .d (.fn g cap)), (7, .d (.int .i64 xs.length)), (8, .d (.int .i64 k))]) (fun _ => []) (fun k => xs.length - k) 0 (by simp) ?_ rfl ?_
  . exact zs
  . rintro k ⟨hk, hf⟩
    unfold deedsD
    by_cases hlt : k < xs.length
    . have hx := el_deed hlt
      rw [findI_drop p xs k hlt] at hf
      repeat (first | refine zc ?_ | refine zk (e := by exact hp _ (List.getElem_mem hlt)) (n := ?_) | refine zv ?_)
      cases hpx : p xs[k]
      . rw [hpx] at hf
        repeat (first | refine zc ?_ | refine zv ?_)
        refine loop_n (k + 1) ⟨by omega, by simpa using hf⟩ ?_ rfl (by omega)
        exact zs
      . rw [hpx] at hf
        repeat (first | refine zc ?_ | refine zv ?_)
        refine zt ?_
        simpa using hf
    . have : k = xs.length := by omega
      subst this
      repeat (first | refine zc ?_ | refine zv ?_)
      refine zt ?_
      simpa [findI] using hf
theorem containsFunc_deed {xs : List (Int × Int)} {g : Nat} {cap : List D} (p : Int × Int -> Bool) (hp : ∀ x ∈ xs, AC Tryz.prog g (deedD x :: cap) (.bool (p x))) (hl : xs.length <= 9223372036854775807) :
    AC Tryz.prog 108 [deedsD xs, .fn g cap] (.bool (xs.any p)) := by
  have e := indexFunc_deed p hp hl
  unfold deedsD at *
  refine ac_intro tabIs _ Tryz.func108 rfl rfl Tryz.ntmps108 rfl rfl fun w0 ok0 he0 => ?_
  repeat (first | refine zc ?_ | refine zk (e := by exact e) (n := ?_) | refine zv ?_)
  refine zt ?_
  rw [findI_any]
theorem any_not {α : Type} (p : α -> Bool) : ∀ l : List α, (l.any fun x => !p x) = !(l.all p)
  | [] => rfl
  | x :: l => by
    rw [List.any_cons, List.all_cons, any_not p l]
    cases p x <;> simp
theorem impl_deedsCode1 {p : Int × Int} : AC Tryz.prog 109 [deedD p] (.bool (!vdeed p.1 p.2)) := by
  unfold deedD
  refine ac_intro tabIs _ Tryz.func109 rfl rfl Tryz.ntmps109 rfl rfl fun w0 ok0 he0 => ?_
  repeat (first | refine zc ?_ | refine zk (e := by exact impl_ValidDeed) (n := ?_) | refine zv ?_)
  refine zt ?_
  rfl
theorem impl_deedsCode {s st : Int} {nx : List (List Int)} {lp : List Int} {ds : List (Int × Int)} (h : RowsOk nx) (h2 : lp.length <= 9223372036854775807) (h3 : ds.length <= 1048576) :
    AC Tryz.prog 40 [ltD s nx lp, .int .i64 st, deedsD ds] (.int .i64 (askC s st nx lp ds)) := by
  have e1 := impl_ValidLit (s := s) (nx := nx) (lp := lp) h h2
  have e2 := containsFunc_deed (xs := ds) (g := 109) (cap := []) (fun p => !vdeed p.1 p.2) (fun x _ => impl_deedsCode1) (by omega)
  have hle : (ds.map deedD).length = ds.length := by simp
  have hany : (ds.any fun p => !vdeed p.1 p.2) = !(ds.all fun p => vdeed p.1 p.2) := any_not (fun p : Int × Int => vdeed p.1 p.2) ds
  rw [hany] at e2
  unfold askC ltD deedsD at *
  by_cases hv : litOk s nx lp = true
  . rw [hv] at e1
    rw [if_pos hv]
    have v := lv_of hv
    have hs := v.s1
    by_cases hd : (ds.all fun p => vdeed p.1 p.2) = true
    . rw [hd] at e2
      rw [if_pos hd]
      have e3 := impl_isStateA (s := s) (q := st) (nx := nx) (by omega)
      by_cases h4 : 0 <= st /\ st < s
      . rw [show inB st 0 (s - 1) = true by simp [inB]; omega] at e3
        by_cases h5 : ds.length <= 400
        . rw [if_pos ⟨h4.1, h4.2, h5⟩]
          refine ac_intro tabIs _ Tryz.func40 rfl rfl Tryz.ntmps40 rfl rfl fun w0 ok0 he0 => ?_
          repeat (first | refine zc ?_ | refine zk (e := by exact e1) (n := ?_) | refine zk (e := by exact e2) (n := ?_) | refine zk (e := by exact e3) (n := ?_) | refine zv ?_ | refine zg ?_)
          refine zt ?_
          rfl
        . rw [if_neg (fun e => h5 e.2.2)]
          refine ac_intro tabIs _ Tryz.func40 rfl rfl Tryz.ntmps40 rfl rfl fun w0 ok0 he0 => ?_
          repeat (first | refine zc ?_ | refine zk (e := by exact e1) (n := ?_) | refine zk (e := by exact e2) (n := ?_) | refine zk (e := by exact e3) (n := ?_) | refine zv ?_ | refine zg ?_)
          refine zt ?_
          rfl
      . rw [show inB st 0 (s - 1) = false by simp [inB]; omega] at e3
        rw [if_neg (fun e => h4 ⟨e.1, e.2.1⟩)]
        refine ac_intro tabIs _ Tryz.func40 rfl rfl Tryz.ntmps40 rfl rfl fun w0 ok0 he0 => ?_
        repeat (first | refine zc ?_ | refine zk (e := by exact e1) (n := ?_) | refine zk (e := by exact e2) (n := ?_) | refine zk (e := by exact e3) (n := ?_) | refine zv ?_ | refine zg ?_)
        refine zt ?_
        rfl
    . have hd' : (ds.all fun p => vdeed p.1 p.2) = false := by simpa using hd
      rw [hd'] at e2
      rw [if_neg hd]
      refine ac_intro tabIs _ Tryz.func40 rfl rfl Tryz.ntmps40 rfl rfl fun w0 ok0 he0 => ?_
      repeat (first | refine zc ?_ | refine zk (e := by exact e1) (n := ?_) | refine zk (e := by exact e2) (n := ?_) | refine zv ?_ | refine zg ?_)
      refine zt ?_
      rfl
  . have hv' : litOk s nx lp = false := by simpa using hv
    rw [hv'] at e1
    rw [if_neg hv]
    refine ac_intro tabIs _ Tryz.func40 rfl rfl Tryz.ntmps40 rfl rfl fun w0 ok0 he0 => ?_
    repeat (first | refine zc ?_ | refine zk (e := by exact e1) (n := ?_) | refine zv ?_ | refine zg ?_)
    refine zt ?_
    rfl
end Go.Proofs.YtffmlijngfhhaaaGreatDoor
