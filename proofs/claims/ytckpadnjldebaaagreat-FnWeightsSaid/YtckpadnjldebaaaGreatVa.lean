/- The order of words, in the program: cmp.Compare, slices.Compare, cmp.Or, compareWords. No condition but bounds on lengths. -/
import Derived.Test.YtckpadnjldebaaaGreatWa
namespace Go.Proofs.YtckpadnjldebaaaGreat
open Go
attribute [local irreducible] awp awpL awpQL awpQ awpM pWalk Qt AC thenQ blockQ loopQ OpTo
set_option linter.unusedVariables false
set_option linter.unusedSimpArgs false
set_option maxHeartbeats 2000000
attribute [local irreducible] HC
def cmpI (x y : Int) : Int := if x < y then -1 else if y < x then 1 else 0
def cmpL : List Int -> List Int -> Int
  | [], [] => 0
  | [], _ :: _ => -1
  | _ :: _, [] => 1
  | x :: a, y :: b => if cmpI x y = 0 then cmpL a b else cmpI x y
theorem cmpL_cons (x y : Int) (a b : List Int) : cmpL (x :: a) (y :: b) = if cmpI x y = 0 then cmpL a b else cmpI x y := rfl
theorem cmpI_lt {x y : Int} : cmpI x y < 0 ↔ x < y := by unfold cmpI; (repeat' split) <;> omega
theorem cmpI_eq {x y : Int} : cmpI x y = 0 ↔ x = y := by unfold cmpI; (repeat' split) <;> omega
theorem cmpI_neg (x y : Int) : cmpI y x = - cmpI x y := by unfold cmpI; (repeat' split) <;> omega
theorem cmpL_eq : ∀ {a b : List Int}, cmpL a b = 0 ↔ a = b
  | [], [] => by simp [cmpL]
  | [], _ :: _ => by simp [cmpL]
  | _ :: _, [] => by simp [cmpL]
  | x :: a, y :: b => by
    unfold cmpL
    by_cases h : cmpI x y = 0
    . rw [if_pos h, cmpL_eq, cmpI_eq.1 h]; simp
    . rw [if_neg h]
      have : x ≠ y := fun e => h (cmpI_eq.2 e)
      simp [h, this]
theorem cmpL_neg : ∀ (a b : List Int), cmpL b a = - cmpL a b
  | [], [] => by simp [cmpL]
  | [], _ :: _ => by simp [cmpL]
  | _ :: _, [] => by simp [cmpL]
  | x :: a, y :: b => by
    unfold cmpL
    rw [cmpI_neg x y]
    by_cases h : cmpI x y = 0
    . rw [if_pos h, if_pos (by omega), cmpL_neg a b]
    . rw [if_neg h, if_neg (by omega)]
theorem cmpL_trans : ∀ {a b c : List Int}, cmpL a b < 0 -> cmpL b c < 0 -> cmpL a c < 0
  | [], [], _, h, _ => by simp [cmpL] at h
  | [], _ :: _, [], _, k => by simp [cmpL] at k
  | [], _ :: _, _ :: _, _, _ => by simp [cmpL]
  | _ :: _, [], _, h, _ => by simp [cmpL] at h
  | _ :: _, _ :: _, [], _, k => by simp [cmpL] at k
  | x :: a, y :: b, z :: c, h, k => by
    unfold cmpL at h k ⊢
    by_cases h1 : cmpI x y = 0
    . rw [if_pos h1] at h
      have e := cmpI_eq.1 h1
      subst e
      by_cases h2 : cmpI x z = 0
      . rw [if_pos h2] at k ⊢
        exact cmpL_trans h k
      . rw [if_neg h2] at k ⊢
        exact k
    . rw [if_neg h1] at h
      have h3 := cmpI_lt.1 h
      by_cases h2 : cmpI y z = 0
      . rw [if_pos h2] at k
        have e := cmpI_eq.1 h2
        subst e
        rw [if_neg h1]
        exact h
      . rw [if_neg h2] at k
        have h4 := cmpI_lt.1 k
        have h5 : x < z := by omega
        rw [if_neg (fun e => by have := cmpI_eq.1 e; omega)]
        exact cmpI_lt.2 h5
theorem impl_isNaN {a : Int} : AC Tryz.prog 288 [.int .i64 a] (.bool false) := by
  refine ac_intro tabIs _ Tryz.func288 rfl rfl Tryz.ntmps288 rfl rfl fun w0 ok0 he0 => ?_
  repeat (first | refine zc ?_ | refine zv ?_)
  refine zt ?_
  simp
theorem impl_Compare {a b : Int} : AC Tryz.prog 211 [.int .i64 a, .int .i64 b] (.int .i64 (cmpI a b)) := by
  have e := impl_isNaN (a := a)
  have e2 := impl_isNaN (a := b)
  unfold cmpI
  by_cases h1 : a < b
  . rw [if_pos h1]
    refine ac_intro tabIs _ Tryz.func211 rfl rfl Tryz.ntmps211 rfl rfl fun w0 ok0 he0 => ?_
    repeat (first | refine zc ?_ | refine zk (e := by exact e) (n := ?_) | refine zk (e := by exact e2) (n := ?_) | refine zv ?_)
    refine zt ?_
    rfl
  . rw [if_neg h1]
    by_cases h2 : b < a
    . rw [if_pos h2]
      refine ac_intro tabIs _ Tryz.func211 rfl rfl Tryz.ntmps211 rfl rfl fun w0 ok0 he0 => ?_
      repeat (first | refine zc ?_ | refine zk (e := by exact e) (n := ?_) | refine zk (e := by exact e2) (n := ?_) | refine zv ?_)
      refine zt ?_
      rfl
    . rw [if_neg h2]
      refine ac_intro tabIs _ Tryz.func211 rfl rfl Tryz.ntmps211 rfl rfl fun w0 ok0 he0 => ?_
      repeat (first | refine zc ?_ | refine zk (e := by exact e) (n := ?_) | refine zk (e := by exact e2) (n := ?_) | refine zv ?_)
      refine zt ?_
      rfl
theorem slices_Compare {a b : List Int} (h1 : a.length <= 9223372036854775807) (h2 : b.length <= 9223372036854775807) : AC Tryz.prog 102 [ints a, ints b] (.int .i64 (cmpL a b)) := by
  have hla : (List.map (D.int IntKind.i64) a).length = a.length := by simp
  have hlb : (List.map (D.int IntKind.i64) b).length = b.length := by simp
  refine ac_intro tabIs _ Tryz.func102 rfl rfl Tryz.ntmps102 rfl rfl fun w0 ok0 he0 => ?_
  repeat (first | refine zc ?_ | refine zv ?_)
  refine awp_loop (fun k : Nat => k <= a.length /\ k <= b.length /\ cmpL (a.drop k) (b.drop k) = cmpL a b) (fun k => [(0, .d (ints a)), (1, .d (ints b)), (9, .d (ints a)), (10, .d (.int .i64 (List.map (D.int IntKind.i64) a).length)), (11, .d (.int .i64 k))]) (fun _ => []) (fun k => a.length - k) 0 ⟨by omega, by omega, rfl⟩ ?_ rfl ?_
  . exact zs
  . rintro k ⟨hk, hk2, ht⟩
    by_cases hlt : k < a.length
    . have ea := el_int hlt
      rw [List.drop_eq_getElem_cons hlt] at ht
      by_cases hlt2 : k < b.length
      . have eb := el_int hlt2
        have ec := impl_Compare (a := a[k]) (b := b[k])
        rw [List.drop_eq_getElem_cons hlt2] at ht
        rw [cmpL_cons] at ht
        by_cases hc : cmpI a[k] b[k] = 0
        . rw [if_pos hc] at ht
          generalize cmpI a[k] b[k] = c at *
          subst hc
          repeat (first | refine zc ?_ | refine zk (e := by exact ec) (n := ?_) | refine zv ?_)
          refine loop_n (k + 1) ⟨by omega, by omega, ht⟩ ?_ rfl (by omega)
          exact zs
        . rw [if_neg hc] at ht
          rw [<- ht]
          generalize cmpI a[k] b[k] = c at *
          repeat (first | refine zc ?_ | refine zk (e := by exact ec) (n := ?_) | refine zv ?_)
          refine zt ?_
          rfl
      . have hb : b.drop k = [] := List.drop_eq_nil_of_le (by omega)
        rw [hb] at ht
        rw [<- ht]
        repeat (first | refine zc ?_ | refine zv ?_)
        refine zt ?_
        rfl
    . have ha : a.drop k = [] := List.drop_eq_nil_of_le (by omega)
      rw [ha] at ht
      by_cases hlt2 : a.length < b.length
      . rw [List.drop_eq_getElem_cons (show k < b.length by omega)] at ht
        rw [<- ht]
        repeat (first | refine zc ?_ | refine zv ?_)
        refine zt ?_
        rfl
      . have hb : b.drop k = [] := List.drop_eq_nil_of_le (by omega)
        rw [hb] at ht
        rw [<- ht]
        repeat (first | refine zc ?_ | refine zv ?_)
        refine zt ?_
        rfl
end Go.Proofs.YtckpadnjldebaaaGreat
