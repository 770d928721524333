/- The law of belief. No condition. -/
import Derived.Test.YtckpadnjldebaaaGreatOz
namespace Go.Proofs.YtckpadnjldebaaaGreat
open Go
attribute [local irreducible] awp awpL awpQL awpQ awpM pWalk Qt AC thenQ blockQ loopQ OpTo
set_option linter.unusedVariables false
set_option linter.unusedSimpArgs false
set_option maxHeartbeats 2000000
attribute [local irreducible] HC
def stK (code : List Int) : Nat -> List Int × Src
  | 0 => ([], ⟨0, 0⟩)
  | k + 1 => (if pickV code 2 (stK code k).2 = 0 then (stK code k).1 ++ [(k : Int)] else (stK code k).1, pickS code 2 (stK code k).2)
theorem stK_ok {code : List Int} : ∀ k, SOk (stK code k).2 (2 * k)
  | 0 => ⟨Nat.le_refl _, by simp [stK]⟩
  | k + 1 => by
    show SOk (pickS code 2 (stK code k).2) _
    exact (pick_ok (stK_ok k)).mono (by omega)
theorem stK_el {code : List Int} : ∀ k : Nat, (∀ q ∈ (stK code k).1, 0 <= q /\ q < (k : Int)) /\ (stK code k).1.Pairwise (· < ·) /\ (stK code k).1.length <= k
  | 0 => ⟨(fun q h => by cases h), List.Pairwise.nil, Nat.le_refl _⟩
  | k + 1 => by
    obtain ⟨h1, h2, h3⟩ := stK_el (code := code) k
    unfold stK
    dsimp only
    split
    . refine ⟨fun q hq => ?_, List.pairwise_append.2 ⟨h2, List.pairwise_singleton _ _, fun a ha b hb => ?_⟩, by simp; omega⟩
      . rcases List.mem_append.1 hq with h | h
        . have := h1 q h; omega
        . simp at h; subst h; omega
      . simp at hb; subst hb; exact (h1 a ha).2
    . exact ⟨(fun q hq => by have := h1 q hq; omega), h2, by omega⟩
theorem spec_A2Set {code : List Int} {s : Int} {nx : List (List Int)} (hb : BytesOk code) (hs : 0 <= s /\ s <= 100) : AC Tryz.prog 22 [u8s code, .agg [.int .i64 s, rows nx]] (ints (stK code s.toNat).1) := by
  have c0 := spec_From (code := code)
  have hQ : ∀ (s : Src) (k : Nat) (n : Int), SOk s k -> k <= 999999990 -> n <= 1000 -> HC Tryz.prog 53 [.ref 10000 0, .d (.int .i64 n)] [(10000, srcB code s)] (.d (.bool (decide (pickV code n s = 0)))) [(10000, srcB code (pickS code n s))] := fun s k n a b c => spec_one hb a b (by omega)
  unfold srcB at *
  refine ac_intro tabIs _ Tryz.func22 rfl rfl Tryz.ntmps22 rfl rfl fun w0 ok0 he0 => ?_
  repeat (first | refine zc ?_ | refine zv ?_)
  refine hcl [] [(30000, 100)] c0 ?_
  repeat (first | refine v_w (t := 10) ?_ | refine zc ?_ | refine u_w (t := 10) ?_ | refine zv ?_)
  refine awp_perm [(10, .arr 2 1 []), (100, .box [.d (u8s code), .d (.int .i64 ((⟨0, 0⟩ : Src).pos : Nat)), .d (.int .u64 (⟨0, 0⟩ : Src).sd)])] rfl ?_
  refine awp_loop (fun k : Nat => (k : Int) <= s) (fun k => [(3, .d (.ptr (.agg [.int .i64 s, rows nx]))), (5, .ref 100 0), (6, .own 10), (7, .d (.int .i64 k))]) (fun k => [(10, .arr 2 1 ((stK code k).1.map (.int .i64))), (100, .box [.d (u8s code), .d (.int .i64 ((stK code k).2.pos : Nat)), .d (.int .u64 (stK code k).2.sd)])]) (fun k => s.toNat - k) 0 (by omega) ?_ rfl ?_
  . exact zs
  . intro k hk
    obtain ⟨o1, o2, o3⟩ := stK_el (code := code) k
    have hok := stK_ok (code := code) k
    have hlm : ((stK code k).1.map (D.int .i64)).length <= k := by simpa using o3
    by_cases hlt : (k : Int) < s
    . have c1 := hQ _ _ 2 hok (by omega) (by omega)
      have hst : stK code (k + 1) = (if pickV code 2 (stK code k).2 = 0 then (stK code k).1 ++ [(k : Int)] else (stK code k).1, pickS code 2 (stK code k).2) := rfl
      generalize stK code k = r at *
      by_cases h0 : pickV code 2 r.2 = 0
      . rw [if_pos h0] at hst
        repeat (first | refine zc ?_ | refine zv ?_)
        refine hcl [(100, 10000)] [(10000, 100)] c1 ?_
        repeat (first | refine zcr ?_ | refine zv ?_)
        refine awp_perm _ rfl ?_
        repeat (first | refine zc ?_ | refine zv ?_)
        refine loop_n (k + 1) (by omega) ?_ ?_ (by omega)
        . exact zs
        . rw [hst]; simp only [List.map_append]; (as_aux_lemma => kernel_rfl)
      . rw [if_neg h0] at hst
        repeat (first | refine zc ?_ | refine zv ?_)
        refine hcl [(100, 10000)] [(10000, 100)] c1 ?_
        repeat (first | refine zcr ?_ | refine zv ?_)
        refine awp_perm _ rfl ?_
        repeat (first | refine zc ?_ | refine zv ?_)
        refine loop_n (k + 1) (by omega) ?_ ?_ (by omega)
        . exact zs
        . rw [hst]; (as_aux_lemma => kernel_rfl)
    . have : k = s.toNat := by omega
      subst this
      repeat (first | refine zc ?_ | refine zv ?_)
      refine zt ?_
      rfl
theorem risB_of {l : List Int} {hi : Int} (h1 : ∀ q ∈ l, 0 <= q /\ q <= hi) (h2 : l.Pairwise (· < ·)) : risB l hi = true := risB_true fun k hk => by
  have hg : ∀ j, (hj : j < l.length) -> l.getD j 0 = l[j] := fun j hj => by rw [List.getD_eq_getElem?_getD, List.getElem?_eq_getElem hj]; rfl
  unfold risAt
  have hm := h1 _ (List.getElem_mem hk)
  rw [hg k hk]
  by_cases h0 : k = 0
  . simp [inB, h0] at hm ⊢
    subst h0
    exact hm
  . have := List.pairwise_iff_getElem.1 h2 (k - 1) k (by omega) hk (by omega)
    rw [hg (k - 1) (by omega)]
    simp [inB, this]
    exact hm
end Go.Proofs.YtckpadnjldebaaaGreat
