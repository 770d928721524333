/- The law of Believed. No condition. -/
import Derived.Test.YtampglcgipefnaaGreatSb
import Derived.Test.YtampglcgipefnaaGreatMa
import Derived.Test.YtampglcgipefnaaGreatFwP
namespace Go.Proofs.YtampglcgipefnaaGreat
open Go
attribute [local irreducible] awp awpL awpQL awpQ awpM pWalk Qt AC thenQ blockQ loopQ OpTo
set_option linter.unusedVariables false
set_option linter.unusedSimpArgs false
set_option maxHeartbeats 2000000
attribute [local irreducible] HC

theorem laws_markAutomaton {s : Int} {nx : List (List Int)} {k : Int} (hk : 0 ≤ k) (hl : k + tot nx ≤ 4611686018427387904) (hn : nx.length ≤ 9223372036854775807) :
    HC Tryz.prog 56 [.agg [.d (.int .i64 s), .own 10000], .d (.int .i64 k)] [(10000, .rows 25 2 1 (rws nx) none)] (.d (.int .i64 (k + tot nx)))
      [(10000, .rows 25 2 1 (rws (mkR k nx)) none)] := by
  have c1 := laws_markInt64SS (nss := nx) (k := k) hk (by omega) hn
  refine hc_intro tabIs _ Tryz.func56 rfl rfl Tryz.ntmps56 rfl rfl rfl ?_ fun w0 ok0 XM XA anc => ?_
  · exact likeIn_cons rfl mkR_like likeIn_nil
  repeat (first | refine zc ?_ | refine zv ?_)
  refine hcl [(10000, 10000)] [(10000, 10000)] c1 ?_
  repeat (first | refine zc ?_ | refine zv ?_)
  (refine awp_ret ?_; (repeat (first | refine then_r ?_ | refine block_r ?_ | refine loop_r ?_)); refine u_rH [(10000, 10000)] ?_ ?_)
  · rfl
  · rfl

theorem laws_markLit {s : Int} {nx : List (List Int)} {lp : List Int} {k : Int} (hk : 0 ≤ k) (hl : k + tot nx + lp.length ≤ 4611686018427387904) (hn : nx.length ≤ 9223372036854775807) :
    HC Tryz.prog 20 [.agg [.d (.int .i64 s), .own 10000, .own 10001], .d (.int .i64 k)] [(10000, .rows 25 2 1 (rws nx) none), (10001, .arr 2 1 (lp.map (.int .i64)))] (.d (.int .i64 (k + tot nx + lp.length)))
      [(10000, .rows 25 2 1 (rws (mkR k nx)) none), (10001, .arr 2 1 ((mk1 (k + tot nx) lp.length).map (.int .i64)))] := by
  have c1 := laws_markAutomaton (s := s) (nx := nx) (k := k) hk (by omega) hn
  have c2 := laws_markInt64S (xs := lp) (k := k + tot nx) (by omega) (by omega)
  refine hc_intro tabIs _ Tryz.func20 rfl rfl Tryz.ntmps20 rfl rfl rfl ?_ fun w0 ok0 XM XA anc => ?_
  · exact likeIn_cons rfl mkR_like (likeIn_cons rfl ⟨rfl, rfl, by simp [mk1_length]⟩ likeIn_nil)
  repeat (first | refine zc ?_ | refine zv ?_)
  refine hcl [(10000, 10000)] [(10000, 10000)] c1 ?_
  repeat (first | refine zc ?_ | refine zv ?_)
  refine hcl [(10001, 10000)] [(10000, 10001)] c2 ?_
  repeat (first | refine zc ?_ | refine zv ?_)
  (refine awp_ret ?_; (repeat (first | refine then_r ?_ | refine block_r ?_ | refine loop_r ?_)); refine u_rH [(10000, 10000), (10001, 10001)] ?_ ?_)
  · rfl
  · rfl

theorem laws_toLitH {s : Int} {nx : List (List Int)} {lp : List Int} (h1 : nx.length ≤ 1048576) (h2 : ∀ ns ∈ nx, ns.length ≤ 1048576) (h3 : lp.length ≤ 1048576) :
    HC Tryz.prog 12 [.d (.agg [.int .i64 s, rows nx, ints lp])] [] (.agg [.d (.int .i64 s), .own 30000, .own 30001]) [(30000, .rows 25 2 1 (rws nx) none), (30001, .arr 2 1 (lp.map (.int .i64)))] := by
  have c1 := laws_toAutomatonH (s := s) h1 h2
  have c2 := laws_toInt64SH h3
  refine hc_intro tabIs _ Tryz.func12 rfl rfl Tryz.ntmps12 rfl rfl rfl ?_ fun w0 ok0 XM XA anc => ?_
  · exact likeIn_nil
  repeat (first | refine v_w (t := 3) ?_ | refine v_w (t := 2) ?_ | refine zc ?_ | refine u_w (t := 2) ?_ | refine u_w (t := 3) ?_ | refine zv ?_)
  refine hcl [] [(30000, 500)] c1 ?_
  repeat (first | refine zc ?_ | refine zv ?_)
  refine hcl [] [(30000, 501)] c2 ?_
  repeat (first | refine zc ?_ | refine zv ?_)
  (refine awp_ret ?_; (repeat (first | refine then_r ?_ | refine block_r ?_ | refine loop_r ?_)); refine u_rH [(500, 30000), (501, 30001)] ?_ ?_)
  · rfl
  · rfl

theorem tot_bound {nss : List (List Int)} {m : Nat} (h : ∀ ns ∈ nss, ns.length ≤ m) : tot nss ≤ nss.length * m := by
  induction nss with
  | nil => simp [tot]
  | cons x l ih =>
    have h1 := h x (List.mem_cons_self ..)
    have h2 := ih fun ns hn => h ns (List.mem_cons_of_mem _ hn)
    simp only [tot, List.length_cons, Nat.add_mul]
    omega

theorem incr_len {l : List Int} (h : l.Pairwise (· < ·)) : ∀ lo : Int, (∀ q ∈ l, lo ≤ q ∧ q ≤ 9) → (l.length : Int) ≤ max 0 (10 - lo) := by
  induction l with
  | nil => intro lo _; simp; omega
  | cons x l ih =>
    intro lo hl
    have hp' := List.pairwise_cons.1 h
    have hx := hl x (List.mem_cons_self ..)
    have := ih hp'.2 (x + 1) (fun q hq => ⟨by have := hp'.1 q hq; omega, (hl q (List.mem_cons_of_mem _ hq)).2⟩)
    simp only [List.length_cons]
    omega

end Go.Proofs.YtampglcgipefnaaGreat
