/- Contracts of how the laws' package marks what it was given, looks for its marks, and copies. No condition. -/
import Derived.Test.YtckpadnjldebaaaGreatWa
namespace Go.Proofs.YtckpadnjldebaaaGreat
open Go
attribute [local irreducible] awp awpL awpQL awpQ awpM pWalk Qt AC thenQ blockQ loopQ OpTo
set_option linter.unusedVariables false
set_option linter.unusedSimpArgs false
set_option maxHeartbeats 2000000
attribute [local irreducible] HC
theorem likeIn_nil {h' : Heap} : likeIn [] h' := fun p hp => by cases hp
theorem likeIn_cons {h h' : Heap} {id : Nat} {c c' : Chunk} (hg : h'.get id = some c') (hl : c.like c') (hr : likeIn h h') : likeIn ((id, c) :: h) h' := fun p hp ha => by
  rcases List.mem_cons.1 hp with rfl | hp
  . exact ⟨c', hg, hl⟩
  . exact hr p hp ha
def mk1 : Int -> Nat -> List Int
  | _, 0 => []
  | k, n + 1 => k :: mk1 (k + 1) n
theorem mk1_length : ∀ (n : Nat) (k : Int), (mk1 k n).length = n
  | 0, _ => rfl
  | n + 1, k => by simp [mk1, mk1_length n]
theorem mk1_get : ∀ (n : Nat) (k : Int) (i : Nat), i < n -> (mk1 k n)[i]? = some (k + i)
  | 0, _, i, h => by omega
  | n + 1, k, 0, h => by simp [mk1]
  | n + 1, k, i + 1, h => by
    simp only [mk1, List.getElem?_cons_succ]
    rw [mk1_get n (k + 1) i (by omega)]
    congr 1
    omega
theorem mk1_snoc (k : Int) (n : Nat) : mk1 k (n + 1) = mk1 k n ++ [k + n] := by
  apply List.ext_getElem?
  intro i
  by_cases h : i < n
  . rw [mk1_get _ _ _ (by omega), List.getElem?_append_left (by rw [mk1_length]; exact h), mk1_get _ _ _ h]
  . by_cases h2 : i = n
    . subst h2
      rw [mk1_get _ _ _ (by omega), List.getElem?_append_right (by rw [mk1_length]; omega), mk1_length]
      simp
    . rw [List.getElem?_eq_none (by rw [mk1_length]; omega), List.getElem?_eq_none (by simp [mk1_length]; omega)]
def tot : List (List Int) -> Nat
  | [] => 0
  | ns :: l => ns.length + tot l
def rws (nss : List (List Int)) : List (List D) := nss.map fun ns => ns.map (.int .i64)
theorem rws_length (nss : List (List Int)) : (rws nss).length = nss.length := by simp [rws]
theorem rws_lst (nss : List (List Int)) : (rws nss).map D.lst = nss.map ints := by
  unfold rws
  rw [List.map_map]
  rfl
theorem rws_dat (nss : List (List Int)) : D.lst ((rws nss).map D.lst) = rows nss := by rw [rws_lst]; rfl
end Go.Proofs.YtckpadnjldebaaaGreat
namespace Go.Proofs.YtckpadnjldebaaaGreat
open Go
attribute [local irreducible] awp awpL awpQL awpQ awpM pWalk Qt AC thenQ blockQ loopQ OpTo
set_option linter.unusedVariables false
set_option linter.unusedSimpArgs false
set_option maxHeartbeats 2000000
attribute [local irreducible] HC
end Go.Proofs.YtckpadnjldebaaaGreat
namespace Go.Proofs.YtckpadnjldebaaaGreat
open Go
attribute [local irreducible] awp awpL awpQL awpQ awpM pWalk Qt AC thenQ blockQ loopQ OpTo
set_option linter.unusedVariables false
set_option linter.unusedSimpArgs false
set_option maxHeartbeats 2000000
attribute [local irreducible] HC
section
attribute [local semireducible] AC HC
theorem ac_of_hc {P : Program} {f : Nat} {xs : List D} {r : SV} {h' : Heap} {d : D} (hc : HC P f (xs.map .d) [] r h') (hd : slotD h' r = some d) : AC P f xs d := by
  refine ⟨hc.1, fun w ok vs he hok hvs => ?_⟩
  refine (hc.2.2 w ok (fun _ => ⟨0, 0, true, []⟩) vs ⟨he, by simp⟩ hok ⟨by simp, by simp, by simp, by simp, by simp⟩ (RepSVs.ofD (by simpa using hvs.1) fun i v x hv hx => hvs.2 i v x (by simpa using hv) hx)).mono ?_
  rintro e w' ⟨v, σ', rfl, hE, hv⟩
  refine ⟨v, rfl, slotG_rep hE.rep (fun b hb => hb.1) (fun p hp b hb => ?_) hv hd, hE.os, hE.tape, hE.output, hE.size, fun b hb => hE.frame b hb (by simp)⟩
  rcases (hE.mine p hp b hb).2 with h | ⟨_, c, h, _⟩
  . exact .inr h
  . cases h
end
theorem mem_mk1 : ∀ (n : Nat) (k q : Int), q ∈ mk1 k n ↔ k <= q /\ q < k + n
  | 0, k, q => by simp [mk1]
  | n + 1, k, q => by
    simp only [mk1, List.mem_cons, mem_mk1 n]
    omega
theorem mk1_pairwise : ∀ (n : Nat) (k : Int), (mk1 k n).Pairwise (· < ·)
  | 0, _ => List.Pairwise.nil
  | n + 1, k => List.pairwise_cons.2 ⟨fun q hq => by have := (mem_mk1 n (k + 1) q).1 hq; omega, mk1_pairwise n (k + 1)⟩
theorem impl_atNil {s q : Int} {nx : List (List Int)} : AC Tryz.prog 205 [.agg [.int .i64 s, rows nx], .int .i64 q, .nils] (.int .i64 q) := by
  refine ac_intro tabIs _ Tryz.func205 rfl rfl Tryz.ntmps205 rfl rfl fun w0 ok0 he0 => ?_
  repeat (first | refine zc ?_ | refine zv ?_)
  refine awp_loop (fun k : Nat => k = 0) (fun _ => [(1, .d (.int .i64 q)), (10, .d (.int .i64 0)), (11, .d (.int .i64 0))]) (fun _ => []) (fun _ => 0) 0 rfl ?_ rfl ?_
  . exact zs
  . rintro k rfl
    repeat (first | refine zc ?_ | refine zv ?_)
    refine zt ?_
    rfl
theorem impl_actionNil {s : Int} {nx : List (List Int)} (hs : 0 <= s /\ s <= 100) : AC Tryz.prog 207 [.agg [.int .i64 s, rows nx], .nils] (ints (mk1 0 s.toNat)) := by
  refine ac_intro tabIs _ Tryz.func207 rfl rfl Tryz.ntmps207 rfl rfl fun w0 ok0 he0 => ?_
  repeat (first | refine v_w (t := 7) ?_ | refine zc ?_ | refine u_w (t := 7) ?_ | refine zv ?_)
  refine awp_loop (fun k : Nat => (k : Int) <= s) (fun k => [(1, .d .nils), (2, .d (.ptr (.agg [.int .i64 s, rows nx]))), (5, .own 7), (9, .d (.int .i64 s)), (10, .d (.int .i64 k))]) (fun k => [(7, .arr 2 1 ((mk1 0 k).map (.int .i64)))]) (fun k => s.toNat - k) 0 (by omega) ?_ rfl ?_
  . exact zs
  . intro k hk
    have hm := mk1_length k 0
    have e1 := impl_atNil (s := s) (q := (k : Int)) (nx := nx)
    by_cases hlt : (k : Int) < s
    . repeat (first | refine zc ?_ | refine zk (e := by exact e1) (n := ?_) | refine zv ?_)
      refine loop_n (k + 1) (by omega) ?_ ?_ (by omega)
      . exact zs
      . rw [mk1_snoc]; simp [killH, keepH, memB]
    . have : k = s.toNat := by omega
      subst this
      repeat (first | refine zc ?_ | refine zv ?_)
      refine zt ?_
      rfl
theorem impl_all {s : Int} {nx : List (List Int)} (hs : 0 <= s /\ s <= 100) : AC Tryz.prog 96 [.agg [.int .i64 s, rows nx]] (ints (mk1 0 s.toNat)) := by
  have e1 := impl_actionNil (nx := nx) hs
  refine ac_intro tabIs _ Tryz.func96 rfl rfl Tryz.ntmps96 rfl rfl fun w0 ok0 he0 => ?_
  repeat (first | refine zc ?_ | refine zk (e := by exact e1) (n := ?_) | refine zv ?_)
  refine zt ?_
  rfl
def fnL (N : Nat) (F : Nat -> Int) : List Int := (List.range N).map F
@[simp] theorem fnL_length {N : Nat} {F : Nat -> Int} : (fnL N F).length = N := by simp [fnL]
theorem fnL_get {N k : Nat} {F : Nat -> Int} (h : k < N) : (fnL N F)[k]? = some (F k) := by simp [fnL, h]
end Go.Proofs.YtckpadnjldebaaaGreat
