/- The answers of a script: texts of codes and of sets, what a line of a script does and answers. Condition: the variables of strconv are laid. -/
import Derived.Test.YtffmlijngfhhaaaGreatDoorOj
import Derived.Test.YtffmlijngfhhaaaGreatDoorRq
import Derived.Test.YtffmlijngfhhaaaGreatDoorTy
import Derived.Test.YtffmlijngfhhaaaGreatDoorJn
namespace Go.Proofs.YtffmlijngfhhaaaGreatDoor
open Go Go.Proofs Go.RowKit Go.Lib
set_option linter.unusedVariables false
set_option linter.unusedSimpArgs false
def cnm (c : Int) : List UInt8 := if c = 2 then [114, 97, 110, 103, 101] else [108, 105, 109, 105, 116]
set_option maxRecDepth 100000 in
theorem c_codeName2 (w : World) : Calls Tryz.prog 146 #[.int .i64 2] w fun e w' => e = .returned (.string ⟨#[114, 97, 110, 103, 101]⟩) /\ Below w.heap.size w w' := by
  go_enter Tryz.func146, Tryz.ntmps146
  go_wp2
  go_ret
  exact ⟨rfl, (Below.refl _ w).alloc (Nat.le_refl _) _⟩
set_option maxRecDepth 100000 in
theorem c_codeName3 (w : World) : Calls Tryz.prog 146 #[.int .i64 3] w fun e w' => e = .returned (.string ⟨#[108, 105, 109, 105, 116]⟩) /\ Below w.heap.size w w' := by
  go_enter Tryz.func146, Tryz.ntmps146
  go_wp2
  go_ret
  exact ⟨rfl, (Below.refl _ w).alloc (Nat.le_refl _) _⟩
theorem impl_CodeName {c : Int} (hc : c = 2 \/ c = 3) : AC Tryz.prog 146 [.int .i64 c] (.str (cnm c)) := by
  refine ⟨⟨_, Tryz.func146, by kernel_rfl, by kernel_rfl⟩, fun w ok vs _ hok hr => ?_⟩
  obtain ⟨hs, hr⟩ := hr
  obtain ⟨v0, rfl⟩ : ∃ v0, vs = #[v0] := by
    obtain ⟨x⟩ := vs
    match x, hs with
    | [a], _ => exact ⟨a, rfl⟩
  have h0 := (hr 0 v0 _ rfl rfl).int_inv
  subst h0
  rcases hc with rfl | rfl
  . refine (c_codeName2 w).mono ?_
    rintro e w' ⟨rfl, hb⟩
    exact ⟨_, rfl, .str _ _ rfl, hb⟩
  . refine (c_codeName3 w).mono ?_
    rintro e w' ⟨rfl, hb⟩
    exact ⟨_, rfl, .str _ _ rfl, hb⟩
theorem join_snoc (l : List (List UInt8)) (x sep : List UInt8) : Go.Lib.join (l ++ [x]) sep = if l = [] then x else Go.Lib.join l sep ++ sep ++ x := by
  cases l with
  | nil => rw [if_pos rfl, List.nil_append, join_one]
  | cons a r =>
    rw [if_neg (by simp), List.cons_append, join_cons, join_cons]
    simp [joinTail]
def sepT (set : List Int) : List UInt8 := Go.Lib.join (set.map itoa) [32]
theorem sepT_snoc (l : List Int) (x : Int) : sepT (l ++ [x]) = if l = [] then itoa x else sepT l ++ [32] ++ itoa x := by
  unfold sepT
  rw [List.map_append, List.map_singleton, join_snoc]
  by_cases h : l = []
  . rw [if_pos h, if_pos (by rw [h]; rfl)]
  . rw [if_neg h, if_neg (by simpa using h)]
end Go.Proofs.YtffmlijngfhhaaaGreatDoor
namespace Go.Proofs.YtffmlijngfhhaaaGreatDoor
open Go
attribute [local irreducible] awp awpL awpQL awpQ awpM pWalk Qt AC thenQ blockQ loopQ OpTo
set_option linter.unusedVariables false
set_option linter.unusedSimpArgs false
set_option maxHeartbeats 2000000
attribute [local irreducible] HC
open Go.Lib (itoa)
theorem sepT_len : ∀ (l : List Int), (∀ q ∈ l, 0 <= q /\ q <= 999) -> (sepT l).length <= 4 * l.length := by
  refine fun l => ?_
  rw [<- List.reverse_reverse l]
  generalize l.reverse = r
  induction r with
  | nil => intro _; simp [sepT, Go.Lib.join]
  | cons x r ih =>
    intro h
    rw [List.reverse_cons] at h ⊢
    have h1 := ih fun q hq => h q (by simp only [List.mem_append]; exact .inl hq)
    have h2 := itoa_len (h x (by simp))
    rw [sepT_snoc, List.length_append, List.length_singleton]
    split
    . omega
    . rw [List.length_append, List.length_append, List.length_singleton]; omega
theorem spec_CodeName {c : Int} (hc : c = 2 \/ c = 3) : AC Tryz.prog 90 [.int .i64 c] (.str (cnm c)) := by
  have e1 := spec_l00In (n := c) (lo := 0) (hi := 8)
  have hb : inB c 0 8 = true := by simp [inB]; omega
  rw [hb] at e1
  have hx : ([[111, 107], [105, 110, 118, 97, 108, 105, 100], [114, 97, 110, 103, 101], [108, 105, 109, 105, 116], [115, 116, 97, 116, 101], [115, 121, 110, 116, 97, 120], [110, 111, 116, 102, 111, 117, 110, 100], [98, 117, 100, 103, 101, 116], [112, 114, 111, 111, 102]].map D.str)[c.toNat]? = some (.str (cnm c)) := by
    rcases hc with rfl | rfl <;> rfl
  have hc9 : 0 <= c /\ c < 9 := by omega
  generalize cnm c = r at *
  refine ac_intro tabIs _ Tryz.func90 rfl rfl Tryz.ntmps90 rfl rfl fun w0 ok0 he0 => ?_
  repeat (first | refine zc ?_ | refine zk (e := by exact e1) (n := ?_) | refine zv ?_)
  refine zt ?_
  rfl
theorem el_intA {l : List Int} {k : Nat} (h : k < l.length) : (l.map (D.int .i64))[((k : Nat) : Int).toNat]? = some (.int .i64 l[k]) := by simp [h]
theorem spec_l08States {set : List Int} (hs : set.length <= 10) (hq : ∀ q ∈ set, 0 <= q /\ q <= 999) : AC Tryz.prog 91 [ints set] (.str (sepT set)) := by
  have hml : (set.map (D.int .i64)).length = set.length := by simp
  refine ac_intro tabIs _ Tryz.func91 rfl rfl Tryz.ntmps91 rfl rfl fun w0 ok0 he0 => ?_
  repeat (first | refine zc ?_ | refine zv ?_)
  refine awp_loop (fun i : Nat => i <= set.length) (fun i => [(0, .d (ints set)), (3, .d (.str (sepT (set.take i)))), (4, .d (.int .i64 i))]) (fun _ => []) (fun i => set.length - i) 0 (by omega) ?_ rfl ?_
  . exact zs
  . intro i hi
    by_cases hlt : i < set.length
    . have hx := el_intA hlt
      have hqi := hq set[i] (List.getElem_mem hlt)
      have e1 := spec_Decimal hqi
      have hil := itoa_len hqi
      have hsl := sepT_len (set.take i) fun q h => hq q (List.mem_of_mem_take h)
      rw [List.length_take] at hsl
      have hsn := sepT_snoc (set.take i) set[i]
      rw [<- List.take_succ_eq_append_getElem hlt] at hsn
      by_cases h0 : i = 0
      . subst h0
        rw [if_pos (by simp)] at hsn
        generalize itoa set[0] = tx at *
        generalize set[0] = x at *
        repeat (first | refine zc ?_ | refine zk (e := by exact e1) (n := ?_) | refine zv ?_ | refine zg ?_)
        refine loop_n 1 (by omega) ?_ rfl (by omega)
        rw [hsn]
        exact zs
      . rw [if_neg (by intro h; have := congrArg List.length h; rw [List.length_take, List.length_nil] at this; omega)] at hsn
        generalize sepT (set.take i) = tt at *
        generalize itoa set[i] = tx at *
        generalize set[i] = x at *
        repeat (first | refine zc ?_ | refine zk (e := by exact e1) (n := ?_) | refine zv ?_ | refine zg ?_)
        refine loop_n (i + 1) (by omega) ?_ rfl (by omega)
        rw [hsn]
        exact zs
    . have : i = set.length := by omega
      subst this
      rw [List.take_length]
      repeat (first | refine zc ?_ | refine zv ?_)
      refine zt ?_
      rfl
theorem impl_spaced {set : List Int} (hs : set.length <= 10) (hq : ∀ q ∈ set, 0 <= q /\ q <= 999) : AC Tryz.prog 147 [ints set] (.str (sepT set)) := by
  have hml : (set.map (D.int .i64)).length = set.length := by simp
  have hsl := sepT_len set hq
  have e2 := strings_Join (ls := set.map itoa) (sep := [32]) (by simp; omega) (by show (sepT set).length <= _; omega)
  rw [show Go.Lib.join (set.map itoa) [32] = sepT set from rfl] at e2
  generalize sepT set = tx at *
  refine ac_intro tabIs _ Tryz.func147 rfl rfl Tryz.ntmps147 rfl rfl fun w0 ok0 he0 => ?_
  repeat (first | refine v_w (t := 6) ?_ | refine zc ?_ | refine u_w (t := 6) ?_ | refine zv ?_)
  refine awp_loop (fun i : Nat => i <= set.length) (fun i => [(3, .own 6), (7, .d (ints set)), (8, .d (.int .i64 (set.map (D.int .i64)).length)), (9, .d (.int .i64 i))]) (fun i => [(6, .arr 9 1 (((set.take i).map itoa).map .str))]) (fun i => set.length - i) 0 (by omega) ?_ rfl ?_
  . exact zs
  . intro i hi
    by_cases hlt : i < set.length
    . have hx := el_intA hlt
      have hqi := hq set[i] (List.getElem_mem hlt)
      have e1 := impl_decimal (n := set[i]) (by omega)
      have htk : (set.take (i + 1)).map itoa = (set.take i).map itoa ++ [itoa set[i]] := by rw [List.take_succ_eq_append_getElem hlt, List.map_append]; rfl
      generalize itoa set[i] = t1 at *
      generalize set[i] = x at *
      repeat (first | refine zc ?_ | refine zk (e := by exact e1) (n := ?_) | refine zv ?_)
      refine loop_n (i + 1) (by omega) ?_ ?_ (by omega)
      . exact zs
      . rw [htk, List.map_append]; rfl
    . have : i = set.length := by omega
      subst this
      rw [List.take_length]
      repeat (first | refine zc ?_ | refine zk (e := by exact e2) (n := ?_) | refine zv ?_)
      refine zt ?_
      rfl
def ansF (s : Int) (nx : List (List Int)) (lp : List Int) (n : Ln) (l : List UInt8) : Ln × List UInt8 :=
  match rd l with
  | some (k, a) => ((doF s nx lp n k a).1, if (doF s nx lp n k a).2 = 0 then [111, 107] else [101, 114, 114, 111, 114, 32] ++ cnm (doF s nx lp n k a).2)
  | none => (n, if l = [116, 111, 108, 100] then sepT (toldD nx n.d) else if l = [111, 114, 100, 101, 114, 115] then wtx n.d.ord else if l = [119, 105, 114, 101] then itoa n.wire.length else [119, 104, 97, 116])
theorem doF_code {s : Int} {nx : List (List Int)} {lp : List Int} {n : Ln} {k a : Int} : (doF s nx lp n k a).2 = 0 \/ (doF s nx lp n k a).2 = 2 \/ (doF s nx lp n k a).2 = 3 := by
  unfold doF sendF
  repeat' split
  all_goals simp
theorem cnm_len (c : Int) : (cnm c).length = 5 := by
  unfold cnm
  split <;> rfl
theorem toldD_facts {s : Int} {nx : List (List Int)} {lp : List Int} {d : Dsk} (hv : litOk s nx lp = true) (h : DskOk s nx d) : (toldD nx d).length <= 10 /\ ∀ q ∈ toldD nx d, 0 <= q /\ q <= 999 := by
  have v := lv_of hv
  unfold toldD
  rw [tN_toldF]
  have k := tN_ok v.nx (d.ord.drop d.sure.toNat) _ _ (fun l hl => h.ord l (List.mem_of_mem_drop hl)) h.bel h.ris h.bel h.ris
  have hs := v.s1
  exact ⟨ris_le10 v.s1.2 k.2.2.1 k.2.2.2, fun q hq => by have := k.2.2.1 q hq; omega⟩
theorem ansF_len {s : Int} {nx : List (List Int)} {lp : List Int} {n : Ln} {k : Nat} {l : List UInt8} (hv : litOk s nx lp = true) (h : LnOk s nx k n) : (ansF s nx lp n l).2.length <= 1000 := by
  unfold ansF
  split
  . dsimp only
    split
    . simp
    . rw [List.length_append, cnm_len]; simp
  . dsimp only
    split
    . obtain ⟨h1, h2⟩ := toldD_facts hv h.d
      have := sepT_len _ h2
      omega
    split
    . have := wtx_len n.d.ord
      omega
    split
    . have := h.wl
      have := itoa_len (n := (n.wire.length : Int)) (by omega)
      omega
    . simp
theorem ansF_ok {s : Int} {nx : List (List Int)} {lp : List Int} {n : Ln} {k : Nat} {l : List UInt8} (hv : litOk s nx lp = true) (h : LnOk s nx k n) : LnOk s nx (k + 1) (ansF s nx lp n l).1 := by
  unfold ansF
  split
  . rename_i c a hr
    have hd := vdeed_k (rd_iff.1 hr).1
    have h1 := hd.1
    simp only [inB, Bool.and_eq_true, decide_eq_true_eq] at h1
    exact doF_ok hv h ⟨h1.1, h1.2, hd.2.1, hd.2.2.1⟩
  . exact h.mono
end Go.Proofs.YtffmlijngfhhaaaGreatDoor
namespace Go.Proofs.YtffmlijngfhhaaaGreatDoor
open Go
attribute [local irreducible] awp awpL awpQL awpQ awpM pWalk Qt AC thenQ blockQ loopQ OpTo
set_option linter.unusedVariables false
set_option linter.unusedSimpArgs false
set_option maxHeartbeats 2000000
attribute [local irreducible] HC
open Go.Lib (itoa)
theorem impl_answerH {s : Int} {nx : List (List Int)} {lp : List Int} {n : Ln} {j : Nat} {l : List UInt8} (hv : litOk s nx lp = true) (h : LnOk s nx j n) (hj : j <= 1000) (hl : l.length <= 1048576) :
    HC Tryz.prog 99 [.ref 10000 0, .d (.str l)] [(10000, wkB (.own 20000) n s nx lp), (20000, wrC n.wire)] (.d (.str (ansF s nx lp n l).2)) [(10000, wkB (.own 20000) (ansF s nx lp n l).1 s nx lp), (20000, wrC (ansF s nx lp n l).1.wire)] := by
  have v := lv_of hv
  have e1 := impl_ReadDeed hl
  unfold rdV at e1
  unfold ansF
  cases hr : rd l with
  | some p =>
    obtain ⟨k, a⟩ := p
    rw [hr] at e1
    have hd := vdeed_k (rd_iff.1 hr).1
    have h1 := hd.1
    simp only [inB, Bool.and_eq_true, decide_eq_true_eq] at h1
    have c2 := impl_doH (c := k) (a := a) hv h hj ⟨h1.1, h1.2, hd.2.1, hd.2.2.1⟩
    have hcode := doF_code (s := s) (nx := nx) (lp := lp) (n := n) (k := k) (a := a)
    dsimp only at e1 ⊢
    generalize doF s nx lp n k a = r at *
    unfold deedD at c2
    unfold wkB wrC at *
    by_cases h0 : r.2 = 0
    . rw [if_pos h0]
      refine hc_intro tabIs _ Tryz.func99 rfl rfl Tryz.ntmps99 rfl rfl rfl ?_ fun w0 ok0 XM XA anc he0 hX0 => ?_
      . exact likeIn_cons rfl rfl fun p hp ha => by simp at hp; subst hp; cases ha
      repeat (first | refine zc ?_ | refine zk (e := by exact e1) (n := ?_) | refine zv ?_)
      refine hcl [(10000, 10000), (20000, 20000)] [(10000, 10000), (20000, 20000)] c2 ?_
      repeat (first | refine zc ?_ | refine zv ?_)
      (refine zb ?_; refine u_rH [(10000, 10000), (20000, 20000)] ?_ ?_)
      . rfl
      . rfl
    . rw [if_neg h0]
      have e2 := impl_CodeName (c := r.2) (by omega)
      have hcl5 := cnm_len r.2
      generalize cnm r.2 = cn at *
      refine hc_intro tabIs _ Tryz.func99 rfl rfl Tryz.ntmps99 rfl rfl rfl ?_ fun w0 ok0 XM XA anc he0 hX0 => ?_
      . exact likeIn_cons rfl rfl fun p hp ha => by simp at hp; subst hp; cases ha
      repeat (first | refine zc ?_ | refine zk (e := by exact e1) (n := ?_) | refine zv ?_)
      refine hcl [(10000, 10000), (20000, 20000)] [(10000, 10000), (20000, 20000)] c2 ?_
      repeat (first | refine zc ?_ | refine zk (e := by exact e2) (n := ?_) | refine zv ?_)
      (refine zb ?_; refine u_rH [(10000, 10000), (20000, 20000)] ?_ ?_)
      . rfl
      . rfl
  | none =>
    rw [hr] at e1
    dsimp only at e1 ⊢
    have hmm : (n.wire.map pkD).length = n.wire.length := by simp
    by_cases h1 : l = [116, 111, 108, 100]
    . subst h1
      rw [if_pos rfl]
      obtain ⟨t1, t2⟩ := toldD_facts hv h.d
      have c3 := impl_toldR (n := n) (lp := lp) v h.d
      have e3 := impl_spaced t1 t2
      unfold wkB wrC at *
      generalize toldD nx n.d = td at *
      refine hc_intro tabIs _ Tryz.func99 rfl rfl Tryz.ntmps99 rfl rfl rfl ?_ fun w0 ok0 XM XA anc he0 hX0 => ?_
      . exact likeIn_cons rfl rfl fun p hp ha => by simp at hp; subst hp; cases ha
      repeat (first | refine zc ?_ | refine zk (e := by exact e1) (n := ?_) | refine zv ?_)
      refine hcl [(10000, 10000), (20000, 20000)] [(10000, 10000), (20000, 20000), (30000, 500)] c3 ?_
      repeat (first | refine zc ?_ | refine zk (e := by exact e3) (n := ?_) | refine zv ?_)
      (refine zb ?_; refine u_rH [(10000, 10000), (20000, 20000)] ?_ ?_)
      . rfl
      . rfl
    rw [if_neg h1]
    have d1 : decide (l = [116, 111, 108, 100]) = false := decide_eq_false h1
    by_cases h2 : l = [111, 114, 100, 101, 114, 115]
    . subst h2
      rw [if_pos rfl]
      have e3 := impl_WordText (w := n.d.ord) (by have := h.d.len; omega)
      unfold wkB wrC
      refine hc_intro tabIs _ Tryz.func99 rfl rfl Tryz.ntmps99 rfl rfl rfl ?_ fun w0 ok0 XM XA anc he0 hX0 => ?_
      . exact likeIn_cons rfl rfl fun p hp ha => by simp at hp; subst hp; cases ha
      repeat (first | refine zc ?_ | refine zk (e := by exact e1) (n := ?_) | refine zk (e := by exact e3) (n := ?_) | refine zv ?_)
      (refine zb ?_; refine u_rH [(10000, 10000), (20000, 20000)] ?_ ?_)
      . rfl
      . rfl
    rw [if_neg h2]
    have d2 : decide (l = [111, 114, 100, 101, 114, 115]) = false := decide_eq_false h2
    by_cases h3 : l = [119, 105, 114, 101]
    . subst h3
      rw [if_pos rfl]
      have e3 := impl_sizeP (xs := n.wire.map pkD)
      have e4 := impl_decimal (n := (n.wire.length : Int)) (by have := h.wl; omega)
      rw [hmm] at e3
      unfold wkB wrC
      refine hc_intro tabIs _ Tryz.func99 rfl rfl Tryz.ntmps99 rfl rfl rfl ?_ fun w0 ok0 XM XA anc he0 hX0 => ?_
      . exact likeIn_cons rfl rfl fun p hp ha => by simp at hp; subst hp; cases ha
      repeat (first | refine zc ?_ | refine zk (e := by exact e1) (n := ?_) | refine zk (e := by exact e3) (n := ?_) | refine zk (e := by exact e4) (n := ?_) | refine zv ?_)
      (refine zb ?_; refine u_rH [(10000, 10000), (20000, 20000)] ?_ ?_)
      . rfl
      . rfl
    rw [if_neg h3]
    have d3 : decide (l = [119, 105, 114, 101]) = false := decide_eq_false h3
    unfold wkB wrC
    refine hc_intro tabIs _ Tryz.func99 rfl rfl Tryz.ntmps99 rfl rfl rfl ?_ fun w0 ok0 XM XA anc he0 hX0 => ?_
    . exact likeIn_cons rfl rfl fun p hp ha => by simp at hp; subst hp; cases ha
    repeat (first | refine zc ?_ | refine zk (e := by exact e1) (n := ?_) | refine zv ?_ | refine zg ?_)
    (refine zb ?_; refine u_rH [(10000, 10000), (20000, 20000)] ?_ ?_)
    . rfl
    . rfl
end Go.Proofs.YtffmlijngfhhaaaGreatDoor
