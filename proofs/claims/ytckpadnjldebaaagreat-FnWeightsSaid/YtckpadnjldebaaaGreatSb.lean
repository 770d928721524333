/- Contracts of sets of states as bits. No condition. -/
import Derived.Test.YtckpadnjldebaaaGreatSa
import Derived.Test.YtckpadnjldebaaaGreatMa
import Derived.Test.YtckpadnjldebaaaGreatFwP
namespace Go.Proofs.YtckpadnjldebaaaGreat
open Go
attribute [local irreducible] awp awpL awpQL awpQ awpM pWalk Qt AC thenQ blockQ loopQ OpTo
set_option linter.unusedVariables false
set_option linter.unusedSimpArgs false
set_option maxHeartbeats 2000000
attribute [local irreducible] HC
def setTo (f s : Nat) : List Int := ((List.range s).filter fun i => f.testBit i).map fun i : Nat => (i : Int)
def setN (f : Nat) : List Int := setTo f 64
def bitsL (acc : Nat) (l : List Int) : Nat := l.foldl (fun f x => f ||| 2 ^ x.toNat) acc
theorem setTo_succ (f s : Nat) : setTo f (s + 1) = setTo f s ++ (if f.testBit s then [(s : Int)] else []) := by
  unfold setTo
  rw [List.range_succ, List.filter_append, List.map_append]
  congr 1
  cases h : f.testBit s <;> simp [h]
theorem mem_setTo {f s : Nat} {x : Int} : x ∈ setTo f s ↔ ∃ i : Nat, i < s /\ f.testBit i = true /\ x = i := by
  unfold setTo
  simp only [List.mem_map, List.mem_filter, List.mem_range]
  constructor
  . rintro ⟨i, ⟨h1, h2⟩, rfl⟩; exact ⟨i, h1, h2, rfl⟩
  . rintro ⟨i, h1, h2, rfl⟩; exact ⟨i, ⟨h1, h2⟩, rfl⟩
theorem setTo_length (f s : Nat) : (setTo f s).length <= s := by
  unfold setTo
  rw [List.length_map]
  exact Nat.le_trans (List.length_filter_le _ _) (by simp)
theorem shr_zero {f s : Nat} (h : f >>> s = 0) {i : Nat} (hi : s <= i) : f.testBit i = false := by
  have h1 : f < 2 ^ s := by
    rw [Nat.shiftRight_eq_div_pow] at h
    rcases Nat.lt_or_ge f (2 ^ s) with h' | h'
    . exact h'
    . have := Nat.div_pos h' (Nat.two_pow_pos s)
      omega
  exact Nat.testBit_lt_two_pow (Nat.lt_of_lt_of_le h1 (Nat.pow_le_pow_right (by omega) hi))
theorem setTo_end {f : Nat} : ∀ (d s : Nat), f >>> s = 0 -> setTo f (s + d) = setTo f s
  | 0, s, _ => rfl
  | d + 1, s, h => by
    rw [<- Nat.add_assoc, setTo_succ, setTo_end d s h, shr_zero h (by omega)]
    simp
theorem setTo_pairwise (f s : Nat) : (setTo f s).Pairwise (· < ·) := by
  unfold setTo
  refine List.Pairwise.map _ (fun a b h => ?_) (List.Pairwise.filter _ (List.pairwise_lt_range))
  exact_mod_cast h
theorem testBit_bitsL {i : Nat} : ∀ (l : List Int) (acc : Nat), (bitsL acc l).testBit i = (acc.testBit i || l.any fun x => decide (x.toNat = i))
  | [], acc => by simp [bitsL]
  | x :: l, acc => by
    have := testBit_bitsL (i := i) l (acc ||| 2 ^ x.toNat)
    unfold bitsL at this ⊢
    simp only [List.foldl_cons, List.any_cons]
    rw [this, Nat.testBit_or, Nat.testBit_two_pow, Bool.or_assoc]
theorem bitsL_lt : ∀ (l : List Int) (acc : Nat), acc < 18446744073709551616 -> (∀ x ∈ l, x.toNat < 64) -> bitsL acc l < 18446744073709551616
  | [], acc, h, _ => h
  | x :: l, acc, h, hl => by
    unfold bitsL
    simp only [List.foldl_cons]
    have h2 : 2 ^ x.toNat < 2 ^ 64 := Nat.pow_lt_pow_right (by omega) (hl x (List.mem_cons_self ..))
    exact bitsL_lt l _ (Nat.or_lt_two_pow (n := 64) h h2) fun y hy => hl y (List.mem_cons_of_mem _ hy)
theorem bitsL_take {l : List Int} {k : Nat} (hk : k < l.length) : bitsL 0 (l.take (k + 1)) = bitsL 0 (l.take k) ||| 2 ^ l[k].toNat := by
  unfold bitsL
  rw [List.take_succ_eq_append_getElem hk, List.foldl_append]
  rfl
theorem ris_ext : ∀ {a b : List Int}, a.Pairwise (· < ·) -> b.Pairwise (· < ·) -> (∀ x, x ∈ a ↔ x ∈ b) -> a = b
  | [], [], _, _, _ => rfl
  | [], y :: b, _, _, h => by have := (h y).2 (List.mem_cons_self ..); cases this
  | x :: a, [], _, _, h => by have := (h x).1 (List.mem_cons_self ..); cases this
  | x :: a, y :: b, ha, hb, h => by
    have ha' := List.pairwise_cons.1 ha
    have hb' := List.pairwise_cons.1 hb
    have hxy : x = y := by
      rcases List.mem_cons.1 ((h x).1 (List.mem_cons_self ..)) with e | e
      . exact e
      . rcases List.mem_cons.1 ((h y).2 (List.mem_cons_self ..)) with e' | e'
        . exact e'.symm
        . have h1 := hb'.1 x e
          have h2 := ha'.1 y e'
          omega
    subst hxy
    congr 1
    refine ris_ext ha'.2 hb'.2 fun z => ⟨fun hz => ?_, fun hz => ?_⟩
    . rcases List.mem_cons.1 ((h z).1 (List.mem_cons_of_mem _ hz)) with e | e
      . have := ha'.1 z hz; omega
      . exact e
    . rcases List.mem_cons.1 ((h z).2 (List.mem_cons_of_mem _ hz)) with e | e
      . have := hb'.1 z hz; omega
      . exact e
theorem mem_bits {l : List Int} (hl : ∀ x ∈ l, 0 <= x /\ x < 64) {x : Int} : x ∈ setN (bitsL 0 l) ↔ x ∈ l := by
  unfold setN
  rw [mem_setTo]
  constructor
  . rintro ⟨i, h1, h2, rfl⟩
    rw [testBit_bitsL] at h2
    simp only [Nat.zero_testBit, Bool.false_or, List.any_eq_true, decide_eq_true_eq] at h2
    obtain ⟨y, hy, e⟩ := h2
    have := hl y hy
    have : y = (i : Int) := by omega
    rwa [<- this]
  . intro hx
    have := hl x hx
    refine ⟨x.toNat, by omega, ?_, by omega⟩
    rw [testBit_bitsL]
    simp only [Nat.zero_testBit, Bool.false_or, List.any_eq_true, decide_eq_true_eq]
    exact ⟨x, hx, rfl⟩
theorem setN_bits {l : List Int} (hl : ∀ x ∈ l, 0 <= x /\ x < 64) (hr : l.Pairwise (· < ·)) : setN (bitsL 0 l) = l :=
  ris_ext (setTo_pairwise _ _) hr fun _ => mem_bits hl
theorem impl_setH {f : Nat} (hf : f < 18446744073709551616) : HC Tryz.prog 234 [.d (.int .u64 f)] [] (.own 30000) [(30000, .arr 2 1 ((setN f).map (.int .i64)))] := by
  refine hc_intro tabIs _ Tryz.func234 rfl rfl Tryz.ntmps234 rfl rfl rfl ?_ fun w0 ok0 XM XA anc he0 hX0 => ?_
  . exact likeIn_nil
  repeat (first | refine v_w (t := 5) ?_ | refine zc ?_ | refine u_w (t := 5) ?_ | refine zv ?_)
  refine awp_loop (fun s : Nat => s <= 64) (fun s => [(0, .d (.int .u64 f)), (3, .own 5), (4, .d (.int .i64 s))]) (fun s => [(5, .arr 2 1 ((setTo f s).map (.int .i64)))]) (fun s => 64 - s) 0 (by omega) ?_ rfl ?_
  . exact zs
  . intro s hs
    have hlen := setTo_length f s
    have hq : 0 <= bshr f s /\ bshr f s < 18446744073709551616 := by
      unfold bshr
      simp only [Int.toNat_natCast]
      have : f >>> s <= f := Nat.shiftRight_le f s
      generalize f >>> s = g at *
      omega
    by_cases h0 : f >>> s = 0
    . have hc : decide (0 < bshr (f : Int) (s : Int)) = false := by simp [bshr, h0]
      have he := setTo_end (f := f) (64 - s) s h0
      rw [show s + (64 - s) = 64 by omega] at he
      repeat (first | refine zc ?_ | ((first | apply x_l | apply x_q | apply x_lr | apply x_qr); (focus (first | (apply qb_shr; (iterate 4 (focus (first | exact rfl | (first | assumption | omega | (simp; omega) | (simp; done) | rfl))))))); exact rfl) | (apply v_x; (iterate 2 exact rfl); (focus (intro ok0 nw hle; (first | (apply qb_shr; (iterate 4 (focus (first | exact rfl | (first | assumption | omega | (simp; omega) | (simp; done) | rfl)))))))); (iterate 2 exact rfl)) | refine zv ?_)
      (refine zb ?_; refine u_rH [(5, 30000)] ?_ ?_)
      . rfl
      . unfold setN; rw [he]; rfl
    . have hs64 : s < 64 := by
        rcases Nat.lt_or_ge s 64 with h | h
        . exact h
        . exfalso
          apply h0
          rw [Nat.shiftRight_eq_div_pow, Nat.div_eq_of_lt]
          exact Nat.lt_of_lt_of_le (by omega : f < 2 ^ 64) (Nat.pow_le_pow_right (by omega) h)
      have hc : decide (0 < bshr (f : Int) (s : Int)) = true := by
        unfold bshr
        simp only [Int.toNat_natCast, decide_eq_true_eq]
        generalize f >>> s = g at *
        omega
      have hb : band (bshr f s) 1 = if f.testBit s then 1 else 0 := by
        unfold band bshr
        simp only [Int.toNat_natCast]
        have : (f >>> s) &&& 1 = if f.testBit s then 1 else 0 := by
          rw [Nat.testBit_eq_decide_div_mod_eq, Nat.and_one_is_mod, Nat.shiftRight_eq_div_pow]
          by_cases h : f / 2 ^ s % 2 = 1
          . simp [h]
          . simp [h]; omega
        show (((f >>> s) &&& 1 : Nat) : Int) = _
        rw [this]
        split <;> rfl
      have hsucc := setTo_succ f s
      cases ht : f.testBit s
      . rw [ht] at hb hsucc
        have hd : decide (band (bshr (f : Int) (s : Int)) 1 = 1) = false := by simp [hb]
        repeat (first | refine zc ?_ | ((first | apply x_l | apply x_q | apply x_lr | apply x_qr); (focus (first | (apply qb_shr; (iterate 4 (focus (first | exact rfl | (first | assumption | omega | (simp; omega) | (simp; done) | rfl))))) | (apply qb_and; (iterate 4 (focus (first | exact rfl | (first | assumption | omega | (simp; omega) | (simp; done) | rfl))))))); exact rfl) | (apply v_x; (iterate 2 exact rfl); (focus (intro ok0 nw hle; (first | (apply qb_shr; (iterate 4 (focus (first | exact rfl | (first | assumption | omega | (simp; omega) | (simp; done) | rfl))))) | (apply qb_and; (iterate 4 (focus (first | exact rfl | (first | assumption | omega | (simp; omega) | (simp; done) | rfl)))))))); (iterate 2 exact rfl)) | refine zv ?_)
        refine loop_n (s + 1) (by omega) ?_ ?_ (by omega)
        . exact zs
        . rw [hsucc]; simp
      . rw [ht] at hb hsucc
        have hd : decide (band (bshr (f : Int) (s : Int)) 1 = 1) = true := by simp [hb]
        repeat (first | refine zc ?_ | ((first | apply x_l | apply x_q | apply x_lr | apply x_qr); (focus (first | (apply qb_shr; (iterate 4 (focus (first | exact rfl | (first | assumption | omega | (simp; omega) | (simp; done) | rfl))))) | (apply qb_and; (iterate 4 (focus (first | exact rfl | (first | assumption | omega | (simp; omega) | (simp; done) | rfl))))))); exact rfl) | (apply v_x; (iterate 2 exact rfl); (focus (intro ok0 nw hle; (first | (apply qb_shr; (iterate 4 (focus (first | exact rfl | (first | assumption | omega | (simp; omega) | (simp; done) | rfl))))) | (apply qb_and; (iterate 4 (focus (first | exact rfl | (first | assumption | omega | (simp; omega) | (simp; done) | rfl)))))))); (iterate 2 exact rfl)) | refine zv ?_)
        refine loop_n (s + 1) (by omega) ?_ ?_ (by omega)
        . exact zs
        . rw [hsucc]; simp [killH, keepH, memB]
theorem impl_set {f : Nat} (hf : f < 18446744073709551616) : AC Tryz.prog 234 [.int .u64 f] (ints (setN f)) := ac_of_hc (impl_setH hf) rfl
theorem two_lt {x : Int} (h : 0 <= x /\ x < 64) : 0 <= two x /\ two x < 18446744073709551616 := by
  unfold two
  have : 2 ^ x.toNat < 2 ^ 64 := Nat.pow_lt_pow_right (by omega) (by omega)
  generalize 2 ^ x.toNat = n at *
  omega
theorem two_eq {x : Int} : two x = ((2 ^ x.toNat : Nat) : Int) := rfl
theorem bor_eq {a b : Nat} : bor (a : Int) (b : Int) = ((a ||| b : Nat) : Int) := by simp [bor]
theorem impl_flockOf {l : List Int} (hl : ∀ x ∈ l, 0 <= x /\ x < 64) (hn : l.length <= 9223372036854775807) : AC Tryz.prog 75 [ints l] (.int .u64 (bitsL 0 l)) := by
  have hle : (List.map (D.int IntKind.i64) l).length = l.length := by simp
  refine ac_intro tabIs _ Tryz.func75 rfl rfl Tryz.ntmps75 rfl rfl fun w0 ok0 he0 => ?_
  repeat (first | refine zc ?_ | refine zv ?_)
  refine awp_loop (fun k : Nat => k <= l.length) (fun k => [(3, .d (.int .u64 (bitsL 0 (l.take k)))), (6, .d (ints l)), (7, .d (.int .i64 l.length)), (8, .d (.int .i64 k))]) (fun _ => []) (fun k => l.length - k) 0 (by omega) ?_ rfl ?_
  . refine ⟨?_, rfl, ?_, rfl, trivial⟩ <;> simp [lk, args0, bitsL]
  . intro k hk
    have hlt0 := bitsL_lt (l.take k) 0 (by omega) fun x hx => by have := hl x (List.mem_of_mem_take hx); omega
    by_cases hlt : k < l.length
    . have hx := el_int hlt
      have hb := hl _ (List.getElem_mem hlt)
      have h2 := two_lt hb
      repeat (first | refine zc ?_ | ((first | apply x_l | apply x_q | apply x_lr | apply x_qr); (focus (first | (apply qb_one; (iterate 2 (focus (first | exact rfl | (first | assumption | omega | (simp; omega) | (simp; done) | rfl))))) | (apply qb_or; (iterate 4 (focus (first | exact rfl | (first | assumption | omega | (simp; omega) | (simp; done) | rfl))))))); exact rfl) | (apply v_x; (iterate 2 exact rfl); (focus (intro ok0 nw hle; (first | (apply qb_one; (iterate 2 (focus (first | exact rfl | (first | assumption | omega | (simp; omega) | (simp; done) | rfl))))) | (apply qb_or; (iterate 4 (focus (first | exact rfl | (first | assumption | omega | (simp; omega) | (simp; done) | rfl)))))))); (iterate 2 exact rfl)) | refine zv ?_)
      refine loop_n (k + 1) (by omega) ?_ rfl (by omega)
      refine ⟨?_, rfl, rfl, ?_, trivial⟩
      . simp only [lk, bitsL_take hlt, two_eq, bor_eq, Nat.reduceEqDiff, if_false, if_true]
      . simp [lk]
    . have : k = l.length := by omega
      subst this
      repeat (first | refine zc ?_ | refine zv ?_)
      refine zt ?_
      simp
end Go.Proofs.YtckpadnjldebaaaGreat
namespace Go.Proofs.YtckpadnjldebaaaGreat
open Go
attribute [local irreducible] awp awpL awpQL awpQ awpM pWalk Qt AC thenQ blockQ loopQ OpTo
set_option linter.unusedVariables false
set_option linter.unusedSimpArgs false
set_option maxHeartbeats 2000000
attribute [local irreducible] HC
structure LV (s : Int) (nx : List (List Int)) (lp : List Int) : Prop where
  s1 : 1 <= s /\ s <= 10
  n1 : 1 <= nx.length /\ nx.length <= 3
  nx : Tbl s s nx
  lp : (lp.length : Int) = s
def lamp (lp : List Int) (q : Int) : Int := lp.getD q.toNat 0
theorem impl_step {s x : Int} {nx : List (List Int)} {lp : List Int} {f : Nat} (v : LV s nx lp) (hf : f < 18446744073709551616) (hs : ∀ q ∈ setN f, 0 <= q /\ q < s) (hx : 0 <= x /\ x < nx.length) :
    AC Tryz.prog 227 [.agg [.int .i64 s, rows nx], .int .u64 f, .int .i64 x] (.int .u64 (bitsL 0 ((setN f).map fun q => at2 nx x q))) := by
  have hset := impl_set hf
  have hL := setTo_length f 64
  have hL2 : (setN f).length <= 64 := hL
  generalize setN f = L at *
  have hle : (List.map (D.int IntKind.i64) L).length = L.length := by simp
  have r1 := el_row2 hx
  have hrow := tbl_row v.nx hx
  have hs1 := v.s1
  have hM : ∀ y ∈ L.map (fun q => at2 nx x q), 0 <= y /\ y < 64 := fun y hy => by
    obtain ⟨q, hq, rfl⟩ := List.mem_map.1 hy
    have := tbl_at v.nx hx (hs q hq)
    omega
  refine ac_intro tabIs _ Tryz.func227 rfl rfl Tryz.ntmps227 rfl rfl fun w0 ok0 he0 => ?_
  repeat (first | refine zc ?_ | refine zk (e := by exact hset) (n := ?_) | refine zv ?_)
  refine awp_loop (fun k : Nat => k <= L.length) (fun k => [(2, .d (.int .i64 x)), (3, .d (.ptr (.agg [.int .i64 s, rows nx]))), (7, .d (.int .u64 (bitsL 0 ((L.map fun q => at2 nx x q).take k)))), (11, .d (ints L)), (12, .d (.int .i64 L.length)), (13, .d (.int .i64 k))]) (fun _ => []) (fun k => L.length - k) 0 (by omega) ?_ rfl ?_
  . refine ⟨rfl, rfl, ?_, rfl, ?_, rfl, trivial⟩ <;> simp [lk, args0, bitsL]
  . intro k hk
    have hlt0 := bitsL_lt ((L.map fun q => at2 nx x q).take k) 0 (by omega) fun y hy => by have := hM y (List.mem_of_mem_take hy); omega
    by_cases hlt : k < L.length
    . have he := el_int hlt
      have hq := hs _ (List.getElem_mem hlt)
      have q1 : (List.map (D.int .i64) (row nx x))[L[k].toNat]? = some (.int .i64 (at2 nx x L[k])) := el_int2 (ns := row nx x) (q := L[k]) (by omega)
      have hb := tbl_at v.nx hx hq
      have hb2 : 0 <= at2 nx x L[k] /\ at2 nx x L[k] < 64 := by omega
      have h2 := two_lt hb2
      have hstep := bitsL_take (l := L.map fun q => at2 nx x q) (k := k) (by simpa using hlt)
      rw [List.getElem_map] at hstep
      repeat (first | refine zc ?_ | ((first | apply x_l | apply x_q | apply x_lr | apply x_qr); (focus (first | (apply qb_one; (iterate 2 (focus (first | exact rfl | (first | assumption | omega | (simp; omega) | (simp; done) | rfl))))) | (apply qb_or; (iterate 4 (focus (first | exact rfl | (first | assumption | omega | (simp; omega) | (simp; done) | rfl))))))); exact rfl) | (apply v_x; (iterate 2 exact rfl); (focus (intro ok0 nw hle; (first | (apply qb_one; (iterate 2 (focus (first | exact rfl | (first | assumption | omega | (simp; omega) | (simp; done) | rfl))))) | (apply qb_or; (iterate 4 (focus (first | exact rfl | (first | assumption | omega | (simp; omega) | (simp; done) | rfl)))))))); (iterate 2 exact rfl)) | refine zv ?_)
      refine loop_n (k + 1) (by omega) ?_ rfl (by omega)
      refine ⟨rfl, rfl, ?_, rfl, rfl, ?_, trivial⟩
      . simp only [lk, hstep, two_eq, bor_eq, Nat.reduceEqDiff, if_false, if_true]
      . simp [lk]
    . have : k = L.length := by omega
      subst this
      repeat (first | refine zc ?_ | refine zv ?_)
      refine zt ?_
      rw [List.take_of_length_le (by simp)]
def belB (nx : List (List Int)) (lp : List Int) (f : Nat) (x y : Int) : Nat := bitsL 0 ((setN (bitsL 0 ((setN f).map fun q => at2 nx x q))).filter fun q => decide (lamp lp q = y))
theorem step_mem {s x : Int} {nx : List (List Int)} {lp : List Int} {L : List Int} (v : LV s nx lp) (hs : ∀ q ∈ L, 0 <= q /\ q < s) (hx : 0 <= x /\ x < nx.length) {q : Int} : q ∈ setN (bitsL 0 (L.map fun q => at2 nx x q)) ↔ q ∈ L.map fun q => at2 nx x q :=
  mem_bits fun y hy => by
    obtain ⟨q, hq, rfl⟩ := List.mem_map.1 hy
    have := tbl_at v.nx hx (hs q hq)
    have := v.s1
    omega
def risAt (l : List Int) (hi : Int) (k : Nat) : Bool := inB (l.getD k 0) 0 hi && (decide (k = 0) || decide (l.getD (k - 1) 0 < l.getD k 0))
def risB (l : List Int) (hi : Int) : Bool := (List.range l.length).all (risAt l hi)
theorem risB_false {l : List Int} {hi : Int} {k : Nat} (hk : k < l.length) (h : risAt l hi k = false) : risB l hi = false := by
  unfold risB
  rw [List.all_eq_false]
  exact ⟨k, by simpa using hk, by simp [h]⟩
theorem risB_true {l : List Int} {hi : Int} (h : ∀ k, k < l.length -> risAt l hi k = true) : risB l hi = true := by
  unfold risB
  rw [List.all_eq_true]
  intro k hk
  exact h k (by simpa using hk)
theorem getD_get {l : List Int} {k : Nat} (h : k < l.length) : l.getD k 0 = l[k] := by simp [List.getD_eq_getElem?_getD, h]
theorem impl_isSet {l : List Int} {b : Int} (hb : 0 <= b /\ b <= 100) (hn : l.length <= 9223372036854775807) : AC Tryz.prog 91 [ints l, .int .i64 b] (.bool (risB l (b - 1))) := by
  have hle : (List.map (D.int IntKind.i64) l).length = l.length := by simp
  refine ac_intro tabIs _ Tryz.func91 rfl rfl Tryz.ntmps91 rfl rfl fun w0 ok0 he0 => ?_
  repeat (first | refine zc ?_ | refine zv ?_)
  refine awp_loop (fun k : Nat => k <= l.length /\ ∀ j, j < k -> risAt l (b - 1) j = true) (fun k => [(0, .d (ints l)), (1, .d (.int .i64 b)), (7, .d (ints l)), (8, .d (.int .i64 l.length)), (9, .d (.int .i64 k))]) (fun _ => []) (fun k => l.length - k) 0 ⟨by omega, by simp⟩ ?_ rfl ?_
  . exact zs
  . rintro k ⟨hk, hall⟩
    by_cases hlt : k < l.length
    . have he := el_int hlt
      have e1 : l.getD k 0 = l[k] := getD_get hlt
      have hw : AC Tryz.prog 110 [.int .i64 l[k], .int .i64 0, .int .i64 (b - 1)] (.bool (inB l[k] 0 (b - 1))) := impl_within
      by_cases hin : inB l[k] 0 (b - 1) = true
      . rw [hin] at hw
        by_cases h0 : k = 0
        . subst h0
          have hc : risAt l (b - 1) 0 = true := by unfold risAt; rw [e1, hin]; rfl
          repeat (first | refine zc ?_ | refine zk (e := by exact hw) (n := ?_) | refine zv ?_)
          refine loop_n 1 ⟨by omega, fun j hj => (by omega : j = 0) ▸ hc⟩ ?_ rfl (by omega)
          exact zs
        . have e2 : l.getD (k - 1) 0 = l[k - 1] := getD_get (by omega)
          have he2 : (List.map (D.int .i64) l)[((k : Int) - 1).toNat]? = some (.int .i64 l[k - 1]) := by
            have : ((k : Int) - 1).toNat = k - 1 := by omega
            rw [this]
            simp
          by_cases hc : l[k - 1] < l[k]
          . have hc2 : risAt l (b - 1) k = true := by unfold risAt; rw [e1, e2, hin]; simp [hc]
            repeat (first | refine zc ?_ | refine zk (e := by exact hw) (n := ?_) | refine zv ?_)
            (first | apply awpL_split | apply awpQL_split); (iterate 3 (focus exact rfl))
            . intro hb1
              repeat (first | refine zc ?_ | refine zk (e := by exact hw) (n := ?_) | refine zv ?_)
              refine loop_n (k + 1) ⟨by omega, fun j hj => ?_⟩ ?_ rfl (by omega)
              . by_cases hj2 : j = k
                . rw [hj2]; exact hc2
                . exact hall j (by omega)
              . exact zs
            . intro hb1
              simp at hb1
              omega
          . have hc2 : risAt l (b - 1) k = false := by unfold risAt; rw [e1, e2, hin]; simp [hc, h0]
            repeat (first | refine zc ?_ | refine zk (e := by exact hw) (n := ?_) | refine zv ?_)
            (first | apply awpL_split | apply awpQL_split); (iterate 3 (focus exact rfl))
            . intro hb1
              repeat (first | refine zc ?_ | refine zk (e := by exact hw) (n := ?_) | refine zv ?_)
              refine zt ?_
              rw [risB_false hlt hc2]
            . intro hb1
              simp at hb1
              omega
      . have hin' : inB l[k] 0 (b - 1) = false := by simpa using hin
        rw [hin'] at hw
        have hc2 : risAt l (b - 1) k = false := by unfold risAt; rw [e1, hin']; rfl
        repeat (first | refine zc ?_ | refine zk (e := by exact hw) (n := ?_) | refine zv ?_)
        refine zt ?_
        rw [risB_false hlt hc2]
    . have : k = l.length := by omega
      subst this
      repeat (first | refine zc ?_ | refine zv ?_)
      refine zt ?_
      rw [risB_true hall]
end Go.Proofs.YtckpadnjldebaaaGreat
namespace Go.Proofs.YtckpadnjldebaaaGreat
open Go
attribute [local irreducible] awp awpL awpQL awpQ awpM pWalk Qt AC thenQ blockQ loopQ OpTo
set_option linter.unusedVariables false
set_option linter.unusedSimpArgs false
set_option maxHeartbeats 2000000
attribute [local irreducible] HC
def insL : List Int -> Int -> List Int
  | [], n => [n]
  | x :: l, n => if n <= x then (if n < x then n :: x :: l else x :: l) else x :: insL l n
theorem insL_nil (n : Int) : insL [] n = [n] := rfl
theorem insL_cons (x : Int) (l : List Int) (n : Int) : insL (x :: l) n = if n <= x then (if n < x then n :: x :: l else x :: l) else x :: insL l n := rfl
theorem mem_insL : ∀ {l : List Int} {n y : Int}, y ∈ insL l n ↔ y = n \/ y ∈ l
  | [], n, y => by simp [insL]
  | x :: l, n, y => by
    unfold insL
    have ih := @mem_insL l n y
    split
    . split
      . simp
      . have : n = x := by omega
        subst this
        simp
    . simp only [List.mem_cons, ih]
      constructor
      . rintro (h | h | h)
        . exact .inr (.inl h)
        . exact .inl h
        . exact .inr (.inr h)
      . rintro (h | h | h)
        . exact .inr (.inl h)
        . exact .inl h
        . exact .inr (.inr h)
theorem insL_ris : ∀ {l : List Int} {n : Int}, l.Pairwise (· < ·) -> (insL l n).Pairwise (· < ·)
  | [], n, _ => by simp [insL]
  | x :: l, n, h => by
    have h' := List.pairwise_cons.1 h
    unfold insL
    split
    . split
      . refine List.pairwise_cons.2 ⟨fun y hy => ?_, h⟩
        rcases List.mem_cons.1 hy with e | e
        . omega
        . have := h'.1 y e; omega
      . exact h
    . refine List.pairwise_cons.2 ⟨fun y hy => ?_, insL_ris h'.2⟩
      rcases mem_insL.1 hy with e | e
      . omega
      . exact h'.1 y e
theorem drop_cons {l : List Int} {k : Nat} (h : k < l.length) : l.drop k = l[k] :: l.drop (k + 1) := List.drop_eq_getElem_cons h
theorem spec_l00Put {l : List Int} {n : Int} (hn : l.length <= 1048576) : AC Tryz.prog 266 [ints l, .int .i64 n] (ints (insL l n)) := by
  have hle : (List.map (D.int IntKind.i64) l).length = l.length := by simp
  refine ac_intro tabIs _ Tryz.func266 rfl rfl Tryz.ntmps266 rfl rfl fun w0 ok0 he0 => ?_
  repeat (first | refine v_w (t := 8) ?_ | refine zc ?_ | refine u_w (t := 8) ?_ | refine zv ?_)
  refine awp_loop (fun p : Nat × Bool × List Int => p.1 <= l.length /\ p.2.2.length <= p.1 + (if p.2.1 then 1 else 0) /\ p.2.2 ++ (if p.2.1 then l.drop p.1 else insL (l.drop p.1) n) = insL l n)
    (fun p => [(0, .d (ints l)), (1, .d (.int .i64 n)), (5, .own 8), (6, .d (.bool p.2.1)), (7, .d (.int .i64 p.1))]) (fun p => [(8, .arr 2 1 (p.2.2.map (.int .i64)))]) (fun p => l.length - p.1) (0, false, []) ⟨by simp, by simp, by simp⟩ ?_ rfl ?_
  . exact zs
  . rintro ⟨k, done, acc⟩ ⟨hk, hac, hg⟩
    dsimp only at hk hac hg
    have hal : (List.map (D.int .i64) acc).length = acc.length := by simp
    by_cases hlt : k < l.length
    . have hx := el_int hlt
      have hd := drop_cons hlt
      cases done
      . rw [if_neg (by simp)] at hac
        rw [if_neg (by simp), hd, insL_cons] at hg
        by_cases h1 : n <= l[k]
        . rw [if_pos h1] at hg
          by_cases h2 : n < l[k]
          . rw [if_pos h2] at hg
            repeat (first | refine zc ?_ | refine zv ?_)
            refine loop_n (k + 1, true, acc ++ [n, l[k]]) ⟨by dsimp only; omega, ?_, ?_⟩ ?_ ?_ (by dsimp only; omega)
            . simp; omega
            . dsimp only; rw [if_pos rfl]; simpa using hg
            . exact zs
            . simp [killH, keepH, memB]
          . rw [if_neg h2] at hg
            repeat (first | refine zc ?_ | refine zv ?_)
            refine loop_n (k + 1, true, acc ++ [l[k]]) ⟨by dsimp only; omega, ?_, ?_⟩ ?_ ?_ (by dsimp only; omega)
            . simp; omega
            . dsimp only; rw [if_pos rfl]; simpa using hg
            . exact zs
            . simp [killH, keepH, memB]
        . rw [if_neg h1] at hg
          repeat (first | refine zc ?_ | refine zv ?_)
          refine loop_n (k + 1, false, acc ++ [l[k]]) ⟨by dsimp only; omega, ?_, ?_⟩ ?_ ?_ (by dsimp only; omega)
          . simp; omega
          . dsimp only; rw [if_neg (by simp)]; simpa using hg
          . exact zs
          . simp [killH, keepH, memB]
      . rw [if_pos rfl] at hac
        rw [if_pos rfl, hd] at hg
        repeat (first | refine zc ?_ | refine zv ?_)
        refine loop_n (k + 1, true, acc ++ [l[k]]) ⟨by dsimp only; omega, ?_, ?_⟩ ?_ ?_ (by dsimp only; omega)
        . simp; omega
        . dsimp only; rw [if_pos rfl]; simpa using hg
        . exact zs
        . simp [killH, keepH, memB]
    . have : k = l.length := by omega
      subst this
      rw [List.drop_length] at hg
      cases done
      . rw [if_neg (by simp)] at hac
        rw [if_neg (by simp), insL_nil] at hg
        repeat (first | refine zc ?_ | refine zv ?_)
        refine zt ?_
        rw [<- hg]
        simp [ints]
      . rw [if_pos rfl] at hac
        rw [if_pos rfl, List.append_nil] at hg
        repeat (first | refine zc ?_ | refine zv ?_)
        refine zt ?_
        rw [<- hg]
        rfl
end Go.Proofs.YtckpadnjldebaaaGreat
namespace Go.Proofs.YtckpadnjldebaaaGreat
open Go
attribute [local irreducible] awp awpL awpQL awpQ awpM pWalk Qt AC thenQ blockQ loopQ OpTo
set_option linter.unusedVariables false
set_option linter.unusedSimpArgs false
set_option maxHeartbeats 2000000
attribute [local irreducible] HC
end Go.Proofs.YtckpadnjldebaaaGreat
