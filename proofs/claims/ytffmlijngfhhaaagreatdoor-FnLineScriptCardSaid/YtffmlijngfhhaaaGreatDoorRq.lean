/- Deeds read from texts: what a text says, the reference's and the program's ReadDeed, and that they say the same. Condition: the variables of strconv are laid. -/
import Derived.Test.YtffmlijngfhhaaaGreatDoorRw
import Derived.Test.YtffmlijngfhhaaaGreatDoorEi
import Derived.Test.YtffmlijngfhhaaaGreatDoorPi
namespace Go.Proofs.YtffmlijngfhhaaaGreatDoor
open Go
attribute [local irreducible] awp awpL awpQL awpQ awpM pWalk Qt AC thenQ blockQ loopQ OpTo
set_option linter.unusedVariables false
set_option linter.unusedSimpArgs false
set_option maxHeartbeats 2000000
attribute [local irreducible] HC
open Go.Lib (itoa)
def kUp (w : List UInt8) : Nat -> Int
  | 0 => 0
  | j + 1 => if 1 <= j /\ dwords.getD j [] = w then (j : Int) else kUp w j
def kOf (w : List UInt8) : Int := kUp w 10
theorem kUp_range (w : List UInt8) : ∀ j, 0 <= kUp w j /\ (kUp w j ≠ 0 -> kUp w j < j /\ dword (kUp w j) = w)
  | 0 => by simp [kUp]
  | j + 1 => by
    rw [kUp]
    split
    . rename_i h
      refine ⟨by omega, fun _ => ⟨by omega, ?_⟩⟩
      unfold dword
      rw [if_pos (by omega)]
      exact h.2
    . obtain ⟨h1, h2⟩ := kUp_range w j
      exact ⟨h1, fun h => ⟨by have := (h2 h).1; omega, (h2 h).2⟩⟩
theorem kOf_range (w : List UInt8) : 0 <= kOf w /\ kOf w <= 9 := by
  have := kUp_range w 10
  unfold kOf
  by_cases h : kUp w 10 = 0
  . omega
  . have := (this.2 h).1; omega
theorem kOf_word {w : List UInt8} (h : kOf w ≠ 0) : dword (kOf w) = w := ((kUp_range w 10).2 h).2
theorem dwordSplit {k : Int} (h : inB k 1 9 = true) : kOf (dword k) = k /\ (∀ c ∈ dword k, c ≠ 32) := by
  simp only [inB, Bool.and_eq_true, decide_eq_true_eq] at h
  have : k = 1 \/ k = 2 \/ k = 3 \/ k = 4 \/ k = 5 \/ k = 6 \/ k = 7 \/ k = 8 \/ k = 9 := by omega
  rcases this with rfl | rfl | rfl | rfl | rfl | rfl | rfl | rfl | rfl <;> exact ⟨by decide, by decide⟩
theorem itoa_no32 {n : Int} (h : 0 <= n) : ∀ c ∈ itoa n, c ≠ 32 := fun c hc e => by
  have := List.all_eq_true.1 (itoa_all h) c hc
  have := isDig_iff.1 this
  rw [e] at this
  simp at this
def rdL : List (List UInt8) -> Option (Int × Int)
  | [] => none
  | [x] => if kOf x = 0 \/ dtell (kOf x) = true then none else some (kOf x, 0)
  | [x, y] => if kOf x = 0 \/ dtell (kOf x) = false then none else match numV y with
    | none => none
    | some n => if vdeed (kOf x) n = true then some (kOf x, n) else none
  | _ :: _ :: _ :: _ => none
theorem rdL1 (x : List UInt8) : rdL [x] = if kOf x = 0 \/ dtell (kOf x) = true then none else some (kOf x, 0) := rfl
theorem rdL2 (x y : List UInt8) : rdL [x, y] = if kOf x = 0 \/ dtell (kOf x) = false then none else match numV y with
    | none => none
    | some n => if vdeed (kOf x) n = true then some (kOf x, n) else none := rfl
def rd (l : List UInt8) : Option (Int × Int) := rdL (bls l)
def rdV (l : List UInt8) : D := match rd l with
  | some (k, a) => .tup [.agg [.int .i64 k, .int .i64 a], .int .i64 0]
  | none => .tup [.agg [.int .i64 0, .int .i64 0], .int .i64 5]
theorem vdeed_k {k a : Int} (h : vdeed k a = true) : inB k 1 9 = true /\ 0 <= a /\ a <= 999 /\ (dtell k = false -> a = 0) := by
  simp only [vdeed, Bool.and_eq_true, Bool.or_eq_true, decide_eq_true_eq] at h
  obtain ⟨⟨h1, h2⟩, h3⟩ := h
  simp only [inB, Bool.and_eq_true, decide_eq_true_eq] at h2
  refine ⟨h1, h2.1, h2.2, fun h => ?_⟩
  rcases h3 with h3 | h3
  . rw [h] at h3; cases h3
  . exact h3
theorem bls_dtxt {k a : Int} (h : vdeed k a = true) : bls (dtxt k a) = if dtell k = true then [dword k, itoa a] else [dword k] := by
  obtain ⟨h1, h2, h3, h4⟩ := vdeed_k h
  have hw := (dwordSplit h1).2
  unfold dtxt
  rw [if_pos h]
  split
  . rw [bls_at hw, bls_no (itoa_no32 h2)]
  . exact bls_no hw
theorem rd_dtxt {k a : Int} (h : vdeed k a = true) : rd (dtxt k a) = some (k, a) := by
  obtain ⟨h1, h2, h3, h4⟩ := vdeed_k h
  have hk := (dwordSplit h1).1
  have hb := bls_dtxt h
  have hk0 : k ≠ 0 := by
    simp only [inB, Bool.and_eq_true, decide_eq_true_eq] at h1
    omega
  unfold rd
  rw [hb]
  cases ht : dtell k with
  | true =>
    rw [if_pos rfl, rdL2, hk, numV_itoa h2 (by omega)]
    simp [hk0, ht, h]
  | false =>
    have := h4 ht
    subst this
    rw [if_neg (by decide), rdL1, hk]
    simp [hk0, ht]
theorem bls_join1 {l a : List UInt8} (h : bls l = [a]) : l = a := by
  have := bls_join l [] a h
  simpa using this.symm
theorem bls_join2 {l a b : List UInt8} (h : bls l = [a, b]) : l = a ++ 32 :: b := by
  have := bls_join l [a] b h
  simp at this
  exact this.symm
theorem rd_some {l : List UInt8} {k a : Int} (h : rd l = some (k, a)) : vdeed k a = true /\ dtxt k a = l := by
  unfold rd at h
  have hr := fun x => kOf_range x
  match hq : bls l, bls_ne l with
  | [x], _ =>
    rw [hq, rdL1] at h
    split at h
    . cases h
    . rename_i hc
      have hc1 : kOf x ≠ 0 := fun e => hc (.inl e)
      have hc2 : dtell (kOf x) = false := by
        cases ht : dtell (kOf x) with
        | false => rfl
        | true => exact absurd (.inr ht) hc
      have hw := kOf_word hc1
      have hr := hr x
      cases h
      have hv : vdeed (kOf x) 0 = true := by
        simp only [vdeed, inB, Bool.and_eq_true, Bool.or_eq_true, decide_eq_true_eq]
        exact ⟨⟨by omega, by omega⟩, .inr trivial⟩
      refine ⟨hv, ?_⟩
      unfold dtxt
      rw [if_pos hv, if_neg (by rw [hc2]; simp), hw]
      exact (bls_join1 hq).symm
  | [x, y], _ =>
    rw [hq, rdL2] at h
    split at h
    . cases h
    . rename_i hc
      have hc1 : kOf x ≠ 0 := fun e => hc (.inl e)
      have hc2 : dtell (kOf x) = true := by
        cases ht : dtell (kOf x) with
        | true => rfl
        | false => exact absurd (.inr ht) hc
      have hw := kOf_word hc1
      split at h
      . cases h
      . rename_i n hn
        split at h
        . rename_i hv
          cases h
          refine ⟨hv, ?_⟩
          unfold dtxt
          rw [if_pos hv, if_pos hc2, hw, (numV_some hn).1]
          exact (bls_join2 hq).symm
        . cases h
  | x :: y :: z :: t, _ =>
    rw [hq] at h
    cases h
theorem rd_iff {l : List UInt8} {k a : Int} : rd l = some (k, a) ↔ vdeed k a = true /\ dtxt k a = l := ⟨rd_some, fun ⟨h1, h2⟩ => by rw [<- h2]; exact rd_dtxt h1⟩
theorem rd_pint {l : List UInt8} {k a : Int} (h : rd l = some (k, a)) : pint (cutB 32 l) = a := by
  obtain ⟨h1, rfl⟩ := rd_some h
  obtain ⟨g1, g2, g3, g4⟩ := vdeed_k h1
  have hw := (dwordSplit g1).2
  unfold dtxt
  rw [if_pos h1]
  split
  . rw [(cut_yes hw).2]
    exact pint_itoa g2 (by omega)
  . rename_i ht
    rw [(cut_no hw).2, pint_nil]
    exact (g4 (by simpa using ht)).symm
theorem spec_l01Number {l : List UInt8} (hl : l.length <= 1048576) : AC Tryz.prog 138 [.str l] (.tup [.int .i64 ((numV l).getD 0), .bool (numV l).isSome]) := by
  by_cases h0 : l.length < 1
  . have e : numV l = none := by
      unfold numV numOk
      rw [if_neg]
      simp only [Bool.and_eq_true, decide_eq_true_eq]
      omega
    rw [e]
    refine ac_intro tabIs _ Tryz.func138 rfl rfl Tryz.ntmps138 rfl rfl fun w0 ok0 he0 => ?_
    repeat (first | refine zc ?_ | refine zv ?_ | refine zg ?_)
    refine zt ?_
    rfl
  by_cases h9 : 9 < l.length
  . have e : numV l = none := by
      unfold numV numOk
      rw [if_neg]
      simp only [Bool.and_eq_true, decide_eq_true_eq]
      omega
    rw [e]
    refine ac_intro tabIs _ Tryz.func138 rfl rfl Tryz.ntmps138 rfl rfl fun w0 ok0 he0 => ?_
    repeat (first | refine zc ?_ | refine zv ?_ | refine zg ?_)
    refine zt ?_
    rfl
  have hn : 1 <= l.length := by omega
  have hx : l[((0 : Int)).toNat]? = some (l[0]'(by omega)) := by simp
  have hx2 : l.head? = some (l[0]'(by omega)) := by rw [List.head?_eq_getElem?]; simp
  by_cases hc : l[0]'(by omega) = 48 /\ 1 < l.length
  . have e : numV l = none := by
      unfold numV numOk
      rw [if_neg]
      rw [hx2, hc.1, decide_eq_true hc.2]
      simp
    rw [e]
    obtain ⟨hc1, hc2⟩ := hc
    clear hx2
    generalize l[0]'(by omega) = c at *
    have hd : decide ((c.toNat : Int) = 48) = true := by rw [hc1]; rfl
    refine ac_intro tabIs _ Tryz.func138 rfl rfl Tryz.ntmps138 rfl rfl fun w0 ok0 he0 => ?_
    repeat (first | refine zc ?_ | ((first | apply x_l | apply x_q | apply x_lr | apply x_qr); (focus (first | (apply qa_strIndex; (iterate 6 (focus (first | exact rfl | (first | assumption | omega | (simp; omega) | (simp; done) | rfl))))))); exact rfl) | (apply v_x; (iterate 2 exact rfl); (focus (intro ok0 nw hle; (first | (apply qa_strIndex; (iterate 6 (focus (first | exact rfl | (first | assumption | omega | (simp; omega) | (simp; done) | rfl)))))))); (iterate 2 exact rfl)) | refine zv ?_ | refine zg ?_)
    refine zt ?_
    rfl
  have hd : (decide (((l[0]'(by omega)).toNat : Int) = 48) = true /\ decide ((1 : Int) < l.length) = false) \/ decide (((l[0]'(by omega)).toNat : Int) = 48) = false := by
    by_cases h48 : l[0]'(by omega) = 48
    . refine .inl ⟨by rw [h48]; rfl, decide_eq_false fun h => hc ⟨h48, by omega⟩⟩
    . refine .inr (decide_eq_false fun e => h48 (UInt8.toNat_inj.1 (show (l[0]'(by omega)).toNat = 48 by omega)))
  have hnum : numV l = if l.all isDig = true then some (digV l) else none := by
    unfold numV numOk
    have e : (!(decide (l.head? = some 48) && decide (1 < l.length))) = true := by
      rw [hx2]
      simp only [Bool.not_eq_true', Bool.and_eq_false_iff, decide_eq_false_iff_not]
      by_cases h48 : l[0]'(by omega) = 48
      . exact .inr fun h => hc ⟨h48, h⟩
      . exact .inl fun h => h48 (Option.some.inj h)
    rw [e, decide_eq_true (show 1 <= l.length from hn), decide_eq_true (show l.length <= 9 by omega)]
    simp
  have loop : ∀ i : Nat, i <= l.length -> (l.take i).all isDig = true -> 0 <= digV (l.take i) /\ (i <= 8 -> digV (l.take i) < 100000000) := fun i hi ha => by
    have := digV_bound _ ha
    refine ⟨this.1, fun h8 => ?_⟩
    have h9 : ((10 ^ (l.take i).length : Nat) : Int) <= ((10 ^ 8 : Nat) : Int) := by
      have := Nat.pow_le_pow_right (show 0 < 10 by decide) (show (l.take i).length <= 8 by simp; omega)
      omega
    have e1 : ((10 ^ (l.take i).length : Nat) : Int) = (10 : Int) ^ (l.take i).length := by simp
    have e2 : ((10 ^ 8 : Nat) : Int) = 100000000 := by decide
    omega
  clear hx2 hc
  generalize l[0]'(by omega) = c at *
  rcases hd with ⟨hd, hd1⟩ | hd
  all_goals
    refine ac_intro tabIs _ Tryz.func138 rfl rfl Tryz.ntmps138 rfl rfl fun w0 ok0 he0 => ?_
    repeat (first | refine zc ?_ | ((first | apply x_l | apply x_q | apply x_lr | apply x_qr); (focus (first | (apply qa_strIndex; (iterate 6 (focus (first | exact rfl | (first | assumption | omega | (simp; omega) | (simp; done) | rfl))))))); exact rfl) | (apply v_x; (iterate 2 exact rfl); (focus (intro ok0 nw hle; (first | (apply qa_strIndex; (iterate 6 (focus (first | exact rfl | (first | assumption | omega | (simp; omega) | (simp; done) | rfl)))))))); (iterate 2 exact rfl)) | refine zv ?_ | refine zg ?_)
    refine awp_loop (fun p : Nat × Int => p.1 <= l.length /\ (l.take p.1).all isDig = true /\ p.2 = digV (l.take p.1)) (fun p => [(0, .d (.str l)), (4, .d (.int .i64 p.2)), (5, .d (.int .i64 p.1))]) (fun _ => []) (fun p => l.length - p.1) (0, 0) ⟨by simp, by simp, by simp [digV]⟩ ?_ rfl ?_
    . exact zs
    . rintro ⟨i, n⟩ ⟨hi, ha, hv⟩
      simp only at hi ha hv ⊢
      obtain ⟨b1, b2⟩ := loop i hi ha
      rw [<- hv] at b1 b2
      by_cases hlt : i < l.length
      . have hy : l[((i : Nat) : Int).toNat]? = some l[i] := by simp [hlt]
        have b3 := b2 (by omega)
        have ha1 : (l.take (i + 1)).all isDig = isDig l[i] := by
          rw [List.take_succ_eq_append_getElem hlt, List.all_append, ha]
          simp
        have hv1 : digV (l.take (i + 1)) = n * 10 + ((l[i].toNat : Int) - 48) := by
          rw [List.take_succ_eq_append_getElem hlt, digV_snoc, hv]
        cases hdg : isDig l[i] with
        | true =>
          have hdd := isDig_iff.1 hdg
          rw [hdg] at ha1
          generalize l[i] = c at *
          have w1 : IntKind.u8.wrap ((c.toNat : Int) - 48) = (c.toNat : Int) - 48 := u8_wrapD (by omega)
          have w2 : IntKind.i64.wrap ((c.toNat : Int) - 48) = (c.toNat : Int) - 48 := wrap_in (by simp [IntKind.min, IntKind.signed, IntKind.bits]; omega) (by simp [IntKind.max, IntKind.signed, IntKind.bits]; omega)
          have w3 : IntKind.i64.wrap (n * 10 + ((c.toNat : Int) - 48)) = n * 10 + ((c.toNat : Int) - 48) := wrap_in (by simp [IntKind.min, IntKind.signed, IntKind.bits]; omega) (by simp [IntKind.max, IntKind.signed, IntKind.bits]; omega)
          repeat (first | refine zc ?_ | ((first | apply x_l | apply x_q | apply x_lr | apply x_qr); (focus (first | (apply qa_strIndex; (iterate 6 (focus (first | exact rfl | (first | assumption | omega | (simp; omega) | (simp; done) | rfl))))))); exact rfl) | (apply v_x; (iterate 2 exact rfl); (focus (intro ok0 nw hle; (first | (apply qa_strIndex; (iterate 6 (focus (first | exact rfl | (first | assumption | omega | (simp; omega) | (simp; done) | rfl)))))))); (iterate 2 exact rfl)) | refine zv ?_ | refine zg ?_)
          simp only [w1, w2, w3]
          refine loop_n ((i + 1, n * 10 + ((c.toNat : Int) - 48)) : Nat × Int) ⟨hlt, ha1, hv1.symm⟩ ?_ rfl (by simp; omega)
          exact zs
        | false =>
          have hno : l.all isDig = false := by
            cases h : l.all isDig with
            | false => rfl
            | true =>
              have := List.all_eq_true.1 h l[i] (List.getElem_mem hlt)
              rw [hdg] at this
              cases this
          rw [hno] at hnum
          rw [hnum]
          have hdd : l[i].toNat < 48 \/ (48 <= l[i].toNat /\ 57 < l[i].toNat) := by
            have : ¬ (48 <= l[i].toNat /\ l[i].toNat <= 57) := fun h => by rw [isDig_iff.2 h] at hdg; cases hdg
            omega
          generalize l[i] = c at *
          rcases hdd with hdd | hdd
          all_goals
            repeat (first | refine zc ?_ | ((first | apply x_l | apply x_q | apply x_lr | apply x_qr); (focus (first | (apply qa_strIndex; (iterate 6 (focus (first | exact rfl | (first | assumption | omega | (simp; omega) | (simp; done) | rfl))))))); exact rfl) | (apply v_x; (iterate 2 exact rfl); (focus (intro ok0 nw hle; (first | (apply qa_strIndex; (iterate 6 (focus (first | exact rfl | (first | assumption | omega | (simp; omega) | (simp; done) | rfl)))))))); (iterate 2 exact rfl)) | refine zv ?_ | refine zg ?_)
            refine zt ?_
            rfl
      . have hie : i = l.length := by omega
        subst hie
        rw [List.take_length] at ha hv
        rw [ha] at hnum
        rw [hnum]
        subst hv
        repeat (first | refine zc ?_ | refine zv ?_)
        refine zt ?_
        rfl
theorem dtold_at {k : Int} (h : 0 <= k /\ k <= 9) : (dtold.map D.bool)[k.toNat]? = some (.bool (dtell k)) := by
  unfold dtell
  rw [if_pos h.1, List.getD_eq_getElem?_getD]
  have : k.toNat < dtold.length := by simp [dtold]; omega
  simp [this]
theorem dwords_at {k : Nat} (h : k < 10) : (dwords.map D.str)[((k : Nat) : Int).toNat]? = some (.str (dwords.getD k [])) := by
  rw [List.getD_eq_getElem?_getD]
  have : k < dwords.length := by simp [dwords]; omega
  simp [this]
theorem rd_cases {l x : List UInt8} {r : List (List UInt8)} (hq : bls l = x :: r) :
    (kOf x = 0 -> rd l = none) /\ (dtell (kOf x) = true -> (x :: r).length ≠ 2 -> rd l = none) /\ (dtell (kOf x) = false -> (x :: r).length = 2 -> rd l = none) /\ (2 < (x :: r).length -> rd l = none) /\
    (kOf x ≠ 0 -> dtell (kOf x) = true -> (x :: r).length = 2 -> rd l = match numV ((x :: r).getD 1 []) with
      | none => none
      | some n => if vdeed (kOf x) n = true then some (kOf x, n) else none) /\
    (kOf x ≠ 0 -> dtell (kOf x) = false -> (x :: r).length = 1 -> rd l = some (kOf x, 0)) := by
  unfold rd
  rw [hq]
  rcases r with _ | ⟨y, _ | ⟨z, t⟩⟩
  . refine ⟨fun h => ?_, fun h _ => ?_, fun _ h => ?_, fun h => ?_, fun _ _ h => ?_, fun h1 h2 _ => ?_⟩
    . rw [rdL1, if_pos (.inl h)]
    . rw [rdL1, if_pos (.inr h)]
    . simp at h
    . simp at h
    . simp at h
    . rw [rdL1, if_neg (by rw [h2]; simp [h1])]
  . refine ⟨fun h => ?_, fun _ h => ?_, fun h _ => ?_, fun h => ?_, fun h1 h2 _ => ?_, fun _ _ h => ?_⟩
    . rw [rdL2, if_pos (.inl h)]
    . simp at h
    . rw [rdL2, if_pos (.inr h)]
    . simp at h
    . rw [rdL2, if_neg (by rw [h2]; simp [h1])]; rfl
    . simp at h
  . exact ⟨fun _ => rfl, fun _ _ => rfl, fun _ _ => rfl, fun _ => rfl, fun _ _ h => by simp at h, fun _ _ h => by simp at h⟩
set_option maxHeartbeats 4000000 in
theorem spec_ReadDeed {l : List UInt8} (hl : l.length <= 1048576) : AC Tryz.prog 88 [.str l] (rdV l) := by
  have e1 := spec_l01SplitB hl
  have e2 := spec_l08Words
  have hbl := bls_len l
  unfold rdV
  obtain ⟨x, r, hq⟩ := List.exists_cons_of_ne_nil (bls_ne l)
  obtain ⟨q1, q2, q3, q4, q5, q6⟩ := rd_cases hq
  rw [hq] at e1 hbl
  have hxl : x.length <= 1048576 := by
    have : x.length <= l.length := by
      have hj := congrArg List.length (bls_join l (bls l).dropLast ((bls l).getLast (bls_ne l)) (List.dropLast_concat_getLast (bls_ne l)).symm)
      have hx : x ∈ bls l := by rw [hq]; simp
      rw [<- List.dropLast_concat_getLast (bls_ne l)] at hx
      rw [List.length_append] at hj
      rcases List.mem_append.1 hx with hx | hx
      . obtain ⟨a, b, hab⟩ := List.append_of_mem hx
        rw [hab] at hj
        simp at hj
        omega
      . simp at hx
        rw [hx]; omega
    omega
  have hx0 : ((x :: r).map D.str)[((0 : Int)).toNat]? = some (.str x) := rfl
  have hwl : ((x :: r).map D.str).length = r.length + 1 := by simp
  have hwl' : (x :: r).length = r.length + 1 := by simp
  have hdw : (dwords.map D.str).length = 10 := rfl
  have hdt : (dtold.map D.bool).length = 10 := rfl
  have hkr := kOf_range x
  have hx1 : 2 = (x :: r).length -> ((x :: r).map D.str)[((1 : Int)).toNat]? = some (.str ((x :: r).getD 1 [])) := fun h => by
    cases r with
    | nil => simp at h
    | cons y r => rfl
  have hyl : ((x :: r).getD 1 []).length <= 1048576 := by
    cases r with
    | nil => simp
    | cons y r =>
      have hj := congrArg List.length (bls_join l (bls l).dropLast ((bls l).getLast (bls_ne l)) (List.dropLast_concat_getLast (bls_ne l)).symm)
      have hx : y ∈ bls l := by rw [hq]; simp
      rw [<- List.dropLast_concat_getLast (bls_ne l)] at hx
      rw [List.length_append] at hj
      show y.length <= 1048576
      rcases List.mem_append.1 hx with hx | hx
      . obtain ⟨a, b, hab⟩ := List.append_of_mem hx
        rw [hab] at hj
        simp at hj
        omega
      . simp at hx
        rw [hx]; omega
  have e3 := spec_l01Number hyl
  generalize hy : (x :: r).getD 1 [] = y at *
  generalize hws : (x :: r) = ws at *
  clear hq
  have hw8 := dtold_at hkr
  have ev := fun a => spec_l08Deed (k := kOf x) (a := a)
  have hdat := fun k (h : k < 10) => dwords_at h
  generalize hdws : dwords.map D.str = W at *
  generalize dtold.map D.bool = T at *
  refine ac_introC tabIs _ Tryz.func88 rfl rfl Tryz.ntmps88 rfl rfl fun w0 ok0 he0 => ?_
  repeat (first | refine zc ?_ | refine zk (e := by exact e1) (n := ?_) | refine zk (e := by exact e2) (n := ?_) | refine zv ?_)
  refine awp_loop (fun k : Nat => 1 <= k /\ k <= 10) (fun k => [(2, .ref 2 0), (4, .d (.lst (ws.map .str))), (5, .d (.lst W)), (6, .d (.lst T)), (7, .ref 7 0), (8, .d (.int .i64 k))]) (fun k => [(7, .box [.d (.int .i64 (kUp x k)), .d (.int .i64 0)]), (2, .box [.d (.int .i64 0), .d (.int .i64 0)])]) (fun k => 10 - k) 1 ⟨by omega, by omega⟩ ?_ rfl ?_
  . exact zs
  . rintro k ⟨hk1, hk2⟩
    by_cases hlt : k < 10
    . have hxk := hdat k hlt
      have hku : kUp x (k + 1) = if dwords.getD k [] = x then (k : Int) else kUp x k := by
        rw [kUp]
        simp [hk1]
      by_cases he : dwords.getD k [] = x
      . have hd : decide (dwords.getD k [] = x) = true := decide_eq_true he
        rw [if_pos he] at hku
        generalize dwords.getD k [] = q at *
        repeat (first | refine zc ?_ | refine zv ?_ | refine zg ?_)
        refine loop_n (k + 1) ⟨by omega, by omega⟩ ?_ ?_ (by omega)
        . exact zs
        . show [(7, Chunk.box [.d (.int .i64 (kUp x (k + 1))), .d (.int .i64 0)]), _] = _
          rw [hku]
          rfl
      . have hd : decide (dwords.getD k [] = x) = false := decide_eq_false he
        rw [if_neg he] at hku
        generalize dwords.getD k [] = q at *
        repeat (first | refine zc ?_ | refine zv ?_ | refine zg ?_)
        refine loop_n (k + 1) ⟨by omega, by omega⟩ ?_ ?_ (by omega)
        . exact zs
        . show [(7, Chunk.box [.d (.int .i64 (kUp x (k + 1))), .d (.int .i64 0)]), _] = _
          rw [hku]
    . have hke : k = 10 := by omega
      subst hke
      have ek : kUp x 10 = kOf x := rfl
      rw [ek]
      generalize kOf x = K at *
      by_cases hK : K = 0
      . have hd : decide (K = 0) = true := decide_eq_true hK
        rw [q1 hK]
        repeat (first | refine zc ?_ | refine zv ?_ | refine zg ?_)
        refine ztC ?_
        rfl
      have hd0 : decide (K = 0) = false := decide_eq_false hK
      have e4 := ev 0
      cases ht : dtell K with
      | false =>
        rw [ht] at hw8
        by_cases h2 : ws.length = 2
        . have hd : decide (((ws.map D.str).length : Int) = 2) = true := decide_eq_true (by omega)
          rw [q3 ht h2]
          repeat (first | refine zc ?_ | refine zv ?_ | refine zg ?_)
          refine ztC ?_
          rfl
        by_cases h3 : 2 < ws.length
        . have hd : decide (((ws.map D.str).length : Int) = 2) = false := decide_eq_false (by omega)
          rw [q4 h3]
          repeat (first | refine zc ?_ | refine zv ?_ | refine zg ?_)
          refine ztC ?_
          rfl
        have hd : decide (((ws.map D.str).length : Int) = 2) = false := decide_eq_false (by omega)
        have hd3 : decide ((2 : Int) < ((ws.map D.str).length : Int)) = false := decide_eq_false (by omega)
        have hv : vdeed K 0 = true := by
          simp only [vdeed, inB, Bool.and_eq_true, Bool.or_eq_true, decide_eq_true_eq]
          exact ⟨⟨by omega, by omega⟩, .inr trivial⟩
        rw [hv] at e4
        rw [q6 hK ht (by omega)]
        repeat (first | refine zc ?_ | refine zk (e := by exact e4) (n := ?_) | refine zv ?_ | refine zg ?_)
        refine ztC ?_
        rfl
      | true =>
        rw [ht] at hw8
        by_cases h2 : ws.length = 2
        . have hd : decide (((ws.map D.str).length : Int) = 2) = true := decide_eq_true (by omega)
          have hd3 : decide ((2 : Int) < ((ws.map D.str).length : Int)) = false := decide_eq_false (by omega)
          have q5 := q5 hK ht h2
          have hx1 := hx1 h2.symm
          cases hn : numV y with
          | none =>
            rw [hn] at q5 e3
            rw [q5]
            repeat (first | refine zc ?_ | refine zk (e := by exact e3) (n := ?_) | refine zv ?_ | refine zg ?_)
            refine ztC ?_
            rfl
          | some n =>
            rw [hn] at q5 e3
            rw [q5]
            have e5 := ev n
            dsimp only [Option.getD_some, Option.isSome_some] at e3 ⊢
            cases hv : vdeed K n with
            | false =>
              rw [hv] at e5
              repeat (first | refine zc ?_ | refine zk (e := by exact e3) (n := ?_) | refine zk (e := by exact e5) (n := ?_) | refine zv ?_ | refine zg ?_)
              refine ztC ?_
              rfl
            | true =>
              rw [hv] at e5
              repeat (first | refine zc ?_ | refine zk (e := by exact e3) (n := ?_) | refine zk (e := by exact e5) (n := ?_) | refine zv ?_ | refine zg ?_)
              refine ztC ?_
              rfl
        . have hd : decide (((ws.map D.str).length : Int) = 2) = false := decide_eq_false (by omega)
          rw [q2 ht h2]
          repeat (first | refine zc ?_ | refine zv ?_ | refine zg ?_)
          refine ztC ?_
          rfl
end Go.Proofs.YtffmlijngfhhaaaGreatDoor
namespace Go.Proofs.YtffmlijngfhhaaaGreatDoor
open Go
attribute [local irreducible] awp awpL awpQL awpQ awpM pWalk Qt AC thenQ blockQ loopQ OpTo
set_option linter.unusedVariables false
set_option linter.unusedSimpArgs false
set_option maxHeartbeats 2000000
attribute [local irreducible] HC
open Go.Lib (itoa)
theorem vdeedI {k a : Int} (h : vdeed k a = true) : 1 <= k /\ k <= 9 := by
  have := (vdeed_k h).1
  simp only [inB, Bool.and_eq_true, decide_eq_true_eq] at this
  exact this
theorem dtxt_len (k a : Int) (h : vdeed k a = true) : (dtxt k a).length <= 11 := by
  obtain ⟨h1, h2, h3, h4⟩ := vdeed_k h
  have hw := dword_len7 k
  have hi := itoa_len ⟨h2, h3⟩
  unfold dtxt
  rw [if_pos h]
  split
  . simp; omega
  . omega
theorem impl_ReadDeed {l : List UInt8} (hl : l.length <= 1048576) : AC Tryz.prog 13 [.str l] (rdV l) := by
  have e1 := strings_Cut (b := 32) hl
  have hbl := cutB_le 32 l
  have e2 := strconv_ParseInt (l := cutB 32 l) (by omega)
  have hp := fun k a (h : rd l = some (k, a)) => rd_pint h
  have ev := fun k a => impl_ValidDeed (k := k) (a := a)
  have et := fun k a => impl_DeedText (k := k) (a := a)
  have hri := fun k a => rd_iff (l := l) (k := k) (a := a)
  generalize pint (cutB 32 l) = n at *
  unfold rdV
  refine ac_introC tabIs _ Tryz.func13 rfl rfl Tryz.ntmps13 rfl rfl fun w0 ok0 he0 => ?_
  repeat (first | refine zc ?_ | refine zk (e := by exact e1) (n := ?_) | refine zv ?_)
  refine hcl [] [] e2 ?_
  repeat (first | refine zc ?_ | refine zv ?_)
  refine awp_loop (fun k : Nat => 1 <= k /\ k <= 10 /\ ∀ j : Nat, 1 <= j -> j < k -> ¬ (vdeed j n = true /\ dtxt j n = l)) (fun k => [(0, .d (.str l)), (2, .ref 2 0), (7, .d (.int .i64 n)), (9, .d (.int .i64 k))]) (fun k => [(2, .box [.d (.int .i64 0), .d (.int .i64 0)])]) (fun k => 10 - k) 1 ⟨by omega, by omega, fun j h1 h2 => by omega⟩ ?_ rfl ?_
  . exact zs
  . rintro k ⟨hk1, hk2, hno⟩
    by_cases hlt : k < 10
    . have e3 := ev k n
      have e4 := et k n
      have hri := hri k n
      cases hv : vdeed k n with
      | false =>
        rw [hv] at e3
        have hno' : ∀ j : Nat, 1 <= j -> j < k + 1 -> ¬ (vdeed j n = true /\ dtxt j n = l) := fun j h1 h2 h => by
          by_cases hj : j = k
          . subst hj; rw [hv] at h; exact absurd h.1 (by decide)
          . exact hno j h1 (by omega) h
        repeat (first | refine zc ?_ | refine zv ?_)
        refine awpL_freezeB 10 rfl rfl rfl ?_
        repeat (first | refine zc ?_ | refine zk (e := by exact e3) (n := ?_) | refine zv ?_)
        refine loop_n (k + 1) ⟨by omega, by omega, hno'⟩ ?_ rfl (by omega)
        exact zs
      | true =>
        rw [hv] at e3
        have hdl := dtxt_len k n hv
        by_cases he : dtxt k n = l
        . have hrd := hri.2 ⟨hv, he⟩
          rw [hrd]
          rw [he] at e4
          repeat (first | refine zc ?_ | refine zk (e := by exact e3) (n := ?_) | refine zk (e := by exact e4) (n := ?_) | refine zv ?_)
          refine ztC ?_
          rfl
        . have hd : decide (dtxt k n = l) = false := decide_eq_false he
          have hno' : ∀ j : Nat, 1 <= j -> j < k + 1 -> ¬ (vdeed j n = true /\ dtxt j n = l) := fun j h1 h2 h => by
            by_cases hj : j = k
            . subst hj; exact he h.2
            . exact hno j h1 (by omega) h
          generalize dtxt k n = tx at *
          repeat (first | refine zc ?_ | refine zv ?_)
          refine awpL_freezeB 10 rfl rfl rfl ?_
          repeat (first | refine zc ?_ | refine zk (e := by exact e3) (n := ?_) | refine zk (e := by exact e4) (n := ?_) | refine zv ?_)
          refine loop_n (k + 1) ⟨by omega, by omega, hno'⟩ ?_ rfl (by omega)
          exact zs
    . have hke : k = 10 := by omega
      subst hke
      have hrd : rd l = none := by
        cases h : rd l with
        | none => rfl
        | some p =>
          obtain ⟨k, a⟩ := p
          have e := hp k a h
          subst e
          have h2 := (hri k n).1 h
          have h3 := vdeedI h2.1
          refine absurd ?_ (hno k.toNat (by omega) (by omega))
          rw [show ((k.toNat : Nat) : Int) = k by omega]
          exact h2
      rw [hrd]
      repeat (first | refine zc ?_ | refine zv ?_)
      refine ztC ?_
      rfl
end Go.Proofs.YtffmlijngfhhaaaGreatDoor
