/- Keys of words; the words that are not the beginning of longer ones. No condition but bounds. -/
import Derived.Test.YtfemhnmggobhjaaGreatVh
import Derived.Test.YtfemhnmggobhjaaGreatFwSs
import Derived.Test.YtfemhnmggobhjaaGreatYa
namespace Go.Proofs.YtfemhnmggobhjaaGreat
open Go
attribute [local irreducible] awp awpL awpQL awpQ awpM pWalk Qt AC thenQ blockQ loopQ OpTo
set_option linter.unusedVariables false
set_option linter.unusedSimpArgs false
set_option maxHeartbeats 2000000
attribute [local irreducible] HC
def kyB (w : List Int) : List UInt8 := w.map fun n => UInt8.ofNat n.toNat
theorem kyB_inj : ∀ {a b : List Int}, (∀ n ∈ a, 0 <= n /\ n < 256) -> (∀ n ∈ b, 0 <= n /\ n < 256) -> kyB a = kyB b -> a = b
  | [], [], _, _, _ => rfl
  | [], _ :: _, _, _, h => by cases h
  | _ :: _, [], _, _, h => by cases h
  | x :: a, y :: b, h1, h2, h => by
    obtain ⟨e1, e2⟩ := List.cons.inj (show UInt8.ofNat x.toNat :: kyB a = UInt8.ofNat y.toNat :: kyB b from h)
    have hx := h1 x (List.mem_cons_self ..)
    have hy := h2 y (List.mem_cons_self ..)
    have e3 := congrArg UInt8.toNat e1
    simp only [UInt8.toNat_ofNat'] at e3
    rw [Nat.mod_eq_of_lt (by omega), Nat.mod_eq_of_lt (by omega)] at e3
    rw [kyB_inj (fun n hn => h1 n (List.mem_cons_of_mem _ hn)) (fun n hn => h2 n (List.mem_cons_of_mem _ hn)) e2, show x = y by omega]
theorem u8_wrap {n : Int} (h : 0 <= n /\ n < 256) : IntKind.u8.wrap n = n := wrap_in (by simp [IntKind.min, IntKind.signed, IntKind.bits]; omega) (by simp [IntKind.max, IntKind.signed, IntKind.bits]; omega)
theorem impl_keyOf {w : List Int} (hw : ∀ n ∈ w, 0 <= n /\ n < 256) (hl : w.length <= 100000) : AC Tryz.prog 56 [ints w] (.str (kyB w)) := by
  have hwm : (List.map (D.int .i64) w).length = w.length := by simp
  refine ac_intro tabIs _ Tryz.func56 rfl rfl Tryz.ntmps56 rfl rfl fun w0 ok0 he0 => ?_
  repeat (first | refine v_w (t := 6) ?_ | refine zc ?_ | refine u_w (t := 6) ?_ | refine zv ?_)
  refine awp_loop (fun i : Nat => i <= w.length) (fun i => [(3, .own 6), (7, .d (ints w)), (8, .d (.int .i64 (List.map (D.int .i64) w).length)), (9, .d (.int .i64 i))]) (fun i => [(6, .arr 5 1 ((w.take i).map (.int .u8)))]) (fun i => w.length - i) 0 (by omega) ?_ rfl ?_
  . exact zs
  . intro i hi
    have htl : ((w.take i).map (D.int .u8)).length = i := by simp [hi]
    by_cases hlt : i < w.length
    . have hx := el_int hlt
      have hst := List.take_succ_eq_append_getElem hlt
      have hwr := congrArg (D.int .u8) (u8_wrap (hw _ (List.getElem_mem hlt)))
      generalize w[i] = n at *
      repeat (first | refine zc ?_ | refine zv ?_)
      refine loop_n (i + 1) (by omega) ?_ ?_ (by omega)
      . exact zs
      . rw [hst, List.map_append]
        exact congrArg (fun d => [(6, Chunk.arr 5 1 ((w.take i).map (D.int .u8) ++ [d]))]) hwr.symm
    . have hie : i = w.length := by omega
      subst hie
      rw [List.take_length]
      repeat (first | refine zc ?_ | refine zv ?_)
      refine zt ?_
      rfl
def begB (v w : List Int) : Bool := decide (v.length < w.length) && decide (v = w.take v.length)
noncomputable def maxW (ws : List (List Int)) : List (List Int) := uniqW (ws.filter fun v => !ws.any fun w => begB v w)
theorem any_same {ws vs : List (List Int)} (h : ∀ w, w ∈ ws ↔ w ∈ vs) (f : List Int -> Bool) : ws.any f = vs.any f := by
  rw [Bool.eq_iff_iff, List.any_eq_true, List.any_eq_true]
  exact ⟨fun ⟨w, h1, h2⟩ => ⟨w, (h w).1 h1, h2⟩, fun ⟨w, h1, h2⟩ => ⟨w, (h w).2 h1, h2⟩⟩
theorem maxW_congr {a b : List (List Int)} (h : ∀ w, w ∈ a ↔ w ∈ b) : maxW a = maxW b := by
  unfold maxW
  refine uniqW_congr fun w => ?_
  rw [List.mem_filter, List.mem_filter, h w, any_same h]
theorem maxW_uniq (ws : List (List Int)) : (uniqW ws).filter (fun v => !(uniqW ws).any fun w => begB v w) = maxW ws := by
  symm
  unfold maxW
  refine uniqW_eq ((uniqW_sorted ws).sublist List.filter_sublist) fun w => ?_
  rw [List.mem_filter, List.mem_filter, uniqW_mem, any_same (fun w => uniqW_mem (ws := ws) (w := w))]
theorem spec_l07Begins {v w : List Int} (h1 : v.length <= 1048576) (h2 : w.length <= 1048576) : AC Tryz.prog 100 [ints v, ints w] (.bool (begB v w)) := by
  have hv : (List.map (D.int .i64) v).length = v.length := by simp
  have hw : (List.map (D.int .i64) w).length = w.length := by simp
  unfold begB
  by_cases hl : v.length < w.length
  . rw [decide_eq_true hl]
    have e1 : AC Tryz.prog 97 [ints v, .lst ((w.map (D.int .i64)).take (((List.map (D.int .i64) v).length : Nat) : Int).toNat)] (.bool (decide (v = w.take v.length))) := by
      have := spec_l00Same (a := v) (b := w.take v.length) (by omega) (by rw [List.length_take]; omega)
      rw [hv, Int.toNat_natCast, <- List.map_take]
      exact this
    have hel := elsOk_ints w
    refine ac_intro tabIs _ Tryz.func100 rfl rfl Tryz.ntmps100 rfl rfl fun w0 ok0 he0 => ?_
    repeat (first | refine zc ?_ | ((first | apply x_l | apply x_q | apply x_lr | apply x_qr); (focus (first | (apply qa_slice_h; (iterate 8 (focus (first | exact rfl | (first | assumption | omega | (simp; omega) | (simp; done) | rfl))))))); exact rfl) | refine zk (e := by exact e1) (n := ?_) | (apply v_x; (iterate 2 exact rfl); (focus (intro ok0 nw hle; (first | (apply qa_slice_h; (iterate 8 (focus (first | exact rfl | (first | assumption | omega | (simp; omega) | (simp; done) | rfl)))))))); (iterate 2 exact rfl)) | refine zv ?_ | refine zg ?_)
    refine zt ?_
    rfl
  . rw [decide_eq_false hl]
    refine ac_intro tabIs _ Tryz.func100 rfl rfl Tryz.ntmps100 rfl rfl fun w0 ok0 he0 => ?_
    repeat (first | refine zc ?_ | refine zv ?_ | refine zg ?_)
    refine zt ?_
    rfl
theorem spec_l07Maximal {ws : List (List Int)} (hn : ws.length <= 100000) (hl : ∀ w ∈ ws, w.length <= 1048576) : AC Tryz.prog 47 [rows ws] (rows (maxW ws)) := by
  have hwm : (List.map ints ws).length = ws.length := by simp
  unfold maxW
  refine ac_intro tabIs _ Tryz.func47 rfl rfl Tryz.ntmps47 rfl rfl fun w0 ok0 he0 => ?_
  repeat (first | refine zc ?_ | refine zv ?_)
  refine awp_loop (fun i : Nat => i <= ws.length) (fun i => [(0, .d (rows ws)), (3, .d (rows (uniqW ((ws.take i).filter fun v => !ws.any fun w => begB v w)))), (4, .d (.int .i64 i))]) (fun _ => []) (fun i => ws.length - i) 0 (by omega) ?_ rfl ?_
  . rw [List.take_zero, List.filter_nil, uniqW_nil]
    exact zs
  . intro i hi
    by_cases hlt : i < ws.length
    . have hx := el_row hlt
      have hlw := hl _ (List.getElem_mem hlt)
      have hst := List.take_succ_eq_append_getElem hlt
      have hcl : ((ws.take i).filter fun v => !ws.any fun w => begB v w).length <= ws.length := Nat.le_trans (List.length_filter_le _ _) (by rw [List.length_take]; omega)
      have e2 : AC Tryz.prog 46 [rows (uniqW ((ws.take i).filter fun v => !ws.any fun w => begB v w)), ints ws[i]] (rows (uniqW (((ws.take i).filter fun v => !ws.any fun w => begB v w) ++ [ws[i]]))) := by
        rw [<- uniqW_snoc]
        have := uniqW_len ((ws.take i).filter fun v => !ws.any fun w => begB v w)
        exact spec_l07Into (uniqW_sorted _) (by omega) (fun u hu => by
          have := (List.mem_filter.1 (uniqW_mem.1 hu)).1
          exact hl u (List.mem_of_mem_take this)) hlw
      have hst2 : (ws.take (i + 1)).filter (fun v => !ws.any fun w => begB v w) = ((ws.take i).filter fun v => !ws.any fun w => begB v w) ++ if (ws.any fun w => begB ws[i] w) then [] else [ws[i]] := by
        rw [hst, List.filter_append]
        cases hb : (ws.any fun w => begB ws[i] w) <;> simp [hb]
      have hb1 := fun (k : Nat) (hk : k < ws.length) => spec_l07Begins (v := ws[i]) (w := ws[k]) hlw (hl _ (List.getElem_mem hk))
      generalize ((ws.take i).filter fun v => !ws.any fun w => begB v w) = A at *
      generalize hv : ws[i] = v at *
      repeat (first | refine zc ?_ | refine zv ?_)
      refine awp_loop (fun k : Nat => k <= ws.length) (fun k => [(0, .d (rows ws)), (3, .d (rows (uniqW A))), (4, .d (.int .i64 i)), (5, .d (.bool ((ws.take k).any fun w => begB v w))), (6, .d (.int .i64 k))]) (fun _ => []) (fun k => ws.length - k) 0 (by omega) ?_ rfl ?_
      . exact zs
      . intro k hk
        by_cases hkl : k < ws.length
        . have hy := el_row hkl
          have e1 := hb1 k hkl
          have hnx : (ws.take (k + 1)).any (fun w => begB v w) = ((ws.take k).any (fun w => begB v w) || begB v ws[k]) := by
            rw [List.take_succ_eq_append_getElem hkl, List.any_append]; simp
          have hall : (ws.take k).any (fun w => begB v w) = true -> ws.any (fun w => begB v w) = true := fun h => by
            obtain ⟨w, hw, hw2⟩ := List.any_eq_true.1 h
            exact List.any_eq_true.2 ⟨w, List.mem_of_mem_take hw, hw2⟩
          generalize ws[k] = w at *
          generalize (ws.take k).any (fun w => begB v w) = t0 at *
          cases t0 with
          | false =>
            rw [Bool.false_or] at hnx
            repeat (first | refine zc ?_ | refine zk (e := by exact e1) (n := ?_) | refine zv ?_ | refine zg ?_)
            refine loop_n (k + 1) (by omega) ?_ rfl (by omega)
            rw [hnx]
            exact zs
          | true =>
            rw [if_pos (hall rfl), List.append_nil] at hst2
            repeat (first | refine zc ?_ | refine zv ?_ | refine zg ?_)
            refine loop_n (i + 1) (by omega) ?_ rfl (by omega)
            rw [hst2]
            exact zs
        . have hke : k = ws.length := by omega
          subst hke
          rw [List.take_length]
          cases hb : (ws.any fun w => begB v w) with
          | true =>
            rw [if_pos hb, List.append_nil] at hst2
            repeat (first | refine zc ?_ | refine zv ?_ | refine zg ?_)
            refine loop_n (i + 1) (by omega) ?_ rfl (by omega)
            rw [hst2]
            exact zs
          | false =>
            rw [if_neg (by simp [hb])] at hst2
            repeat (first | refine zc ?_ | refine zk (e := by exact e2) (n := ?_) | refine zv ?_ | refine zg ?_)
            refine loop_n (i + 1) (by omega) ?_ rfl (by omega)
            rw [hst2]
            exact zs
    . have hie : i = ws.length := by omega
      subst hie
      rw [List.take_length]
      repeat (first | refine zc ?_ | refine zv ?_)
      refine zt ?_
      rfl
end Go.Proofs.YtfemhnmggobhjaaGreat
namespace Go.Proofs.YtfemhnmggobhjaaGreat
open Go
attribute [local irreducible] awp awpL awpQL awpQ awpM pWalk Qt AC thenQ blockQ loopQ OpTo
set_option linter.unusedVariables false
set_option linter.unusedSimpArgs false
set_option maxHeartbeats 2000000
attribute [local irreducible] HC HX
theorem impl_maximal11 {x w : List Int} (h1 : x.length <= 1048576) (h2 : w.length <= 1048576) : AC Tryz.prog 110 [ints x, .ptr (ints w)] (.bool (begB w x)) := by
  have hx : (List.map (D.int .i64) x).length = x.length := by simp
  have hw : (List.map (D.int .i64) w).length = w.length := by simp
  unfold begB
  by_cases hl : w.length < x.length
  . rw [decide_eq_true hl]
    have e1 : AC Tryz.prog 105 [.lst ((x.map (D.int .i64)).take (((List.map (D.int .i64) w).length : Nat) : Int).toNat), ints w] (.bool (decide (w = x.take w.length))) := by
      have := slices_EqualI (a := x.take w.length) (b := w) (by rw [List.length_take]; omega) (by omega)
      rw [hw, Int.toNat_natCast, <- List.map_take, show (decide (w = x.take w.length)) = decide (x.take w.length = w) from decide_eq_decide.2 eq_comm]
      exact this
    have hel := elsOk_ints x
    refine ac_intro tabIs _ Tryz.func110 rfl rfl Tryz.ntmps110 rfl rfl fun w0 ok0 he0 => ?_
    repeat (first | refine zc ?_ | ((first | apply x_l | apply x_q | apply x_lr | apply x_qr); (focus (first | (apply qa_slice_h; (iterate 8 (focus (first | exact rfl | (first | assumption | omega | (simp; omega) | (simp; done) | rfl))))))); exact rfl) | refine zk (e := by exact e1) (n := ?_) | (apply v_x; (iterate 2 exact rfl); (focus (intro ok0 nw hle; (first | (apply qa_slice_h; (iterate 8 (focus (first | exact rfl | (first | assumption | omega | (simp; omega) | (simp; done) | rfl)))))))); (iterate 2 exact rfl)) | refine zv ?_ | refine zg ?_)
    refine zt ?_
    rfl
  . rw [decide_eq_false hl]
    refine ac_intro tabIs _ Tryz.func110 rfl rfl Tryz.ntmps110 rfl rfl fun w0 ok0 he0 => ?_
    repeat (first | refine zc ?_ | refine zv ?_ | refine zg ?_)
    refine zt ?_
    rfl
theorem impl_maximal1 {ds : List D} {ws : List (List Int)} {w : List Int} (hlen : ds.length = ws.length) (hle : ∀ (i : Nat) d w, ds[i]? = some d -> ws[i]? = some w -> D.Le d (ints w)) (hn : ws.length <= 1048576) (hl : ∀ w ∈ ws, w.length <= 1048576) (hw : w.length <= 1048576) :
    AC Tryz.prog 109 [ints w, .ptr (.lst ds)] (.bool (ws.any fun x => begB w x)) := by
  have e1 : AC Tryz.prog 103 [.lst ds, .fn 110 [.ptr (ints w)]] (.bool (ws.any fun x => begB w x)) :=
    (containsFunc_row (cap := [.ptr (ints w)]) (fun x => begB w x) (fun x hx => impl_maximal11 (hl x hx) hw) (by omega)).le rfl fun i x y hx hy => by
      match i with
      | 0 =>
        simp at hx hy; subst hx hy
        exact .lst _ _ (by simpa using hlen) fun k d y hd hy => by
          rw [List.getElem?_map, Option.map_eq_some_iff] at hy
          obtain ⟨w, hw, rfl⟩ := hy
          exact hle k d w hd hw
      | 1 => simp at hx hy; subst hx hy; exact .refl _
      | k + 2 => simp at hx
  refine ac_intro tabIs _ Tryz.func109 rfl rfl Tryz.ntmps109 rfl rfl fun w0 ok0 he0 => ?_
  repeat (first | refine zc ?_ | refine zk (e := by exact e1) (n := ?_) | refine zv ?_)
  refine zt ?_
  rfl
theorem kpG_pair {p : List Int -> Bool} {l : List (D × List Int)} : ∀ j, j <= l.length -> kpG p (l.map (·.2)) (l.map (·.1)) j = ((l.take j).filter fun q => !p q.2).map (·.1)
  | 0, _ => by simp [kpG]
  | j + 1, hj => by
    have ih := kpG_pair (p := p) (l := l) j (by omega)
    have hx : (l.map (·.1))[j]? = some (l[j]'(by omega)).1 := by simp [show j < l.length by omega]
    rw [kpG_step hx, ih, List.take_succ_eq_append_getElem (by omega), List.filter_append, List.map_append]
    rw [show (l.map (·.2)).getD j [] = (l[j]'(by omega)).2 by simp [List.getD_eq_getElem?_getD, show j < l.length by omega]]
    cases hp : p (l[j]'(by omega)).2 <;> simp [hp]
def maxD (xs : List (D × List Int)) : List (D × List Int) := (dstW xs).filter fun q => !((dstW xs).map (·.2)).any fun x => begB q.2 x
theorem maxD_words (xs : List (D × List Int)) : (maxD xs).map (·.2) = maxW (xs.map (·.2)) := by
  rw [<- maxW_uniq, <- dstW_words]
  unfold maxD
  rw [List.filter_map]
  rfl
theorem maxD_sub (xs : List (D × List Int)) : ∀ p ∈ maxD xs, p ∈ xs := fun p hp => (dstW_spec xs).2.2 p (List.mem_filter.1 hp).1
theorem impl_maximalH {xs : List (D × List Int)} (hok : ∀ p ∈ xs, WOk p) (hn : xs.length <= 100000) : HC Tryz.prog 57 [.d (.lst (xs.map (·.1)))] [] (.own 30000) [(30000, .arr 43 1 ((maxD xs).map (·.1)))] := by
  have c1 := impl_distinctH hok (by omega)
  have hsub := (dstW_spec xs).2.2
  have hok2 : ∀ p ∈ dstW xs, WOk p := fun p h => hok p (hsub p h)
  have hlen2 : (dstW xs).length <= xs.length := by
    have h1 := uniqW_len (xs.map (·.2))
    rw [<- dstW_words, List.length_map, List.length_map] at h1
    exact h1
  unfold maxD
  generalize dstW xs = l at *
  have c2 := impl_CloneWH hok2 (by omega)
  have hle : ∀ (i : Nat) d w, (l.map (·.1))[i]? = some d -> (l.map (·.2))[i]? = some w -> D.Le d (ints w) := fun i d w hd hw => by
    rw [List.getElem?_map, Option.map_eq_some_iff] at hd hw
    obtain ⟨p, hp, rfl⟩ := hd
    obtain ⟨q, hq, rfl⟩ := hw
    rw [hp] at hq
    cases hq
    exact (hok2 p (List.mem_of_getElem? hp)).le
  have hwl : ∀ w ∈ l.map (·.2), w.length <= 1048576 := fun w hw => by
    obtain ⟨p, hp, rfl⟩ := List.mem_map.1 hw
    exact (hok2 p hp).len
  have c3 := slices_DeleteFunc (ds := l.map (·.1)) (ws := l.map (·.2)) (g := 109) (cap := [.ptr (.lst (l.map (·.1)))]) (fun w => (l.map (·.2)).any fun x => begB w x) (by simp) hle (fun d hd => by
    obtain ⟨p, hp, rfl⟩ := List.mem_map.1 hd
    have k := hok2 p hp
    exact ⟨k.el, k.width, k.one⟩) (by simp; omega) (fun w hw => impl_maximal1 (by simp) hle (by simp; omega) hwl (hwl w hw))
  rw [show (l.map (·.2)).length = l.length by simp, kpG_pair l.length (Nat.le_refl _), List.take_length] at c3
  generalize (l.filter fun q => !(l.map (·.2)).any fun x => begB q.2 x) = R at *
  refine hc_intro tabIs _ Tryz.func57 rfl rfl Tryz.ntmps57 rfl rfl rfl ?_ fun w0 ok0 XM XA anc he0 hX0 => ?_
  . exact likeIn_nil
  repeat (first | refine zc ?_ | refine zv ?_)
  refine hcl [] [(30000, 500)] c1 ?_
  refine awpL_freeze 500 rfl rfl ?_
  repeat (first | refine zc ?_ | refine zv ?_)
  refine awpL_freezeB 3 rfl rfl rfl ?_
  repeat (first | refine zc ?_ | refine zv ?_)
  refine hcl [] [(30000, 501)] c2 ?_
  repeat (first | refine zc ?_ | refine zv ?_)
  refine hcl [(501, 20000)] [(20000, 501)] c3 ?_
  repeat (first | refine zc ?_ | refine zv ?_)
  (refine zb ?_; refine u_rH [(501, 30000)] ?_ ?_)
  . rfl
  . rfl
end Go.Proofs.YtfemhnmggobhjaaGreat
namespace Go.Proofs.YtfemhnmggobhjaaGreat
open Go
attribute [local irreducible] awp awpL awpQL awpQ awpM pWalk Qt AC thenQ blockQ loopQ OpTo
set_option linter.unusedVariables false
set_option linter.unusedSimpArgs false
set_option maxHeartbeats 2000000
attribute [local irreducible] HC HX
def ddK (Q : List (List Int)) : List (List Int) := Q.foldl (fun o w => if w ∈ o then o else o ++ [w]) []
theorem ddK_snoc (Q : List (List Int)) (w : List Int) : ddK (Q ++ [w]) = if w ∈ ddK Q then ddK Q else ddK Q ++ [w] := by unfold ddK; rw [List.foldl_append]; rfl
theorem ddK_spec (Q : List (List Int)) : (ddK Q).Nodup /\ ∀ w, w ∈ ddK Q ↔ w ∈ Q := by
  have key : ∀ (n : Nat) (Q : List (List Int)), Q.length = n -> (ddK Q).Nodup /\ ∀ w, w ∈ ddK Q ↔ w ∈ Q := by
    intro n
    induction n with
    | zero =>
      intro Q h
      have : Q = [] := List.length_eq_zero_iff.1 h
      subst this
      exact ⟨List.nodup_nil, fun w => Iff.rfl⟩
    | succ n ih =>
      intro Q h
      have hne : Q ≠ [] := fun e => by subst e; simp at h
      have hd := List.dropLast_concat_getLast hne
      generalize Q.getLast hne = x at hd
      have hl : Q.dropLast.length = n := by simp [h]
      generalize Q.dropLast = R at *
      subst hd
      obtain ⟨h1, h2⟩ := ih R hl
      rw [ddK_snoc]
      split
      . rename_i hm
        refine ⟨h1, fun w => ?_⟩
        rw [h2, List.mem_append, List.mem_singleton]
        exact ⟨.inl, fun h => h.elim id fun e => e ▸ (h2 x).1 hm⟩
      . rename_i hm
        refine ⟨List.nodup_append.2 ⟨h1, by simp, fun a ha b hb => by simp at hb; subst hb; exact fun e => hm (e ▸ ha)⟩, fun w => ?_⟩
        rw [List.mem_append, List.mem_append, h2]
  exact key Q.length Q rfl
theorem ddK_len (Q : List (List Int)) : (ddK Q).length = (uniqW Q).length := by
  obtain ⟨h1, h2⟩ := ddK_spec Q
  exact Nat.le_antisymm (nodup_sub_len h1 fun w hw => uniqW_mem.2 ((h2 w).1 hw)) (nodup_sub_len (nodup_ltW (uniqW_sorted Q)) fun w hw => (h2 w).2 (uniqW_mem.1 hw))
theorem uniqW_mono {a b : List (List Int)} (h : ∀ w ∈ a, w ∈ b) : (uniqW a).length <= (uniqW b).length := nodup_sub_len (nodup_ltW (uniqW_sorted a)) fun w hw => uniqW_mem.2 (h w (uniqW_mem.1 hw))
theorem crsW_mem {C U : List (List Int)} {w : List Int} : w ∈ crsW C U ↔ ∃ u ∈ C, ∃ x ∈ U, w = u ++ x := by
  simp only [crsW, List.mem_flatMap, List.mem_map]
  exact ⟨fun ⟨u, hu, x, hx, e⟩ => ⟨u, hu, x, hx, e.symm⟩, fun ⟨u, hu, x, hx, e⟩ => ⟨u, hu, x, hx, e.symm⟩⟩
def cs1 (F U B : List (List Int)) (i : Nat) : List (List Int) := crsW (F.take i) (crsW U B)
def cs2 (F U B : List (List Int)) (i : Nat) (u : List Int) (j : Nat) : List (List Int) := cs1 F U B i ++ (crsW (U.take j) B).map fun x => u ++ x
def cs3 (F U B : List (List Int)) (i : Nat) (u : List Int) (j : Nat) (x : List Int) (k : Nat) : List (List Int) := cs2 F U B i u j ++ (B.take k).map fun v => u ++ (x ++ v)
section
variable {F U B : List (List Int)} {i j k : Nat}
theorem cs1_zero : cs1 F U B 0 = [] := rfl
theorem cs1_all : cs1 F U B F.length = crsW F (crsW U B) := by unfold cs1; rw [List.take_length]
theorem cs1_next (h : i < F.length) : cs1 F U B (i + 1) = cs2 F U B i F[i] U.length := by
  unfold cs2 cs1
  rw [crsW_next h, List.take_length]
theorem cs2_zero {u : List Int} : cs2 F U B i u 0 = cs1 F U B i := by simp [cs2, crsW]
theorem cs2_next {u : List Int} (h : j < U.length) : cs2 F U B i u (j + 1) = cs3 F U B i u j U[j] B.length := by
  unfold cs3 cs2
  rw [crsW_next h, List.map_append, List.take_length, List.append_assoc, List.map_map]
  rfl
theorem cs3_zero {u x : List Int} : cs3 F U B i u j x 0 = cs2 F U B i u j := by simp [cs3]
theorem cs3_next {u x : List Int} (h : k < B.length) : cs3 F U B i u j x (k + 1) = cs3 F U B i u j x k ++ [u ++ (x ++ B[k])] := by
  unfold cs3
  rw [List.take_succ_eq_append_getElem h, List.map_append, List.append_assoc]
  rfl
theorem cs3_sub (hi : i < F.length) (hj : j < U.length) : ∀ w ∈ cs3 F U B i F[i] j U[j] k, w ∈ crsW F (crsW U B) := fun w hw => by
  unfold cs3 cs2 cs1 at hw
  rcases List.mem_append.1 hw with hw | hw
  . rcases List.mem_append.1 hw with hw | hw
    . obtain ⟨u, hu, x, hx, e⟩ := crsW_mem.1 hw
      exact crsW_mem.2 ⟨u, List.mem_of_mem_take hu, x, hx, e⟩
    . obtain ⟨y, hy, rfl⟩ := List.mem_map.1 hw
      obtain ⟨x, hx, v, hv, rfl⟩ := crsW_mem.1 hy
      exact crsW_mem.2 ⟨_, List.getElem_mem hi, _, crsW_mem.2 ⟨x, List.mem_of_mem_take hx, v, hv, rfl⟩, rfl⟩
  . obtain ⟨v, hv, rfl⟩ := List.mem_map.1 hw
    exact crsW_mem.2 ⟨_, List.getElem_mem hi, _, crsW_mem.2 ⟨_, List.getElem_mem hj, v, List.mem_of_mem_take hv, rfl⟩, rfl⟩
end
noncomputable def tlW (s : Int) (nx ou : List (List Int)) : List (List Int) := if (tsD s nx ou).1 = [] then [[]] else (tsD s nx ou).1
noncomputable def csF (s : Int) (nx : List (List Int)) : List (List Int) := uniqW (trP nx.length (cvR (covL nx) s.toNat))
def csU (n e : Nat) : List (List Int) := upN n (gN n (e + 1))
noncomputable def csP (s : Int) (nx ou : List (List Int)) (e : Nat) : List (List Int) := crsW (csF s nx) (crsW (csU nx.length e) (tlW s nx ou))
noncomputable def csD (s o : Int) (nx ou : List (List Int)) (e : Int) : List (List Int) × Int :=
  if machOk s o nx ou then (if inB e 0 2 then (if (decide (((covL nx).length : Int) < s) || !(tsD s nx ou).2) then ([], 4) else if (uniqW (csP s nx ou e.toNat)).length <= 400 then (maxW (csP s nx ou e.toNat), 0) else ([], 3)) else ([], 2)) else ([], 1)
def WdK (n m : Nat) (ws : List (List Int)) : Prop := ∀ w ∈ ws, w.length <= m /\ ∀ l ∈ w, 0 <= l /\ l < (n : Int)
theorem wdK_crs {n a b : Nat} {C U : List (List Int)} (h1 : WdK n a C) (h2 : WdK n b U) : WdK n (a + b) (crsW C U) := fun w hw => by
  obtain ⟨u, hu, x, hx, rfl⟩ := crsW_mem.1 hw
  have k1 := h1 u hu
  have k2 := h2 x hx
  refine ⟨by rw [List.length_append]; omega, fun l hl => ?_⟩
  rcases List.mem_append.1 hl with hl | hl
  . exact k1.2 l hl
  . exact k2.2 l hl
section
variable {s o : Int} {nx ou : List (List Int)}
theorem tsD_ok (m : MV s o nx ou) : (tsD s nx ou).1.length <= 100 /\ WdK nx.length 161 (tsD s nx ou).1 := by
  have hs := m.s1
  unfold tsD
  split
  . rename_i h
    have := tlA_ok m s.toNat (by omega) fun a b h1 h2 h3 => h a b h2 (by omega)
    exact ⟨by have := this.len; show (tlA _ _ _ _).length <= _; omega, this.wl⟩
  . exact ⟨by simp, fun w hw => by simp at hw⟩
theorem tlW_ok (m : MV s o nx ou) : (tlW s nx ou).length <= 100 /\ WdK nx.length 161 (tlW s nx ou) /\ tlW s nx ou ≠ [] := by
  have h := tsD_ok m
  unfold tlW
  split
  . exact ⟨by simp, fun w hw => by simp at hw; subst hw; simp, by simp⟩
  . rename_i hn; exact ⟨h.1, h.2, hn⟩
theorem csF_ok (m : MV s o nx ou) : (csF s nx).length <= 40 /\ WdK nx.length 11 (csF s nx) := by
  have hs := m.s1
  have hn := m.n1
  obtain ⟨hC, hCw⟩ := cvR_len m
  unfold csF
  have h1 := uniqW_len (trP nx.length (cvR (covL nx) s.toNat))
  have h2 : (trP nx.length (cvR (covL nx) s.toNat)).length <= 10 * 4 := by
    unfold trP
    rw [crsW_len, trU_len]
    exact Nat.mul_le_mul (by omega) (by omega)
  refine ⟨by omega, fun w hw => ?_⟩
  exact wdK_crs (a := 10) (b := 1) hCw (trU_wl hn.1) w (uniqW_mem.1 hw)
theorem csU_ok {n e : Nat} (hn : 1 <= n /\ n <= 3) (he : e <= 2) : (csU n e).length <= 1093 /\ WdK n 2 (csU n e) := by
  refine ⟨by unfold csU; rw [upN_length]; exact gN_le hn (by omega), fun w hw => ?_⟩
  obtain ⟨i, hi, rfl⟩ := List.mem_map.1 hw
  have := (wN_lt hn.1 (e + 1) i).2 (List.mem_range.1 hi)
  exact ⟨by omega, wN_el hn.1 i⟩
theorem csP_ok (m : MV s o nx ou) {e : Nat} (he : e <= 2) : WdK nx.length 174 (csP s nx ou e) := wdK_crs (a := 11) (b := 163) (csF_ok m).2 (wdK_crs (a := 2) (b := 161) (csU_ok m.n1 he).2 (tlW_ok m).2.1)
end
theorem spec_CompleteSuite {s o e : Int} {nx ou : List (List Int)} (h1 : RowsOk nx) (h2 : RowsOk ou) : AC Tryz.prog 7 [mach s o nx ou, .int .i64 e] (.tup [rows (csD s o nx ou e).1, .int .i64 (csD s o nx ou e).2]) := by
  have e1 := spec_l06Ok (s := s) (o := o) h1 h2
  have e2 := spec_l00In (n := e) (lo := 0) (hi := 2)
  unfold csD
  by_cases hv : machOk s o nx ou = true
  . rw [if_pos hv]
    rw [hv] at e1
    by_cases hr : inB e 0 2 = true
    . rw [if_pos hr]
      rw [hr] at e2
      have m := mv_of hv
      have hs := m.s1
      have hn := m.n1
      have hle : (List.map ints nx).length = nx.length := by simp
      have he := inB_iff.1 hr
      obtain ⟨k, rfl⟩ : ∃ k : Nat, e = k := ⟨e.toNat, by omega⟩
      rw [Int.toNat_natCast]
      have e3 := spec_l07Cover m
      have e4 := spec_l06TellingSet m
      by_cases hc : ((covL nx).length : Int) < s
      . rw [decide_eq_true hc] at e3 ⊢
        rw [if_pos hc] at e3
        rw [Bool.true_or, if_pos rfl]
        generalize tsD s nx ou = ts at *
        unfold mach at *
        refine ac_intro tabIs _ Tryz.func7 rfl rfl Tryz.ntmps7 rfl rfl fun w0 ok0 he0 => ?_
        repeat (first | refine zc ?_ | refine zk (e := by exact e1) (n := ?_) | refine zk (e := by exact e2) (n := ?_) | refine zk (e := by exact e3) (n := ?_) | refine zk (e := by exact e4) (n := ?_) | refine zv ?_ | refine zg ?_)
        refine zt ?_
        rfl
      . rw [decide_eq_false hc] at e3 ⊢
        rw [if_neg hc] at e3
        rw [Bool.false_or]
        obtain ⟨hC, hCw⟩ := cvR_len m
        have e5 := spec_l07Transitions m (C := cvR (covL nx) s.toNat) (by omega) fun w hw => (hCw w hw).1
        have e6 : AC Tryz.prog 44 [.int .i64 (List.map ints nx).length, .int .i64 k] (rows (csU nx.length k)) := by rw [hle]; exact spec_l07Up m.n1 (by omega)
        obtain ⟨hF1, hF2⟩ := csF_ok m
        obtain ⟨hU1, hU2⟩ := csU_ok m.n1 (show k <= 2 by omega)
        obtain ⟨hB1, hB2, hB0⟩ := tlW_ok m
        have hPw := csP_ok m (show k <= 2 by omega)
        have htl : tlW s nx ou = if (tsD s nx ou).1 = [] then [[]] else (tsD s nx ou).1 := rfl
        have hP : csP s nx ou k = crsW (csF s nx) (crsW (csU nx.length k) (tlW s nx ou)) := rfl
        rw [show uniqW (trP nx.length (cvR (covL nx) s.toNat)) = csF s nx from rfl] at e5
        generalize tsD s nx ou = ts at *
        obtain ⟨ts, tb⟩ := ts
        dsimp only at *
        cases tb with
        | false =>
          rw [Bool.not_false, if_pos rfl]
          unfold mach at *
          refine ac_intro tabIs _ Tryz.func7 rfl rfl Tryz.ntmps7 rfl rfl fun w0 ok0 he0 => ?_
          repeat (first | refine zc ?_ | refine zk (e := by exact e1) (n := ?_) | refine zk (e := by exact e2) (n := ?_) | refine zk (e := by exact e3) (n := ?_) | refine zk (e := by exact e4) (n := ?_) | refine zv ?_ | refine zg ?_)
          refine zt ?_
          rfl
        | true =>
          rw [Bool.not_true, if_neg (by simp)]
          generalize csF s nx = F at *
          generalize csU nx.length k = U at *
          generalize tlW s nx ou = B at *
          generalize csP s nx ou k = P at *
          have hFm : (List.map ints F).length = F.length := by simp
          have hUm : (List.map ints U).length = U.length := by simp
          have hBm : (List.map ints B).length = B.length := by simp
          have htm : (List.map ints ts).length = ts.length := by simp
          generalize cvR (covL nx) s.toNat = C at *
          have hinto : ∀ (Q : List (List Int)) (w : List Int), (∀ v ∈ Q, v ∈ P) -> (uniqW Q).length <= 400 -> w.length <= 174 -> AC Tryz.prog 46 [rows (uniqW Q), ints w] (rows (uniqW (Q ++ [w]))) := fun Q w h1 h2 h3 => by
            rw [<- uniqW_snoc]
            exact spec_l07Into (uniqW_sorted Q) (by omega) (fun u hu => by have := (hPw u (h1 u (uniqW_mem.1 hu))).1; omega) (by omega)
          have e7 := fun (h : (uniqW P).length <= 400) => spec_l07Maximal (ws := uniqW P) (by omega) (fun w hw => by have := (hPw w (uniqW_mem.1 hw)).1; omega)
          rw [show maxW (uniqW P) = maxW P from maxW_congr fun w => uniqW_mem] at e7
          have hcase : (decide ((((List.map ints ts).length : Nat) : Int) = 0) = true /\ B = [[]]) \/ (decide ((((List.map ints ts).length : Nat) : Int) = 0) = false /\ B = ts) := by
            by_cases hts : ts = []
            . rw [if_pos hts] at htl; exact .inl ⟨by rw [hts]; rfl, htl⟩
            . rw [if_neg hts] at htl
              have : ¬ ts.length = 0 := fun h => hts (List.length_eq_zero_iff.1 h)
              exact .inr ⟨decide_eq_false (by omega), htl⟩
          clear htl
          unfold mach at *
          refine ac_intro tabIs _ Tryz.func7 rfl rfl Tryz.ntmps7 rfl rfl fun w0 ok0 he0 => ?_
          rcases hcase with ⟨hl0, hBe⟩ | ⟨hl0, hBe⟩
          all_goals
            repeat (first | refine zc ?_ | refine zk (e := by exact e1) (n := ?_) | refine zk (e := by exact e2) (n := ?_) | refine zk (e := by exact e3) (n := ?_) | refine zk (e := by exact e4) (n := ?_) | refine zk (e := by exact e5) (n := ?_) | refine zk (e := by exact e6) (n := ?_) | refine zv ?_ | refine zg ?_)
            refine awp_loop (fun i : Nat => i <= F.length /\ (uniqW (cs1 F U B i)).length <= 400) (fun i => [(8, .d (rows B)), (10, .d (rows F)), (11, .d (rows U)), (12, .d (rows (uniqW (cs1 F U B i)))), (13, .d (.int .i64 i))]) (fun _ => []) (fun i => F.length - i) 0 ⟨by omega, by rw [cs1_zero, uniqW_nil]; simp⟩ ?_ rfl ?_
            . rw [cs1_zero, uniqW_nil]
              subst hBe
              exact zs
            . rintro i ⟨hi, hinv⟩
              by_cases hil : i < F.length
              . have hxF := el_row hil
                have hF3 := hF2 _ (List.getElem_mem hil)
                have hnx1 := cs1_next (F := F) (U := U) (B := B) hil
                have hsub := fun j k hj => cs3_sub (F := F) (U := U) (B := B) (i := i) (j := j) (k := k) hil hj
                have hz2 := cs2_zero (F := F) (U := U) (B := B) (i := i) (u := F[i])
                generalize F[i] = u at *
                repeat (first | refine zc ?_ | refine zv ?_)
                refine awp_loop (fun j : Nat => j <= U.length /\ (uniqW (cs2 F U B i u j)).length <= 400) (fun j => [(8, .d (rows B)), (10, .d (rows F)), (11, .d (rows U)), (12, .d (rows (uniqW (cs2 F U B i u j)))), (13, .d (.int .i64 i)), (14, .d (.int .i64 j))]) (fun _ => []) (fun j => U.length - j) 0 ⟨by omega, by rw [hz2]; exact hinv⟩ ?_ rfl ?_
                . rw [hz2]
                  exact zs
                . rintro j ⟨hj, hinv2⟩
                  by_cases hjl : j < U.length
                  . have hxU := el_row hjl
                    have hU3 := hU2 _ (List.getElem_mem hjl)
                    have hnx2 := cs2_next (F := F) (U := U) (B := B) (i := i) (u := u) hjl
                    have hsub2 := fun k => hsub j k hjl
                    have hz3 := cs3_zero (F := F) (U := U) (B := B) (i := i) (j := j) (u := u) (x := U[j])
                    generalize U[j] = x at *
                    repeat (first | refine zc ?_ | refine zv ?_)
                    refine awp_loop (fun k : Nat => k <= B.length /\ (uniqW (cs3 F U B i u j x k)).length <= 400) (fun k => [(8, .d (rows B)), (10, .d (rows F)), (11, .d (rows U)), (12, .d (rows (uniqW (cs3 F U B i u j x k)))), (13, .d (.int .i64 i)), (14, .d (.int .i64 j)), (15, .d (.int .i64 k))]) (fun _ => []) (fun k => B.length - k) 0 ⟨by omega, by rw [hz3]; exact hinv2⟩ ?_ rfl ?_
                    . rw [hz3]
                      exact zs
                    . rintro k ⟨hk, hinv3⟩
                      by_cases hkl : k < B.length
                      . have hxB := el_row hkl
                        have hB3 := hB2 _ (List.getElem_mem hkl)
                        have hnx3 := cs3_next (F := F) (U := U) (B := B) (i := i) (j := j) (u := u) (x := x) hkl
                        have hsb := hsub2 k
                        have hsb1 := uniqW_mono (hsub2 (k + 1))
                        rw [<- hP] at hsb hsb1
                        rw [hnx3] at hsb1
                        generalize B[k] = v at *
                        have e8 : AC Tryz.prog 46 [rows (uniqW (cs3 F U B i u j x k)), .lst ((u.map (D.int .i64) ++ x.map (D.int .i64)) ++ v.map (D.int .i64))] (rows (uniqW (cs3 F U B i u j x k ++ [u ++ (x ++ v)]))) := by
                          have := hinto (cs3 F U B i u j x k) (u ++ (x ++ v)) hsb hinv3 (by rw [List.length_append, List.length_append]; omega)
                          rwa [show ints (u ++ (x ++ v)) = .lst ((u.map (D.int .i64) ++ x.map (D.int .i64)) ++ v.map (D.int .i64)) by simp [ints]] at this
                        have eo := spec_l00OwnH (ns := u) (by omega)
                        repeat (first | refine zcn ?_ | refine zv ?_)
                        refine u_m [(4, [500]), (9, [500]), (14, [500])] (.tk [500] [0, 1, 2, 3, 5, 6, 7, 8, 10, 11, 12, 13] (.tk [] [4, 9, 14, 15] .done)) ?_
                        repeat (first | refine zc ?_ | refine zv ?_)
                        refine hclM [] [(30000, 500)] eo ?_
                        refine v_o ?_ (ho := by (intro rest; apply wo_append; (iterate 14 exact rfl); exact elsOk_ints x; (simp; omega)))
                        refine v_o ?_ (ho := by (intro rest; apply wo_append; (iterate 14 exact rfl); exact elsOk_ints v; (simp; omega)))
                        repeat (first | refine zcr ?_ | refine zv ?_)
                        refine awp_freeze 500 rfl rfl ?_
                        rw [<- hnx3] at e8 hsb1
                        by_cases hov : (uniqW (cs3 F U B i u j x (k + 1))).length <= 400
                        . obtain ⟨R, hR⟩ : ∃ R, uniqW (cs3 F U B i u j x (k + 1)) = R := ⟨_, rfl⟩
                          rw [hR] at e8 hov
                          repeat (first | refine zc ?_ | refine zk (e := by exact e8) (n := ?_) | refine zv ?_ | refine zg ?_)
                          refine loop_n (k + 1) ⟨by omega, by rw [hR]; exact hov⟩ ?_ rfl (by omega)
                          rw [hR]
                          exact zs
                        . rw [if_neg (by omega)]
                          generalize uniqW (cs3 F U B i u j x (k + 1)) = R at *
                          repeat (first | refine zc ?_ | refine zk (e := by exact e8) (n := ?_) | refine zv ?_ | refine zg ?_)
                          refine zt ?_
                          rfl
                      . have hke : k = B.length := by omega
                        subst hke
                        rw [<- hnx2] at hinv3 ⊢
                        repeat (first | refine zc ?_ | refine zv ?_)
                        refine loop_n (j + 1) ⟨by omega, hinv3⟩ ?_ rfl (by omega)
                        exact zs
                  . have hje : j = U.length := by omega
                    subst hje
                    rw [<- hnx1] at hinv2 ⊢
                    repeat (first | refine zc ?_ | refine zv ?_)
                    refine loop_n (i + 1) ⟨by omega, hinv2⟩ ?_ rfl (by omega)
                    exact zs
              . have hie : i = F.length := by omega
                subst hie
                rw [cs1_all, <- hP] at hinv ⊢
                rw [if_pos hinv]
                have e9 := e7 hinv
                repeat (first | refine zc ?_ | refine zk (e := by exact e9) (n := ?_) | refine zv ?_)
                refine zt ?_
                rfl
    . rw [if_neg hr]
      rw [Bool.not_eq_true] at hr
      rw [hr] at e2
      unfold mach at *
      refine ac_intro tabIs _ Tryz.func7 rfl rfl Tryz.ntmps7 rfl rfl fun w0 ok0 he0 => ?_
      repeat (first | refine zc ?_ | refine zk (e := by exact e1) (n := ?_) | refine zk (e := by exact e2) (n := ?_) | refine zv ?_)
      refine zt ?_
      rfl
  . rw [if_neg hv]
    rw [Bool.not_eq_true] at hv
    rw [hv] at e1
    unfold mach at *
    refine ac_intro tabIs _ Tryz.func7 rfl rfl Tryz.ntmps7 rfl rfl fun w0 ok0 he0 => ?_
    repeat (first | refine zc ?_ | refine zk (e := by exact e1) (n := ?_) | refine zv ?_)
    refine zt ?_
    rfl
end Go.Proofs.YtfemhnmggobhjaaGreat
namespace Go.Proofs.YtfemhnmggobhjaaGreat
open Go
attribute [local irreducible] awp awpL awpQL awpQ awpM pWalk Qt AC thenQ blockQ loopQ OpTo
set_option linter.unusedVariables false
set_option linter.unusedSimpArgs false
set_option maxHeartbeats 2000000
attribute [local irreducible] HC HX
def kvS (O : List (List Int)) : List (D × D) := O.map fun w => (.str (kyB w), .bool true)
theorem kvS_keys : ∀ O, keysS (kvS O) = true
  | [] => rfl
  | w :: O => kvS_keys O
theorem kvS_get {w : List Int} : ∀ {O : List (List Int)}, w ∈ O -> mgetS (kyB w) (kvS O) = some (.bool true)
  | v :: O, h => by
    show (if kyB w = kyB v then some (D.bool true) else mgetS (kyB w) (kvS O)) = _
    by_cases e : kyB w = kyB v
    . rw [if_pos e]
    . rw [if_neg e]
      rcases List.mem_cons.1 h with h | h
      . exact absurd (by rw [h]) e
      . exact kvS_get h
theorem kvS_none {w : List Int} : ∀ {O : List (List Int)}, (∀ v ∈ O, kyB w ≠ kyB v) -> mgetS (kyB w) (kvS O) = none
  | [], _ => rfl
  | v :: O, h => by
    show (if kyB w = kyB v then some (D.bool true) else mgetS (kyB w) (kvS O)) = _
    rw [if_neg (h v (List.mem_cons_self ..))]
    exact kvS_none fun u hu => h u (List.mem_cons_of_mem _ hu)
theorem kvS_put {w : List Int} : ∀ {O : List (List Int)}, (∀ v ∈ O, kyB w ≠ kyB v) -> mputS (kyB w) (.bool true) (kvS O) = kvS (O ++ [w])
  | [], _ => rfl
  | v :: O, h => by
    show (if kyB w = kyB v then _ else (D.str (kyB v), D.bool true) :: mputS (kyB w) (.bool true) (kvS O)) = _
    rw [if_neg (h v (List.mem_cons_self ..)), kvS_put fun u hu => h u (List.mem_cons_of_mem _ hu)]
    rfl
theorem impl_CompleteSuite1 {e : Int} : AC Tryz.prog 50 [.ptr (.int .i64 e)] (.bool (inB e 0 2)) := by
  have e1 := impl_within (n := e) (lo := 0) (hi := 2)
  refine ac_intro tabIs _ Tryz.func50 rfl rfl Tryz.ntmps50 rfl rfl fun w0 ok0 he0 => ?_
  repeat (first | refine zc ?_ | refine zk (e := by exact e1) (n := ?_) | refine zv ?_)
  refine zt ?_
  rfl
theorem impl_CompleteSuite {s o e : Int} {nx ou : List (List Int)} (h1 : RowsOk nx) (h2 : RowsOk ou) :
    HC Tryz.prog 9 [.d (mach s o nx ou), .d (.int .i64 e)] [] (.tup [.own 30000, .d (.int .i64 (csD s o nx ou e).2)]) [(30000, .rows 43 2 1 (rws (csD s o nx ou e).1) none)] := by
  have e1 := impl_code (s := s) (o := o) (g := 50) (cap := [.ptr (.int .i64 e)]) h1 h2 fun _ => impl_CompleteSuite1
  unfold csD
  by_cases hv : machOk s o nx ou = true
  . rw [if_pos hv] at e1 ⊢
    by_cases hr : inB e 0 2 = true
    . rw [if_pos hr] at e1 ⊢
      have m := mv_of hv
      have hs := m.s1
      have hn := m.n1
      have he := inB_iff.1 hr
      obtain ⟨k, rfl⟩ : ∃ k : Nat, e = k := ⟨e.toNat, by omega⟩
      rw [Int.toNat_natCast]
      have e3 : AC Tryz.prog 52 [mach s o nx ou] (.tup [.lst ((rws (csF s nx)).map D.lst), .bool (!decide (((covL nx).length : Int) < s))]) := ac_of_hc (impl_transitions m) rfl
      rw [rws_dat] at e3
      have e4 := impl_tellingSet m
      have e6 : AC Tryz.prog 54 [mach s o nx ou, .int .i64 k] (.lst ((rws (csU nx.length k)).map D.lst)) := ac_of_hc (impl_upTo (s := s) (o := o) (nx := nx) (ou := ou) (m := k) hn (by omega)) rfl
      rw [rws_dat] at e6
      obtain ⟨hF1, hF2⟩ := csF_ok m
      obtain ⟨hU1, hU2⟩ := csU_ok m.n1 (show k <= 2 by omega)
      obtain ⟨hB1, hB2, hB0⟩ := tlW_ok m
      have hPw := csP_ok m (show k <= 2 by omega)
      have htl : tlW s nx ou = if (tsD s nx ou).1 = [] then [[]] else (tsD s nx ou).1 := rfl
      have hP : csP s nx ou k = crsW (csF s nx) (crsW (csU nx.length k) (tlW s nx ou)) := rfl
      generalize tsD s nx ou = ts at *
      obtain ⟨ts, tb⟩ := ts
      dsimp only at *
      generalize (decide (((covL nx).length : Int) < s)) = cb at *
      have herr : (cb || !tb) = true -> HC Tryz.prog 9 [.d (mach s o nx ou), .d (.int .i64 k)] [] (.tup [.own 30000, .d (.int .i64 4)]) [(30000, .rows 43 2 1 (rws []) none)] := fun hb => by
        cases cb <;> cases tb
        case false.true => cases hb
        all_goals
          unfold mach at *
          refine hc_intro tabIs _ Tryz.func9 rfl rfl Tryz.ntmps9 rfl rfl rfl ?_ fun w0 ok0 XM XA anc he0 hX0 => ?_
          . exact likeIn_nil
          repeat (first | refine zc ?_ | refine zk (e := by exact e1) (n := ?_) | refine zk (e := by exact e3) (n := ?_) | refine zk (e := by exact e4) (n := ?_) | refine zv ?_ | refine zg ?_)
          refine awp_nilSlot 4 300 43 1 rfl rfl rfl ?_
          refine awp_toRows 300 2 1 rfl rfl rfl rfl ?_
          (refine zb ?_; refine u_rH [(300, 30000)] ?_ ?_)
          . rfl
          . rfl
      cases hcb : (cb || !tb) with
      | true =>
        rw [if_pos rfl]
        exact herr hcb
      | false =>
        rw [if_neg (by simp)]
        obtain ⟨rfl, rfl⟩ : cb = false /\ tb = true := by cases cb <;> cases tb <;> simp at hcb ⊢
        clear herr hcb
        generalize csF s nx = F at *
        generalize csU nx.length k = U at *
        generalize tlW s nx ou = B at *
        generalize csP s nx ou k = P at *
        have hFm : (List.map ints F).length = F.length := by simp
        have hUm : (List.map ints U).length = U.length := by simp
        have hBm : (List.map ints B).length = B.length := by simp
        have htm : (List.map ints ts).length = ts.length := by simp
        have hcase : (decide ((((List.map ints ts).length : Nat) : Int) = 0) = true /\ B = [[]]) \/ (decide ((((List.map ints ts).length : Nat) : Int) = 0) = false /\ B = ts) := by
          by_cases hts : ts = []
          . rw [if_pos hts] at htl; exact .inl ⟨by rw [hts]; rfl, htl⟩
          . rw [if_neg hts] at htl
            have : ¬ ts.length = 0 := fun h => hts (List.length_eq_zero_iff.1 h)
            exact .inr ⟨decide_eq_false (by omega), htl⟩
        clear htl
        have hkey : ∀ w ∈ P, ∀ n ∈ w, 0 <= n /\ n < 256 := fun w hw n hn' => by have := (hPw w hw).2 n hn'; omega
        have hkO : ∀ (Q : List (List Int)) (w : List Int), (∀ v ∈ Q, v ∈ P) -> w ∈ P -> w ∉ ddK Q -> ∀ v ∈ ddK Q, kyB w ≠ kyB v := fun Q w h1 h2 h3 v hv' hk => by
          have := kyB_inj (hkey w h2) (hkey v (h1 v ((ddK_spec Q).2 v |>.1 hv'))) hk
          subst this
          exact h3 hv'
        unfold mach at *
        refine hc_intro tabIs _ Tryz.func9 rfl rfl Tryz.ntmps9 rfl rfl rfl ?_ fun w0 ok0 XM XA anc he0 hX0 => ?_
        . exact likeIn_nil
        rcases hcase with ⟨hl0, hBe⟩ | ⟨hl0, hBe⟩
        all_goals
          repeat (first | refine v_w (t := 48) ?_ | refine zc ?_ | refine u_w (t := 48) ?_ | refine zk (e := by exact e1) (n := ?_) | refine zk (e := by exact e3) (n := ?_) | refine zk (e := by exact e4) (n := ?_) | refine zv ?_ | refine zg ?_)
          refine awp_permTo [(47, .map (kvS (ddK (cs1 F U B 0)))), (48, .arr 43 1 (tagL 2 1 [] (rws (ddK (cs1 F U B 0)))))] (by as_aux_lemma => kernel_rfl) ?_
          refine awp_loop (fun q : Nat × List (Option Nat) => q.1 <= F.length /\ (uniqW (cs1 F U B q.1)).length <= 400 /\ Tags w0.heap.size q.2 (rws (ddK (cs1 F U B q.1)))) (fun q => [(2, .d (.ptr (.agg [.int .i64 s, .int .i64 o, rows nx, rows ou]))), (3, .d (.ptr (.int .i64 k))), (9, .d (rows B)), (11, .own 47), (12, .own 48), (49, .d (rows F)), (50, .d (.int .i64 (List.map ints F).length)), (51, .d (.int .i64 q.1))])
            (fun q => [(47, .map (kvS (ddK (cs1 F U B q.1)))), (48, .arr 43 1 (tagL 2 1 q.2 (rws (ddK (cs1 F U B q.1)))))]) (fun q => F.length - q.1) (0, []) ⟨Nat.zero_le _, by rw [cs1_zero, uniqW_nil]; simp, ⟨rfl, by simp, by simp, by simp⟩⟩ ?_ rfl ?_
          . subst hBe
            exact zs
          . rintro ⟨i, bs⟩ ⟨hi, hinv, T⟩
            dsimp only at hi hinv T ⊢
            by_cases hil : i < F.length
            . have hxF := el_row hil
              have hF3 := hF2 _ (List.getElem_mem hil)
              have hnx1 := cs1_next (F := F) (U := U) (B := B) hil
              have hsub := fun j k hj => cs3_sub (F := F) (U := U) (B := B) (i := i) (j := j) (k := k) hil hj
              have hz2 := cs2_zero (F := F) (U := U) (B := B) (i := i) (u := F[i])
              generalize F[i] = u at *
              repeat (first | refine zc ?_ | refine zk (e := by exact e6) (n := ?_) | refine zv ?_)
              refine awp_loop (fun q : Nat × List (Option Nat) => q.1 <= U.length /\ (uniqW (cs2 F U B i u q.1)).length <= 400 /\ Tags w0.heap.size q.2 (rws (ddK (cs2 F U B i u q.1)))) (fun q => [(2, .d (.ptr (.agg [.int .i64 s, .int .i64 o, rows nx, rows ou]))), (3, .d (.ptr (.int .i64 k))), (9, .d (rows B)), (11, .own 47), (12, .own 48), (14, .d (ints u)), (49, .d (rows F)), (50, .d (.int .i64 (List.map ints F).length)), (51, .d (.int .i64 i)), (57, .d (rows U)), (58, .d (.int .i64 (List.map ints U).length)), (59, .d (.int .i64 q.1))])
                (fun q => [(47, .map (kvS (ddK (cs2 F U B i u q.1)))), (48, .arr 43 1 (tagL 2 1 q.2 (rws (ddK (cs2 F U B i u q.1)))))]) (fun q => U.length - q.1) (0, bs) ⟨Nat.zero_le _, by rw [hz2]; exact hinv, by rw [hz2]; exact T⟩ ?_ ?_ ?_
              . exact zs
              . show [_, _] = _
                rw [hz2]
              . rintro ⟨j, cs⟩ ⟨hj, hinv2, T2⟩
                dsimp only at hj hinv2 T2 ⊢
                by_cases hjl : j < U.length
                . have hxU := el_row hjl
                  have hU3 := hU2 _ (List.getElem_mem hjl)
                  have hnx2 := cs2_next (F := F) (U := U) (B := B) (i := i) (u := u) hjl
                  have hsub2 := fun k => hsub j k hjl
                  have hz3 := cs3_zero (F := F) (U := U) (B := B) (i := i) (j := j) (u := u) (x := U[j])
                  generalize U[j] = x at *
                  repeat (first | refine zc ?_ | refine zv ?_)
                  refine awp_loop (fun q : Nat × List (Option Nat) => q.1 <= B.length /\ (uniqW (cs3 F U B i u j x q.1)).length <= 400 /\ Tags w0.heap.size q.2 (rws (ddK (cs3 F U B i u j x q.1)))) (fun q => [(2, .d (.ptr (.agg [.int .i64 s, .int .i64 o, rows nx, rows ou]))), (3, .d (.ptr (.int .i64 k))), (9, .d (rows B)), (11, .own 47), (12, .own 48), (14, .d (ints u)), (16, .d (ints x)), (49, .d (rows F)), (50, .d (.int .i64 (List.map ints F).length)), (51, .d (.int .i64 i)), (57, .d (rows U)), (58, .d (.int .i64 (List.map ints U).length)), (59, .d (.int .i64 j)), (63, .d (rows B)), (64, .d (.int .i64 (List.map ints B).length)), (65, .d (.int .i64 q.1))])
                    (fun q => [(47, .map (kvS (ddK (cs3 F U B i u j x q.1)))), (48, .arr 43 1 (tagL 2 1 q.2 (rws (ddK (cs3 F U B i u j x q.1)))))]) (fun q => B.length - q.1) (0, cs) ⟨Nat.zero_le _, by rw [hz3]; exact hinv2, by rw [hz3]; exact T2⟩ ?_ ?_ ?_
                  . exact zs
                  . show [_, _] = _
                    rw [hz3]
                  . rintro ⟨k', ds⟩ ⟨hk, hinv3, T3⟩
                    dsimp only at hk hinv3 T3 ⊢
                    by_cases hkl : k' < B.length
                    . have hxB := el_row hkl
                      have hB3 := hB2 _ (List.getElem_mem hkl)
                      have hnx3 := cs3_next (F := F) (U := U) (B := B) (i := i) (j := j) (u := u) (x := x) hkl
                      have hsb := hsub2 k'
                      have hsb1 := hsub2 (k' + 1)
                      have hmono := uniqW_mono hsb1
                      rw [<- hP] at hsb hsb1 hmono
                      rw [hnx3] at hsb1
                      generalize B[k'] = v at *
                      have eJ := impl_joinWords (ps := [u, x, v]) (by simp) (by simp; omega)
                      rw [show [u, x, v].flatten = u ++ (x ++ v) by simp] at eJ
                      have hwl : (u ++ (x ++ v)).length <= 174 := by rw [List.length_append, List.length_append]; omega
                      have hwP : u ++ (x ++ v) ∈ P := hsb1 _ (by simp)
                      have ek := impl_keyOf (hkey _ hwP) (by omega)
                      have hkn := hkO _ _ hsb hwP
                      have hst := ddK_snoc (cs3 F U B i u j x k') (u ++ (x ++ v))
                      rw [<- hnx3] at hst
                      have hlO := ddK_len (cs3 F U B i u j x k')
                      have hlO1 := ddK_len (cs3 F U B i u j x (k' + 1))
                      generalize u ++ (x ++ v) = w at *
                      obtain ⟨O1, hO1⟩ : ∃ O1, ddK (cs3 F U B i u j x (k' + 1)) = O1 := ⟨_, rfl⟩
                      rw [hO1] at hst hlO1
                      generalize ddK (cs3 F U B i u j x k') = O at *
                      have hkeys := kvS_keys O
                      have hlT : (tagL 2 1 ds (rws O)).length = O.length := by rw [tagL_length T3.len, rws_length]
                      by_cases hm : w ∈ O
                      . rw [if_pos hm] at hst
                        have hg : MGtS (kyB w) (kvS O) (some (.bool true)) := ⟨kvS_get hm⟩
                        repeat (first | refine zc ?_ | refine zv ?_)
                        refine hcl [] [(30000, 500)] eJ ?_
                        refine awpL_freeze 500 rfl rfl ?_
                        repeat (first | refine zc ?_ | ((first | apply x_l | apply x_q | apply x_lr | apply x_qr); (focus (first | (apply wa_gtS; (iterate 11 (focus (first | exact rfl | (first | assumption | omega | (simp; omega) | (simp; done) | rfl))))))); exact rfl) | refine zk (e := by exact ek) (n := ?_) | (apply v_x; (iterate 2 exact rfl); (focus (intro ok0 nw hle; (first | (apply wa_gtS; (iterate 11 (focus (first | exact rfl | (first | assumption | omega | (simp; omega) | (simp; done) | rfl)))))))); (iterate 2 exact rfl)) | refine zv ?_)
                        refine loop_n (k' + 1, ds) ⟨by show k' + 1 <= _; omega, by rw [<- hlO1, hst, hlO]; exact hinv3, by rw [hO1, hst]; exact T3⟩ ?_ ?_ (by show _ - (k' + 1) < _ - k'; omega)
                        . exact zs
                        . show _ = [_, _]
                          rw [hO1, hst]
                          rfl
                      . rw [if_neg hm] at hst
                        have hkn := hkn hm
                        have hg : MGtS (kyB w) (kvS O) none := ⟨kvS_none hkn⟩
                        have hput := kvS_put hkn
                        repeat (first | refine zc ?_ | refine zv ?_)
                        refine hcl [] [(30000, 500)] eJ ?_
                        refine awpL_tagPush 500 48 T3 rfl rfl rfl fun ob T4 => ?_
                        have hbn : ob = none -> w.map (D.int .i64) = [] := fun hn => tags_none (xs := O ++ [w]) (i := O.length) (by rw [rws_snoc]; exact T4) (by simp) (by rw [hn, <- List.length_map (f := fun _ => ()), List.getElem?_append_right (by rw [T3.len, rws_length]; simp)]; rw [T3.len, rws_length]; simp)
                        have ek2 := AC.le1 ek (tagD_le (e := 2) (sz := 1) hbn)
                        have helo : elsOk 1 [tagD 2 1 ob (w.map (D.int .i64))] = true := elsOk_tag
                        cases hob : ob
                        all_goals
                          rw [hob] at ek2
                          repeat (first | refine zc ?_ | ((first | apply x_l | apply x_q | apply x_lr | apply x_qr); (focus (first | (apply wa_gtS; (iterate 11 (focus (first | exact rfl | (first | assumption | omega | (simp; omega) | (simp; done) | rfl))))))); exact rfl) | refine zk (e := by exact ek2) (n := ?_) | (apply v_x; (iterate 2 exact rfl); (focus (intro ok0 nw hle; (first | (apply wa_gtS; (iterate 11 (focus (first | exact rfl | (first | assumption | omega | (simp; omega) | (simp; done) | rfl)))))))); (iterate 2 exact rfl)) | refine zv ?_)
                          (apply lto; (focus (apply wo_mapUpdateS; (iterate 8 exact rfl); exact hkeys)))
                          by_cases hov : O.length + 1 <= 400
                          . repeat (first | refine zcr ?_ | ((first | apply x_l | apply x_q | apply x_lr | apply x_qr); (focus (first | (apply wa_lit; (iterate 10 (focus (first | exact rfl | (first | assumption | omega | (simp; omega) | (simp; done) | rfl))))))); exact rfl) | (apply v_x; (iterate 2 exact rfl); (focus (intro ok0 nw hle; (first | (apply wa_lit; (iterate 10 (focus (first | exact rfl | (first | assumption | omega | (simp; omega) | (simp; done) | rfl)))))))); (iterate 2 exact rfl)) | refine zv ?_)
                            refine awp_region ?_
                            repeat (first | refine zcr ?_ | ((first | apply x_l | apply x_q | apply x_lr | apply x_qr); (focus (first | (apply wa_lit; (iterate 10 (focus (first | exact rfl | (first | assumption | omega | (simp; omega) | (simp; done) | rfl))))))); exact rfl) | (apply v_x; (iterate 2 exact rfl); (focus (intro ok0 nw hle; (first | (apply wa_lit; (iterate 10 (focus (first | exact rfl | (first | assumption | omega | (simp; omega) | (simp; done) | rfl)))))))); (iterate 2 exact rfl)) | refine zv ?_)
                            refine awp_perm _ rfl ?_
                            repeat (first | refine zc ?_ | refine zv ?_ | refine zg ?_)
                            refine loop_n (k' + 1, ds ++ [ob]) ⟨by show k' + 1 <= _; omega, by rw [<- hlO1, hst, List.length_append]; exact hov, by rw [hO1, hst, rws_snoc]; exact T4⟩ ?_ ?_ (by show _ - (k' + 1) < _ - k'; omega)
                            . exact zs
                            . show _ = [_, _]
                              rw [hO1, hst, rws_snoc, tagL_snoc T3.len, <- hput, hob]
                              rfl
                          . rw [hst, List.length_append, List.length_singleton] at hlO1
                            rw [if_neg (by omega)]
                            repeat (first | refine zc ?_ | ((first | apply x_l | apply x_q | apply x_lr | apply x_qr); (focus (first | (apply wa_lit; (iterate 10 (focus (first | exact rfl | (first | assumption | omega | (simp; omega) | (simp; done) | rfl))))))); exact rfl) | (apply v_x; (iterate 2 exact rfl); (focus (intro ok0 nw hle; (first | (apply wa_lit; (iterate 10 (focus (first | exact rfl | (first | assumption | omega | (simp; omega) | (simp; done) | rfl)))))))); (iterate 2 exact rfl)) | refine zv ?_ | refine zg ?_)
                            refine awp_nilSlot 4 300 43 1 rfl rfl rfl ?_
                            refine awp_toRows 300 2 1 rfl rfl rfl rfl ?_
                            (refine zb ?_; refine u_rH [(300, 30000)] ?_ ?_)
                            . rfl
                            . rfl
                    . have hke : k' = B.length := by omega
                      subst hke
                      rw [<- hnx2] at hinv3 T3 ⊢
                      repeat (first | refine zc ?_ | refine zv ?_)
                      refine loop_n (j + 1, ds) ⟨by show j + 1 <= _; omega, hinv3, T3⟩ ?_ rfl (by show _ - (j + 1) < _ - j; omega)
                      exact zs
                . have hje : j = U.length := by omega
                  subst hje
                  rw [<- hnx1] at hinv2 T2 ⊢
                  repeat (first | refine zc ?_ | refine zv ?_)
                  refine loop_n (i + 1, cs) ⟨by show i + 1 <= _; omega, hinv2, T2⟩ ?_ rfl (by show _ - (i + 1) < _ - i; omega)
                  exact zs
            . have hie : i = F.length := by omega
              subst hie
              rw [cs1_all, <- hP] at hinv T ⊢
              rw [if_pos hinv]
              have hbl : bs.length = (ddK P).length := by rw [T.len, rws_length]
              have hlP := ddK_len P
              have hmx : maxW (ddK P) = maxW P := maxW_congr (ddK_spec P).2
              have hdw : ∀ w ∈ ddK P, w.length <= 1048576 := fun w hw => by have := (hPw w ((ddK_spec P).2 w |>.1 hw)).1; omega
              generalize ddK P = O at *
              have e5 := impl_maximalH (tws_ok (e := 2) T hdw) (by unfold tws; simp; omega)
              obtain ⟨cs, k1, k2, -⟩ := sub_tags (e := 2) T (maxD (tws 2 bs O)) (maxD_sub _) (by rw [maxD_words]; exact nodup_ltW (uniqW_sorted _))
              rw [k1, tws_fst] at e5
              rw [maxD_words, tws_snd hbl, hmx] at k2 e5
              generalize maxW P = W at *
              refine awp_freeze 48 rfl rfl ?_
              repeat (first | refine zc ?_ | refine zv ?_)
              refine hcl [] [(30000, 501)] e5 ?_
              repeat (first | refine zc ?_ | refine zv ?_)
              refine awp_thawRows 4 501 rfl rfl k2 rfl (rws_clo _) rfl ?_
              (refine zb ?_; refine u_rH [(501, 30000)] ?_ ?_)
              . rfl
              . rfl
    . rw [if_neg hr] at e1 ⊢
      refine hc_intro tabIs _ Tryz.func9 rfl rfl Tryz.ntmps9 rfl rfl rfl ?_ fun w0 ok0 XM XA anc he0 hX0 => ?_
      . exact likeIn_nil
      repeat (first | refine zc ?_ | refine zk (e := by exact e1) (n := ?_) | refine zv ?_)
      refine awp_nilSlot 4 300 43 1 rfl rfl rfl ?_
      refine awp_toRows 300 2 1 rfl rfl rfl rfl ?_
      (refine zb ?_; refine u_rH [(300, 30000)] ?_ ?_)
      . rfl
      . rfl
  . rw [if_neg hv] at e1 ⊢
    refine hc_intro tabIs _ Tryz.func9 rfl rfl Tryz.ntmps9 rfl rfl rfl ?_ fun w0 ok0 XM XA anc he0 hX0 => ?_
    . exact likeIn_nil
    repeat (first | refine zc ?_ | refine zk (e := by exact e1) (n := ?_) | refine zv ?_)
    refine awp_nilSlot 4 300 43 1 rfl rfl rfl ?_
    refine awp_toRows 300 2 1 rfl rfl rfl rfl ?_
    (refine zb ?_; refine u_rH [(300, 30000)] ?_ ?_)
    . rfl
    . rfl
end Go.Proofs.YtfemhnmggobhjaaGreat
