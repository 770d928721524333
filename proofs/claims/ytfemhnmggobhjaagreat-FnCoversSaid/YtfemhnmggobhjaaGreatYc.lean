/- Keys of words; the words that are not the beginning of longer ones. No condition but bounds. -/
import Derived.Test.YtfemhnmggobhjaaGreatVh
import Derived.Test.YtfemhnmggobhjaaGreatFwSs
import Derived.Test.YtfemhnmggobhjaaGreatYa
namespace Go.Proofs.YtfemhnmggobhjaaGreat
open Go
attribute [local irreducible] awp awpL awpQL awpQ awpM pWalk Qt AC thenQ blockQ loopQ OpTo
set_option linter.unusedVariables false
set_option linter.unusedSimpArgs false
set_option maxHeartbeats 2000000
attribute [local irreducible] HC
def begB (v w : List Int) : Bool := decide (v.length < w.length) && decide (v = w.take v.length)
noncomputable def maxW (ws : List (List Int)) : List (List Int) := uniqW (ws.filter fun v => !ws.any fun w => begB v w)
theorem any_same {ws vs : List (List Int)} (h : ∀ w, w ∈ ws ↔ w ∈ vs) (f : List Int → Bool) : ws.any f = vs.any f := by
  rw [Bool.eq_iff_iff, List.any_eq_true, List.any_eq_true]
  exact ⟨fun ⟨w, h1, h2⟩ => ⟨w, (h w).1 h1, h2⟩, fun ⟨w, h1, h2⟩ => ⟨w, (h w).2 h1, h2⟩⟩
theorem maxW_uniq (ws : List (List Int)) : (uniqW ws).filter (fun v => !(uniqW ws).any fun w => begB v w) = maxW ws := by
  symm
  unfold maxW
  refine uniqW_eq ((uniqW_sorted ws).sublist List.filter_sublist) fun w => ?_
  rw [List.mem_filter, List.mem_filter, uniqW_mem, any_same (fun w => uniqW_mem (ws := ws) (w := w))]
theorem spec_l07Begins {v w : List Int} (h1 : v.length ≤ 1048576) (h2 : w.length ≤ 1048576) : AC Tryz.prog 100 [ints v, ints w] (.bool (begB v w)) := by
  have hv : (List.map (D.int .i64) v).length = v.length := by simp
  have hw : (List.map (D.int .i64) w).length = w.length := by simp
  unfold begB
  by_cases hl : v.length < w.length
  . rw [decide_eq_true hl]
    have e1 : AC Tryz.prog 97 [ints v, .lst ((w.map (D.int .i64)).take (((List.map (D.int .i64) v).length : Nat) : Int).toNat)] (.bool (decide (v = w.take v.length))) := by
      have := spec_l00Same (a := v) (b := w.take v.length) (by omega) (by rw [List.length_take]; omega)
      rw [hv, Int.toNat_natCast, ← List.map_take]
      exact this
    have hel := elsOk_ints w
    refine ac_intro tabIs _ Tryz.func100 rfl rfl Tryz.ntmps100 rfl rfl fun w0 ok0 => ?_
    repeat (first | refine zc ?_ | ((first | apply x_l | apply x_q | apply x_lr | apply x_qr); (focus (first | (apply qa_slice_h; (iterate 8 (focus (first | exact rfl | (first | assumption | omega | (simp; omega) | (simp; done) | rfl))))))); exact rfl) | refine zk (e := by exact e1) (n := ?_) | (apply v_x; (iterate 2 exact rfl); (focus (intro ok0 nw hle; (first | (apply qa_slice_h; (iterate 8 (focus (first | exact rfl | (first | assumption | omega | (simp; omega) | (simp; done) | rfl)))))))); (iterate 2 exact rfl)) | refine zv ?_ | refine zg ?_)
    refine zt ?_
    rfl
  . rw [decide_eq_false hl]
    refine ac_intro tabIs _ Tryz.func100 rfl rfl Tryz.ntmps100 rfl rfl fun w0 ok0 => ?_
    repeat (first | refine zc ?_ | refine zv ?_ | refine zg ?_)
    refine zt ?_
    rfl
theorem spec_l07Maximal {ws : List (List Int)} (hn : ws.length ≤ 100000) (hl : ∀ w ∈ ws, w.length ≤ 1048576) : AC Tryz.prog 47 [rows ws] (rows (maxW ws)) := by
  have hwm : (List.map ints ws).length = ws.length := by simp
  unfold maxW
  refine ac_intro tabIs _ Tryz.func47 rfl rfl Tryz.ntmps47 rfl rfl fun w0 ok0 => ?_
  repeat (first | refine zc ?_ | refine zv ?_)
  refine awp_loop (fun i : Nat => i ≤ ws.length) (fun i => [(0, .d (rows ws)), (3, .d (rows (uniqW ((ws.take i).filter fun v => !ws.any fun w => begB v w)))), (4, .d (.int .i64 i))]) (fun _ => []) (fun i => ws.length - i) 0 (by omega) ?_ rfl ?_
  . rw [List.take_zero, List.filter_nil, uniqW_nil]
    exact zs
  . intro i hi
    by_cases hlt : i < ws.length
    . have hx := el_row hlt
      have hlw := hl _ (List.getElem_mem hlt)
      have hst := List.take_succ_eq_append_getElem hlt
      have hcl : ((ws.take i).filter fun v => !ws.any fun w => begB v w).length ≤ ws.length := Nat.le_trans (List.length_filter_le _ _) (by rw [List.length_take]; omega)
      have e2 : AC Tryz.prog 46 [rows (uniqW ((ws.take i).filter fun v => !ws.any fun w => begB v w)), ints ws[i]] (rows (uniqW (((ws.take i).filter fun v => !ws.any fun w => begB v w) ++ [ws[i]]))) := by
        rw [← uniqW_snoc]
        have := uniqW_len ((ws.take i).filter fun v => !ws.any fun w => begB v w)
        exact spec_l07Into (uniqW_sorted _) (by omega) (fun u hu => by
          have := (List.mem_filter.1 (uniqW_mem.1 hu)).1
          exact hl u (List.mem_of_mem_take this)) hlw
      have hst2 : (ws.take (i + 1)).filter (fun v => !ws.any fun w => begB v w) = ((ws.take i).filter fun v => !ws.any fun w => begB v w) ++ if (ws.any fun w => begB ws[i] w) then [] else [ws[i]] := by
        rw [hst, List.filter_append]
        cases hb : (ws.any fun w => begB ws[i] w) <;> simp [hb]
      have hb1 := fun (k : Nat) (hk : k < ws.length) => spec_l07Begins (v := ws[i]) (w := ws[k]) hlw (hl _ (List.getElem_mem hk))
      generalize ((ws.take i).filter fun v => !ws.any fun w => begB v w) = A at *
      generalize hv : ws[i] = v at *
      repeat (first | refine zc ?_ | refine zv ?_)
      refine awp_loop (fun k : Nat => k ≤ ws.length) (fun k => [(0, .d (rows ws)), (3, .d (rows (uniqW A))), (4, .d (.int .i64 i)), (5, .d (.bool ((ws.take k).any fun w => begB v w))), (6, .d (.int .i64 k))]) (fun _ => []) (fun k => ws.length - k) 0 (by omega) ?_ rfl ?_
      . exact zs
      . intro k hk
        by_cases hkl : k < ws.length
        . have hy := el_row hkl
          have e1 := hb1 k hkl
          have hnx : (ws.take (k + 1)).any (fun w => begB v w) = ((ws.take k).any (fun w => begB v w) || begB v ws[k]) := by
            rw [List.take_succ_eq_append_getElem hkl, List.any_append]; simp
          have hall : (ws.take k).any (fun w => begB v w) = true → ws.any (fun w => begB v w) = true := fun h => by
            obtain ⟨w, hw, hw2⟩ := List.any_eq_true.1 h
            exact List.any_eq_true.2 ⟨w, List.mem_of_mem_take hw, hw2⟩
          generalize ws[k] = w at *
          generalize (ws.take k).any (fun w => begB v w) = t0 at *
          cases t0 with
          | false =>
            rw [Bool.false_or] at hnx
            repeat (first | refine zc ?_ | refine zk (e := by exact e1) (n := ?_) | refine zv ?_ | refine zg ?_)
            refine loop_n (k + 1) (by omega) ?_ rfl (by omega)
            rw [hnx]
            exact zs
          | true =>
            rw [if_pos (hall rfl), List.append_nil] at hst2
            repeat (first | refine zc ?_ | refine zv ?_ | refine zg ?_)
            refine loop_n (i + 1) (by omega) ?_ rfl (by omega)
            rw [hst2]
            exact zs
        . have hke : k = ws.length := by omega
          subst hke
          rw [List.take_length]
          cases hb : (ws.any fun w => begB v w) with
          | true =>
            rw [if_pos hb, List.append_nil] at hst2
            repeat (first | refine zc ?_ | refine zv ?_ | refine zg ?_)
            refine loop_n (i + 1) (by omega) ?_ rfl (by omega)
            rw [hst2]
            exact zs
          | false =>
            rw [if_neg (by simp [hb])] at hst2
            repeat (first | refine zc ?_ | refine zk (e := by exact e2) (n := ?_) | refine zv ?_ | refine zg ?_)
            refine loop_n (i + 1) (by omega) ?_ rfl (by omega)
            rw [hst2]
            exact zs
    . have hie : i = ws.length := by omega
      subst hie
      rw [List.take_length]
      repeat (first | refine zc ?_ | refine zv ?_)
      refine zt ?_
      rfl
end Go.Proofs.YtfemhnmggobhjaaGreat
namespace Go.Proofs.YtfemhnmggobhjaaGreat
open Go
attribute [local irreducible] awp awpL awpQL awpQ awpM pWalk Qt AC thenQ blockQ loopQ OpTo
set_option linter.unusedVariables false
set_option linter.unusedSimpArgs false
set_option maxHeartbeats 2000000
attribute [local irreducible] HC HX
theorem impl_maximal11 {x w : List Int} (h1 : x.length ≤ 1048576) (h2 : w.length ≤ 1048576) : AC Tryz.prog 110 [ints x, .ptr (ints w)] (.bool (begB w x)) := by
  have hx : (List.map (D.int .i64) x).length = x.length := by simp
  have hw : (List.map (D.int .i64) w).length = w.length := by simp
  unfold begB
  by_cases hl : w.length < x.length
  . rw [decide_eq_true hl]
    have e1 : AC Tryz.prog 105 [.lst ((x.map (D.int .i64)).take (((List.map (D.int .i64) w).length : Nat) : Int).toNat), ints w] (.bool (decide (w = x.take w.length))) := by
      have := slices_EqualI (a := x.take w.length) (b := w) (by rw [List.length_take]; omega) (by omega)
      rw [hw, Int.toNat_natCast, ← List.map_take, show (decide (w = x.take w.length)) = decide (x.take w.length = w) from decide_eq_decide.2 eq_comm]
      exact this
    have hel := elsOk_ints x
    refine ac_intro tabIs _ Tryz.func110 rfl rfl Tryz.ntmps110 rfl rfl fun w0 ok0 => ?_
    repeat (first | refine zc ?_ | ((first | apply x_l | apply x_q | apply x_lr | apply x_qr); (focus (first | (apply qa_slice_h; (iterate 8 (focus (first | exact rfl | (first | assumption | omega | (simp; omega) | (simp; done) | rfl))))))); exact rfl) | refine zk (e := by exact e1) (n := ?_) | (apply v_x; (iterate 2 exact rfl); (focus (intro ok0 nw hle; (first | (apply qa_slice_h; (iterate 8 (focus (first | exact rfl | (first | assumption | omega | (simp; omega) | (simp; done) | rfl)))))))); (iterate 2 exact rfl)) | refine zv ?_ | refine zg ?_)
    refine zt ?_
    rfl
  . rw [decide_eq_false hl]
    refine ac_intro tabIs _ Tryz.func110 rfl rfl Tryz.ntmps110 rfl rfl fun w0 ok0 => ?_
    repeat (first | refine zc ?_ | refine zv ?_ | refine zg ?_)
    refine zt ?_
    rfl
theorem impl_maximal1 {ds : List D} {ws : List (List Int)} {w : List Int} (hlen : ds.length = ws.length) (hle : ∀ (i : Nat) d w, ds[i]? = some d → ws[i]? = some w → D.Le d (ints w)) (hn : ws.length ≤ 1048576) (hl : ∀ w ∈ ws, w.length ≤ 1048576) (hw : w.length ≤ 1048576) :
    AC Tryz.prog 109 [ints w, .ptr (.lst ds)] (.bool (ws.any fun x => begB w x)) := by
  have e1 : AC Tryz.prog 103 [.lst ds, .fn 110 [.ptr (ints w)]] (.bool (ws.any fun x => begB w x)) :=
    (containsFunc_row (cap := [.ptr (ints w)]) (fun x => begB w x) (fun x hx => impl_maximal11 (hl x hx) hw) (by omega)).le rfl fun i x y hx hy => by
      match i with
      | 0 =>
        simp at hx hy; subst hx hy
        exact .lst _ _ (by simpa using hlen) fun k d y hd hy => by
          rw [List.getElem?_map, Option.map_eq_some_iff] at hy
          obtain ⟨w, hw, rfl⟩ := hy
          exact hle k d w hd hw
      | 1 => simp at hx hy; subst hx hy; exact .refl _
      | k + 2 => simp at hx
  refine ac_intro tabIs _ Tryz.func109 rfl rfl Tryz.ntmps109 rfl rfl fun w0 ok0 => ?_
  repeat (first | refine zc ?_ | refine zk (e := by exact e1) (n := ?_) | refine zv ?_)
  refine zt ?_
  rfl
theorem kpG_pair {p : List Int → Bool} {l : List (D × List Int)} : ∀ j, j ≤ l.length → kpG p (l.map (·.2)) (l.map (·.1)) j = ((l.take j).filter fun q => !p q.2).map (·.1)
  | 0, _ => by simp [kpG]
  | j + 1, hj => by
    have ih := kpG_pair (p := p) (l := l) j (by omega)
    have hx : (l.map (·.1))[j]? = some (l[j]'(by omega)).1 := by simp [show j < l.length by omega]
    rw [kpG_step hx, ih, List.take_succ_eq_append_getElem (by omega), List.filter_append, List.map_append]
    rw [show (l.map (·.2)).getD j [] = (l[j]'(by omega)).2 by simp [List.getD_eq_getElem?_getD, show j < l.length by omega]]
    cases hp : p (l[j]'(by omega)).2 <;> simp [hp]
def maxD (xs : List (D × List Int)) : List (D × List Int) := (dstW xs).filter fun q => !((dstW xs).map (·.2)).any fun x => begB q.2 x
theorem maxD_words (xs : List (D × List Int)) : (maxD xs).map (·.2) = maxW (xs.map (·.2)) := by
  rw [← maxW_uniq, ← dstW_words]
  unfold maxD
  rw [List.filter_map]
  rfl
theorem maxD_sub (xs : List (D × List Int)) : ∀ p ∈ maxD xs, p ∈ xs := fun p hp => (dstW_spec xs).2.2 p (List.mem_filter.1 hp).1
theorem impl_maximalH {xs : List (D × List Int)} (hok : ∀ p ∈ xs, WOk p) (hn : xs.length ≤ 100000) : HC Tryz.prog 57 [.d (.lst (xs.map (·.1)))] [] (.own 30000) [(30000, .arr 43 1 ((maxD xs).map (·.1)))] := by
  have c1 := impl_distinctH hok (by omega)
  have hsub := (dstW_spec xs).2.2
  have hok2 : ∀ p ∈ dstW xs, WOk p := fun p h => hok p (hsub p h)
  have hlen2 : (dstW xs).length ≤ xs.length := by
    have h1 := uniqW_len (xs.map (·.2))
    rw [← dstW_words, List.length_map, List.length_map] at h1
    exact h1
  unfold maxD
  generalize dstW xs = l at *
  have c2 := impl_CloneWH hok2 (by omega)
  have hle : ∀ (i : Nat) d w, (l.map (·.1))[i]? = some d → (l.map (·.2))[i]? = some w → D.Le d (ints w) := fun i d w hd hw => by
    rw [List.getElem?_map, Option.map_eq_some_iff] at hd hw
    obtain ⟨p, hp, rfl⟩ := hd
    obtain ⟨q, hq, rfl⟩ := hw
    rw [hp] at hq
    cases hq
    exact (hok2 p (List.mem_of_getElem? hp)).le
  have hwl : ∀ w ∈ l.map (·.2), w.length ≤ 1048576 := fun w hw => by
    obtain ⟨p, hp, rfl⟩ := List.mem_map.1 hw
    exact (hok2 p hp).len
  have c3 := slices_DeleteFunc (ds := l.map (·.1)) (ws := l.map (·.2)) (g := 109) (cap := [.ptr (.lst (l.map (·.1)))]) (fun w => (l.map (·.2)).any fun x => begB w x) (by simp) hle (fun d hd => by
    obtain ⟨p, hp, rfl⟩ := List.mem_map.1 hd
    have k := hok2 p hp
    exact ⟨k.el, k.width, k.one⟩) (by simp; omega) (fun w hw => impl_maximal1 (by simp) hle (by simp; omega) hwl (hwl w hw))
  rw [show (l.map (·.2)).length = l.length by simp, kpG_pair l.length (Nat.le_refl _), List.take_length] at c3
  generalize (l.filter fun q => !(l.map (·.2)).any fun x => begB q.2 x) = R at *
  refine hc_intro tabIs _ Tryz.func57 rfl rfl Tryz.ntmps57 rfl rfl rfl ?_ fun w0 ok0 XM XA anc => ?_
  . exact likeIn_nil
  repeat (first | refine zc ?_ | refine zv ?_)
  refine hcl [] [(30000, 500)] c1 ?_
  refine awpL_freeze 500 rfl rfl ?_
  repeat (first | refine zc ?_ | refine zv ?_)
  refine awpL_freezeB 3 rfl rfl rfl ?_
  repeat (first | refine zc ?_ | refine zv ?_)
  refine hcl [] [(30000, 501)] c2 ?_
  repeat (first | refine zc ?_ | refine zv ?_)
  refine hcl [(501, 20000)] [(20000, 501)] c3 ?_
  repeat (first | refine zc ?_ | refine zv ?_)
  (refine zb ?_; refine u_rH [(501, 30000)] ?_ ?_)
  . rfl
  . rfl
end Go.Proofs.YtfemhnmggobhjaaGreat
namespace Go.Proofs.YtfemhnmggobhjaaGreat
open Go
attribute [local irreducible] awp awpL awpQL awpQ awpM pWalk Qt AC thenQ blockQ loopQ OpTo
set_option linter.unusedVariables false
set_option linter.unusedSimpArgs false
set_option maxHeartbeats 2000000
attribute [local irreducible] HC HX
theorem crsW_mem {C U : List (List Int)} {w : List Int} : w ∈ crsW C U ↔ ∃ u ∈ C, ∃ x ∈ U, w = u ++ x := by
  simp only [crsW, List.mem_flatMap, List.mem_map]
  exact ⟨fun ⟨u, hu, x, hx, e⟩ => ⟨u, hu, x, hx, e.symm⟩, fun ⟨u, hu, x, hx, e⟩ => ⟨u, hu, x, hx, e.symm⟩⟩
def cs1 (F U B : List (List Int)) (i : Nat) : List (List Int) := crsW (F.take i) (crsW U B)
def cs2 (F U B : List (List Int)) (i : Nat) (u : List Int) (j : Nat) : List (List Int) := cs1 F U B i ++ (crsW (U.take j) B).map fun x => u ++ x
section
variable {F U B : List (List Int)} {i j k : Nat}
end
section
variable {s o : Int} {nx ou : List (List Int)}
end
end Go.Proofs.YtfemhnmggobhjaaGreat
namespace Go.Proofs.YtfemhnmggobhjaaGreat
open Go
attribute [local irreducible] awp awpL awpQL awpQ awpM pWalk Qt AC thenQ blockQ loopQ OpTo
set_option linter.unusedVariables false
set_option linter.unusedSimpArgs false
set_option maxHeartbeats 2000000
attribute [local irreducible] HC HX
end Go.Proofs.YtfemhnmggobhjaaGreat
