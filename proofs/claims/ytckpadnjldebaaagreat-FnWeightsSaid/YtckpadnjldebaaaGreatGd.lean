/- Minors and weights in the program. Condition: the automaton is connected. -/
import Derived.Test.YtckpadnjldebaaaGreatGx
import Derived.Test.YtckpadnjldebaaaGreatFwW
import Derived.Test.YtckpadnjldebaaaGreatGv
namespace Go.Proofs.YtckpadnjldebaaaGreat
open Go
attribute [local irreducible] awp awpL awpQL awpQ awpM pWalk Qt AC thenQ blockQ loopQ OpTo
set_option linter.unusedVariables false
set_option linter.unusedSimpArgs false
set_option maxHeartbeats 2000000
attribute [local irreducible] HC
open Gw
theorem range_skip {n s : Nat} (hs : s <= n) (f : Nat -> Int) : (((List.range (n + 1)).map f).eraseIdx s) = (List.range n).map fun c => f (sk s c) := by
  refine List.ext_getElem? fun i => ?_
  rw [List.getElem?_eraseIdx]
  by_cases hi : i < n
  . by_cases his : i < s
    . rw [if_pos his]
      simp [sk, his, hi, show i < n + 1 by omega]
    . rw [if_neg his]
      simp [sk, his, hi]
  . rw [List.getElem?_eq_none (l := List.map _ (List.range n)) (by simp; omega)]
    split
    . omega
    . rw [List.getElem?_eq_none (by simp; omega)]
theorem impl_deleteI {l : List Int} {a : Int} (h0 : 0 <= a) (h1 : a < l.length) (hn : l.length <= 1000) :
    HC Tryz.prog 275 [.own 20000, .d (.int .i64 a), .d (.int .i64 (a + 1))] [(20000, .arr 2 1 (l.map (.int .i64)))] (.own 20000) [(20000, .arr 2 1 ((l.eraseIdx a.toNat).map (.int .i64)))] := by
  have hl : (l.map (D.int .i64)).length = l.length := by simp
  have hpel : ∀ x ∈ l.map (D.int .i64), x.el = true := fun y hy => by obtain ⟨x, -, rfl⟩ := List.mem_map.1 hy; rfl
  have he : (l.eraseIdx a.toNat).map (D.int .i64) = (l.map (D.int .i64)).take a.toNat ++ (l.map (D.int .i64)).drop (a.toNat + 1) := by rw [List.eraseIdx_eq_take_drop_succ, List.map_append, List.map_take, List.map_drop]
  rw [he]
  generalize l.map (D.int .i64) = ys at *
  refine hc_intro tabIs _ Tryz.func275 rfl rfl Tryz.ntmps275 rfl rfl rfl ?_ fun w0 ok0 XM XA anc he0 hX0 => ?_
  . exact fun p hp ha => by simp at hp; subst hp; cases ha
  repeat (first | refine zcn ?_ | ((first | apply x_l | apply x_q | apply x_lr | apply x_qr); (focus (first | (apply wv_look; (iterate 12 (focus (first | exact rfl | (first | assumption | omega | (simp; omega) | (simp; done) | rfl))))))); exact rfl) | (apply v_x; (iterate 2 exact rfl); (focus (intro ok0 nw hle; (first | (apply wv_look; (iterate 12 (focus (first | exact rfl | (first | assumption | omega | (simp; omega) | (simp; done) | rfl)))))))); (iterate 2 exact rfl)) | refine zv ?_)
  refine awp_draw_tail 6 ?_ ?_ ?_ ?_
  . exact mixedIs
  . (as_aux_lemma => kernel_rfl)
  . exact rfl
  repeat (first | refine zcn ?_ | ((first | apply x_l | apply x_q | apply x_lr | apply x_qr); (focus (first | (apply wv_first; (iterate 8 (focus (first | exact rfl | (first | assumption | omega | (simp; omega) | (simp; done) | rfl))))) | (apply wv_view; (iterate 9 (focus (first | exact rfl | (first | assumption | omega | (simp; omega) | (simp; done) | rfl))))))); exact rfl) | (apply v_x; (iterate 2 exact rfl); (focus (intro ok0 nw hle; (first | (apply wv_first; (iterate 8 (focus (first | exact rfl | (first | assumption | omega | (simp; omega) | (simp; done) | rfl))))) | (apply wv_view; (iterate 9 (focus (first | exact rfl | (first | assumption | omega | (simp; omega) | (simp; done) | rfl)))))))); (iterate 2 exact rfl)) | refine zv ?_)
  (apply lto; (focus (apply wv_close; (iterate 9 exact rfl); omega; omega; omega; exact hpel)))
  repeat (first | refine zcn ?_ | ((first | apply x_l | apply x_q | apply x_lr | apply x_qr); (focus (first | (apply wv_lenFirst; (iterate 5 (focus (first | exact rfl | (first | assumption | omega | (simp; omega) | (simp; done) | rfl))))))); exact rfl) | (apply v_x; (iterate 2 exact rfl); (focus (intro ok0 nw hle; (first | (apply wv_lenFirst; (iterate 5 (focus (first | exact rfl | (first | assumption | omega | (simp; omega) | (simp; done) | rfl)))))))); (iterate 2 exact rfl)) | refine zv ?_)
  have hq : a.toNat + (ys.length - (a + 1).toNat) + 1 = ys.length := by omega
  refine awpL_clearF ?_ rfl rfl rfl rfl rfl rfl rfl rfl rfl rfl rfl rfl rfl rfl rfl (by simp; omega) (by simp; omega)
  repeat (first | refine zcr ?_ | refine zv ?_)
  refine awp_region ?_
  (apply lto; (focus (apply wv_cut; (iterate 4 exact rfl); (simp; omega); (simp; omega))))
  repeat (first | refine zc ?_ | refine zv ?_)
  have hfin : List.take (a.toNat + (ys.length - (a + 1).toNat)) (List.take ((a.toNat + (ys.length - (a + 1).toNat) : Nat) : Int).toNat (List.take a.toNat ys ++ List.drop (a + 1).toNat ys ++ List.drop (a.toNat + (ys.length - (a + 1).toNat)) ys) ++
      List.replicate ((List.take a.toNat ys ++ List.drop (a + 1).toNat ys ++ List.drop (a.toNat + (ys.length - (a + 1).toNat)) ys).length - ((a.toNat + (ys.length - (a + 1).toNat) : Nat) : Int).toNat) (D.int .i64 0)) = List.take a.toNat ys ++ List.drop (a.toNat + 1) ys := by
    have e1 : (List.take a.toNat ys ++ List.drop (a + 1).toNat ys).length = a.toNat + (ys.length - (a + 1).toNat) := by simp; omega
    rw [Int.toNat_natCast, List.take_left' e1, List.take_left' e1, show (a + 1).toNat = a.toNat + 1 by omega]
  (refine zb ?_; refine u_rH [(20000, 20000)] ?_ ?_)
  . rfl
  . exact congrArg (fun l => some [(20000, Chunk.arr 2 1 l)]) hfin
section
open Go.RowKit (Below)
variable {cx : Cx} {h : Heap} {s : Nat -> SV} {dst : Option Nat} {ty : Nat} {pos : String} {af : Array Edge} {gd : Option (Nat × Bool)}
attribute [local semireducible] Qt in
theorem qa_quoT {t t' : Nat} {x y : Operand} {a b v : Int} (hx : opv s x = .d (.int .i64 a)) (hy : opv s y = .d (.int .i64 b)) (hq : a.tdiv b = v) (hb : 0 < b) (h1 : -9223372036854775808 <= v) (h2 : v <= 9223372036854775807) :
    Qt cx h ⟨dst, .binOp .quo t x y t', ty, pos, af, gd⟩ s (.d (.int .i64 v)) :=
  qt_of fun r hr σ c w hv _ _ => by
    have g1 := hv x
    have g2 := hv y
    rw [hr x (by simp [Op.operands]), hx] at g1
    rw [hr y (by simp [Op.operands]), hy] at g2
    have h1' := RepD.int_inv g1
    have h2' := RepD.int_inv g2
    have hne : ¬ b = 0 := by omega
    exact ⟨.int .i64 v, w, by simp [execOp, h1', h2', eqGuard, binOp, Op.intDiv, hne, hq, i64_in h1 h2], Below.refl _ _, RepD.int _ _⟩
end
def cntS (s i : Nat) : Nat := if i <= s then i else i - 1
theorem impl_minor {n s : Nat} {m : Mx} {c : Int} (hs : s <= n) (hn : n <= 9) (h0 : 0 <= c) (h3 : c <= 3) (hd : Dom (fun r c => m (sk s r) (sk s c)) n c 0) :
    AC Tryz.prog 201 [rows (mtL (n + 1) m), .int .i64 s] (.int .i64 (wt n m s)) := by
  have hml : (List.map ints (mtL (n + 1) m)).length = n + 1 := by simp [mtL_length]
  have hml2 : (mtL (n + 1) m).length = n + 1 := mtL_length _ _
  refine ac_intro tabIs _ Tryz.func201 rfl rfl Tryz.ntmps201 rfl rfl fun w0 ok0 he0 => ?_
  repeat (first | refine v_w (t := 12) ?_ | refine zc ?_ | refine u_w (t := 12) ?_ | refine zv ?_)
  refine awp_toRows 12 2 1 rfl rfl rfl rfl ?_
  refine awp_loop (fun i : Nat => i <= n + 1) (fun i => [(1, .d (.int .i64 s)), (5, .own 12), (13, .d (rows (mtL (n + 1) m))), (14, .d (.int .i64 (List.map ints (mtL (n + 1) m)).length)), (15, .d (.int .i64 i))])
    (fun i => [(12, .rows 29 2 1 (rws ((mtL n fun r c => m (sk s r) (sk s c)).take (cntS s i))) none)]) (fun i => n + 1 - i) 0 (by omega) ?_ rfl ?_
  . exact zs
  . intro i hi
    have hrl : (rws ((mtL n fun r c => m (sk s r) (sk s c)).take (cntS s i))).length = cntS s i := by
      rw [rws_length, List.length_take, mtL_length]
      unfold cntS
      split <;> omega
    by_cases hlt : i < n + 1
    . have g1 : (List.map ints (mtL (n + 1) m))[(i : Int).toNat]? = some (ints ((List.range (n + 1)).map (m i))) := by
        rw [Int.toNat_natCast, List.getElem?_map, mtL_row hlt]; rfl
      by_cases his : i = s
      . subst his
        have hc : cntS i (i + 1) = cntS i i := by simp [cntS]
        repeat (first | refine zc ?_ | refine zv ?_)
        refine loop_n (i + 1) (by omega) ?_ (by rw [hc]) (by omega)
        exact zs
      . have hlr : ((List.range (n + 1)).map (m i)).length = n + 1 := by simp
        have c1 := impl_cloneH (ns := (List.range (n + 1)).map (m i)) (by omega)
        have c2 := impl_deleteI (l := (List.range (n + 1)).map (m i)) (a := (s : Int)) (by omega) (by omega) (by omega)
        rw [Int.toNat_natCast, range_skip hs] at c2
        have hk : cntS s (i + 1) = cntS s i + 1 := by unfold cntS; (repeat' split) <;> omega
        have hk2 : cntS s i < n := by unfold cntS; split <;> omega
        have hsk : sk s (cntS s i) = i := by unfold sk cntS; (repeat' split) <;> omega
        have ht := rws_take (nss := mtL n fun r c => m (sk s r) (sk s c)) (k := cntS s i) (by rw [mtL_length]; exact hk2)
        have hrow : (mtL n fun r c => m (sk s r) (sk s c))[cntS s i]'(by rw [mtL_length]; exact hk2) = (List.range n).map fun c => m i (sk s c) := by
          have := mtL_row (f := fun r c => m (sk s r) (sk s c)) hk2
          rw [List.getElem?_eq_getElem (by rw [mtL_length]; exact hk2)] at this
          rw [Option.some.inj this, hsk]
        rw [hrow] at ht
        rw [<- hk] at ht
        repeat (first | refine zc ?_ | refine zv ?_)
        refine hcl [] [(30000, 500)] c1 ?_
        repeat (first | refine zc ?_ | refine zv ?_)
        refine hcl [(500, 20000)] [(20000, 500)] c2 ?_
        repeat (first | refine zc ?_ | refine zv ?_)
        refine loop_n (i + 1) (by omega) ?_ ?_ (by omega)
        . exact zs
        . rw [ht]; rfl
    . have hie : i = n + 1 := by omega
      subst hie
      have hc : cntS s (n + 1) = n := by unfold cntS; split <;> omega
      rw [hc] at hrl ⊢
      rw [List.take_of_length_le (by rw [mtL_length]; omega)] at hrl ⊢
      have hw : wt n m s = pv (fun r c => m (sk s r) (sk s c)) n := (pv_det _ _).symm
      rw [hw]
      have hst := evM_start n fun r c => m (sk s r) (sk s c)
      rw [<- hst] at hrl ⊢
      generalize (fun r c => m (sk s r) (sk s c)) = r at *
      clear hst hw
      have hln : ∀ F : Nat -> Nat -> Int, (rws (mtL n F)).length = n := fun F => by rw [rws_length, mtL_length]
      repeat (first | refine zc ?_ | refine zv ?_)
      refine awp_loop (fun k : Nat => k <= n) (fun k => [(5, .own 12), (8, .d (.int .i64 (pv r k))), (34, .d (.int .i64 n)), (35, .d (.int .i64 k))]) (fun k => [(12, .rows 29 2 1 (rws (mtL n (evM r k (k + 1) (k + 1)))) none)]) (fun k => n - k) 0 (by omega) ?_ rfl ?_
      . exact ⟨rfl, rfl, congrArg (fun x : Nat => SV.d (.int .i64 x)) hrl, rfl, trivial⟩
      . intro k hk
        have hdk := hd.all k hk
        by_cases hkn : k < n
        . repeat (first | refine zc ?_ | refine zv ?_)
          refine awp_loop (fun i : Nat => k < i /\ i <= n) (fun i => [(5, .own 12), (8, .d (.int .i64 (pv r k))), (9, .d (.int .i64 k)), (10, .d (.int .i64 i)), (34, .d (.int .i64 n)), (35, .d (.int .i64 k))]) (fun i => [(12, .rows 29 2 1 (rws (mtL n (evM r k i (k + 1)))) none)]) (fun i => n - i) (k + 1) (by omega) ?_ rfl ?_
          . exact zs
          . rintro i ⟨hki, hin⟩
            have hl1 := hln (evM r k i (k + 1))
            by_cases hil : i < n
            . repeat (first | refine zc ?_ | refine zv ?_)
              refine awp_loop (fun j : Nat => k < j /\ j <= n) (fun j => [(5, .own 12), (8, .d (.int .i64 (pv r k))), (9, .d (.int .i64 k)), (10, .d (.int .i64 i)), (11, .d (.int .i64 j)), (34, .d (.int .i64 n)), (35, .d (.int .i64 k))]) (fun j => [(12, .rows 29 2 1 (rws (mtL n (evM r k i j))) none)]) (fun j => n - j) (k + 1) (by omega) ?_ rfl ?_
              . exact zs
              . rintro j ⟨hkj, hjn⟩
                have hl2 := hln (evM r k i j)
                by_cases hjl : j < n
                . have hpp := hdk.1.pos
                  have b1 := lv_bound hd h0 h3 (by omega) (k := k) (i := i) (j := j) (by omega) hil (by omega) hjl
                  have b2 := lv_bound hd h0 h3 (by omega) (k := k) (i := k) (j := k) (by omega) hkn (by omega) hkn
                  have b3 := lv_bound hd h0 h3 (by omega) (k := k) (i := i) (j := k) (by omega) hil (by omega) hkn
                  have b4 := lv_bound hd h0 h3 (by omega) (k := k) (i := k) (j := j) (by omega) hkn (by omega) hjl
                  have b5 := lv_bound hd h0 h3 (by omega) (k := k + 1) (i := i) (j := j) (by omega) hil (by omega) hjl
                  have m1 := mul_bd b1 b2
                  have m2 := mul_bd b3 b4
                  have hq := lv_quo hd hki hil hkj hjl
                  have gI : (rws (mtL n (evM r k i j)))[(i : Int).toNat]? = some (((List.range n).map (evM r k i j i)).map (.int .i64)) := by
                    simp only [Int.toNat_natCast, rws, List.getElem?_map, mtL_row hil, Option.map_some]
                  have gK : (rws (mtL n (evM r k i j)))[(k : Int).toNat]? = some (((List.range n).map (evM r k i j k)).map (.int .i64)) := by
                    simp only [Int.toNat_natCast, rws, List.getElem?_map, mtL_row hkn, Option.map_some]
                  have eIJ : (((List.range n).map (evM r k i j i)).map (D.int .i64))[(j : Int).toNat]? = some (.int .i64 (lv r k i j)) := by
                    rw [<- evM_ij (m := r) hki hkj]; simp [hjl]
                  have eIK : (((List.range n).map (evM r k i j i)).map (D.int .i64))[(k : Int).toNat]? = some (.int .i64 (lv r k i k)) := by
                    rw [<- evM_ik (m := r) (j := j) hki]; simp [hkn]
                  have eKK : (((List.range n).map (evM r k i j k)).map (D.int .i64))[(k : Int).toNat]? = some (.int .i64 (lv r k k k)) := by
                    rw [<- evM_kk (m := r) (i := i) (j := j)]; simp [hkn]
                  have eKJ : (((List.range n).map (evM r k i j k)).map (D.int .i64))[(j : Int).toNat]? = some (.int .i64 (lv r k k j)) := by
                    rw [<- evM_kj (m := r) (i := i) hkj]; simp [hjl]
                  have hset := mtL_set (f := evM r k i j) (v := lv r (k + 1) i j) hil hjl
                  rw [evM_step hki hkj] at hset
                  have lI : (((List.range n).map (evM r k i j i)).map (D.int .i64)).length = n := by simp
                  have lK : (((List.range n).map (evM r k i j k)).map (D.int .i64)).length = n := by simp
                  generalize ((List.range n).map (evM r k i j i)).map (D.int .i64) = RI at *
                  generalize ((List.range n).map (evM r k i j k)).map (D.int .i64) = RK at *
                  generalize rws (mtL n (evM r k i j)) = L at *
                  generalize lv r (k + 1) i j = v at *
                  generalize lv r k i j = x at *
                  generalize lv r k k k = z at *
                  generalize lv r k i k = y at *
                  generalize lv r k k j = u at *
                  generalize pv r k = p at *
                  have hne : i ≠ k := by omega
                  have hin2 : (i : Int).toNat < L.length := by omega
                  have hkn2 : (k : Int).toNat < L.length := by omega
                  repeat (first | refine zcn ?_ | refine zv ?_)
                  refine awp_carve0 12 (i : Int).toNat 300 rfl gI rfl rfl rfl ?_
                  have hh : hat (some ((i : Int).toNat, SV.own 300)) ≠ some (k : Int).toNat := by simp [hat]; omega
                  repeat (first | refine zcr ?_ | ((first | apply x_l | apply x_q | apply x_lr | apply x_qr); (focus (first | (apply wa_loadHole; (iterate 5 (focus (first | exact rfl | (first | assumption | omega | (simp; omega) | (simp; done) | rfl))))) | (apply wv_indexSub; (iterate 10 (focus (first | exact rfl | (first | assumption | omega | (simp; omega) | (simp; done) | rfl))))) | (apply wv_loadCel; (iterate 8 (focus (first | exact rfl | (first | assumption | omega | (simp; omega) | (simp; done) | rfl))))) | (apply qa_quoT; (iterate 6 (focus (first | exact rfl | (first | assumption | omega | (simp; omega) | (simp; done) | rfl))))))); exact rfl) | (apply v_x; (iterate 2 exact rfl); (focus (intro ok0 nw hle; (first | (apply wa_loadHole; (iterate 5 (focus (first | exact rfl | (first | assumption | omega | (simp; omega) | (simp; done) | rfl))))) | (apply wv_indexSub; (iterate 10 (focus (first | exact rfl | (first | assumption | omega | (simp; omega) | (simp; done) | rfl))))) | (apply wv_loadCel; (iterate 8 (focus (first | exact rfl | (first | assumption | omega | (simp; omega) | (simp; done) | rfl))))) | (apply qa_quoT; (iterate 6 (focus (first | exact rfl | (first | assumption | omega | (simp; omega) | (simp; done) | rfl)))))))); (iterate 2 exact rfl)) | refine zv ?_)
                  refine awp_back 12 300 (by exact rfl) (by exact rfl) (by exact rfl) (by exact rfl) (by exact rfl) (by exact rfl) gI (by simp) ?_
                  refine awp_perm _ rfl ?_
                  repeat (first | refine zc ?_ | refine zv ?_)
                  refine loop_n (j + 1) (by omega) ?_ ?_ (by omega)
                  . exact zs
                  . rw [<- hset, <- hq]; rfl
                . have hje : j = n := by omega
                  subst hje
                  have e1 := evM_row j r k i
                  rw [e1]
                  rw [e1] at hl2
                  repeat (first | refine zc ?_ | refine zv ?_)
                  refine loop_n (i + 1) (by omega) ?_ rfl (by omega)
                  exact zs
            . have hie : i = n := by omega
              subst hie
              have e1 := evM_next i r k
              rw [e1]
              rw [e1] at hl1
              have gK : (rws (mtL i (evM r (k + 1) (k + 2) (k + 2))))[(k : Int).toNat]? = some (((List.range i).map (evM r (k + 1) (k + 2) (k + 2) k)).map (.int .i64)) := by
                simp only [Int.toNat_natCast, rws, List.getElem?_map, mtL_row hkn, Option.map_some]
              have eKK : (((List.range i).map (evM r (k + 1) (k + 2) (k + 2) k)).map (D.int .i64))[(k : Int).toNat]? = some (.int .i64 (lv r k k k)) := by
                have : evM r (k + 1) (k + 2) (k + 2) k k = lv r k k k := by
                  unfold evM
                  rw [if_neg (by omega), show min (k + 1) (min k k) = k by omega]
                rw [<- this]; simp [hkn]
              have lK : (((List.range i).map (evM r (k + 1) (k + 2) (k + 2) k)).map (D.int .i64)).length = i := by simp
              have hki2 : (k : Int).toNat < (rws (mtL i (evM r (k + 1) (k + 2) (k + 2)))).length := by omega
              have hh : hat (none : Option (Nat × SV)) ≠ some (k : Int).toNat := by simp [hat]
              repeat (first | refine zc ?_ | ((first | apply x_l | apply x_q | apply x_lr | apply x_qr); (focus (first | (apply wv_indexSub; (iterate 10 (focus (first | exact rfl | (first | assumption | omega | (simp; omega) | (simp; done) | rfl))))) | (apply wv_loadCel; (iterate 8 (focus (first | exact rfl | (first | assumption | omega | (simp; omega) | (simp; done) | rfl))))))); exact rfl) | (apply v_x; (iterate 2 exact rfl); (focus (intro ok0 nw hle; (first | (apply wv_indexSub; (iterate 10 (focus (first | exact rfl | (first | assumption | omega | (simp; omega) | (simp; done) | rfl))))) | (apply wv_loadCel; (iterate 8 (focus (first | exact rfl | (first | assumption | omega | (simp; omega) | (simp; done) | rfl)))))))); (iterate 2 exact rfl)) | refine zv ?_)
              refine loop_n (k + 1) (by omega) ?_ rfl (by omega)
              exact zs
        . have hke : k = n := by omega
          subst hke
          repeat (first | refine zc ?_ | refine zv ?_)
          refine zt ?_
          rfl
end Go.Proofs.YtckpadnjldebaaaGreat
namespace Go.Proofs.YtckpadnjldebaaaGreat
open Go
attribute [local irreducible] awp awpL awpQL awpQ awpM pWalk Qt AC thenQ blockQ loopQ OpTo
set_option linter.unusedVariables false
set_option linter.unusedSimpArgs false
set_option maxHeartbeats 2000000
attribute [local irreducible] HC
open Gw
theorem wnL_get {s x : Int} {nx : List (List Int)} (hx : 0 <= x /\ x < s) : ((wnL s nx).map (D.int .i64))[x.toNat]? = some (.int .i64 (wN s nx x.toNat)) := by
  simp [wnL, show x.toNat < s.toNat by omega]
theorem impl_weigh {s : Int} {nx : List (List Int)} {lp l : List Int} (v : LV s nx lp) (hc : Cn s nx) (hl : ∀ x ∈ l, 0 <= x /\ x < s) (hn : l.length <= 100) : AC Tryz.prog 88 [ints (wnL s nx), ints l] (.int .i64 (wsL s nx l)) := by
  have hle : (List.map (D.int .i64) l).length = l.length := by simp
  have hwl : ((wnL s nx).map (D.int .i64)).length = s.toNat := by simp [wnL]
  refine ac_intro tabIs _ Tryz.func88 rfl rfl Tryz.ntmps88 rfl rfl fun w0 ok0 he0 => ?_
  repeat (first | refine zc ?_ | refine zv ?_)
  refine awp_loop (fun k : Nat => k <= l.length) (fun k => [(0, .d (ints (wnL s nx))), (5, .d (.int .i64 (wsL s nx (l.take k)))), (8, .d (ints l)), (9, .d (.int .i64 (List.map (D.int .i64) l).length)), (10, .d (.int .i64 k))]) (fun _ => []) (fun k => l.length - k) 0 (by omega) ?_ rfl ?_
  . exact zs
  . intro k hk
    by_cases hlt : k < l.length
    . have hx := el_int hlt
      have hxr := hl _ (List.getElem_mem hlt)
      have g1 := wnL_get (nx := nx) hxr
      have p1 := wN_pos v hc (i := l[k].toNat) (by omega)
      have q1 := wsL_le v hc (l := l.take k) fun x hx => hl x (List.mem_of_mem_take hx)
      rw [List.length_take] at q1
      have e1 : wsL s nx (l.take (k + 1)) = wsL s nx (l.take k) + wN s nx l[k].toNat := by
        unfold wsL
        rw [List.take_succ_eq_append_getElem hlt, List.map_append, List.sum_append]
        simp only [List.map_cons, List.map_nil, List.sum_cons, List.sum_nil, Int.add_zero]
      generalize l[k] = x at *
      generalize wsL s nx (l.take k) = a at *
      generalize wN s nx x.toNat = b at *
      generalize wnL s nx = W at *
      repeat (first | refine zc ?_ | refine zv ?_)
      refine loop_n (k + 1) (by omega) ?_ rfl (by omega)
      rw [e1]
      exact zs
    . have : k = l.length := by omega
      subst this
      rw [List.take_length]
      repeat (first | refine zc ?_ | refine zv ?_)
      refine zt ?_
      rfl
def preL (s : Int) (nx : List (List Int)) (l w : List Int) : List Int := (mk1 0 s.toNat).filter fun q => decide (runS nx q w ∈ l)
theorem impl_preimage {s : Int} {nx : List (List Int)} {lp l w : List Int} (v : LV s nx lp) (hn : l.length <= 1000) (hwl : w.length <= 400) (hwa : ∀ x ∈ w, 0 <= x /\ x < nx.length) :
    AC Tryz.prog 93 [.agg [.int .i64 s, rows nx], ints l, ints w] (ints (preL s nx l w)) := by
  have hs := v.s1
  refine ac_intro tabIs _ Tryz.func93 rfl rfl Tryz.ntmps93 rfl rfl fun w0 ok0 he0 => ?_
  repeat (first | refine v_w (t := 9) ?_ | refine zc ?_ | refine u_w (t := 9) ?_ | refine zv ?_)
  refine awp_loop (fun k : Nat => (k : Int) <= s) (fun k => [(1, .d (ints l)), (2, .d (ints w)), (3, .d (.ptr (.agg [.int .i64 s, rows nx]))), (7, .own 9), (11, .d (.int .i64 s)), (12, .d (.int .i64 k))]) (fun k => [(9, .arr 2 1 (((mk1 0 k).filter fun q => decide (runS nx q w ∈ l)).map (.int .i64)))]) (fun k => s.toNat - k) 0 (by omega) ?_ rfl ?_
  . exact zs
  . intro k hk
    have hfl : ((mk1 0 k).filter fun q => decide (runS nx q w ∈ l)).length <= k := by
      have := List.length_filter_le (fun q => decide (runS nx q w ∈ l)) (mk1 0 k)
      rwa [mk1_length] at this
    have hfm : (((mk1 0 k).filter fun q => decide (runS nx q w ∈ l)).map (D.int .i64)).length <= k := by simpa using hfl
    by_cases hlt : (k : Int) < s
    . have c1 := impl_atW v (q0 := (k : Int)) (w := w) (by omega) hwl hwa
      have c2 := impl_containsSG (l := l) (q := runS nx k w) (by omega)
      have hst : (mk1 0 (k + 1)).filter (fun q => decide (runS nx q w ∈ l)) = ((mk1 0 k).filter fun q => decide (runS nx q w ∈ l)) ++ if runS nx k w ∈ l then [(k : Int)] else [] := by
        rw [mk1_snoc, List.filter_append, Int.zero_add]
        by_cases h : runS nx k w ∈ l
        . rw [if_pos h, List.filter_cons_of_pos (by simp [h])]; rfl
        . rw [if_neg h, List.filter_cons_of_neg (by simp [h])]; rfl
      by_cases hm : runS nx k w ∈ l
      . rw [decide_eq_true hm] at c2
        rw [if_pos hm] at hst
        generalize runS nx k w = t at *
        repeat (first | refine zc ?_ | refine zk (e := by exact c1) (n := ?_) | refine zk (e := by exact c2) (n := ?_) | refine zv ?_)
        refine loop_n (k + 1) (by omega) ?_ ?_ (by omega)
        . exact zs
        . rw [hst, List.map_append]; rfl
      . rw [decide_eq_false hm] at c2
        rw [if_neg hm, List.append_nil] at hst
        generalize runS nx k w = t at *
        repeat (first | refine zc ?_ | refine zk (e := by exact c1) (n := ?_) | refine zk (e := by exact c2) (n := ?_) | refine zv ?_)
        refine loop_n (k + 1) (by omega) ?_ ?_ (by omega)
        . exact zs
        . rw [hst]
    . have : k = s.toNat := by omega
      subst this
      refine awp_freeze 9 rfl rfl ?_
      repeat (first | refine zc ?_ | refine zv ?_)
      refine zt ?_
      rfl
theorem impl_PreimageOf {s x : Int} {nx : List (List Int)} {lp l : List Int} (v : LV s nx lp) (hok : autoOk s nx = true) (hr : RowsOk nx) (hn : l.length <= 1000) (hl : risB l (s - 1) = true) (hx : 0 <= x /\ x < nx.length) :
    AC Tryz.prog 24 [.agg [.int .i64 s, rows nx], ints l, ints [x]] (.tup [ints (preL s nx l [x]), .int .i64 0]) := by
  have hs := v.s1
  have hn1 := v.n1
  have e1 := impl_preimage (l := l) (w := [x]) v hn (by simp) (fun y hy => by simp at hy; subst hy; exact hx)
  have e2 := impl_isSet (l := l) (b := s) (by omega) (by omega)
  rw [hl] at e2
  have e3 := impl_isWordA (s := s) (w := [x]) (nx := nx) (by omega) (by simp)
  rw [show wordOk nx.length [x] = true by simp only [wordOk, allIn, inB, Bool.and_eq_true, List.all_eq_true, decide_eq_true_eq]; exact ⟨by simp, fun y hy => by simp at hy; subst hy; omega⟩] at e3
  have e4 : AC Tryz.prog 90 [.ptr (ints l), .ptr (.agg [.int .i64 s, rows nx]), .ptr (ints [x])] (.bool true) := by
    refine ac_intro tabIs _ Tryz.func90 rfl rfl Tryz.ntmps90 rfl rfl fun w0 ok0 he0 => ?_
    repeat (first | refine zc ?_ | refine zk (e := by exact e2) (n := ?_) | refine zk (e := by exact e3) (n := ?_) | refine zv ?_ | refine zg ?_)
    refine zt ?_
    rfl
  have e5 := impl_codeAG (s := s) (nx := nx) hr hok e4
  refine ac_intro tabIs _ Tryz.func24 rfl rfl Tryz.ntmps24 rfl rfl fun w0 ok0 he0 => ?_
  repeat (first | refine zc ?_ | refine zk (e := by exact e5) (n := ?_) | refine zk (e := by exact e1) (n := ?_) | refine zv ?_)
  refine zt ?_
  rfl
end Go.Proofs.YtckpadnjldebaaaGreat
namespace Go.Proofs.YtckpadnjldebaaaGreat
open Go
attribute [local irreducible] awp awpL awpQL awpQ awpM pWalk Qt AC thenQ blockQ loopQ OpTo
set_option linter.unusedVariables false
set_option linter.unusedSimpArgs false
set_option maxHeartbeats 2000000
attribute [local irreducible] HC
open Gw
theorem lap_bd (δ : Nat -> Nat -> Nat) (i j : Nat) : ∀ k : Nat, -(k : Int) <= lap k δ i j /\ lap k δ i j <= k
  | 0 => by simp [lap, sm]
  | k + 1 => by
    have ih := lap_bd δ i j k
    have e : lap (k + 1) δ i j = lap k δ i j + ((if i = j then 1 else 0) - (if δ k i = j then 1 else 0)) := rfl
    rw [e]
    split <;> split <;> omega
def rgL (n : Nat) (f : Nat -> Int) : List D := ((List.range n).map f).map (D.int .i64)
theorem rgL_len (n : Nat) (f : Nat -> Int) : (rgL n f).length = n := by simp [rgL]
theorem rgL_get {n : Nat} {f : Nat -> Int} {i : Int} (h : 0 <= i /\ i < n) : (rgL n f)[i.toNat]? = some (.int .i64 (f i.toNat)) := by simp [rgL, show i.toNat < n by omega]
theorem rgL_set {n i : Nat} {f : Nat -> Int} {v : Int} : (rgL n f).set i (.int .i64 v) = rgL n fun j => if j = i then v else f j := by
  unfold rgL
  refine List.ext_getElem? fun j => ?_
  by_cases hj : j < n
  . by_cases hji : j = i
    . subst hji
      rw [List.getElem?_set_self (by simp [hj])]
      simp [hj]
    . rw [List.getElem?_set_ne (fun e => hji e.symm)]
      simp [hj, hji]
  . rw [List.getElem?_eq_none (by simp; omega), List.getElem?_eq_none (by simp; omega)]
theorem rgL_zero (n : Nat) : List.replicate n (D.int .i64 0) = rgL n fun _ => 0 := by simp [rgL, List.map_const']
theorem impl_weights {s : Int} {nx : List (List Int)} {lp : List Int} (v : LV s nx lp) (hc : Cn s nx) : AC Tryz.prog 87 [.agg [.int .i64 s, rows nx]] (ints (wnL s nx)) := by
  have hs := v.s1
  have hn := v.n1
  have hnl : (List.map ints nx).length = nx.length := by simp
  refine ac_intro tabIs _ Tryz.func87 rfl rfl Tryz.ntmps87 rfl rfl fun w0 ok0 he0 => ?_
  repeat (first | refine v_w (t := 13) ?_ | refine zc ?_ | refine u_w (t := 13) ?_ | refine zv ?_)
  refine awp_toRows 13 2 1 rfl rfl rfl rfl ?_
  refine awp_loop (fun k : Nat => (k : Int) <= s) (fun k => [(1, .d (.ptr (.agg [.int .i64 s, rows nx]))), (3, .own 13), (15, .d (.int .i64 s)), (16, .d (.int .i64 k))]) (fun k => [(13, .rows 29 2 1 (rws ((mtL s.toNat (lapA nx)).take k)) none)]) (fun k => s.toNat - k) 0 (by omega) ?_ rfl ?_
  . exact zs
  . intro k hk
    have hrl : (rws ((mtL s.toNat (lapA nx)).take k)).length = k := by rw [rws_length, List.length_take, mtL_length]; omega
    by_cases hlt : (k : Int) < s
    . have hrp := rgL_zero s.toNat
      have ht := rws_take (nss := mtL s.toNat (lapA nx)) (k := k) (by rw [mtL_length]; omega)
      have hrow : (mtL s.toNat (lapA nx))[k]'(by rw [mtL_length]; omega) = (List.range s.toNat).map (lapA nx k) := by
        have := mtL_row (f := lapA nx) (show k < s.toNat by omega)
        rw [List.getElem?_eq_getElem (by rw [mtL_length]; omega)] at this
        exact Option.some.inj this
      rw [hrow] at ht
      repeat (first | refine v_w (t := 21) ?_ | refine zc ?_ | refine u_w (t := 21) ?_ | refine zv ?_)
      refine awp_permTo [(13, .rows 29 2 1 (rws ((mtL s.toNat (lapA nx)).take k)) none), (21, .arr 2 1 (List.replicate s.toNat (.int .i64 0)))] rfl ?_
      rw [hrp]
      refine awp_loop (fun x : Nat => x <= nx.length) (fun x => [(1, .d (.ptr (.agg [.int .i64 s, rows nx]))), (3, .own 13), (4, .d (.int .i64 k)), (5, .own 21), (15, .d (.int .i64 s)), (16, .d (.int .i64 k)), (23, .d (rows nx)), (24, .d (.int .i64 (List.map ints nx).length)), (25, .d (.int .i64 x))])
        (fun x => [(13, .rows 29 2 1 (rws ((mtL s.toNat (lapA nx)).take k)) none), (21, .arr 2 1 (rgL s.toNat fun j => lap x (dl nx) k j))]) (fun x => nx.length - x) 0 (by omega) ?_ rfl ?_
      . exact zs
      . intro x hx
        by_cases hxl : x < nx.length
        . have hlk : 0 <= (x : Int) /\ (x : Int) < nx.length := by omega
          have r1 := el_row2 hlk
          have r2 := tbl_row v.nx hlk
          have r3 := tbl_at v.nx hlk (q := (k : Int)) (by omega)
          have x2 := el_int2 (ns := row nx x) (q := (k : Int)) (by omega)
          rw [show (row nx x).getD (k : Int).toNat 0 = at2 nx x k from rfl] at x2
          have b1 := lap_bd (dl nx) k k x
          have g1 := rgL_get (n := s.toNat) (f := fun j => lap x (dl nx) k j) (i := (k : Int)) (by omega)
          have s1 := rgL_set (n := s.toNat) (f := fun j => lap x (dl nx) k j) (i := k) (v := lap x (dl nx) k k + 1)
          have b2 := lap_bd (dl nx) k (at2 nx x k).toNat x
          have g2 := rgL_get (n := s.toNat) (f := fun j => if j = k then lap x (dl nx) k k + 1 else lap x (dl nx) k j) (i := at2 nx x k) (by omega)
          have s2 := rgL_set (n := s.toNat) (f := fun j => if j = k then lap x (dl nx) k k + 1 else lap x (dl nx) k j) (i := (at2 nx x k).toNat) (v := (if (at2 nx x k).toNat = k then lap x (dl nx) k k + 1 else lap x (dl nx) k (at2 nx x k).toNat) - 1)
          have b3 : -10 <= (if (at2 nx x k).toNat = k then lap x (dl nx) k k + 1 else lap x (dl nx) k (at2 nx x k).toNat) /\ (if (at2 nx x k).toNat = k then lap x (dl nx) k k + 1 else lap x (dl nx) k (at2 nx x k).toNat) <= 10 := by split <;> omega
          have hnext : (fun j => if j = (at2 nx x k).toNat then (if (at2 nx x k).toNat = k then lap x (dl nx) k k + 1 else lap x (dl nx) k (at2 nx x k).toNat) - 1 else if j = k then lap x (dl nx) k k + 1 else lap x (dl nx) k j) = fun j => lap (x + 1) (dl nx) k j := by
            funext j
            have e : lap (x + 1) (dl nx) k j = lap x (dl nx) k j + ((if k = j then 1 else 0) - (if (at2 nx x k).toNat = j then 1 else 0)) := rfl
            rw [e]
            generalize (at2 nx x k).toNat = t
            by_cases h1 : j = t
            . subst h1
              by_cases h2 : j = k
              . subst h2; simp
              . simp [h2, show ¬ k = j from fun e => h2 e.symm]; omega
            . by_cases h2 : j = k
              . subst h2; simp [h1, show ¬ t = j from fun e => h1 e.symm]
              . simp [h1, h2, show ¬ t = j from fun e => h1 e.symm, show ¬ k = j from fun e => h2 e.symm]
          rw [hnext] at s2
          have l1 := rgL_len s.toNat fun j => lap x (dl nx) k j
          have l2 := rgL_len s.toNat fun j => if j = k then lap x (dl nx) k k + 1 else lap x (dl nx) k j
          rw [Int.toNat_natCast (n := k)] at g1
          rw [<- s1] at g2 s2 l2
          generalize (if (at2 nx x k).toNat = k then lap x (dl nx) k k + 1 else lap x (dl nx) k (at2 nx x k).toNat) = b at *
          generalize lap x (dl nx) k k = a at *
          generalize (rgL s.toNat fun j => lap x (dl nx) k j) = R0 at *
          generalize at2 nx x k = q at *
          repeat (first | refine zc ?_ | refine zv ?_)
          refine loop_n (x + 1) (by omega) ?_ ?_ (by omega)
          . exact zs
          . rw [<- s2]; rfl
        . have hxe : x = nx.length := by omega
          subst hxe
          repeat (first | refine zc ?_ | refine zv ?_)
          refine loop_n (k + 1) (by omega) ?_ ?_ (by omega)
          . exact zs
          . rw [ht]; rfl
    . have : k = s.toNat := by omega
      subst this
      rw [List.take_of_length_le (by rw [mtL_length]; omega)] at *
      have hn1 : s.toNat = (s.toNat - 1) + 1 := by omega
      have hgp := gS_pos v hc
      repeat (first | refine v_w (t := 50) ?_ | refine zc ?_ | refine u_w (t := 50) ?_ | refine zv ?_)
      refine awp_loop (fun k : Nat => k <= s.toNat) (fun k => [(3, .own 13), (8, .own 50), (9, .d (.int .i64 (gS s nx k))), (52, .d (.int .i64 s.toNat)), (53, .d (.int .i64 k))])
        (fun k => [(50, .arr 2 1 (rgL k (wtQ s nx))), (13, .rows 29 2 1 (rws (mtL s.toNat (lapA nx))) none)]) (fun k => s.toNat - k) 0 (by omega) ?_ rfl ?_
      . exact ⟨rfl, rfl, rfl, congrArg (fun x : Nat => SV.d (.int .i64 x)) hrl, rfl, trivial⟩
      . intro k hk
        have hlk := rgL_len k (wtQ s nx)
        by_cases hkl : k < s.toNat
        . have c1 := impl_minor (n := s.toNat - 1) (s := k) (m := lapA nx) (c := nx.length) (by omega) (by omega) (by omega) (by omega) (wtQ_dom v hc hkl)
          rw [<- hn1, <- rws_dat] at c1
          rw [show wt (s.toNat - 1) (lapA nx) k = wtQ s nx k from rfl] at c1
          have w1 := wtQ_pos v hc hkl
          have g1 := gS_le v hc k (by omega)
          have g0 := gS_nn (s := s) (nx := nx) k
          have c2 := impl_divisor (a := gS s nx k) (b := wtQ s nx k) (by omega) (by omega)
          rw [show ((Int.gcd (gS s nx k) (wtQ s nx k) : Nat) : Int) = gS s nx (k + 1) from rfl] at c2
          have hap : rgL k (wtQ s nx) ++ [.int .i64 (wtQ s nx k)] = rgL (k + 1) (wtQ s nx) := by simp [rgL, List.range_succ]
          generalize wtQ s nx k = wq at *
          repeat (first | refine zc ?_ | refine zk (e := by exact c1) (n := ?_) | refine zk (e := by exact c2) (n := ?_) | refine zv ?_)
          refine loop_n (k + 1) (by omega) ?_ ?_ (by omega)
          . exact zs
          . rw [<- hap]; (as_aux_lemma => kernel_rfl)
        . have hke : k = s.toNat := by omega
          have hst : rgL s.toNat (wtQ s nx) = rgL s.toNat fun j => if j < 0 then wN s nx j else wtQ s nx j := by simp
          subst hke
          rw [hst] at hlk ⊢
          repeat (first | refine zc ?_ | refine zv ?_)
          refine awp_loop (fun k : Nat => k <= s.toNat) (fun k => [(8, .own 50), (9, .d (.int .i64 (gS s nx s.toNat))), (68, .d (.int .i64 s.toNat)), (69, .d (.int .i64 k))])
            (fun k => [(50, .arr 2 1 (rgL s.toNat fun j => if j < k then wN s nx j else wtQ s nx j)), (13, .rows 29 2 1 (rws (mtL s.toNat (lapA nx))) none)]) (fun k => s.toNat - k) 0 (by omega) ?_ rfl ?_
          . exact ⟨rfl, rfl, congrArg (fun x : Nat => SV.d (.int .i64 x)) hlk, rfl, trivial⟩
          . intro j hj
            by_cases hjl : j < s.toNat
            . have w1 := wtQ_pos v hc hjl
              have l1 := rgL_len s.toNat fun i => if i < j then wN s nx i else wtQ s nx i
              have g1 := rgL_get (n := s.toNat) (f := fun i => if i < j then wN s nx i else wtQ s nx i) (i := (j : Int)) (by omega)
              rw [Int.toNat_natCast (n := j), if_neg (Nat.lt_irrefl j)] at g1
              have s1 := rgL_set (n := s.toNat) (f := fun i => if i < j then wN s nx i else wtQ s nx i) (i := j) (v := wN s nx j)
              have hnx : (fun i => if i = j then wN s nx j else if i < j then wN s nx i else wtQ s nx i) = fun i => if i < j + 1 then wN s nx i else wtQ s nx i := by
                funext i
                by_cases h1 : i = j
                . subst h1; simp
                . by_cases h2 : i < j
                  . rw [if_neg h1, if_pos h2, if_pos (by omega)]
                  . rw [if_neg h1, if_neg h2, if_neg (by omega)]
              rw [hnx] at s1
              have hwN : wN s nx j = wtQ s nx j / gS s nx s.toNat := rfl
              rw [hwN] at s1
              generalize wtQ s nx j = wq at *
              generalize gS s nx s.toNat = G at *
              repeat (first | refine zc ?_ | refine zv ?_)
              refine loop_n (j + 1) (by omega) ?_ ?_ (by omega)
              . exact zs
              . rw [<- s1]; rfl
            . have hje : j = s.toNat := by omega
              have hfin : (rgL s.toNat fun i => if i < s.toNat then wN s nx i else wtQ s nx i) = rgL s.toNat (wN s nx) := by
                unfold rgL
                congr 1
                exact List.map_congr_left fun i hi => if_pos (List.mem_range.1 hi)
              subst hje
              rw [hfin]
              refine awp_freeze 50 rfl rfl ?_
              repeat (first | refine zc ?_ | refine zv ?_)
              refine zt ?_
              rfl
end Go.Proofs.YtckpadnjldebaaaGreat
namespace Go.Proofs.YtckpadnjldebaaaGreat
open Go
attribute [local irreducible] awp awpL awpQL awpQ awpM pWalk Qt AC thenQ blockQ loopQ OpTo
set_option linter.unusedVariables false
set_option linter.unusedSimpArgs false
set_option maxHeartbeats 2000000
attribute [local irreducible] HC
open Gw
theorem cnB_iff {s : Int} {nx : List (List Int)} : cnB s nx = true ↔ Cn s nx := @decide_eq_true_iff _ (Classical.propDecidable _)
theorem impl_isSetNil {b : Int} (hb : 0 <= b /\ b <= 100) : AC Tryz.prog 91 [.nils, .int .i64 b] (.bool true) := by
  refine ac_intro tabIs _ Tryz.func91 rfl rfl Tryz.ntmps91 rfl rfl fun w0 ok0 he0 => ?_
  repeat (first | refine zc ?_ | refine zv ?_)
  refine awp_loop (fun k : Nat => k = 0) (fun k => [(7, .d .nils), (8, .d (.int .i64 0)), (9, .d (.int .i64 0))]) (fun _ => []) (fun k => 0) 0 rfl ?_ rfl ?_
  . exact zs
  . intro k hk
    repeat (first | refine zc ?_ | refine zv ?_)
    refine zt ?_
    rfl
theorem impl_weightCode {s : Int} {nx : List (List Int)} {lp l : List Int} (v : LV s nx lp) (hok : autoOk s nx = true) (hr : RowsOk nx) (hset : AC Tryz.prog 91 [ints l, .int .i64 s] (.bool true)) :
    AC Tryz.prog 86 [.agg [.int .i64 s, rows nx], ints l] (.int .i64 (if cnB s nx then 0 else 4)) := by
  have e1 : AC Tryz.prog 199 [.ptr (ints l), .ptr (.agg [.int .i64 s, rows nx])] (.bool true) := by
    refine ac_intro tabIs _ Tryz.func199 rfl rfl Tryz.ntmps199 rfl rfl fun w0 ok0 he0 => ?_
    repeat (first | refine zc ?_ | refine zk (e := by exact hset) (n := ?_) | refine zv ?_)
    refine zt ?_
    rfl
  have e2 := impl_codeAG (s := s) (nx := nx) hr hok e1
  have e3 := impl_isConnected v
  cases hc : cnB s nx with
  | true =>
    rw [hc] at e3
    refine ac_intro tabIs _ Tryz.func86 rfl rfl Tryz.ntmps86 rfl rfl fun w0 ok0 he0 => ?_
    repeat (first | refine zc ?_ | refine zk (e := by exact e2) (n := ?_) | refine zk (e := by exact e3) (n := ?_) | refine zv ?_ | refine zg ?_)
    refine zt ?_
    rfl
  | false =>
    rw [hc] at e3
    refine ac_intro tabIs _ Tryz.func86 rfl rfl Tryz.ntmps86 rfl rfl fun w0 ok0 he0 => ?_
    repeat (first | refine zc ?_ | refine zk (e := by exact e2) (n := ?_) | refine zk (e := by exact e3) (n := ?_) | refine zv ?_ | refine zg ?_)
    refine zt ?_
    rfl
theorem impl_weightCodeN {s : Int} {nx : List (List Int)} {lp : List Int} (v : LV s nx lp) (hok : autoOk s nx = true) (hr : RowsOk nx) (hset : AC Tryz.prog 91 [.nils, .int .i64 s] (.bool true)) :
    AC Tryz.prog 86 [.agg [.int .i64 s, rows nx], .nils] (.int .i64 (if cnB s nx then 0 else 4)) := by
  have e1 : AC Tryz.prog 199 [.ptr (.nils), .ptr (.agg [.int .i64 s, rows nx])] (.bool true) := by
    refine ac_intro tabIs _ Tryz.func199 rfl rfl Tryz.ntmps199 rfl rfl fun w0 ok0 he0 => ?_
    repeat (first | refine zc ?_ | refine zk (e := by exact hset) (n := ?_) | refine zv ?_)
    refine zt ?_
    rfl
  have e2 := impl_codeAG (s := s) (nx := nx) hr hok e1
  have e3 := impl_isConnected v
  cases hc : cnB s nx with
  | true =>
    rw [hc] at e3
    refine ac_intro tabIs _ Tryz.func86 rfl rfl Tryz.ntmps86 rfl rfl fun w0 ok0 he0 => ?_
    repeat (first | refine zc ?_ | refine zk (e := by exact e2) (n := ?_) | refine zk (e := by exact e3) (n := ?_) | refine zv ?_ | refine zg ?_)
    refine zt ?_
    rfl
  | false =>
    rw [hc] at e3
    refine ac_intro tabIs _ Tryz.func86 rfl rfl Tryz.ntmps86 rfl rfl fun w0 ok0 he0 => ?_
    repeat (first | refine zc ?_ | refine zk (e := by exact e2) (n := ?_) | refine zk (e := by exact e3) (n := ?_) | refine zv ?_ | refine zg ?_)
    refine zt ?_
    rfl
theorem impl_WeightsOf {s : Int} {nx : List (List Int)} {lp : List Int} (v : LV s nx lp) (hok : autoOk s nx = true) (hr : RowsOk nx) :
    AC Tryz.prog 21 [.agg [.int .i64 s, rows nx]] (.tup [if cnB s nx then ints (wnL s nx) else .nils, .int .i64 (if cnB s nx then 0 else 4)]) := by
  have hs := v.s1
  have e1 := impl_weightCodeN v hok hr (impl_isSetNil (b := s) (by omega))
  cases hc : cnB s nx with
  | true =>
    rw [hc] at e1
    have e2 := impl_weights v (cnB_iff.1 hc)
    refine ac_intro tabIs _ Tryz.func21 rfl rfl Tryz.ntmps21 rfl rfl fun w0 ok0 he0 => ?_
    repeat (first | refine zc ?_ | refine zk (e := by exact e1) (n := ?_) | refine zk (e := by exact e2) (n := ?_) | refine zv ?_)
    refine zt ?_
    rfl
  | false =>
    rw [hc] at e1
    refine ac_intro tabIs _ Tryz.func21 rfl rfl Tryz.ntmps21 rfl rfl fun w0 ok0 he0 => ?_
    repeat (first | refine zc ?_ | refine zk (e := by exact e1) (n := ?_) | refine zv ?_)
    refine zt ?_
    rfl
theorem impl_WeightOfSet {s : Int} {nx : List (List Int)} {lp l : List Int} (v : LV s nx lp) (hok : autoOk s nx = true) (hr : RowsOk nx) (hc : Cn s nx) (hl : ∀ x ∈ l, 0 <= x /\ x < s) (hn : l.length <= 100) (hset : risB l (s - 1) = true) :
    AC Tryz.prog 23 [.agg [.int .i64 s, rows nx], ints l] (.tup [.int .i64 (wsL s nx l), .int .i64 0]) := by
  have hs := v.s1
  have e0 := impl_isSet (l := l) (b := s) (by omega) (by omega)
  rw [hset] at e0
  have e1 := impl_weightCode v hok hr e0
  rw [show cnB s nx = true from cnB_iff.2 hc] at e1
  have e2 := impl_weights v hc
  have e3 := impl_weigh v hc hl hn
  refine ac_intro tabIs _ Tryz.func23 rfl rfl Tryz.ntmps23 rfl rfl fun w0 ok0 he0 => ?_
  repeat (first | refine zc ?_ | refine zk (e := by exact e1) (n := ?_) | refine zk (e := by exact e2) (n := ?_) | refine zk (e := by exact e3) (n := ?_) | refine zv ?_)
  refine zt ?_
  rfl
end Go.Proofs.YtckpadnjldebaaaGreat
