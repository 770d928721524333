/- The reference: reached states, connectedness. No condition. -/
import Derived.Test.YtckpadnjldebaaaGreatGx
import Derived.Test.YtckpadnjldebaaaGreatGv
import Derived.Test.YtckpadnjldebaaaGreatGw
import Derived.Test.YtckpadnjldebaaaGreatGd
namespace Go.Proofs.YtckpadnjldebaaaGreat
open Go
attribute [local irreducible] awp awpL awpQL awpQ awpM pWalk Qt AC thenQ blockQ loopQ OpTo
set_option linter.unusedVariables false
set_option linter.unusedSimpArgs false
set_option maxHeartbeats 2000000
attribute [local irreducible] HC
theorem insL_new : ∀ {l : List Int} {n : Int}, n ∉ l -> (insL l n).length = l.length + 1
  | [], _, _ => rfl
  | x :: l, n, h => by
    have hne : n ≠ x := fun e => h (e ▸ List.mem_cons_self ..)
    have hl : n ∉ l := fun e => h (List.mem_cons_of_mem _ e)
    rw [insL_cons]
    split
    . rw [if_pos (by omega)]; rfl
    . rw [List.length_cons, insL_new hl]; rfl
theorem Bq.ins {s q x : Int} {nx : List (List Int)} {out todo : List Int} (b : Bq s q nx out todo) (h : Rc nx q x) : Bq s q nx (insL out x) (todo ++ [x]) :=
  ⟨insL_ris b.ris, mem_insL.2 (.inr b.mem), fun t ht => (mem_insL.1 ht).elim (fun e => e ▸ h) (b.rc t), fun t ht => mem_insL.2 ((List.mem_append.1 ht).elim (fun h => .inr (b.sub t h)) fun h => .inl (List.mem_singleton.1 h))⟩
theorem spec_l01Reached {s q : Int} {nx : List (List Int)} {lp : List Int} (v : LV s nx lp) (hq : 0 <= q /\ q < s) : AC Tryz.prog 196 [.ptr (.agg [.int .i64 s, rows nx]), .int .i64 q] (ints (rcL s nx q)) := by
  have hs := v.s1
  have hn := v.n1
  have hnl : (List.map ints nx).length = nx.length := by simp
  refine ac_intro tabIs _ Tryz.func196 rfl rfl Tryz.ntmps196 rfl rfl fun w0 ok0 he0 => ?_
  repeat (first | refine v_w (t := 13) ?_ | refine v_w (t := 11) ?_ | refine zc ?_ | refine u_w (t := 11) ?_ | refine u_w (t := 13) ?_ | refine zv ?_)
  refine awp_freeze 11 rfl rfl ?_
  refine awp_ownSub 6 13 rfl rfl ?_
  refine awp_loop (fun p : List Int × List Int × List Int => Bq s q nx p.1 p.2.2 /\ p.2.1.length + p.2.2.length <= p.1.length /\ 0 < p.2.1.length + p.2.2.length /\ ∀ t ∈ p.1, t ∉ p.2.2 -> ∀ l : Int, 0 <= l /\ l < nx.length -> at2 nx l t ∈ p.1)
    (fun p => [(0, .d (.ptr (.agg [.int .i64 s, rows nx]))), (5, .d (ints p.1)), (6, .sub 13 (2 * p.2.1.length))]) (fun p => [(13, .arr 2 1 ((p.2.1 ++ p.2.2).map (.int .i64)))]) (fun p => 2 * (s.toNat - p.1.length) + p.2.2.length) ([q], [], [q])
    ⟨⟨by simp, by simp, fun t ht => by rw [List.mem_singleton.1 ht]; exact rc_refl, fun t ht => ht⟩, by simp, by simp, fun t ht hnt => absurd ht hnt⟩ ?_ rfl ?_
  . exact zs
  . rintro ⟨out, pre, todo⟩ ⟨b, hle, hpos, hc⟩
    dsimp only at b hle hpos hc
    have hol := b.len v.nx hq
    have hmt : (List.map (D.int IntKind.i64) (pre ++ todo)).length = pre.length + todo.length := by simp
    cases todo with
    | nil =>
      have hall := fun {t} => rc_closed (s := s) (q := q) (nx := nx) b.mem (fun t ht l hl => hc t ht (by simp) l hl) (t := t)
      have e : out = rcL s nx q := ris_ext b.ris (rcL_ris s nx q) fun t => ((rcL_mem v.nx hs.1 hq).trans ⟨fun h => hall h, b.rc t⟩).symm
      rw [<- e]
      simp only [List.length_nil, Nat.add_zero] at hmt
      dsimp only
      generalize List.map (D.int .i64) (pre ++ []) = TD at *
      repeat (first | refine zc ?_ | ((first | apply x_l | apply x_q | apply x_lr | apply x_qr); (focus (first | (apply wv_len; (iterate 4 (focus (first | exact rfl | (first | assumption | omega | (simp; omega) | (simp; done) | rfl))))))); exact rfl) | (apply v_x; (iterate 2 exact rfl); (focus (intro ok0 nw hle; (first | (apply wv_len; (iterate 4 (focus (first | exact rfl | (first | assumption | omega | (simp; omega) | (simp; done) | rfl)))))))); (iterate 2 exact rfl)) | refine zv ?_)
      refine zt ?_
      rfl
    | cons x tl =>
      have hxm := b.sub x (List.mem_cons_self ..)
      have hxr := b.rng v.nx hq x hxm
      simp only [List.length_cons] at hle hmt
      have x0 : (List.map (D.int IntKind.i64) (pre ++ x :: tl))[pre.length + (0 : Int).toNat]? = some (.int .i64 x) := by simp
      have hpp : pre ++ x :: tl = (pre ++ [x]) ++ tl := by simp
      dsimp only
      generalize hTD : List.map (D.int .i64) (pre ++ x :: tl) = TD at *
      repeat (first | refine zc ?_ | ((first | apply x_l | apply x_q | apply x_lr | apply x_qr); (focus (first | (apply wv_len; (iterate 4 (focus (first | exact rfl | (first | assumption | omega | (simp; omega) | (simp; done) | rfl))))) | (apply wv_index; (iterate 9 (focus (first | exact rfl | (first | assumption | omega | (simp; omega) | (simp; done) | rfl))))) | (apply wv_viewSub; (iterate 10 (focus (first | exact rfl | (first | assumption | omega | (simp; omega) | (simp; done) | rfl))))))); exact rfl) | (apply v_x; (iterate 2 exact rfl); (focus (intro ok0 nw hle; (first | (apply wv_len; (iterate 4 (focus (first | exact rfl | (first | assumption | omega | (simp; omega) | (simp; done) | rfl))))) | (apply wv_index; (iterate 9 (focus (first | exact rfl | (first | assumption | omega | (simp; omega) | (simp; done) | rfl))))) | (apply wv_viewSub; (iterate 10 (focus (first | exact rfl | (first | assumption | omega | (simp; omega) | (simp; done) | rfl)))))))); (iterate 2 exact rfl)) | refine zv ?_)
      rw [<- hTD, hpp]
      generalize hM : 2 * (s.toNat - out.length) + tl.length = M
      refine awp_loop (fun p : (List Int × List Int × List Int) × Nat => Bq s q nx p.1.1 p.1.2.2 /\ p.1.2.1.length + p.1.2.2.length <= p.1.1.length /\ 0 < p.1.2.1.length + p.1.2.2.length /\ p.2 <= nx.length /\ x ∈ p.1.1 /\ 2 * (s.toNat - p.1.1.length) + p.1.2.2.length <= M /\
          (∀ t ∈ p.1.1, t ∉ p.1.2.2 -> t ≠ x -> ∀ l : Int, 0 <= l /\ l < nx.length -> at2 nx l t ∈ p.1.1) /\ ∀ l : Int, 0 <= l /\ l < p.2 -> at2 nx l x ∈ p.1.1)
        (fun p => [(0, .d (.ptr (.agg [.int .i64 s, rows nx]))), (5, .d (ints p.1.1)), (6, .sub 13 (2 * p.1.2.1.length)), (7, .d (.int .i64 x)), (8, .d (.int .i64 p.2))]) (fun p => [(13, .arr 2 1 ((p.1.2.1 ++ p.1.2.2).map (.int .i64)))]) (fun p => nx.length - p.2) ((out, pre ++ [x], tl), 0)
        ⟨⟨b.ris, b.mem, b.rc, fun t ht => b.sub t (List.mem_cons_of_mem _ ht)⟩, by simp; omega, by simp; omega, by omega, hxm, by dsimp only; omega, fun t ht hnt hne l hl => hc t ht (fun h => (List.mem_cons.1 h).elim hne hnt) l hl, fun l hl => by omega⟩ ?_ rfl ?_
      . refine ⟨rfl, rfl, ?_, rfl, rfl, trivial⟩
        show SV.sub 13 _ = SV.sub 13 _
        simp
      . rintro ⟨⟨o2, p2, t2⟩, k⟩ ⟨b2, hle2, hpos2, hk, hx2, hM2, hc2, hl2⟩
        dsimp only at b2 hle2 hpos2 hk hx2 hM2 hc2 hl2 ⊢
        have hol2 := b2.len v.nx hq
        have hm2 : (List.map (D.int IntKind.i64) (p2 ++ t2)).length = p2.length + t2.length := by simp
        have hmo : (List.map (D.int IntKind.i64) o2).length = o2.length := by simp
        by_cases hkl : k < nx.length
        . have hlk : 0 <= (k : Int) /\ (k : Int) < nx.length := by omega
          have r1 := el_row2 hlk
          have r2 := tbl_row v.nx hlk
          have x2 := el_int2 (ns := row nx k) (q := x) (by omega)
          have ht := rc_step (b2.rc x hx2) hlk
          have c1 := spec_l00HasG (l := o2) (q := at2 nx k x) (by omega)
          rw [show (row nx k).getD x.toNat 0 = at2 nx k x from rfl] at x2
          have hu : ∀ o3 : List Int, (∀ y ∈ o2, y ∈ o3) -> at2 nx k x ∈ o3 -> ∀ l : Int, 0 <= l /\ l < ((k + 1 : Nat) : Int) -> at2 nx l x ∈ o3 := fun o3 h1 h2 l hl => by
            by_cases hlk' : l = k
            . subst hlk'; exact h2
            . exact h1 _ (hl2 l (by omega))
          by_cases hmem : at2 nx k x ∈ o2
          . rw [decide_eq_true hmem] at c1
            have hup := hu o2 (fun _ h => h) hmem
            clear hu
            generalize at2 nx k x = t at *
            repeat (first | refine zc ?_ | refine zk (e := by exact c1) (n := ?_) | refine zv ?_)
            refine loop_n ((o2, p2, t2), k + 1) ⟨b2, hle2, hpos2, by dsimp only; omega, hx2, hM2, hc2, hup⟩ ?_ rfl (by dsimp only; omega)
            exact zs
          . rw [decide_eq_false hmem] at c1
            have hin : ∀ y ∈ o2, y ∈ insL o2 (at2 nx k x) := fun y hy => mem_insL.2 (.inr hy)
            have hup := hu (insL o2 (at2 nx k x)) hin (mem_insL.2 (.inl rfl))
            clear hu
            have b3 := b2.ins ht
            have hl3 := b3.len v.nx hq
            have hlen3 := insL_new hmem
            have c2 := spec_l00Put (l := o2) (n := at2 nx k x) (by omega)
            have hc3 : ∀ t ∈ insL o2 (at2 nx k x), t ∉ t2 ++ [at2 nx k x] -> t ≠ x -> ∀ l : Int, 0 <= l /\ l < nx.length -> at2 nx l t ∈ insL o2 (at2 nx k x) := fun t ht hnt hne l hl => by
              rcases mem_insL.1 ht with e | e
              . exact absurd (List.mem_append_right _ (List.mem_singleton.2 e)) hnt
              . exact hin _ (hc2 t e (fun h => hnt (List.mem_append_left _ h)) hne l hl)
            have hta := List.map_append (f := D.int .i64) (l₁ := p2) (l₂ := t2)
            generalize at2 nx k x = t at *
            generalize insL o2 t = o3 at *
            generalize hTE : List.map (D.int .i64) (p2 ++ t2) = TE at *
            repeat (first | refine zc ?_ | refine zk (e := by exact c1) (n := ?_) | refine zk (e := by exact c2) (n := ?_) | refine zv ?_)
            refine awpL_appendSub (fun m' zs hmz => ?_) (by exact rfl) (by exact rfl) (by exact rfl) (by exact rfl) (by exact rfl) (by exact rfl) (by exact rfl) (by exact rfl) (by exact rfl) (by exact rfl) (by exact rfl) (by exact rfl) (by exact rfl) (by exact rfl) (by exact rfl) (by omega) (by omega) (by simp) (by simp; omega)
            obtain ⟨p3, rfl, rfl, hp3⟩ : ∃ p3 : List Int, m' = p3.length /\ zs = (p3 ++ (t2 ++ [t])).map (.int .i64) /\ p3.length <= p2.length := by
              rcases hmz with ⟨rfl, rfl⟩ | ⟨rfl, rfl⟩
              . exact ⟨p2, rfl, by rw [<- hTE]; simp, Nat.le_refl _⟩
              . refine ⟨[], rfl, ?_, Nat.zero_le _⟩
                rw [<- hTE]
                simp
            repeat (first | refine zc ?_ | refine zv ?_)
            refine loop_n ((o3, p3, t2 ++ [t]), k + 1) ⟨b3, by simp; omega, by simp; omega, by dsimp only; omega, hin x hx2, by simp; omega, hc3, hup⟩ ?_ rfl (by dsimp only; omega)
            exact zs
        . have hke : k = nx.length := by omega
          subst hke
          repeat (first | refine zc ?_ | refine zv ?_)
          refine loop_n (o2, p2, t2) ⟨b2, hle2, hpos2, fun t ht hnt l hl => ?_⟩ ?_ rfl (by dsimp only; simp only [List.length_cons]; omega)
          . by_cases htx : t = x
            . subst htx; exact hl2 l hl
            . exact hc2 t ht hnt htx l hl
          . exact zs
theorem spec_l01Joined {s : Int} {nx : List (List Int)} {lp : List Int} (v : LV s nx lp) : AC Tryz.prog 84 [.ptr (.agg [.int .i64 s, rows nx])] (.bool (cnB s nx)) := by
  classical
  have hs := v.s1
  refine ac_intro tabIs _ Tryz.func84 rfl rfl Tryz.ntmps84 rfl rfl fun w0 ok0 he0 => ?_
  repeat (first | refine zc ?_ | refine zv ?_)
  refine awp_loop (fun k : Nat => (k : Int) <= s /\ ∀ q : Int, 0 <= q -> q < k -> (rcL s nx q).length = s.toNat) (fun k => [(0, .d (.ptr (.agg [.int .i64 s, rows nx]))), (3, .d (.int .i64 k))]) (fun _ => []) (fun k => s.toNat - k) 0 ⟨by omega, fun q h0 h1 => by omega⟩ ?_ rfl ?_
  . exact zs
  . rintro k ⟨hk, hall⟩
    by_cases hlt : (k : Int) < s
    . have c1 := spec_l01Reached v (q := (k : Int)) (by omega)
      have hle := rcL_length (nx := nx) (q := (k : Int)) hs.1
      by_cases hf : (rcL s nx k).length = s.toNat
      . have hx : ((List.map (D.int .i64) (rcL s nx k)).length : Int) = s := by simp; omega
        repeat (first | refine zc ?_ | refine zk (e := by exact c1) (n := ?_) | refine zv ?_)
        refine loop_n (k + 1) ⟨by omega, fun q h0 h1 => ?_⟩ ?_ rfl (by omega)
        . by_cases hqk : q = k
          . subst hqk; exact hf
          . exact hall q h0 (by omega)
        . exact zs
      . have hno : cnB s nx = false := decide_eq_false fun h => hf (h k (by omega) hlt)
        have hx : ¬ ((List.map (D.int .i64) (rcL s nx k)).length : Int) = s := by simp; omega
        rw [hno]
        repeat (first | refine zc ?_ | refine zk (e := by exact c1) (n := ?_) | refine zv ?_)
        refine zt ?_
        rfl
    . have hyes : cnB s nx = true := decide_eq_true fun q h0 h1 => hall q h0 (by omega)
      rw [hyes]
      repeat (first | refine zc ?_ | refine zv ?_)
      refine zt ?_
      rfl
end Go.Proofs.YtckpadnjldebaaaGreat
namespace Go.Proofs.YtckpadnjldebaaaGreat
open Go
attribute [local irreducible] awp awpL awpQL awpQ awpM pWalk Qt AC thenQ blockQ loopQ OpTo
set_option linter.unusedVariables false
set_option linter.unusedSimpArgs false
set_option maxHeartbeats 2000000
attribute [local irreducible] HC
open Gw
theorem spec_l03MinorH {n : Nat} {r : Mx} {c : Int} (hn : n <= 9) (h0 : 0 <= c) (h3 : c <= 3) (hd : Dom r n c 0) :
    HC Tryz.prog 273 [.own 10000] [(10000, .rows 29 2 1 (rws (mtL n r)) none)] (.d (.int .i64 (pv r n))) [(10000, .rows 29 2 1 (rws (mtL n (evM r n (n + 1) (n + 1)))) none)] := by
  have hst := evM_start n r
  have hln : ∀ F : Nat -> Nat -> Int, (rws (mtL n F)).length = n := fun F => by rw [rws_length, mtL_length]
  rw [<- hst]
  refine hc_intro tabIs _ Tryz.func273 rfl rfl Tryz.ntmps273 rfl rfl rfl ?_ fun w0 ok0 XM XA anc he0 hX0 => ?_
  . exact likeIn_cons rfl ⟨rfl, rfl, rfl, rfl, by simp [rws, mtL]⟩ likeIn_nil
  repeat (first | refine zc ?_ | refine zv ?_)
  refine awp_loop (fun k : Nat => k <= n) (fun k => [(0, .own 10000), (3, .d (.int .i64 (pv r k))), (4, .d (.int .i64 1)), (5, .d (.int .i64 k))]) (fun k => [(10000, .rows 29 2 1 (rws (mtL n (evM r k (k + 1) (k + 1)))) none)]) (fun k => n - k) 0 (by omega) ?_ rfl ?_
  . exact zs
  . intro k hk
    have hdk := hd.all k hk
    have hl0 := hln (evM r k (k + 1) (k + 1))
    by_cases hkn : k < n
    . have hpp := (hd.all (k + 1) (by omega)).1.pos
      have hpe : pv r (k + 1) = lv r k k k := rfl
      have gK : (rws (mtL n (evM r k (k + 1) (k + 1))))[(k : Int).toNat]? = some (((List.range n).map (evM r k (k + 1) (k + 1) k)).map (.int .i64)) := by
        simp only [Int.toNat_natCast, rws, List.getElem?_map, mtL_row hkn, Option.map_some]
      have eKK : (((List.range n).map (evM r k (k + 1) (k + 1) k)).map (D.int .i64))[(k : Int).toNat]? = some (.int .i64 (lv r k k k)) := by
        rw [<- evM_kk (m := r) (i := k + 1) (j := k + 1)]; simp [hkn]
      have lK : (((List.range n).map (evM r k (k + 1) (k + 1) k)).map (D.int .i64)).length = n := by simp
      have hne0 : ¬ lv r k k k = 0 := by omega
      have hh : hat (none : Option (Nat × SV)) ≠ some (k : Int).toNat := by simp [hat]
      generalize hRK : ((List.range n).map (evM r k (k + 1) (k + 1) k)).map (D.int .i64) = RK at *
      generalize hLL : rws (mtL n (evM r k (k + 1) (k + 1))) = LL at *
      generalize hz : lv r k k k = z at *
      repeat (first | refine zc ?_ | refine zv ?_)
      refine awp_loop (fun _ : Nat => True) (fun _ => [(0, .own 10000), (3, .d (.int .i64 (pv r k))), (4, .d (.int .i64 1)), (5, .d (.int .i64 k)), (6, .d (.int .i64 k))]) (fun _ => [(10000, .rows 29 2 1 LL none)]) (fun _ => 0) 0 trivial ?_ rfl ?_
      . exact zs
      . intro _ _
        repeat (first | refine zc ?_ | ((first | apply x_l | apply x_q | apply x_lr | apply x_qr); (focus (first | (apply wv_indexSub; (iterate 10 (focus (first | exact rfl | (first | assumption | omega | (simp; omega) | (simp; done) | rfl))))) | (apply wv_loadCel; (iterate 8 (focus (first | exact rfl | (first | assumption | omega | (simp; omega) | (simp; done) | rfl))))))); exact rfl) | (apply v_x; (iterate 2 exact rfl); (focus (intro ok0 nw hle; (first | (apply wv_indexSub; (iterate 10 (focus (first | exact rfl | (first | assumption | omega | (simp; omega) | (simp; done) | rfl))))) | (apply wv_loadCel; (iterate 8 (focus (first | exact rfl | (first | assumption | omega | (simp; omega) | (simp; done) | rfl)))))))); (iterate 2 exact rfl)) | refine zv ?_ | refine zg ?_)
        refine awp_loop (fun i : Nat => k < i /\ i <= n) (fun i => [(0, .own 10000), (3, .d (.int .i64 (pv r k))), (4, .d (.int .i64 1)), (5, .d (.int .i64 k)), (8, .d (.int .i64 i))]) (fun i => [(10000, .rows 29 2 1 (rws (mtL n (evM r k i (k + 1)))) none)]) (fun i => n - i) (k + 1) (by omega) ?_ (by rw [hLL]) ?_
        . exact zs
        . rintro i ⟨hki, hin⟩
          have hl1 := hln (evM r k i (k + 1))
          by_cases hil : i < n
          . generalize hL1 : rws (mtL n (evM r k i (k + 1))) = L1 at *
            repeat (first | refine zc ?_ | refine zv ?_)
            refine awp_loop (fun j : Nat => k < j /\ j <= n) (fun j => [(0, .own 10000), (3, .d (.int .i64 (pv r k))), (4, .d (.int .i64 1)), (5, .d (.int .i64 k)), (8, .d (.int .i64 i)), (9, .d (.int .i64 j))]) (fun j => [(10000, .rows 29 2 1 (rws (mtL n (evM r k i j))) none)]) (fun j => n - j) (k + 1) (by omega) ?_ (by rw [hL1]) ?_
            . exact zs
            . rintro j ⟨hkj, hjn⟩
              have hl2 := hln (evM r k i j)
              by_cases hjl : j < n
              . have hp0 := hdk.1.pos
                have b1 := lv_bound hd h0 h3 (by omega) (k := k) (i := i) (j := j) (by omega) hil (by omega) hjl
                have b2 := lv_bound hd h0 h3 (by omega) (k := k) (i := k) (j := k) (by omega) hkn (by omega) hkn
                have b3 := lv_bound hd h0 h3 (by omega) (k := k) (i := i) (j := k) (by omega) hil (by omega) hkn
                have b4 := lv_bound hd h0 h3 (by omega) (k := k) (i := k) (j := j) (by omega) hkn (by omega) hjl
                have b5 := lv_bound hd h0 h3 (by omega) (k := k + 1) (i := i) (j := j) (by omega) hil (by omega) hjl
                have m1 := mul_bd b2 b1
                have m2 := mul_bd b3 b4
                have hq := lv_quo hd hki hil hkj hjl
                rw [Int.mul_comm (lv r k i j)] at hq
                have gI : (rws (mtL n (evM r k i j)))[(i : Int).toNat]? = some (((List.range n).map (evM r k i j i)).map (.int .i64)) := by
                  simp only [Int.toNat_natCast, rws, List.getElem?_map, mtL_row hil, Option.map_some]
                have gK : (rws (mtL n (evM r k i j)))[(k : Int).toNat]? = some (((List.range n).map (evM r k i j k)).map (.int .i64)) := by
                  simp only [Int.toNat_natCast, rws, List.getElem?_map, mtL_row hkn, Option.map_some]
                have eIJ : (((List.range n).map (evM r k i j i)).map (D.int .i64))[(j : Int).toNat]? = some (.int .i64 (lv r k i j)) := by
                  rw [<- evM_ij (m := r) hki hkj]; simp [hjl]
                have eIK : (((List.range n).map (evM r k i j i)).map (D.int .i64))[(k : Int).toNat]? = some (.int .i64 (lv r k i k)) := by
                  rw [<- evM_ik (m := r) (j := j) hki]; simp [hkn]
                have eKK : (((List.range n).map (evM r k i j k)).map (D.int .i64))[(k : Int).toNat]? = some (.int .i64 (lv r k k k)) := by
                  rw [<- evM_kk (m := r) (i := i) (j := j)]; simp [hkn]
                have eKJ : (((List.range n).map (evM r k i j k)).map (D.int .i64))[(j : Int).toNat]? = some (.int .i64 (lv r k k j)) := by
                  rw [<- evM_kj (m := r) (i := i) hkj]; simp [hjl]
                have hset := mtL_set (f := evM r k i j) (v := lv r (k + 1) i j) hil hjl
                rw [evM_step hki hkj] at hset
                have lI : (((List.range n).map (evM r k i j i)).map (D.int .i64)).length = n := by simp
                have lK2 : (((List.range n).map (evM r k i j k)).map (D.int .i64)).length = n := by simp
                clear hL1 hLL hh
                generalize ((List.range n).map (evM r k i j i)).map (D.int .i64) = RI at *
                generalize ((List.range n).map (evM r k i j k)).map (D.int .i64) = RK2 at *
                generalize rws (mtL n (evM r k i j)) = L at *
                generalize lv r (k + 1) i j = v at *
                generalize lv r k i j = x at *
                generalize lv r k k k = z2 at *
                generalize lv r k i k = y at *
                generalize lv r k k j = u at *
                generalize pv r k = p at *
                have hne : i ≠ k := by omega
                have hin2 : (i : Int).toNat < L.length := by omega
                have hkn2 : (k : Int).toNat < L.length := by omega
                repeat (first | refine zcn ?_ | refine zv ?_)
                refine awp_carve0 10000 (i : Int).toNat 40000 rfl gI rfl rfl rfl ?_
                have hh : hat (some ((i : Int).toNat, SV.own 40000)) ≠ some (k : Int).toNat := by simp [hat]; omega
                repeat (first | refine zcr ?_ | ((first | apply x_l | apply x_q | apply x_lr | apply x_qr); (focus (first | (apply wa_loadHole; (iterate 5 (focus (first | exact rfl | (first | assumption | omega | (simp; omega) | (simp; done) | rfl))))) | (apply wv_indexSub; (iterate 10 (focus (first | exact rfl | (first | assumption | omega | (simp; omega) | (simp; done) | rfl))))) | (apply wv_loadCel; (iterate 8 (focus (first | exact rfl | (first | assumption | omega | (simp; omega) | (simp; done) | rfl))))) | (apply qa_quoT; (iterate 6 (focus (first | exact rfl | (first | assumption | omega | (simp; omega) | (simp; done) | rfl))))))); exact rfl) | (apply v_x; (iterate 2 exact rfl); (focus (intro ok0 nw hle; (first | (apply wa_loadHole; (iterate 5 (focus (first | exact rfl | (first | assumption | omega | (simp; omega) | (simp; done) | rfl))))) | (apply wv_indexSub; (iterate 10 (focus (first | exact rfl | (first | assumption | omega | (simp; omega) | (simp; done) | rfl))))) | (apply wv_loadCel; (iterate 8 (focus (first | exact rfl | (first | assumption | omega | (simp; omega) | (simp; done) | rfl))))) | (apply qa_quoT; (iterate 6 (focus (first | exact rfl | (first | assumption | omega | (simp; omega) | (simp; done) | rfl)))))))); (iterate 2 exact rfl)) | refine zv ?_)
                refine awp_back 10000 40000 (by exact rfl) (by exact rfl) (by exact rfl) (by exact rfl) (by exact rfl) (by exact rfl) gI (by simp) ?_
                refine awp_perm _ rfl ?_
                repeat (first | refine zc ?_ | refine zv ?_)
                refine loop_n (j + 1) (by omega) ?_ ?_ (by omega)
                . exact zs
                . rw [<- hset, <- hq]; rfl
              . have hje : j = n := by omega
                subst hje
                have e1 := evM_row j r k i
                rw [e1]
                rw [e1] at hl2
                generalize hL3 : rws (mtL j (evM r k (i + 1) (k + 1))) = L3 at *
                repeat (first | refine zc ?_ | refine zv ?_)
                refine loop_n (i + 1) (by omega) ?_ (by rw [hL3]) (by omega)
                exact zs
          . have hie : i = n := by omega
            subst hie
            have e1 := evM_next i r k
            rw [e1]
            rw [e1] at hl1
            have gK3 : (rws (mtL i (evM r (k + 1) (k + 2) (k + 2))))[(k : Int).toNat]? = some (((List.range i).map (evM r (k + 1) (k + 2) (k + 2) k)).map (.int .i64)) := by
              simp only [Int.toNat_natCast, rws, List.getElem?_map, mtL_row hkn, Option.map_some]
            have eKK3 : (((List.range i).map (evM r (k + 1) (k + 2) (k + 2) k)).map (D.int .i64))[(k : Int).toNat]? = some (.int .i64 (pv r (k + 1))) := by
              have : evM r (k + 1) (k + 2) (k + 2) k k = lv r k k k := by
                unfold evM
                rw [if_neg (by omega), show min (k + 1) (min k k) = k by omega]
              rw [hpe, <- hz, <- this]; simp [hkn]
            have lK3 : (((List.range i).map (evM r (k + 1) (k + 2) (k + 2) k)).map (D.int .i64)).length = i := by simp
            generalize ((List.range i).map (evM r (k + 1) (k + 2) (k + 2) k)).map (D.int .i64) = RK3 at *
            generalize hL4 : rws (mtL i (evM r (k + 1) (k + 2) (k + 2))) = L4 at *
            repeat (first | refine zc ?_ | ((first | apply x_l | apply x_q | apply x_lr | apply x_qr); (focus (first | (apply wv_indexSub; (iterate 10 (focus (first | exact rfl | (first | assumption | omega | (simp; omega) | (simp; done) | rfl))))) | (apply wv_loadCel; (iterate 8 (focus (first | exact rfl | (first | assumption | omega | (simp; omega) | (simp; done) | rfl))))))); exact rfl) | (apply v_x; (iterate 2 exact rfl); (focus (intro ok0 nw hle; (first | (apply wv_indexSub; (iterate 10 (focus (first | exact rfl | (first | assumption | omega | (simp; omega) | (simp; done) | rfl))))) | (apply wv_loadCel; (iterate 8 (focus (first | exact rfl | (first | assumption | omega | (simp; omega) | (simp; done) | rfl)))))))); (iterate 2 exact rfl)) | refine zv ?_)
            refine loop_n (k + 1) (by omega) ?_ (by rw [hL4]) (by omega)
            exact zs
    . have hke : k = n := by omega
      subst hke
      have pb := hd.bound h0 k (Nat.le_refl _)
      have pb2 := pw3_le h0 h3 k (by omega)
      have pb3 := hdk.1.pos
      generalize rws (mtL k (evM r k (k + 1) (k + 1))) = LL at *
      repeat (first | refine zc ?_ | refine zv ?_)
      (refine zb ?_; refine u_rH [(10000, 10000)] ?_ ?_)
      . rw [Int.one_mul]; rfl
      . rfl
def cntT (nx : List (List Int)) (s t : Nat) (k : Nat) : Int := Gw.sm k fun x => if dl nx x s = t then 1 else 0
theorem cntT_bd (nx : List (List Int)) (s t : Nat) : ∀ k : Nat, 0 <= cntT nx s t k /\ cntT nx s t k <= k
  | 0 => by simp [cntT, Gw.sm]
  | k + 1 => by
    have ih := cntT_bd nx s t k
    have e : cntT nx s t (k + 1) = cntT nx s t k + if dl nx k s = t then 1 else 0 := rfl
    rw [e]
    split <;> omega
theorem lap_cnt (nx : List (List Int)) (s t : Nat) : lapA nx s t = (if s = t then (nx.length : Int) else 0) - cntT nx s t nx.length := by
  unfold lapA lap cntT
  generalize nx.length = n
  induction n with
  | zero => simp [Gw.sm]
  | succ n ih =>
    show Gw.sm n _ + _ = _ - (Gw.sm n _ + _)
    rw [ih]
    by_cases h : s = t
    . simp only [h, if_true]
      split <;> omega
    . simp only [h, if_false]
      split <;> omega
theorem spec_l03Trees {s : Int} {nx : List (List Int)} {lp : List Int} {w : Nat} (v : LV s nx lp) (hc : Cn s nx) (hw : w < s.toNat) : AC Tryz.prog 197 [.ptr (.agg [.int .i64 s, rows nx]), .int .i64 w] (.int .i64 (wtQ s nx w)) := by
  have hs := v.s1
  have hn := v.n1
  have hnl : (List.map ints nx).length = nx.length := by simp
  obtain ⟨n, hsn⟩ : ∃ n : Nat, s = ((n + 1 : Nat) : Int) := ⟨s.toNat - 1, by omega⟩
  have hd := wtQ_dom v hc hw
  have hsn1 : s.toNat - 1 = n := by omega
  rw [hsn1] at hd
  have c1 := spec_l03MinorH (n := n) (by omega) (by omega) (by omega) hd
  have hpv : pv (fun r c => lapA nx (sk w r) (sk w c)) n = wtQ s nx w := by rw [pv_det]; unfold wtQ wt; rw [hsn1]
  rw [hpv] at c1
  refine ac_intro tabIs _ Tryz.func197 rfl rfl Tryz.ntmps197 rfl rfl fun w0 ok0 he0 => ?_
  repeat (first | refine v_w (t := 11) ?_ | refine zc ?_ | refine u_w (t := 11) ?_ | refine zv ?_)
  refine awp_toRows 11 2 1 rfl rfl rfl rfl ?_
  refine awp_loop (fun i : Nat => i <= n + 1) (fun i => [(0, .d (.ptr (.agg [.int .i64 s, rows nx]))), (1, .d (.int .i64 w)), (5, .own 11), (6, .d (.int .i64 i))])
    (fun i => [(11, .rows 29 2 1 (rws ((mtL n fun r c => lapA nx (sk w r) (sk w c)).take (cntS w i))) none)]) (fun i => n + 1 - i) 0 (by omega) ?_ rfl ?_
  . exact zs
  . intro i hi
    have hrl : (rws ((mtL n fun r c => lapA nx (sk w r) (sk w c)).take (cntS w i))).length = cntS w i := by
      rw [rws_length, List.length_take, mtL_length]
      unfold cntS
      split <;> omega
    have hk9 : cntS w i <= n := by unfold cntS; split <;> omega
    by_cases hlt : i < n + 1
    . have hnxt : i ≠ w -> cntS w (i + 1) = cntS w i + 1 /\ sk w (cntS w i) = i /\ cntS w i < n := fun his => by
        unfold cntS sk
        refine ⟨?_, ?_, ?_⟩ <;> (repeat' split) <;> omega
      generalize hRR : rws ((mtL n fun r c => lapA nx (sk w r) (sk w c)).take (cntS w i)) = RR at *
      repeat (first | refine v_w (t := 20) ?_ | refine zc ?_ | refine u_w (t := 20) ?_ | refine zv ?_)
      refine awp_permTo [(20, .arr 2 1 []), (11, .rows 29 2 1 RR none)] rfl ?_
      refine awp_loop (fun t : Nat => t <= n + 1) (fun t => [(0, .d (.ptr (.agg [.int .i64 s, rows nx]))), (1, .d (.int .i64 w)), (5, .own 11), (6, .d (.int .i64 i)), (7, .own 20), (8, .d (.int .i64 t))])
        (fun t => [(20, .arr 2 1 (rgL (cntS w t) fun c => lapA nx i (sk w c))), (11, .rows 29 2 1 RR none)]) (fun t => n + 1 - t) 0 (by omega) ?_ rfl ?_
      . exact zs
      . intro t ht
        have hcl : cntS w t <= n := by unfold cntS; split <;> omega
        have hrl2 := rgL_len (cntS w t) fun c => lapA nx i (sk w c)
        by_cases htl : t < n + 1
        . have hlc := lap_cnt nx i t
          have hcn : t ≠ w -> cntS w (t + 1) = cntS w t + 1 /\ sk w (cntS w t) = t := fun h => by
            unfold cntS sk
            refine ⟨?_, ?_⟩ <;> (repeat' split) <;> omega
          have hce : t = w -> cntS w (t + 1) = cntS w t := fun h => by unfold cntS; (repeat' split) <;> omega
          have happ : t ≠ w -> rgL (cntS w t) (fun c => lapA nx i (sk w c)) ++ [.int .i64 (lapA nx i t)] = rgL (cntS w (t + 1)) fun c => lapA nx i (sk w c) := fun h => by
            obtain ⟨h1, h2⟩ := hcn h
            rw [h1]
            simp [rgL, List.range_succ, h2]
          have hsame : t = w -> rgL (cntS w t) (fun c => lapA nx i (sk w c)) = rgL (cntS w (t + 1)) fun c => lapA nx i (sk w c) := fun h => by rw [hce h]
          generalize rgL (cntS w t) (fun c => lapA nx i (sk w c)) = R0 at *
          obtain ⟨x0, hx0⟩ : ∃ x0 : Int, x0 = if i = t then (nx.length : Int) else 0 := ⟨_, rfl⟩
          rw [<- hx0] at hlc
          by_cases hit : i = t
          all_goals
            first
              | rw [if_pos hit] at hx0
              | rw [if_neg hit] at hx0
            repeat (first | refine zc ?_ | refine zv ?_)
            refine awp_loop (fun k : Nat => k <= nx.length) (fun k => [(0, .d (.ptr (.agg [.int .i64 s, rows nx]))), (1, .d (.int .i64 w)), (5, .own 11), (6, .d (.int .i64 i)), (7, .own 20), (8, .d (.int .i64 t)), (9, .d (.int .i64 (x0 - cntT nx i t k))), (10, .d (.int .i64 k))])
              (fun _ => [(20, .arr 2 1 R0), (11, .rows 29 2 1 RR none)]) (fun k => nx.length - k) 0 (by omega) ?_ rfl ?_
            . refine ⟨rfl, rfl, rfl, rfl, rfl, rfl, congrArg (fun x : Int => SV.d (.int .i64 x)) ?_, rfl, trivial⟩
              show _ = x0 - 0
              omega
            . intro k hk
              have hcb := cntT_bd nx i t k
              have hcs : cntT nx i t (k + 1) = cntT nx i t k + if dl nx k i = t then 1 else 0 := rfl
              by_cases hkl : k < nx.length
              . have hlk : 0 <= (k : Int) /\ (k : Int) < nx.length := by omega
                have r1 := el_row2 hlk
                have r2 := tbl_row v.nx hlk
                have r3 := tbl_at v.nx hlk (q := (i : Int)) (by omega)
                have x2 := el_int2 (ns := row nx k) (q := (i : Int)) (by omega)
                rw [show (row nx k).getD (i : Int).toNat 0 = at2 nx k i from rfl] at x2
                have hdl : dl nx k i = (at2 nx k i).toNat := rfl
                rw [hdl] at hcs
                clear hdl
                generalize at2 nx k i = q at *
                generalize cntT nx i t k = y0 at *
                by_cases hqt : q = t
                . rw [if_pos (by omega)] at hcs
                  have hy : x0 - y0 - 1 = x0 - cntT nx i t (k + 1) := by omega
                  repeat (first | refine zc ?_ | refine zv ?_)
                  refine loop_n (k + 1) (by omega) ?_ rfl (by omega)
                  exact ⟨rfl, rfl, rfl, rfl, rfl, rfl, congrArg (fun x : Int => SV.d (.int .i64 x)) hy, rfl, trivial⟩
                . rw [if_neg (by omega)] at hcs
                  repeat (first | refine zc ?_ | refine zv ?_)
                  refine loop_n (k + 1) (by omega) ?_ rfl (by omega)
                  refine ⟨rfl, rfl, rfl, rfl, rfl, rfl, congrArg (fun x : Int => SV.d (.int .i64 x)) ?_, rfl, trivial⟩
                  omega
              . have hke : k = nx.length := by omega
                subst hke
                rw [<- hlc]
                generalize lapA nx i t = z at *
                by_cases htw : t = w
                . have e := hsame htw
                  repeat (first | refine zc ?_ | refine zv ?_)
                  refine loop_n (t + 1) (by omega) ?_ ?_ (by omega)
                  . exact zs
                  . rw [<- e]
                . have e := happ htw
                  have hR0 : R0.length + 1 <= 1099511627776 := by omega
                  repeat (first | refine zc ?_ | refine zv ?_)
                  refine loop_n (t + 1) (by omega) ?_ ?_ (by omega)
                  . exact zs
                  . rw [<- e]; rfl
        . have hte : t = n + 1 := by omega
          subst hte
          have hcn : cntS w (n + 1) = n := by unfold cntS; split <;> omega
          rw [hcn]
          by_cases hiw : i = w
          . have e : cntS w (i + 1) = cntS w i := by unfold cntS; (repeat' split) <;> omega
            refine awp_freeze 20 rfl rfl ?_
            repeat (first | refine zc ?_ | refine zv ?_)
            refine loop_n (i + 1) (by omega) ?_ ?_ (by omega)
            . exact zs
            . rw [e, hRR]; rfl
          . obtain ⟨h1, h2, h3⟩ := hnxt hiw
            have htk := rws_take (nss := mtL n fun r c => lapA nx (sk w r) (sk w c)) (k := cntS w i) (by rw [mtL_length]; exact h3)
            have hrow : (mtL n fun r c => lapA nx (sk w r) (sk w c))[cntS w i]'(by rw [mtL_length]; exact h3) = (List.range n).map fun c => lapA nx i (sk w c) := by
              have := mtL_row (f := fun r c => lapA nx (sk w r) (sk w c)) h3
              rw [List.getElem?_eq_getElem (by rw [mtL_length]; exact h3)] at this
              rw [Option.some.inj this, h2]
            rw [hrow, <- h1, hRR] at htk
            repeat (first | refine zc ?_ | refine zv ?_)
            refine loop_n (i + 1) (by omega) ?_ ?_ (by omega)
            . exact zs
            . rw [htk]; rfl
    . have hie : i = n + 1 := by omega
      subst hie
      have hcn : cntS w (n + 1) = n := by unfold cntS; split <;> omega
      rw [hcn, List.take_of_length_le (by rw [mtL_length]; omega)]
      repeat (first | refine zc ?_ | refine zv ?_)
      refine hcl [(11, 10000)] [(10000, 11)] c1 ?_
      repeat (first | refine zc ?_ | refine zv ?_)
      refine zt ?_
      rfl
theorem spec_l03Weights {s : Int} {nx : List (List Int)} {lp : List Int} (v : LV s nx lp) (hc : Cn s nx) : AC Tryz.prog 85 [.ptr (.agg [.int .i64 s, rows nx])] (ints (wnL s nx)) := by
  have hs := v.s1
  have hn := v.n1
  have hgp := gS_pos v hc
  have hsN : ((s.toNat : Nat) : Int) = s := by omega
  refine ac_intro tabIs _ Tryz.func85 rfl rfl Tryz.ntmps85 rfl rfl fun w0 ok0 he0 => ?_
  repeat (first | refine v_w (t := 7) ?_ | refine zc ?_ | refine u_w (t := 7) ?_ | refine zv ?_)
  refine awp_loop (fun k : Nat => k <= s.toNat) (fun k => [(0, .d (.ptr (.agg [.int .i64 s, rows nx]))), (3, .own 7), (4, .d (.int .i64 (gS s nx k))), (5, .d (.int .i64 k))])
    (fun k => [(7, .arr 2 1 (rgL k (wtQ s nx)))]) (fun k => s.toNat - k) 0 (by omega) ?_ rfl ?_
  . exact zs
  . intro k hk
    have hlk := rgL_len k (wtQ s nx)
    by_cases hkl : k < s.toNat
    . have c1 := spec_l03Trees v hc hkl
      have w1 := wtQ_pos v hc hkl
      have g1 := gS_le v hc k (by omega)
      have g0 := gS_nn (s := s) (nx := nx) k
      have c2 := spec_l01Gcd (a := gS s nx k) (b := wtQ s nx k) (by omega) (by omega)
      rw [show ((Int.gcd (gS s nx k) (wtQ s nx k) : Nat) : Int) = gS s nx (k + 1) from rfl] at c2
      have hap : rgL k (wtQ s nx) ++ [.int .i64 (wtQ s nx k)] = rgL (k + 1) (wtQ s nx) := by simp [rgL, List.range_succ]
      have hget : (rgL k (wtQ s nx) ++ [D.int .i64 (wtQ s nx k)])[(k : Int).toNat]? = some (.int .i64 (wtQ s nx k)) := by rw [Int.toNat_natCast, List.getElem?_append_right (by omega), hlk, Nat.sub_self]; rfl
      generalize wtQ s nx k = wq at *
      generalize rgL k (wtQ s nx) = R0 at *
      have hlen2 : (R0 ++ [D.int .i64 wq]).length = k + 1 := by simp [hlk]
      repeat (first | refine zc ?_ | ((first | apply x_l | apply x_q | apply x_lr | apply x_qr); (focus (first | (apply wa_loadElt; (iterate 6 (focus (first | exact rfl | (first | assumption | omega | (simp; omega) | (simp; done) | rfl))))))); exact rfl) | refine zk (e := by exact c1) (n := ?_) | refine zk (e := by exact c2) (n := ?_) | (apply v_x; (iterate 2 exact rfl); (focus (intro ok0 nw hle; (first | (apply wa_loadElt; (iterate 6 (focus (first | exact rfl | (first | assumption | omega | (simp; omega) | (simp; done) | rfl)))))))); (iterate 2 exact rfl)) | refine zv ?_)
      refine loop_n (k + 1) (by omega) ?_ ?_ (by omega)
      . exact zs
      . rw [<- hap]; rfl
    . have hke : k = s.toNat := by omega
      have hst : rgL s.toNat (wtQ s nx) = rgL s.toNat fun j => if j < 0 then wN s nx j else wtQ s nx j := by simp
      subst hke
      rw [hst] at hlk ⊢
      repeat (first | refine zc ?_ | refine zv ?_)
      refine awp_loop (fun k : Nat => k <= s.toNat) (fun k => [(3, .own 7), (4, .d (.int .i64 (gS s nx s.toNat))), (6, .d (.int .i64 k))])
        (fun k => [(7, .arr 2 1 (rgL s.toNat fun j => if j < k then wN s nx j else wtQ s nx j))]) (fun k => s.toNat - k) 0 (by omega) ?_ rfl ?_
      . exact zs
      . intro j hj
        have l1 := rgL_len s.toNat fun i => if i < j then wN s nx i else wtQ s nx i
        by_cases hjl : j < s.toNat
        . have w1 := wtQ_pos v hc hjl
          have g1 := rgL_get (n := s.toNat) (f := fun i => if i < j then wN s nx i else wtQ s nx i) (i := (j : Int)) (by omega)
          rw [Int.toNat_natCast (n := j), if_neg (Nat.lt_irrefl j)] at g1
          have s1 := rgL_set (n := s.toNat) (f := fun i => if i < j then wN s nx i else wtQ s nx i) (i := j) (v := wN s nx j)
          have hnx : (fun i => if i = j then wN s nx j else if i < j then wN s nx i else wtQ s nx i) = fun i => if i < j + 1 then wN s nx i else wtQ s nx i := by
            funext i
            by_cases h1 : i = j
            . subst h1; simp
            . by_cases h2 : i < j
              . rw [if_neg h1, if_pos h2, if_pos (by omega)]
              . rw [if_neg h1, if_neg h2, if_neg (by omega)]
          rw [hnx] at s1
          have hwN : wN s nx j = wtQ s nx j / gS s nx s.toNat := rfl
          rw [hwN] at s1
          generalize wtQ s nx j = wq at *
          generalize gS s nx s.toNat = G at *
          generalize hRG : (rgL s.toNat fun i => if i < j then wN s nx i else wtQ s nx i) = RG at *
          have g1' : RG[(j : Int).toNat]? = some (.int .i64 wq) := by rw [Int.toNat_natCast]; exact g1
          repeat (first | refine zc ?_ | ((first | apply x_l | apply x_q | apply x_lr | apply x_qr); (focus (first | (apply wa_loadElt; (iterate 6 (focus (first | exact rfl | (first | assumption | omega | (simp; omega) | (simp; done) | rfl))))))); exact rfl) | (apply v_x; (iterate 2 exact rfl); (focus (intro ok0 nw hle; (first | (apply wa_loadElt; (iterate 6 (focus (first | exact rfl | (first | assumption | omega | (simp; omega) | (simp; done) | rfl)))))))); (iterate 2 exact rfl)) | refine zv ?_)
          refine loop_n (j + 1) (by omega) ?_ ?_ (by omega)
          . exact zs
          . rw [<- s1]; rfl
        . have hje : j = s.toNat := by omega
          have hfin : (rgL s.toNat fun i => if i < s.toNat then wN s nx i else wtQ s nx i) = rgL s.toNat (wN s nx) := by
            unfold rgL
            congr 1
            exact List.map_congr_left fun i hi => if_pos (List.mem_range.1 hi)
          subst hje
          rw [hfin] at l1 ⊢
          have hr : D.lst (rgL s.toNat (wN s nx)) = ints (wnL s nx) := rfl
          generalize rgL s.toNat (wN s nx) = RG at *
          refine awp_freeze 7 rfl rfl ?_
          repeat (first | refine zc ?_ | refine zv ?_)
          refine zt ?_
          exact hr
theorem spec_WeightsOf {s : Int} {nx : List (List Int)} {lp : List Int} (v : LV s nx lp) (hok : autoOk s nx = true) (hr : RowsOk nx) :
    AC Tryz.prog 20 [.agg [.int .i64 s, rows nx]] (.tup [if cnB s nx then ints (wnL s nx) else ints [], .int .i64 (if cnB s nx then 0 else 4)]) := by
  have e1 := spec_l01Ok (s := s) hr
  rw [hok] at e1
  have e2 := spec_l01Joined v
  cases hc : cnB s nx with
  | true =>
    rw [hc] at e2
    have e3 := spec_l03Weights v (cnB_iff.1 hc)
    refine ac_intro tabIs _ Tryz.func20 rfl rfl Tryz.ntmps20 rfl rfl fun w0 ok0 he0 => ?_
    repeat (first | refine zc ?_ | refine zk (e := by exact e1) (n := ?_) | refine zk (e := by exact e2) (n := ?_) | refine zk (e := by exact e3) (n := ?_) | refine zv ?_)
    refine zt ?_
    rfl
  | false =>
    rw [hc] at e2
    refine ac_intro tabIs _ Tryz.func20 rfl rfl Tryz.ntmps20 rfl rfl fun w0 ok0 he0 => ?_
    repeat (first | refine zc ?_ | refine zk (e := by exact e1) (n := ?_) | refine zk (e := by exact e2) (n := ?_) | refine zv ?_)
    refine zt ?_
    rfl
end Go.Proofs.YtckpadnjldebaaaGreat
