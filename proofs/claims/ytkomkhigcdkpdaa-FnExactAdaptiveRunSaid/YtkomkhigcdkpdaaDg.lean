/- The depths of what can be believed from a set on, in the program: the walk. No condition. -/
import Derived.Test.YtkomkhigcdkpdaaDf
namespace Go.Proofs.Ytkomkhigcdkpdaa
open Go
attribute [local irreducible] awp awpL awpQL awpQ awpM pWalk Qt AC thenQ blockQ loopQ OpTo
set_option linter.unusedVariables false
set_option linter.unusedSimpArgs false
set_option maxHeartbeats 2000000
attribute [local irreducible] HC

theorem addL_in {l : List Nat} {g : Nat} (h : g ∈ l) : addL l g = l := if_pos h
theorem addL_out {l : List Nat} {g : Nat} (h : g ∉ l) : addL l g = l ++ [g] := if_neg h

def fl (l : List Nat) : List D := l.map fun f : Nat => D.int .u64 f

theorem impl_depths {s : Int} {nx : List (List Int)} {lp : List Int} {fr I Z : Nat} {l : List Nat} (v : LV s nx lp) (hf : fr < 2 ^ s.toNat) (hl : l = cloI (bel nx lp) nx.length fr I) (hI : l.length = I) (hIm : ∀ i, i < I → i < (cloI (bel nx lp) nx.length fr i).length)
    (hok : ∀ i, LOk (2 ^ s.toNat) fr (cloI (bel nx lp) nx.length fr i)) (hcl : ∀ f ∈ l, ∀ x y, x < nx.length → y < 4 → bel nx lp f x y ∈ l) (hst : still nx lp l Z) (hmin : ∀ d, d < Z → ¬ still nx lp l d) (hZ : Z ≤ l.length) :
    AC Try.prog 99 [.agg [.int .i64 s, rows nx, ints lp], .int .u64 fr] (.map (KV nx lp l (Z + 2))) := by
  have hs := v.s1
  have hn := v.n1
  have hp := pow_le (m := s.toNat) (by omega)
  have hle : (List.map ints nx).length = nx.length := by simp
  have e0 := impl_letters (s := s) (nx := nx)
  have hfl : ∀ m : List Nat, (fl m).length = m.length := fun m => by simp [fl]
  have hbl : ∀ f x y : Nat, f < 2 ^ s.toNat → x < nx.length → bel nx lp f x y < 2 ^ s.toNat := fun f x y h1 h2 => bel_lt v h1 h2
  have hbe : ∀ f x y : Nat, f < 2 ^ s.toNat → x < nx.length → AC Try.prog 57 [.agg [.int .i64 s, rows nx, ints lp], .int .u64 f, .int .i64 x, .int .i64 y] (.int .u64 (bel nx lp f x y)) := fun f x y h1 h2 => impl_believedN v h1 h2
  have hsm : ∀ f : Nat, f < 2 ^ s.toNat → AC Try.prog 133 [.int .u64 f] (.bool (sm f)) := fun f h => impl_isSmall (by omega)
  have hlet : ∀ (f : Nat) (G : Nat → Int) (dp : Int) kvs, f < 2 ^ s.toNat → keysI .u64 kvs = true → (∀ x y, x < nx.length → y < 4 → mget ((bel nx lp f x y : Nat) : Int) kvs = optD (G (bel nx lp f x y))) → AC Try.prog 100 [.agg [.int .i64 s, rows nx, ints lp], .int .u64 f, .int .i64 dp, .map kvs] (.int .i64 (fstL (fun x => fitB G dp (bel nx lp f x) 4) nx.length (-1))) := fun f G dp kvs h1 h2 h3 => impl_letter v h1 h2 h3
  have hI' : I ≤ 2 ^ s.toNat := by rw [← hI, hl]; exact (hok I).len
  generalize hNN : 2 ^ s.toNat = N at *
  refine ac_intro tabIs _ Try.func99 rfl rfl Try.ntmps99 rfl rfl fun w0 ok0 => ?_
  repeat (first | refine v_w (t := 19) ?_ | refine awp_seq ?_ | refine then_n ?_ | refine then_r ?_ | refine then_x ?_ | refine block_n ?_ | refine block_r ?_ | refine block_x ?_ | refine u_y ?_ | refine loop_r ?_ | refine loop_x ?_ | refine awp_region ?_ | refine awpL_nil ?_ | refine awpQL_nil ?_ | refine awp_block ?_ | refine awp_skip ?_ | refine awp_exit ?_ | refine awp_label ?_ | refine u_dT ?_ | refine u_d ?_ | refine u_w (t := 19) ?_ | refine u_l ?_ | refine u_o ?_ | refine u_q ?_ | refine u_lr ?_ | refine u_qr ?_ | refine u_ls ?_ | refine u_qs ?_ | refine u_t ?_ | refine u_f ?_ | refine v_s ?_ | refine v_o ?_ | refine v_on ?_ | refine v_og ?_ | refine v_q ?_ | refine v_sr ?_ | refine v_k ?_ | refine m_nil ?_)
  refine awp_perm [(19, .arr 77 1 (fl [fr])), (20, .map (mets [fr]))] rfl ?_
  refine awp_loop (fun i : Nat => i ≤ I) (fun i => [(1, .d (.int .u64 fr)), (2, .d (.ptr (.agg [.int .i64 s, rows nx, ints lp]))), (5, .own 19), (6, .own 20), (7, .d (.int .i64 i))]) (fun i => [(19, .arr 77 1 (fl (cloI (bel nx lp) nx.length fr i))), (20, .map (mets (cloI (bel nx lp) nx.length fr i)))]) (fun i => I - i) 0 (by omega) ?_ rfl ?_
  · ((repeat (first | exact trivial | (refine ⟨?_, ?_⟩; (focus (first | rfl | (simp [lk, argsS, args0]; done) | (simp [lk, argsS, args0]; omega)))))))
  · intro i hi
    have hoki := hok i
    have hlen := hoki.len
    have hfli := hfl (cloI (bel nx lp) nx.length fr i)
    by_cases hlt : i < I
    · have hil := hIm i hlt
      have hnext : cloI (bel nx lp) nx.length fr (i + 1) = letN (bel nx lp ((cloI (bel nx lp) nx.length fr i)[i])) (cloI (bel nx lp) nx.length fr i) nx.length := by
        show (match (cloI (bel nx lp) nx.length fr i)[i]? with
          | some f => letN (bel nx lp f) (cloI (bel nx lp) nx.length fr i) nx.length
          | none => cloI (bel nx lp) nx.length fr i) = _
        rw [List.getElem?_eq_getElem hil]
      have hgi : (cloI (bel nx lp) nx.length fr i)[i]? = some (cloI (bel nx lp) nx.length fr i)[i] := List.getElem?_eq_getElem hil
      have hgN := hoki.lt _ (List.getElem_mem hil)
      generalize (cloI (bel nx lp) nx.length fr i)[i] = g at *
      generalize cloI (bel nx lp) nx.length fr i = c at *
      repeat (first | refine awp_seq ?_ | refine then_n ?_ | refine then_r ?_ | refine then_x ?_ | refine block_n ?_ | refine block_r ?_ | refine block_x ?_ | refine u_y ?_ | refine loop_r ?_ | refine loop_x ?_ | refine awp_region ?_ | refine awpL_nil ?_ | refine awpQL_nil ?_ | refine awp_block ?_ | refine awp_skip ?_ | refine awp_exit ?_ | refine awp_label ?_ | refine u_dT ?_ | refine u_d ?_ | ((first | apply c_l | apply c_q | apply c_lr | apply c_qr); (iterate 2 exact rfl); (focus (first | exact e0)); (iterate 2 exact rfl)) | (apply v_c; (iterate 4 exact rfl); (focus (first | exact e0)); (iterate 2 exact rfl)) | refine u_l ?_ | refine u_o ?_ | refine u_q ?_ | refine u_lr ?_ | refine u_qr ?_ | refine u_ls ?_ | refine u_qs ?_ | refine u_t ?_ | refine u_f ?_ | refine v_s ?_ | refine v_o ?_ | refine v_on ?_ | refine v_og ?_ | refine v_q ?_ | refine v_sr ?_ | refine v_k ?_ | refine m_nil ?_)
      refine awp_loop (fun x : Nat => x ≤ nx.length) (fun x => [(1, .d (.int .u64 fr)), (2, .d (.ptr (.agg [.int .i64 s, rows nx, ints lp]))), (5, .own 19), (6, .own 20), (7, .d (.int .i64 i)), (31, .d (.int .i64 nx.length)), (32, .d (.int .i64 x))]) (fun x => [(19, .arr 77 1 (fl (letN (bel nx lp g) c x))), (20, .map (mets (letN (bel nx lp g) c x)))]) (fun x => nx.length - x) 0 (by omega) ?_ rfl ?_
      · ((repeat (first | exact trivial | (refine ⟨?_, ?_⟩; (focus (first | rfl | (simp [lk, argsS, args0]; done) | (simp [lk, argsS, args0]; omega)))))))
      · intro x hx
        by_cases hxl : x < nx.length
        · have hokx : LOk N fr (letN (bel nx lp g) c x) := letN_ok hoki x fun x' y h1 h2 => hbl g x' y hgN (by omega)
          have hstx : letN (bel nx lp g) c (x + 1) = lampN (bel nx lp g x) (letN (bel nx lp g) c x) 4 := rfl
          obtain ⟨t1, ht1⟩ := letN_pre (bel nx lp g) c x
          generalize letN (bel nx lp g) c x = c1 at *
          repeat (first | refine awp_seq ?_ | refine then_n ?_ | refine then_r ?_ | refine then_x ?_ | refine block_n ?_ | refine block_r ?_ | refine block_x ?_ | refine u_y ?_ | refine loop_r ?_ | refine loop_x ?_ | refine awp_region ?_ | refine awpL_nil ?_ | refine awpQL_nil ?_ | refine awp_block ?_ | refine awp_skip ?_ | refine awp_exit ?_ | refine awp_label ?_ | refine u_dT ?_ | refine u_d ?_ | refine u_l ?_ | refine u_o ?_ | refine u_q ?_ | refine u_lr ?_ | refine u_qr ?_ | refine u_ls ?_ | refine u_qs ?_ | refine u_t ?_ | refine u_f ?_ | refine v_s ?_ | refine v_o ?_ | refine v_on ?_ | refine v_og ?_ | refine v_q ?_ | refine v_sr ?_ | refine v_k ?_ | refine m_nil ?_)
          refine awp_loop (fun y : Nat => y ≤ 4) (fun y => [(1, .d (.int .u64 fr)), (2, .d (.ptr (.agg [.int .i64 s, rows nx, ints lp]))), (5, .own 19), (6, .own 20), (7, .d (.int .i64 i)), (8, .d (.int .i64 x)), (31, .d (.int .i64 nx.length)), (32, .d (.int .i64 x)), (35, .d (.int .i64 y))]) (fun y => [(19, .arr 77 1 (fl (lampN (bel nx lp g x) c1 y))), (20, .map (mets (lampN (bel nx lp g x) c1 y)))]) (fun y => 4 - y) 0 (by omega) ?_ rfl ?_
          · ((repeat (first | exact trivial | (refine ⟨?_, ?_⟩; (focus (first | rfl | (simp [lk, argsS, args0]; done) | (simp [lk, argsS, args0]; omega)))))))
          · intro y hy
            by_cases hyl : y < 4
            · have e1 := hbe g x y hgN hxl
              have hoky : LOk N fr (lampN (bel nx lp g x) c1 y) := lampN_ok hokx y fun y' h1 => hbl g x y' hgN hxl
              have hsty : lampN (bel nx lp g x) c1 (y + 1) = addL (lampN (bel nx lp g x) c1 y) (bel nx lp g x y) := rfl
              obtain ⟨t2, ht2⟩ := lampN_pre (bel nx lp g x) c1 y
              have hgy : (fl (lampN (bel nx lp g x) c1 y))[(i : Int).toNat]? = some (.int .u64 g) := by
                have hil2 : i < c1.length := by rw [ht1, List.length_append]; omega
                unfold fl
                rw [List.getElem?_map, ht2, Int.toNat_natCast, List.getElem?_append_left hil2, ht1, List.getElem?_append_left hil, hgi]
                rfl
              have hleny := hoky.len
              have hly := hfl (lampN (bel nx lp g x) c1 y)
              have hil3 : i < (lampN (bel nx lp g x) c1 y).length := by rw [ht2, ht1, List.length_append, List.length_append]; omega
              generalize lampN (bel nx lp g x) c1 y = c2 at *
              have hky := mets_keys c2
              have hget := mets_get (bel nx lp g x y) c2
              have hput := mets_put (bel nx lp g x y) c2
              generalize bel nx lp g x y = b at *
              by_cases hmem : b ∈ c2
              · rw [if_pos hmem] at hget
                rw [addL_in hmem] at hsty
                have hget' : MGet (b : Int) (mets c2) (some (.bool true)) := ⟨hget⟩
                repeat (first | refine awp_seq ?_ | refine then_n ?_ | refine then_r ?_ | refine then_x ?_ | refine block_n ?_ | refine block_r ?_ | refine block_x ?_ | refine u_y ?_ | refine loop_r ?_ | refine loop_x ?_ | refine awp_region ?_ | refine awpL_nil ?_ | refine awpQL_nil ?_ | refine awp_block ?_ | refine awp_skip ?_ | refine awp_exit ?_ | refine awp_label ?_ | refine u_dT ?_ | refine u_d ?_ | ((first | apply x_l | apply x_q | apply x_lr | apply x_qr); (focus (first | (apply wa_got; (iterate 11 (focus (first | exact rfl | (first | assumption | omega | (simp; omega) | (simp; done) | rfl))))))); exact rfl) | ((first | apply c_l | apply c_q | apply c_lr | apply c_qr); (iterate 2 exact rfl); (focus (first | exact e1)); (iterate 2 exact rfl)) | (apply v_x; (iterate 2 exact rfl); (focus (intro ok0 nw hle; (first | (apply wa_got; (iterate 11 (focus (first | exact rfl | (first | assumption | omega | (simp; omega) | (simp; done) | rfl)))))))); (iterate 2 exact rfl)) | (apply v_c; (iterate 4 exact rfl); (focus (first | exact e1)); (iterate 2 exact rfl)) | refine u_l ?_ | refine u_o ?_ | refine u_q ?_ | refine u_lr ?_ | refine u_qr ?_ | refine u_ls ?_ | refine u_qs ?_ | refine u_t ?_ | refine u_f ?_ | refine v_s ?_ | refine v_o ?_ | refine v_on ?_ | refine v_og ?_ | refine v_q ?_ | refine v_sr ?_ | refine v_k ?_ | refine m_nil ?_)
                refine loop_n (y + 1) (by omega) ?_ ?_ (by omega)
                · ((repeat (first | exact trivial | (refine ⟨?_, ?_⟩; (focus (first | rfl | (simp [lk, argsS, args0]; done) | (simp [lk, argsS, args0]; omega)))))))
                · rw [hsty]
              · rw [if_neg hmem] at hget
                rw [addL_out hmem] at hsty
                have hput' := hput hmem
                have hget' : MGet (b : Int) (mets c2) none := ⟨hget⟩
                have hflb : fl (c2 ++ [b]) = fl c2 ++ [.int .u64 b] := by simp [fl]
                repeat (first | refine awp_seq ?_ | refine then_n ?_ | refine then_r ?_ | refine then_x ?_ | refine block_n ?_ | refine block_r ?_ | refine block_x ?_ | refine u_y ?_ | refine loop_r ?_ | refine loop_x ?_ | refine awp_region ?_ | refine awpL_nil ?_ | refine awpQL_nil ?_ | refine awp_block ?_ | refine awp_skip ?_ | refine awp_exit ?_ | refine awp_label ?_ | refine u_dT ?_ | refine u_d ?_ | ((first | apply x_l | apply x_q | apply x_lr | apply x_qr); (focus (first | (apply wa_got; (iterate 11 (focus (first | exact rfl | (first | assumption | omega | (simp; omega) | (simp; done) | rfl))))))); exact rfl) | ((first | apply c_l | apply c_q | apply c_lr | apply c_qr); (iterate 2 exact rfl); (focus (first | exact e1)); (iterate 2 exact rfl)) | (apply v_x; (iterate 2 exact rfl); (focus (intro ok0 nw hle; (first | (apply wa_got; (iterate 11 (focus (first | exact rfl | (first | assumption | omega | (simp; omega) | (simp; done) | rfl)))))))); (iterate 2 exact rfl)) | (apply v_c; (iterate 4 exact rfl); (focus (first | exact e1)); (iterate 2 exact rfl)) | refine u_l ?_ | refine u_o ?_ | refine u_q ?_ | refine u_lr ?_ | refine u_qr ?_ | refine u_ls ?_ | refine u_qs ?_ | refine u_t ?_ | refine u_f ?_ | refine v_s ?_ | refine v_o ?_ | refine v_on ?_ | refine v_og ?_ | refine v_q ?_ | refine v_sr ?_ | refine v_k ?_ | refine m_nil ?_)
                refine loop_n (y + 1) (by omega) ?_ ?_ (by omega)
                · ((repeat (first | exact trivial | (refine ⟨?_, ?_⟩; (focus (first | rfl | (simp [lk, argsS, args0]; done) | (simp [lk, argsS, args0]; omega)))))))
                · rw [hsty, ← hput', hflb]; rfl
            · have : y = 4 := by omega
              subst this
              rw [← hstx]
              repeat (first | refine awp_seq ?_ | refine then_n ?_ | refine then_r ?_ | refine then_x ?_ | refine block_n ?_ | refine block_r ?_ | refine block_x ?_ | refine u_y ?_ | refine loop_r ?_ | refine loop_x ?_ | refine awp_region ?_ | refine awpL_nil ?_ | refine awpQL_nil ?_ | refine awp_block ?_ | refine awp_skip ?_ | refine awp_exit ?_ | refine awp_label ?_ | refine u_dT ?_ | refine u_d ?_ | refine u_l ?_ | refine u_o ?_ | refine u_q ?_ | refine u_lr ?_ | refine u_qr ?_ | refine u_ls ?_ | refine u_qs ?_ | refine u_t ?_ | refine u_f ?_ | refine v_s ?_ | refine v_o ?_ | refine v_on ?_ | refine v_og ?_ | refine v_q ?_ | refine v_sr ?_ | refine v_k ?_ | refine m_nil ?_)
              refine loop_n (x + 1) (by omega) ?_ rfl (by omega)
              ((repeat (first | exact trivial | (refine ⟨?_, ?_⟩; (focus (first | rfl | (simp [lk, argsS, args0]; done) | (simp [lk, argsS, args0]; omega)))))))
        · have : x = nx.length := by omega
          subst this
          rw [← hnext]
          repeat (first | refine awp_seq ?_ | refine then_n ?_ | refine then_r ?_ | refine then_x ?_ | refine block_n ?_ | refine block_r ?_ | refine block_x ?_ | refine u_y ?_ | refine loop_r ?_ | refine loop_x ?_ | refine awp_region ?_ | refine awpL_nil ?_ | refine awpQL_nil ?_ | refine awp_block ?_ | refine awp_skip ?_ | refine awp_exit ?_ | refine awp_label ?_ | refine u_dT ?_ | refine u_d ?_ | refine u_l ?_ | refine u_o ?_ | refine u_q ?_ | refine u_lr ?_ | refine u_qr ?_ | refine u_ls ?_ | refine u_qs ?_ | refine u_t ?_ | refine u_f ?_ | refine v_s ?_ | refine v_o ?_ | refine v_on ?_ | refine v_og ?_ | refine v_q ?_ | refine v_sr ?_ | refine v_k ?_ | refine m_nil ?_)
          refine loop_n (i + 1) (by omega) ?_ rfl (by omega)
          ((repeat (first | exact trivial | (refine ⟨?_, ?_⟩; (focus (first | rfl | (simp [lk, argsS, args0]; done) | (simp [lk, argsS, args0]; omega)))))))
    · have hiI : i = I := by omega
      subst hiI
      rw [← hl] at hoki hlen hfli ⊢
      have hnd := hoki.nd
      have hlt' := hoki.lt
      refine awp_freeze 20 rfl rfl ?_
      refine awp_freeze 19 rfl rfl ?_
      repeat (first | refine awp_seq ?_ | refine then_n ?_ | refine then_r ?_ | refine then_x ?_ | refine block_n ?_ | refine block_r ?_ | refine block_x ?_ | refine u_y ?_ | refine loop_r ?_ | refine loop_x ?_ | refine awp_region ?_ | refine awpL_nil ?_ | refine awpQL_nil ?_ | refine awp_block ?_ | refine awp_skip ?_ | refine awp_exit ?_ | refine awp_label ?_ | refine u_dT ?_ | refine u_d ?_ | refine u_l ?_ | refine u_o ?_ | refine u_q ?_ | refine u_lr ?_ | refine u_qr ?_ | refine u_ls ?_ | refine u_qs ?_ | refine u_t ?_ | refine u_f ?_ | refine v_s ?_ | refine v_o ?_ | refine v_on ?_ | refine v_og ?_ | refine v_q ?_ | refine v_sr ?_ | refine v_k ?_ | refine m_nil ?_)
      refine awp_loop (fun d : Nat => d ≤ Z + 2) (fun d => [(2, .d (.ptr (.agg [.int .i64 s, rows nx, ints lp]))), (5, .d (.lst (fl l))), (11, .own 58), (12, .d (.int .i64 d)), (13, .d (.bool (decide (d ≤ Z + 1))))]) (fun d => [(58, .map (KV nx lp l d))]) (fun d => Z + 2 - d) 0 (by omega) ?_ rfl ?_
      · ((repeat (first | exact trivial | (refine ⟨?_, ?_⟩; (focus (first | rfl | (simp [lk, argsS, args0]; done) | (simp [lk, argsS, args0]; omega)))))))
      · intro d hd
        by_cases hdl : d ≤ Z + 1
        · rw [decide_eq_true hdl]
          have hkd := KV_keys (nx := nx) (lp := lp) (l := l) d
          have hgd := KV_get (nx := nx) (lp := lp) (l := l) d
          have hnx : KV nx lp l (d + 1) = rnd nx lp d l (KV nx lp l d) := rfl
          generalize KV nx lp l d = kv at *
          have hr0 : kv = rnd nx lp d (l.take 0) kv := rfl
          have hn0 : nwB nx lp d (l.take 0) = false := by cases d <;> rfl
          repeat (first | refine awp_seq ?_ | refine then_n ?_ | refine then_r ?_ | refine then_x ?_ | refine block_n ?_ | refine block_r ?_ | refine block_x ?_ | refine u_y ?_ | refine loop_r ?_ | refine loop_x ?_ | refine awp_region ?_ | refine awpL_nil ?_ | refine awpQL_nil ?_ | refine awp_block ?_ | refine awp_skip ?_ | refine awp_exit ?_ | refine awp_label ?_ | refine u_dT ?_ | refine u_d ?_ | refine u_l ?_ | refine u_o ?_ | refine u_q ?_ | refine u_lr ?_ | refine u_qr ?_ | refine u_ls ?_ | refine u_qs ?_ | refine u_t ?_ | refine u_f ?_ | refine v_s ?_ | refine v_o ?_ | refine v_on ?_ | refine v_og ?_ | refine v_q ?_ | refine v_sr ?_ | refine v_k ?_ | refine m_nil ?_)
          refine awp_loop (fun j : Nat => j ≤ l.length) (fun j => [(2, .d (.ptr (.agg [.int .i64 s, rows nx, ints lp]))), (5, .d (.lst (fl l))), (11, .own 58), (12, .d (.int .i64 d)), (13, .d (.bool (nwB nx lp d (l.take j)))), (62, .d (.lst (fl l))), (63, .d (.int .i64 l.length)), (64, .d (.int .i64 j))]) (fun j => [(58, .map (rnd nx lp d (l.take j) kv))]) (fun j => l.length - j) 0 (by omega) ?_ rfl ?_
          · refine ⟨rfl, rfl, rfl, rfl, ?_, rfl, ?_, rfl, trivial⟩
            · rw [hn0]; rfl
            · exact congrArg (fun n : Nat => SV.d (.int .i64 n)) hfli
          · intro j hj
            have hkj := rnd_keys (nx := nx) (lp := lp) (d := d) (m := l.take j) hkd
            have hgj := rnd_get hgd j hj
            by_cases hjl : j < l.length
            · have hel : (fl l)[(j : Int).toNat]? = some (.int .u64 ((l[j] : Nat) : Int)) := by simp [fl, hjl]
              have hmem := List.getElem_mem hjl
              have hgN := hlt' _ hmem
              have hnt : l[j] ∉ l.take j := fun h => by
                obtain ⟨k, hk, e⟩ := List.mem_take_iff_getElem.1 h
                have := (List.getElem_inj hnd).1 e
                omega
              have hgg := hgj _ hmem
              rw [if_neg hnt] at hgg
              have htk := rnd_take (nx := nx) (lp := lp) (d := d) (kvs := kv) hjl
              generalize hkjj : rnd nx lp d (l.take j) kv = kj at *
              unfold stepR at htk
              by_cases hkn : 0 ≤ prv nx lp d l[j]
              · have ho : optD (prv nx lp d l[j]) = some (.int .i64 (prv nx lp d l[j])) := if_pos hkn
                rw [ho] at hgg
                have hget : MGet ((l[j] : Nat) : Int) kj (some (.int .i64 (prv nx lp d l[j]))) := ⟨hgg⟩
                rw [hgg] at htk
                have hnw : nwB nx lp d (l.take (j + 1)) = nwB nx lp d (l.take j) := by
                  cases d with
                  | zero => rfl
                  | succ d =>
                    rw [nwB_take hjl]
                    have : decide (dN nx lp d l[j] < 0) = false := decide_eq_false (by have : 0 ≤ dN nx lp d l[j] := hkn; omega)
                    rw [this]; simp
                repeat (first | refine awp_seq ?_ | refine then_n ?_ | refine then_r ?_ | refine then_x ?_ | refine block_n ?_ | refine block_r ?_ | refine block_x ?_ | refine u_y ?_ | refine loop_r ?_ | refine loop_x ?_ | refine awp_region ?_ | refine awpL_nil ?_ | refine awpQL_nil ?_ | refine awp_block ?_ | refine awp_skip ?_ | refine awp_exit ?_ | refine awp_label ?_ | refine u_dT ?_ | refine u_d ?_ | ((first | apply x_l | apply x_q | apply x_lr | apply x_qr); (focus (first | (apply wa_got; (iterate 11 (focus (first | exact rfl | (first | assumption | omega | (simp; omega) | (simp; done) | rfl))))))); exact rfl) | (apply v_x; (iterate 2 exact rfl); (focus (intro ok0 nw hle; (first | (apply wa_got; (iterate 11 (focus (first | exact rfl | (first | assumption | omega | (simp; omega) | (simp; done) | rfl)))))))); (iterate 2 exact rfl)) | refine u_l ?_ | refine u_o ?_ | refine u_q ?_ | refine u_lr ?_ | refine u_qr ?_ | refine u_ls ?_ | refine u_qs ?_ | refine u_t ?_ | refine u_f ?_ | refine v_s ?_ | refine v_o ?_ | refine v_on ?_ | refine v_og ?_ | refine v_q ?_ | refine v_sr ?_ | refine v_k ?_ | refine m_nil ?_)
                refine loop_n (j + 1) (by omega) ?_ ?_ (by omega)
                · rw [hnw]; ((repeat (first | exact trivial | (refine ⟨?_, ?_⟩; (focus (first | rfl | (simp [lk, argsS, args0]; done) | (simp [lk, argsS, args0]; omega)))))))
                · rw [htk]
              · have ho : optD (prv nx lp d l[j]) = none := if_neg hkn
                rw [ho] at hgg
                have hget : MGet ((l[j] : Nat) : Int) kj none := ⟨hgg⟩
                rw [hgg] at htk
                cases d with
                | zero =>
                  have e1 := hsm _ hgN
                  have hd0 : dN nx lp 0 l[j] = if sm l[j] then 0 else -1 := rfl
                  have hnw : nwB nx lp 0 (l.take (j + 1)) = nwB nx lp 0 (l.take j) := rfl
                  cases hsmb : sm l[j]
                  · rw [hsmb] at hd0 e1
                    rw [hd0] at htk
                    repeat (first | refine awp_seq ?_ | refine then_n ?_ | refine then_r ?_ | refine then_x ?_ | refine block_n ?_ | refine block_r ?_ | refine block_x ?_ | refine u_y ?_ | refine loop_r ?_ | refine loop_x ?_ | refine awp_region ?_ | refine awpL_nil ?_ | refine awpQL_nil ?_ | refine awp_block ?_ | refine awp_skip ?_ | refine awp_exit ?_ | refine awp_label ?_ | refine u_dT ?_ | refine u_d ?_ | ((first | apply x_l | apply x_q | apply x_lr | apply x_qr); (focus (first | (apply wa_got; (iterate 11 (focus (first | exact rfl | (first | assumption | omega | (simp; omega) | (simp; done) | rfl))))))); exact rfl) | ((first | apply c_l | apply c_q | apply c_lr | apply c_qr); (iterate 2 exact rfl); (focus (first | exact e1)); (iterate 2 exact rfl)) | (apply v_x; (iterate 2 exact rfl); (focus (intro ok0 nw hle; (first | (apply wa_got; (iterate 11 (focus (first | exact rfl | (first | assumption | omega | (simp; omega) | (simp; done) | rfl)))))))); (iterate 2 exact rfl)) | (apply v_c; (iterate 4 exact rfl); (focus (first | exact e1)); (iterate 2 exact rfl)) | refine u_l ?_ | refine u_o ?_ | refine u_q ?_ | refine u_lr ?_ | refine u_qr ?_ | refine u_ls ?_ | refine u_qs ?_ | refine u_t ?_ | refine u_f ?_ | refine v_s ?_ | refine v_o ?_ | refine v_on ?_ | refine v_og ?_ | refine v_q ?_ | refine v_sr ?_ | refine v_k ?_ | refine m_nil ?_)
                    refine loop_n (j + 1) (by omega) ?_ ?_ (by omega)
                    · rw [hnw]; ((repeat (first | exact trivial | (refine ⟨?_, ?_⟩; (focus (first | rfl | (simp [lk, argsS, args0]; done) | (simp [lk, argsS, args0]; omega)))))))
                    · rw [htk]; rfl
                  · rw [hsmb] at hd0 e1
                    rw [hd0] at htk
                    repeat (first | refine awp_seq ?_ | refine then_n ?_ | refine then_r ?_ | refine then_x ?_ | refine block_n ?_ | refine block_r ?_ | refine block_x ?_ | refine u_y ?_ | refine loop_r ?_ | refine loop_x ?_ | refine awp_region ?_ | refine awpL_nil ?_ | refine awpQL_nil ?_ | refine awp_block ?_ | refine awp_skip ?_ | refine awp_exit ?_ | refine awp_label ?_ | refine u_dT ?_ | refine u_d ?_ | ((first | apply x_l | apply x_q | apply x_lr | apply x_qr); (focus (first | (apply wa_got; (iterate 11 (focus (first | exact rfl | (first | assumption | omega | (simp; omega) | (simp; done) | rfl))))))); exact rfl) | ((first | apply c_l | apply c_q | apply c_lr | apply c_qr); (iterate 2 exact rfl); (focus (first | exact e1)); (iterate 2 exact rfl)) | (apply v_x; (iterate 2 exact rfl); (focus (intro ok0 nw hle; (first | (apply wa_got; (iterate 11 (focus (first | exact rfl | (first | assumption | omega | (simp; omega) | (simp; done) | rfl)))))))); (iterate 2 exact rfl)) | (apply v_c; (iterate 4 exact rfl); (focus (first | exact e1)); (iterate 2 exact rfl)) | refine u_l ?_ | refine u_o ?_ | refine u_q ?_ | refine u_lr ?_ | refine u_qr ?_ | refine u_ls ?_ | refine u_qs ?_ | refine u_t ?_ | refine u_f ?_ | refine v_s ?_ | refine v_o ?_ | refine v_on ?_ | refine v_og ?_ | refine v_q ?_ | refine v_sr ?_ | refine v_k ?_ | refine m_nil ?_)
                    refine loop_n (j + 1) (by omega) ?_ ?_ (by omega)
                    · rw [hnw]; ((repeat (first | exact trivial | (refine ⟨?_, ?_⟩; (focus (first | rfl | (simp [lk, argsS, args0]; done) | (simp [lk, argsS, args0]; omega)))))))
                    · rw [htk]; rfl
                | succ e =>
                  have hneg : dN nx lp e l[j] < 0 := by
                    have : ¬ 0 ≤ dN nx lp e l[j] := hkn
                    omega
                  have e1 := hlet l[j] (fun g => if g ∈ l.take j then dN nx lp (e + 1) g else dN nx lp e g) ((e + 1 : Nat) : Int) kj hgN hkj fun x y hx hy => by
                    have := hgj _ (hcl _ hmem x y hx hy)
                    rw [this]
                    show _ = optD (if bel nx lp l[j] x y ∈ l.take j then dN nx lp (e + 1) (bel nx lp l[j] x y) else dN nx lp e (bel nx lp l[j] x y))
                    split <;> rfl
                  have hfit : ∀ x, fitB (fun g => if g ∈ l.take j then dN nx lp (e + 1) g else dN nx lp e g) ((e + 1 : Nat) : Int) (bel nx lp l[j] x) 4 = good sm (bel nx lp) nx.length 4 e l[j] x := fun x => by
                    have hp2 : ∀ g, (decide (0 ≤ (if g ∈ l.take j then dN nx lp (e + 1) g else dN nx lp e g)) && decide ((if g ∈ l.take j then dN nx lp (e + 1) g else dN nx lp e g) < ((e + 1 : Nat) : Int))) = decide (0 ≤ dN nx lp e g) := fun g => by
                      rw [Bool.eq_iff_iff]
                      simp only [Bool.and_eq_true, decide_eq_true_eq]
                      have h1 := dN_range (nx := nx) (lp := lp) (d := e) (f := g)
                      have h2 : 0 ≤ dN nx lp e g ↔ 0 ≤ dN nx lp (e + 1) g ∧ dN nx lp (e + 1) g ≤ e := dv_le (by omega : e ≤ e + 1)
                      split
                      · rw [h2]; omega
                      · omega
                    unfold fitB good
                    congr 1
                    funext y
                    exact hp2 (bel nx lp l[j] x y)
                  have hfe : fstL (fun x => fitB (fun g => if g ∈ l.take j then dN nx lp (e + 1) g else dN nx lp e g) ((e + 1 : Nat) : Int) (bel nx lp l[j] x) 4) nx.length (-1) = fstL (fun x => good sm (bel nx lp) nx.length 4 e l[j] x) nx.length (-1) := by
                    congr 1
                    funext x
                    exact hfit x
                  rw [hfe] at e1
                  have hnw := nwB_take (nx := nx) (lp := lp) (d := e) hjl
                  rw [decide_eq_true hneg, Bool.true_and] at hnw
                  by_cases hnew : 0 ≤ dN nx lp (e + 1) l[j]
                  · obtain ⟨x, hx1, hx2, hx3⟩ := fstL_mem (z := -1) ((new_iff hneg).1 hnew)
                    rw [hx1] at e1
                    rw [decide_eq_true hnew, Bool.or_true] at hnw
                    simp only [] at htk
                    rw [if_pos hnew, new_val hneg hnew] at htk
                    repeat (first | refine awp_seq ?_ | refine then_n ?_ | refine then_r ?_ | refine then_x ?_ | refine block_n ?_ | refine block_r ?_ | refine block_x ?_ | refine u_y ?_ | refine loop_r ?_ | refine loop_x ?_ | refine awp_region ?_ | refine awpL_nil ?_ | refine awpQL_nil ?_ | refine awp_block ?_ | refine awp_skip ?_ | refine awp_exit ?_ | refine awp_label ?_ | refine u_dT ?_ | refine u_d ?_ | ((first | apply x_l | apply x_q | apply x_lr | apply x_qr); (focus (first | (apply wa_got; (iterate 11 (focus (first | exact rfl | (first | assumption | omega | (simp; omega) | (simp; done) | rfl))))))); exact rfl) | ((first | apply c_l | apply c_q | apply c_lr | apply c_qr); (iterate 2 exact rfl); (focus (first | exact e1)); (iterate 2 exact rfl)) | (apply v_x; (iterate 2 exact rfl); (focus (intro ok0 nw hle; (first | (apply wa_got; (iterate 11 (focus (first | exact rfl | (first | assumption | omega | (simp; omega) | (simp; done) | rfl)))))))); (iterate 2 exact rfl)) | (apply v_c; (iterate 4 exact rfl); (focus (first | exact e1)); (iterate 2 exact rfl)) | refine u_l ?_ | refine u_o ?_ | refine u_q ?_ | refine u_lr ?_ | refine u_qr ?_ | refine u_ls ?_ | refine u_qs ?_ | refine u_t ?_ | refine u_f ?_ | refine v_s ?_ | refine v_o ?_ | refine v_on ?_ | refine v_og ?_ | refine v_q ?_ | refine v_sr ?_ | refine v_k ?_ | refine m_nil ?_)
                    refine u_sl ?_ ?_
                    rotate_left
                    · intro hb; exact absurd hb (by first | (simp; done) | (simp; omega))
                    intro _
                    repeat (first | refine awp_seq ?_ | refine then_n ?_ | refine then_r ?_ | refine then_x ?_ | refine block_n ?_ | refine block_r ?_ | refine block_x ?_ | refine u_y ?_ | refine loop_r ?_ | refine loop_x ?_ | refine awp_region ?_ | refine awpL_nil ?_ | refine awpQL_nil ?_ | refine awp_block ?_ | refine awp_skip ?_ | refine awp_exit ?_ | refine awp_label ?_ | refine u_dT ?_ | refine u_d ?_ | ((first | apply x_l | apply x_q | apply x_lr | apply x_qr); (focus (first | (apply wa_got; (iterate 11 (focus (first | exact rfl | (first | assumption | omega | (simp; omega) | (simp; done) | rfl))))))); exact rfl) | ((first | apply c_l | apply c_q | apply c_lr | apply c_qr); (iterate 2 exact rfl); (focus (first | exact e1)); (iterate 2 exact rfl)) | (apply v_x; (iterate 2 exact rfl); (focus (intro ok0 nw hle; (first | (apply wa_got; (iterate 11 (focus (first | exact rfl | (first | assumption | omega | (simp; omega) | (simp; done) | rfl)))))))); (iterate 2 exact rfl)) | (apply v_c; (iterate 4 exact rfl); (focus (first | exact e1)); (iterate 2 exact rfl)) | refine u_l ?_ | refine u_o ?_ | refine u_q ?_ | refine u_lr ?_ | refine u_qr ?_ | refine u_ls ?_ | refine u_qs ?_ | refine u_t ?_ | refine u_f ?_ | refine v_s ?_ | refine v_o ?_ | refine v_on ?_ | refine v_og ?_ | refine v_q ?_ | refine v_sr ?_ | refine v_k ?_ | refine m_nil ?_)
                    refine loop_n (j + 1) (by omega) ?_ ?_ (by omega)
                    · rw [hnw]; ((repeat (first | exact trivial | (refine ⟨?_, ?_⟩; (focus (first | rfl | (simp [lk, argsS, args0]; done) | (simp [lk, argsS, args0]; omega)))))))
                    · rw [htk]; rfl
                  · have hfn : fstL (fun x => good sm (bel nx lp) nx.length 4 e l[j] x) nx.length (-1) = -1 := fstL_none fun x hx => by
                      cases h : good sm (bel nx lp) nx.length 4 e l[j] x with
                      | false => rfl
                      | true => exact absurd ((new_iff hneg).2 ⟨x, hx, h⟩) hnew
                    rw [hfn] at e1
                    rw [decide_eq_false hnew, Bool.or_false] at hnw
                    simp only [] at htk
                    rw [if_neg hnew] at htk
                    repeat (first | refine awp_seq ?_ | refine then_n ?_ | refine then_r ?_ | refine then_x ?_ | refine block_n ?_ | refine block_r ?_ | refine block_x ?_ | refine u_y ?_ | refine loop_r ?_ | refine loop_x ?_ | refine awp_region ?_ | refine awpL_nil ?_ | refine awpQL_nil ?_ | refine awp_block ?_ | refine awp_skip ?_ | refine awp_exit ?_ | refine awp_label ?_ | refine u_dT ?_ | refine u_d ?_ | ((first | apply x_l | apply x_q | apply x_lr | apply x_qr); (focus (first | (apply wa_got; (iterate 11 (focus (first | exact rfl | (first | assumption | omega | (simp; omega) | (simp; done) | rfl))))))); exact rfl) | ((first | apply c_l | apply c_q | apply c_lr | apply c_qr); (iterate 2 exact rfl); (focus (first | exact e1)); (iterate 2 exact rfl)) | (apply v_x; (iterate 2 exact rfl); (focus (intro ok0 nw hle; (first | (apply wa_got; (iterate 11 (focus (first | exact rfl | (first | assumption | omega | (simp; omega) | (simp; done) | rfl)))))))); (iterate 2 exact rfl)) | (apply v_c; (iterate 4 exact rfl); (focus (first | exact e1)); (iterate 2 exact rfl)) | refine u_l ?_ | refine u_o ?_ | refine u_q ?_ | refine u_lr ?_ | refine u_qr ?_ | refine u_ls ?_ | refine u_qs ?_ | refine u_t ?_ | refine u_f ?_ | refine v_s ?_ | refine v_o ?_ | refine v_on ?_ | refine v_og ?_ | refine v_q ?_ | refine v_sr ?_ | refine v_k ?_ | refine m_nil ?_)
                    refine u_sl ?_ ?_
                    rotate_left
                    · intro hb; exact absurd hb (by first | (simp; done) | (simp; omega))
                    intro _
                    repeat (first | refine awp_seq ?_ | refine then_n ?_ | refine then_r ?_ | refine then_x ?_ | refine block_n ?_ | refine block_r ?_ | refine block_x ?_ | refine u_y ?_ | refine loop_r ?_ | refine loop_x ?_ | refine awp_region ?_ | refine awpL_nil ?_ | refine awpQL_nil ?_ | refine awp_block ?_ | refine awp_skip ?_ | refine awp_exit ?_ | refine awp_label ?_ | refine u_dT ?_ | refine u_d ?_ | ((first | apply x_l | apply x_q | apply x_lr | apply x_qr); (focus (first | (apply wa_got; (iterate 11 (focus (first | exact rfl | (first | assumption | omega | (simp; omega) | (simp; done) | rfl))))))); exact rfl) | ((first | apply c_l | apply c_q | apply c_lr | apply c_qr); (iterate 2 exact rfl); (focus (first | exact e1)); (iterate 2 exact rfl)) | (apply v_x; (iterate 2 exact rfl); (focus (intro ok0 nw hle; (first | (apply wa_got; (iterate 11 (focus (first | exact rfl | (first | assumption | omega | (simp; omega) | (simp; done) | rfl)))))))); (iterate 2 exact rfl)) | (apply v_c; (iterate 4 exact rfl); (focus (first | exact e1)); (iterate 2 exact rfl)) | refine u_l ?_ | refine u_o ?_ | refine u_q ?_ | refine u_lr ?_ | refine u_qr ?_ | refine u_ls ?_ | refine u_qs ?_ | refine u_t ?_ | refine u_f ?_ | refine v_s ?_ | refine v_o ?_ | refine v_on ?_ | refine v_og ?_ | refine v_q ?_ | refine v_sr ?_ | refine v_k ?_ | refine m_nil ?_)
                    refine loop_n (j + 1) (by omega) ?_ ?_ (by omega)
                    · rw [hnw]; ((repeat (first | exact trivial | (refine ⟨?_, ?_⟩; (focus (first | rfl | (simp [lk, argsS, args0]; done) | (simp [lk, argsS, args0]; omega)))))))
                    · rw [htk]
            · have hjl' : j = l.length := by omega
              subst hjl'
              rw [List.take_length] at *
              rw [← hnx]
              cases d with
              | zero =>
                have hnw : nwB nx lp 0 l = false := rfl
                rw [hnw]
                repeat (first | refine awp_seq ?_ | refine then_n ?_ | refine then_r ?_ | refine then_x ?_ | refine block_n ?_ | refine block_r ?_ | refine block_x ?_ | refine u_y ?_ | refine loop_r ?_ | refine loop_x ?_ | refine awp_region ?_ | refine awpL_nil ?_ | refine awpQL_nil ?_ | refine awp_block ?_ | refine awp_skip ?_ | refine awp_exit ?_ | refine awp_label ?_ | refine u_dT ?_ | refine u_d ?_ | refine u_l ?_ | refine u_o ?_ | refine u_q ?_ | refine u_lr ?_ | refine u_qr ?_ | refine u_ls ?_ | refine u_qs ?_ | refine u_t ?_ | refine u_f ?_ | refine v_s ?_ | refine v_o ?_ | refine v_on ?_ | refine v_og ?_ | refine v_q ?_ | refine v_sr ?_ | refine v_k ?_ | refine m_nil ?_)
                refine loop_n 1 (by omega) ?_ rfl (by omega)
                ((repeat (first | exact trivial | (refine ⟨?_, ?_⟩; (focus (first | rfl | (simp [lk, argsS, args0]; done) | (simp [lk, argsS, args0]; omega)))))))
              | succ e =>
                have hnw : nwB nx lp (e + 1) l = decide (e + 2 ≤ Z + 1) := by
                  rw [Bool.eq_iff_iff, nwB_still, decide_eq_true_eq]
                  constructor
                  · intro h
                    rcases Nat.lt_or_ge e Z with h' | h'
                    · omega
                    · have : e = Z := by omega
                      subst this
                      exact absurd hst h
                  · intro h; exact hmin e (by omega)
                rw [hnw]
                cases hdec : decide (e + 2 ≤ Z + 1)
                · repeat (first | refine awp_seq ?_ | refine then_n ?_ | refine then_r ?_ | refine then_x ?_ | refine block_n ?_ | refine block_r ?_ | refine block_x ?_ | refine u_y ?_ | refine loop_r ?_ | refine loop_x ?_ | refine awp_region ?_ | refine awpL_nil ?_ | refine awpQL_nil ?_ | refine awp_block ?_ | refine awp_skip ?_ | refine awp_exit ?_ | refine awp_label ?_ | refine u_dT ?_ | refine u_d ?_ | refine u_l ?_ | refine u_o ?_ | refine u_q ?_ | refine u_lr ?_ | refine u_qr ?_ | refine u_ls ?_ | refine u_qs ?_ | refine u_t ?_ | refine u_f ?_ | refine v_s ?_ | refine v_o ?_ | refine v_on ?_ | refine v_og ?_ | refine v_q ?_ | refine v_sr ?_ | refine v_k ?_ | refine m_nil ?_)
                  refine loop_n (e + 2) (by omega) ?_ rfl (by omega)
                  rw [hdec]
                  ((repeat (first | exact trivial | (refine ⟨?_, ?_⟩; (focus (first | rfl | (simp [lk, argsS, args0]; done) | (simp [lk, argsS, args0]; omega)))))))
                · repeat (first | refine awp_seq ?_ | refine then_n ?_ | refine then_r ?_ | refine then_x ?_ | refine block_n ?_ | refine block_r ?_ | refine block_x ?_ | refine u_y ?_ | refine loop_r ?_ | refine loop_x ?_ | refine awp_region ?_ | refine awpL_nil ?_ | refine awpQL_nil ?_ | refine awp_block ?_ | refine awp_skip ?_ | refine awp_exit ?_ | refine awp_label ?_ | refine u_dT ?_ | refine u_d ?_ | refine u_l ?_ | refine u_o ?_ | refine u_q ?_ | refine u_lr ?_ | refine u_qr ?_ | refine u_ls ?_ | refine u_qs ?_ | refine u_t ?_ | refine u_f ?_ | refine v_s ?_ | refine v_o ?_ | refine v_on ?_ | refine v_og ?_ | refine v_q ?_ | refine v_sr ?_ | refine v_k ?_ | refine m_nil ?_)
                  refine loop_n (e + 2) (by omega) ?_ rfl (by omega)
                  rw [hdec]
                  ((repeat (first | exact trivial | (refine ⟨?_, ?_⟩; (focus (first | rfl | (simp [lk, argsS, args0]; done) | (simp [lk, argsS, args0]; omega)))))))
        · have : d = Z + 2 := by omega
          subst this
          rw [decide_eq_false (by omega)]
          repeat (first | refine awp_seq ?_ | refine then_n ?_ | refine then_r ?_ | refine then_x ?_ | refine block_n ?_ | refine block_r ?_ | refine block_x ?_ | refine u_y ?_ | refine loop_r ?_ | refine loop_x ?_ | refine awp_region ?_ | refine awpL_nil ?_ | refine awpQL_nil ?_ | refine awp_block ?_ | refine awp_skip ?_ | refine awp_exit ?_ | refine awp_label ?_ | refine u_dT ?_ | refine u_d ?_ | refine u_l ?_ | refine u_o ?_ | refine u_q ?_ | refine u_lr ?_ | refine u_qr ?_ | refine u_ls ?_ | refine u_qs ?_ | refine u_t ?_ | refine u_f ?_ | refine v_s ?_ | refine v_o ?_ | refine v_on ?_ | refine v_og ?_ | refine v_q ?_ | refine v_sr ?_ | refine v_k ?_ | refine m_nil ?_)
          (refine awp_ret ?_; (repeat (first | refine then_r ?_ | refine block_r ?_ | refine loop_r ?_)); apply ret_ok (.inr rfl); (focus exact rfl))
          rfl

end Go.Proofs.Ytkomkhigcdkpdaa
