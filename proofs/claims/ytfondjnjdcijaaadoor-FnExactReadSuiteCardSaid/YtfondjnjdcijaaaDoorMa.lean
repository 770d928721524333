/- Contracts of how the laws' package marks what it was given, looks for its marks, and copies. No condition. -/
import Derived.Test.YtfondjnjdcijaaaDoorWa
namespace Go.Proofs.YtfondjnjdcijaaaDoor
open Go
attribute [local irreducible] awp awpL awpQL awpQ awpM pWalk Qt AC thenQ blockQ loopQ OpTo
set_option linter.unusedVariables false
set_option linter.unusedSimpArgs false
set_option maxHeartbeats 2000000
attribute [local irreducible] HC

theorem likeIn_nil {h' : Heap} : likeIn [] h' := fun p hp => by cases hp
theorem likeIn_cons {h h' : Heap} {id : Nat} {c c' : Chunk} (hg : h'.get id = some c') (hl : c.like c') (hr : likeIn h h') : likeIn ((id, c) :: h) h' := fun p hp ha => by
  rcases List.mem_cons.1 hp with rfl | hp
  · exact ⟨c', hg, hl⟩
  · exact hr p hp ha

/-- k, k + 1, .. -/
def mk1 : Int → Nat → List Int
  | _, 0 => []
  | k, n + 1 => k :: mk1 (k + 1) n
theorem mk1_length : ∀ (n : Nat) (k : Int), (mk1 k n).length = n
  | 0, _ => rfl
  | n + 1, k => by simp [mk1, mk1_length n]
theorem mk1_get : ∀ (n : Nat) (k : Int) (i : Nat), i < n → (mk1 k n)[i]? = some (k + i)
  | 0, _, i, h => by omega
  | n + 1, k, 0, h => by simp [mk1]
  | n + 1, k, i + 1, h => by
    simp only [mk1, List.getElem?_cons_succ]
    rw [mk1_get n (k + 1) i (by omega)]
    congr 1
    omega
theorem mk1_snoc (k : Int) (n : Nat) : mk1 k (n + 1) = mk1 k n ++ [k + n] := by
  apply List.ext_getElem?
  intro i
  by_cases h : i < n
  · rw [mk1_get _ _ _ (by omega), List.getElem?_append_left (by rw [mk1_length]; exact h), mk1_get _ _ _ h]
  · by_cases h2 : i = n
    · subst h2
      rw [mk1_get _ _ _ (by omega), List.getElem?_append_right (by rw [mk1_length]; omega), mk1_length]
      simp
    · rw [List.getElem?_eq_none (by rw [mk1_length]; omega), List.getElem?_eq_none (by simp [mk1_length]; omega)]

theorem mk1_step {k : Int} {xs : List Int} {i : Nat} (hi : i < xs.length) : (List.map (D.int .i64) (mk1 k i ++ xs.drop i)).set (i : Int).toNat (.int .i64 (k + i)) = List.map (D.int .i64) (mk1 k (i + 1) ++ xs.drop (i + 1)) := by
  have e1 : xs.drop i = xs[i] :: xs.drop (i + 1) := List.drop_eq_getElem_cons hi
  have h : (i : Int).toNat = (List.map (D.int .i64) (mk1 k i)).length := by simp [mk1_length]
  rw [mk1_snoc, e1, h, List.map_append, List.set_append_right _ _ (Nat.le_refl _), Nat.sub_self, List.map_cons, List.set_cons_zero]
  simp

theorem laws_markInt64S {xs : List Int} {k : Int} (hk : 0 ≤ k) (hl : k + xs.length ≤ 4611686018427387904) :
    HC Tryd.prog 27 [.own 10000, .d (.int .i64 k)] [(10000, .arr 2 1 (xs.map (.int .i64)))] (.d (.int .i64 (k + xs.length))) [(10000, .arr 2 1 ((mk1 k xs.length).map (.int .i64)))] := by
  refine hc_intro tabIs _ Tryd.func27 rfl rfl Tryd.ntmps27 rfl rfl rfl ?_ fun w0 ok0 XM XA anc => ?_
  · refine likeIn_cons rfl ?_ likeIn_nil
    exact ⟨rfl, rfl, by simp [mk1_length]⟩
  repeat (first | refine awp_seq ?_ | refine then_n ?_ | refine then_r ?_ | refine then_x ?_ | refine block_n ?_ | refine block_r ?_ | refine block_x ?_ | refine u_y ?_ | refine loop_r ?_ | refine loop_x ?_ | refine awp_region ?_ | refine awpL_nil ?_ | refine awpQL_nil ?_ | refine awp_block ?_ | refine awp_skip ?_ | refine awp_exit ?_ | refine awp_label ?_ | refine u_dT ?_ | refine u_d ?_ | refine u_l ?_ | refine u_o ?_ | refine u_q ?_ | refine u_lr ?_ | refine u_qr ?_ | refine u_ls ?_ | refine u_qs ?_ | refine u_t ?_ | refine u_f ?_ | refine v_s ?_ | refine v_o ?_ | refine v_on ?_ | refine v_og ?_ | refine v_q ?_ | refine v_sr ?_ | refine v_k ?_ | refine m_nil ?_)
  refine awp_loop (fun i : Nat => i ≤ xs.length)
    (fun i => [(0, .own 10000), (1, .d (.int .i64 (k + i))), (5, .d (.int .i64 i))]) (fun i => [(10000, .arr 2 1 ((mk1 k i ++ xs.drop i).map (.int .i64)))]) (fun i => xs.length - i) 0 (by simp) ?_ rfl ?_
  · ((repeat (first | exact trivial | (refine ⟨?_, ?_⟩; (focus (first | rfl | (simp [lk, argsS, args0]; done) | (simp [lk, argsS, args0]; omega)))))))
  · intro i hi
    have hm1 : (mk1 k i).length = i := mk1_length ..
    have hle : (List.map (D.int .i64) (mk1 k i ++ xs.drop i)).length = xs.length := by simp [mk1_length]; omega
    by_cases hlt : i < xs.length
    · repeat (first | refine awp_seq ?_ | refine then_n ?_ | refine then_r ?_ | refine then_x ?_ | refine block_n ?_ | refine block_r ?_ | refine block_x ?_ | refine u_y ?_ | refine loop_r ?_ | refine loop_x ?_ | refine awp_region ?_ | refine awpL_nil ?_ | refine awpQL_nil ?_ | refine awp_block ?_ | refine awp_skip ?_ | refine awp_exit ?_ | refine awp_label ?_ | refine u_dT ?_ | refine u_d ?_ | refine u_l ?_ | refine u_o ?_ | refine u_q ?_ | refine u_lr ?_ | refine u_qr ?_ | refine u_ls ?_ | refine u_qs ?_ | refine u_t ?_ | refine u_f ?_ | refine v_s ?_ | refine v_o ?_ | refine v_on ?_ | refine v_og ?_ | refine v_q ?_ | refine v_sr ?_ | refine v_k ?_ | refine m_nil ?_)
      refine loop_n (i + 1) (by omega) ?_ (by simp only [setH, Nat.beq_refl, mk1_step hlt]) (by omega)
      ((repeat (first | exact trivial | (refine ⟨?_, ?_⟩; (focus (first | rfl | (simp [lk, argsS, args0]; done) | (simp [lk, argsS, args0]; omega)))))))
    · have : i = xs.length := by omega
      subst this
      repeat (first | refine awp_seq ?_ | refine then_n ?_ | refine then_r ?_ | refine then_x ?_ | refine block_n ?_ | refine block_r ?_ | refine block_x ?_ | refine u_y ?_ | refine loop_r ?_ | refine loop_x ?_ | refine awp_region ?_ | refine awpL_nil ?_ | refine awpQL_nil ?_ | refine awp_block ?_ | refine awp_skip ?_ | refine awp_exit ?_ | refine awp_label ?_ | refine u_dT ?_ | refine u_d ?_ | refine u_l ?_ | refine u_o ?_ | refine u_q ?_ | refine u_lr ?_ | refine u_qr ?_ | refine u_ls ?_ | refine u_qs ?_ | refine u_t ?_ | refine u_f ?_ | refine v_s ?_ | refine v_o ?_ | refine v_on ?_ | refine v_og ?_ | refine v_q ?_ | refine v_sr ?_ | refine v_k ?_ | refine m_nil ?_)
      (refine awp_ret ?_; (repeat (first | refine then_r ?_ | refine block_r ?_ | refine loop_r ?_)); refine u_rH [(10000, 10000)] ?_ ?_)
      · rfl
      · simp [pickH, pickG, Heap.get, Chunk.mapc, look]

def tot : List (List Int) → Nat
  | [] => 0
  | ns :: l => ns.length + tot l
theorem tot_append (a b : List (List Int)) : tot (a ++ b) = tot a + tot b := by
  induction a with
  | nil => simp [tot]
  | cons x a ih => simp [tot, ih]; omega

/-- Rows, each of them marked on from where the one before it ends. -/
def mkR : Int → List (List Int) → List (List Int)
  | _, [] => []
  | k, ns :: l => mk1 k ns.length :: mkR (k + ns.length) l
theorem mkR_length : ∀ (l : List (List Int)) (k : Int), (mkR k l).length = l.length
  | [], _ => rfl
  | ns :: l, k => by simp [mkR, mkR_length l]
theorem mkR_lens : ∀ (l : List (List Int)) (k : Int), (mkR k l).map List.length = l.map List.length
  | [], _ => rfl
  | ns :: l, k => by simp [mkR, mkR_lens l, mk1_length]
theorem mkR_snoc : ∀ (l : List (List Int)) (k : Int) (ns : List Int), mkR k (l ++ [ns]) = mkR k l ++ [mk1 (k + tot l) ns.length]
  | [], k, ns => by simp [mkR, tot]
  | x :: l, k, ns => by
    have e : k + (x.length : Int) + (tot l : Int) = k + ((x.length + tot l : Nat) : Int) := by omega
    simp only [List.cons_append, mkR, mkR_snoc l, tot, e]
theorem tot_take {nss : List (List Int)} {i : Nat} (hi : i < nss.length) : tot (nss.take (i + 1)) = tot (nss.take i) + nss[i].length := by
  rw [List.take_succ_eq_append_getElem hi, tot_append]
  simp [tot]
theorem tot_le (nss : List (List Int)) (i : Nat) : tot (nss.take i) ≤ tot nss := by
  have := tot_append (nss.take i) (nss.drop i)
  rw [List.take_append_drop] at this
  omega

/-- Rows as the data of own rows. -/
def rws (nss : List (List Int)) : List (List D) := nss.map fun ns => ns.map (.int .i64)
theorem rws_length (nss : List (List Int)) : (rws nss).length = nss.length := by simp [rws]
theorem rws_lst (nss : List (List Int)) : (rws nss).map D.lst = nss.map ints := by
  unfold rws
  rw [List.map_map]
  rfl
theorem rws_dat (nss : List (List Int)) : D.lst ((rws nss).map D.lst) = rows nss := by rw [rws_lst]; rfl

theorem mkR_like {nss : List (List Int)} {k : Int} {e e' sz : Nat} : (Chunk.rows e e' sz (rws nss) none).like (.rows e e' sz (rws (mkR k nss)) none) := by
  refine ⟨rfl, rfl, rfl, rfl, ?_⟩
  have := mkR_lens nss k
  simp only [rws, List.map_map]
  have e : (List.length ∘ fun ns : List Int => List.map (D.int .i64) ns) = List.length := by funext ns; simp
  rw [e, this]

theorem laws_markInt64SS {nss : List (List Int)} {k : Int} (hk : 0 ≤ k) (hl : k + tot nss ≤ 4611686018427387904) (hn : nss.length ≤ 9223372036854775807) :
    HC Tryd.prog 9 [.own 10000, .d (.int .i64 k)] [(10000, .rows 37 2 1 (rws nss) none)] (.d (.int .i64 (k + tot nss))) [(10000, .rows 37 2 1 (rws (mkR k nss)) none)] := by
  refine hc_intro tabIs _ Tryd.func9 rfl rfl Tryd.ntmps9 rfl rfl rfl ?_ fun w0 ok0 XM XA anc => ?_
  · refine likeIn_cons rfl ?_ likeIn_nil
    exact mkR_like
  repeat (first | refine awp_seq ?_ | refine then_n ?_ | refine then_r ?_ | refine then_x ?_ | refine block_n ?_ | refine block_r ?_ | refine block_x ?_ | refine u_y ?_ | refine loop_r ?_ | refine loop_x ?_ | refine awp_region ?_ | refine awpL_nil ?_ | refine awpQL_nil ?_ | refine awp_block ?_ | refine awp_skip ?_ | refine awp_exit ?_ | refine awp_label ?_ | refine u_dT ?_ | refine u_d ?_ | refine u_l ?_ | refine u_o ?_ | refine u_q ?_ | refine u_lr ?_ | refine u_qr ?_ | refine u_ls ?_ | refine u_qs ?_ | refine u_t ?_ | refine u_f ?_ | refine v_s ?_ | refine v_o ?_ | refine v_on ?_ | refine v_og ?_ | refine v_q ?_ | refine v_sr ?_ | refine v_k ?_ | refine m_nil ?_)
  refine awp_loop (fun i : Nat => i ≤ nss.length)
    (fun i => [(0, .own 10000), (1, .d (.int .i64 (k + tot (nss.take i)))), (5, .d (.int .i64 i))]) (fun i => [(10000, .rows 37 2 1 (rws (mkR k (nss.take i) ++ nss.drop i)) none)]) (fun i => nss.length - i) 0 (by simp) ?_ ?_ ?_
  · refine ⟨rfl, ?_, rfl, trivial⟩
    simp [lk, argsS, tot]
  · simp [mkR]
  · intro i hi
    have hmk : (mkR k (nss.take i)).length = i := by rw [mkR_length]; simp; omega
    have hle : (rws (mkR k (nss.take i) ++ nss.drop i)).length = nss.length := by rw [rws_length]; simp [hmk]; omega
    have htl := tot_le nss i
    by_cases hlt : i < nss.length
    · have hx : (rws (mkR k (nss.take i) ++ nss.drop i))[i]? = some (nss[i].map (.int .i64)) := by
        unfold rws
        rw [List.getElem?_map, List.getElem?_append_right (by omega), hmk]
        simp [hlt]
      have htk := tot_take hlt
      have htl2 := tot_le nss (i + 1)
      generalize hxs : rws (mkR k (nss.take i) ++ nss.drop i) = xss at *
      have hx' : xss[(i : Int).toNat]? = some (nss[i].map (.int .i64)) := by simpa using hx
      repeat (first | refine awp_seq ?_ | refine then_n ?_ | refine then_r ?_ | refine then_x ?_ | refine block_n ?_ | refine block_r ?_ | refine block_x ?_ | refine u_y ?_ | refine loop_r ?_ | refine loop_x ?_ | refine awp_region ?_ | refine awpL_nil ?_ | refine awpQL_nil ?_ | refine awp_block ?_ | refine awp_skip ?_ | refine awp_exit ?_ | refine awp_label ?_ | refine u_dT ?_ | refine u_d ?_ | refine u_l ?_ | refine u_o ?_ | refine u_q ?_ | refine u_lr ?_ | refine u_qr ?_ | refine u_ls ?_ | refine u_qs ?_ | refine u_t ?_ | refine u_f ?_ | refine v_s ?_ | refine v_o ?_ | refine v_on ?_ | refine v_og ?_ | refine v_q ?_ | refine v_sr ?_ | refine v_k ?_ | refine m_nil ?_)
      refine awpL_carve 15 10000 40000 rfl rfl hx' rfl rfl rfl ?_
      repeat (first | refine awp_seq ?_ | refine then_n ?_ | refine then_r ?_ | refine then_x ?_ | refine block_n ?_ | refine block_r ?_ | refine block_x ?_ | refine u_y ?_ | refine loop_r ?_ | refine loop_x ?_ | refine awp_region ?_ | refine awpL_nil ?_ | refine awpQL_nil ?_ | refine awp_block ?_ | refine awp_skip ?_ | refine awp_exit ?_ | refine awp_label ?_ | refine u_dT ?_ | refine u_d ?_ | refine u_l ?_ | refine u_o ?_ | refine u_q ?_ | refine u_lr ?_ | refine u_qr ?_ | refine u_ls ?_ | refine u_qs ?_ | refine u_t ?_ | refine u_f ?_ | refine v_s ?_ | refine v_o ?_ | refine v_on ?_ | refine v_og ?_ | refine v_q ?_ | refine v_sr ?_ | refine v_k ?_ | refine m_nil ?_)
      refine hcl [(40000, 10000)] [(10000, 40000)] (laws_markInt64S (xs := nss[i]) (k := k + tot (nss.take i)) (by omega) (by omega)) ?_
      refine awpL_back 10000 40000 rfl rfl rfl rfl rfl rfl hx' (by simp [mk1_length]) ?_
      repeat (first | refine awp_seq ?_ | refine then_n ?_ | refine then_r ?_ | refine then_x ?_ | refine block_n ?_ | refine block_r ?_ | refine block_x ?_ | refine u_y ?_ | refine loop_r ?_ | refine loop_x ?_ | refine awp_region ?_ | refine awpL_nil ?_ | refine awpQL_nil ?_ | refine awp_block ?_ | refine awp_skip ?_ | refine awp_exit ?_ | refine awp_label ?_ | refine u_dT ?_ | refine u_d ?_ | refine u_l ?_ | refine u_o ?_ | refine u_q ?_ | refine u_lr ?_ | refine u_qr ?_ | refine u_ls ?_ | refine u_qs ?_ | refine u_t ?_ | refine u_f ?_ | refine v_s ?_ | refine v_o ?_ | refine v_on ?_ | refine v_og ?_ | refine v_q ?_ | refine v_sr ?_ | refine v_k ?_ | refine m_nil ?_)
      refine loop_n (i + 1) (by omega) ?_ ?_ (by omega)
      · ((repeat (first | exact trivial | (refine ⟨?_, ?_⟩; (focus (first | rfl | (simp [lk, argsS, args0]; done) | (simp [lk, argsS, args0]; omega)))))))
      · have hst : xss.set (i : Int).toNat (List.map (.int .i64) (mk1 (k + tot (nss.take i)) nss[i].length)) = rws (mkR k (nss.take (i + 1)) ++ nss.drop (i + 1)) := by
          rw [← hxs, List.take_succ_eq_append_getElem hlt, mkR_snoc]
          have e1 : nss.drop i = nss[i] :: nss.drop (i + 1) := List.drop_eq_getElem_cons hlt
          have h : (i : Int).toNat = (rws (mkR k (nss.take i))).length := by rw [rws_length]; simp [hmk]
          have e2 : rws (mkR k (nss.take i) ++ nss.drop i) = rws (mkR k (nss.take i)) ++ rws (nss.drop i) := by simp [rws]
          rw [e2, h, List.set_append_right _ _ (Nat.le_refl _), Nat.sub_self, e1]
          show rws _ ++ (List.map _ nss[i] :: rws (nss.drop (i + 1))).set 0 _ = _
          rw [List.set_cons_zero]
          unfold rws
          simp only [List.map_append, List.map_cons, List.map_nil, List.append_assoc, List.cons_append, List.nil_append]
        rw [← hst]; rfl
    · have : i = nss.length := by omega
      subst this
      have hq : (rws (mkR k nss)).length = nss.length := by rw [rws_length, mkR_length]
      repeat (first | refine awp_seq ?_ | refine then_n ?_ | refine then_r ?_ | refine then_x ?_ | refine block_n ?_ | refine block_r ?_ | refine block_x ?_ | refine u_y ?_ | refine loop_r ?_ | refine loop_x ?_ | refine awp_region ?_ | refine awpL_nil ?_ | refine awpQL_nil ?_ | refine awp_block ?_ | refine awp_skip ?_ | refine awp_exit ?_ | refine awp_label ?_ | refine u_dT ?_ | refine u_d ?_ | refine u_l ?_ | refine u_o ?_ | refine u_q ?_ | refine u_lr ?_ | refine u_qr ?_ | refine u_ls ?_ | refine u_qs ?_ | refine u_t ?_ | refine u_f ?_ | refine v_s ?_ | refine v_o ?_ | refine v_on ?_ | refine v_og ?_ | refine v_q ?_ | refine v_sr ?_ | refine v_k ?_ | refine m_nil ?_)
      (refine awp_ret ?_; (repeat (first | refine then_r ?_ | refine block_r ?_ | refine loop_r ?_)); refine u_rH [(10000, 10000)] ?_ ?_)
      · simp [resV, SV.ren, lk]
      · simp [pickH, pickG, Heap.get, Chunk.mapc, holeMap, look]
end Go.Proofs.YtfondjnjdcijaaaDoor

/-! Contracts of how the laws' package looks for its marks, and of its copies as memory of one's own. No condition. -/
namespace Go.Proofs.YtfondjnjdcijaaaDoor
open Go
attribute [local irreducible] awp awpL awpQL awpQ awpM pWalk Qt AC thenQ blockQ loopQ OpTo
set_option linter.unusedVariables false
set_option linter.unusedSimpArgs false
set_option maxHeartbeats 2000000
attribute [local irreducible] HC

theorem laws_heldInt64S {n : Nat} {k : Int} (hk : 0 ≤ k) (hl : k + n ≤ 4611686018427387904) : AC Tryd.prog 28 [ints (mk1 k n), .int .i64 k] (.int .i64 (k + n)) := by
  have hlen := mk1_length n k
  have hle : (List.map (D.int IntKind.i64) (mk1 k n)).length = n := by simp [hlen]
  refine ac_intro tabIs _ Tryd.func28 rfl rfl Tryd.ntmps28 rfl rfl fun w0 ok0 => ?_
  repeat (first | refine awp_seq ?_ | refine then_n ?_ | refine then_r ?_ | refine then_x ?_ | refine block_n ?_ | refine block_r ?_ | refine block_x ?_ | refine u_y ?_ | refine loop_r ?_ | refine loop_x ?_ | refine awp_region ?_ | refine awpL_nil ?_ | refine awpQL_nil ?_ | refine awp_block ?_ | refine awp_skip ?_ | refine awp_exit ?_ | refine awp_label ?_ | refine u_dT ?_ | refine u_d ?_ | refine u_l ?_ | refine u_o ?_ | refine u_q ?_ | refine u_lr ?_ | refine u_qr ?_ | refine u_ls ?_ | refine u_qs ?_ | refine u_t ?_ | refine u_f ?_ | refine v_s ?_ | refine v_o ?_ | refine v_on ?_ | refine v_og ?_ | refine v_q ?_ | refine v_sr ?_ | refine v_k ?_ | refine m_nil ?_)
  refine awp_loop (fun i : Nat => i ≤ n) (fun i => [(0, .d (ints (mk1 k n))), (1, .d (.int .i64 (k + i))), (5, .d (.int .i64 i))]) (fun _ => []) (fun i => n - i) 0 (by simp) ?_ rfl ?_
  · ((repeat (first | exact trivial | (refine ⟨?_, ?_⟩; (focus (first | rfl | (simp [lk, argsS, args0]; done) | (simp [lk, argsS, args0]; omega)))))))
  · intro i hi
    by_cases hlt : i < n
    · have hx : (List.map (D.int .i64) (mk1 k n))[(i : Int).toNat]? = some (.int .i64 (k + i)) := by simp [mk1_get n k i hlt]
      repeat (first | refine awp_seq ?_ | refine then_n ?_ | refine then_r ?_ | refine then_x ?_ | refine block_n ?_ | refine block_r ?_ | refine block_x ?_ | refine u_y ?_ | refine loop_r ?_ | refine loop_x ?_ | refine awp_region ?_ | refine awpL_nil ?_ | refine awpQL_nil ?_ | refine awp_block ?_ | refine awp_skip ?_ | refine awp_exit ?_ | refine awp_label ?_ | refine u_dT ?_ | refine u_d ?_ | refine u_l ?_ | refine u_o ?_ | refine u_q ?_ | refine u_lr ?_ | refine u_qr ?_ | refine u_ls ?_ | refine u_qs ?_ | refine u_t ?_ | refine u_f ?_ | refine v_s ?_ | refine v_o ?_ | refine v_on ?_ | refine v_og ?_ | refine v_q ?_ | refine v_sr ?_ | refine v_k ?_ | refine m_nil ?_)
      refine loop_n (i + 1) (by omega) ?_ rfl (by omega)
      ((repeat (first | exact trivial | (refine ⟨?_, ?_⟩; (focus (first | rfl | (simp [lk, argsS, args0]; done) | (simp [lk, argsS, args0]; omega)))))))
    · have : i = n := by omega
      subst this
      repeat (first | refine awp_seq ?_ | refine then_n ?_ | refine then_r ?_ | refine then_x ?_ | refine block_n ?_ | refine block_r ?_ | refine block_x ?_ | refine u_y ?_ | refine loop_r ?_ | refine loop_x ?_ | refine awp_region ?_ | refine awpL_nil ?_ | refine awpQL_nil ?_ | refine awp_block ?_ | refine awp_skip ?_ | refine awp_exit ?_ | refine awp_label ?_ | refine u_dT ?_ | refine u_d ?_ | refine u_l ?_ | refine u_o ?_ | refine u_q ?_ | refine u_lr ?_ | refine u_qr ?_ | refine u_ls ?_ | refine u_qs ?_ | refine u_t ?_ | refine u_f ?_ | refine v_s ?_ | refine v_o ?_ | refine v_on ?_ | refine v_og ?_ | refine v_q ?_ | refine v_sr ?_ | refine v_k ?_ | refine m_nil ?_)
      (refine awp_ret ?_; (repeat (first | refine then_r ?_ | refine block_r ?_ | refine loop_r ?_)); apply ret_ok (.inr rfl); (focus exact rfl))
      rfl

theorem laws_heldInt64SS {nss : List (List Int)} {k : Int} (hk : 0 ≤ k) (hl : k + tot nss ≤ 4611686018427387904) (hn : nss.length ≤ 9223372036854775807) : AC Tryd.prog 10 [rows (mkR k nss), .int .i64 k] (.int .i64 (k + tot nss)) := by
  have hle : (List.map ints (mkR k nss)).length = nss.length := by simp [mkR_length]
  have hlm := mkR_length nss k
  refine ac_intro tabIs _ Tryd.func10 rfl rfl Tryd.ntmps10 rfl rfl fun w0 ok0 => ?_
  repeat (first | refine awp_seq ?_ | refine then_n ?_ | refine then_r ?_ | refine then_x ?_ | refine block_n ?_ | refine block_r ?_ | refine block_x ?_ | refine u_y ?_ | refine loop_r ?_ | refine loop_x ?_ | refine awp_region ?_ | refine awpL_nil ?_ | refine awpQL_nil ?_ | refine awp_block ?_ | refine awp_skip ?_ | refine awp_exit ?_ | refine awp_label ?_ | refine u_dT ?_ | refine u_d ?_ | refine u_l ?_ | refine u_o ?_ | refine u_q ?_ | refine u_lr ?_ | refine u_qr ?_ | refine u_ls ?_ | refine u_qs ?_ | refine u_t ?_ | refine u_f ?_ | refine v_s ?_ | refine v_o ?_ | refine v_on ?_ | refine v_og ?_ | refine v_q ?_ | refine v_sr ?_ | refine v_k ?_ | refine m_nil ?_)
  refine awp_loop (fun i : Nat => i ≤ nss.length) (fun i => [(0, .d (rows (mkR k nss))), (1, .d (.int .i64 (k + tot (nss.take i)))), (5, .d (.int .i64 i))]) (fun _ => []) (fun i => nss.length - i) 0 (by simp) ?_ rfl ?_
  · refine ⟨rfl, ?_, rfl, trivial⟩
    simp [lk, args0, tot]
  · intro i hi
    have htl := tot_le nss i
    by_cases hlt : i < nss.length
    · have htk := tot_take hlt
      have htl2 := tot_le nss (i + 1)
      have hget : (mkR k nss)[i]? = some (mk1 (k + tot (nss.take i)) nss[i].length) := by
        have e : mkR k nss = mkR k (nss.take i ++ [nss[i]] ++ nss.drop (i + 1)) := by
          rw [← List.take_succ_eq_append_getElem hlt, List.take_append_drop]
        have gen : ∀ (a b : List (List Int)) (k : Int), mkR k (a ++ b) = mkR k a ++ mkR (k + tot a) b := by
          intro a
          induction a with
          | nil => intro b k; simp [mkR, tot]
          | cons x a ih =>
            intro b k
            have e : k + (x.length : Int) + (tot a : Int) = k + ((x.length + tot a : Nat) : Int) := by omega
            simp only [List.cons_append, mkR, ih, tot, e]
        have hm : (mkR k (nss.take i)).length = i := by rw [mkR_length]; simp; omega
        rw [e, gen, gen, List.append_assoc, List.getElem?_append_right (by omega), hm]
        simp [mkR]
      have hx : (List.map ints (mkR k nss))[(i : Int).toNat]? = some (ints (mk1 (k + tot (nss.take i)) nss[i].length)) := by simp [hget]
      have hc := laws_heldInt64S (n := nss[i].length) (k := k + tot (nss.take i)) (by omega) (by omega)
      repeat (first | refine awp_seq ?_ | refine then_n ?_ | refine then_r ?_ | refine then_x ?_ | refine block_n ?_ | refine block_r ?_ | refine block_x ?_ | refine u_y ?_ | refine loop_r ?_ | refine loop_x ?_ | refine awp_region ?_ | refine awpL_nil ?_ | refine awpQL_nil ?_ | refine awp_block ?_ | refine awp_skip ?_ | refine awp_exit ?_ | refine awp_label ?_ | refine u_dT ?_ | refine u_d ?_ | ((first | apply c_l | apply c_q | apply c_lr | apply c_qr); (iterate 2 exact rfl); (focus (first | exact hc)); (iterate 2 exact rfl)) | (apply v_c; (iterate 4 exact rfl); (focus (first | exact hc)); (iterate 2 exact rfl)) | refine u_l ?_ | refine u_o ?_ | refine u_q ?_ | refine u_lr ?_ | refine u_qr ?_ | refine u_ls ?_ | refine u_qs ?_ | refine u_t ?_ | refine u_f ?_ | refine v_s ?_ | refine v_o ?_ | refine v_on ?_ | refine v_og ?_ | refine v_q ?_ | refine v_sr ?_ | refine v_k ?_ | refine m_nil ?_)
      refine loop_n (i + 1) (by omega) ?_ rfl (by omega)
      refine ⟨rfl, ?_, rfl, trivial⟩
      simp [lk]
      omega
    · have : i = nss.length := by omega
      subst this
      repeat (first | refine awp_seq ?_ | refine then_n ?_ | refine then_r ?_ | refine then_x ?_ | refine block_n ?_ | refine block_r ?_ | refine block_x ?_ | refine u_y ?_ | refine loop_r ?_ | refine loop_x ?_ | refine awp_region ?_ | refine awpL_nil ?_ | refine awpQL_nil ?_ | refine awp_block ?_ | refine awp_skip ?_ | refine awp_exit ?_ | refine awp_label ?_ | refine u_dT ?_ | refine u_d ?_ | refine u_l ?_ | refine u_o ?_ | refine u_q ?_ | refine u_lr ?_ | refine u_qr ?_ | refine u_ls ?_ | refine u_qs ?_ | refine u_t ?_ | refine u_f ?_ | refine v_s ?_ | refine v_o ?_ | refine v_on ?_ | refine v_og ?_ | refine v_q ?_ | refine v_sr ?_ | refine v_k ?_ | refine m_nil ?_)
      (refine awp_ret ?_; (repeat (first | refine then_r ?_ | refine block_r ?_ | refine loop_r ?_)); apply ret_ok (.inr rfl); (focus exact rfl))
      simp

end Go.Proofs.YtfondjnjdcijaaaDoor

/-! All states of an automaton. No condition. -/
namespace Go.Proofs.YtfondjnjdcijaaaDoor
open Go
attribute [local irreducible] awp awpL awpQL awpQ awpM pWalk Qt AC thenQ blockQ loopQ OpTo
set_option linter.unusedVariables false
set_option linter.unusedSimpArgs false
set_option maxHeartbeats 2000000
attribute [local irreducible] HC

section
attribute [local semireducible] AC HC
end

def fnL (N : Nat) (F : Nat → Int) : List Int := (List.range N).map F

@[simp] theorem fnL_length {N : Nat} {F : Nat → Int} : (fnL N F).length = N := by simp [fnL]
theorem fnL_get {N k : Nat} {F : Nat → Int} (h : k < N) : (fnL N F)[k]? = some (F k) := by simp [fnL, h]
end Go.Proofs.YtfondjnjdcijaaaDoor
