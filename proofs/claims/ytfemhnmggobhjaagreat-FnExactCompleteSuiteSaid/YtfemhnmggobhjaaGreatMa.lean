/- Contracts of how the laws' package marks what it was given, looks for its marks, and copies. No condition. -/
import Derived.Test.YtfemhnmggobhjaaGreatWa
namespace Go.Proofs.YtfemhnmggobhjaaGreat
open Go
attribute [local irreducible] awp awpL awpQL awpQ awpM pWalk Qt AC thenQ blockQ loopQ OpTo
set_option linter.unusedVariables false
set_option linter.unusedSimpArgs false
set_option maxHeartbeats 2000000
attribute [local irreducible] HC

theorem likeIn_nil {h' : Heap} : likeIn [] h' := fun p hp => by cases hp
theorem likeIn_cons {h h' : Heap} {id : Nat} {c c' : Chunk} (hg : h'.get id = some c') (hl : c.like c') (hr : likeIn h h') : likeIn ((id, c) :: h) h' := fun p hp ha => by
  rcases List.mem_cons.1 hp with rfl | hp
  · exact ⟨c', hg, hl⟩
  · exact hr p hp ha

/-- k, k + 1, .. -/
def mk1 : Int → Nat → List Int
  | _, 0 => []
  | k, n + 1 => k :: mk1 (k + 1) n
theorem mk1_length : ∀ (n : Nat) (k : Int), (mk1 k n).length = n
  | 0, _ => rfl
  | n + 1, k => by simp [mk1, mk1_length n]
theorem mk1_get : ∀ (n : Nat) (k : Int) (i : Nat), i < n → (mk1 k n)[i]? = some (k + i)
  | 0, _, i, h => by omega
  | n + 1, k, 0, h => by simp [mk1]
  | n + 1, k, i + 1, h => by
    simp only [mk1, List.getElem?_cons_succ]
    rw [mk1_get n (k + 1) i (by omega)]
    congr 1
    omega
theorem mk1_snoc (k : Int) (n : Nat) : mk1 k (n + 1) = mk1 k n ++ [k + n] := by
  apply List.ext_getElem?
  intro i
  by_cases h : i < n
  · rw [mk1_get _ _ _ (by omega), List.getElem?_append_left (by rw [mk1_length]; exact h), mk1_get _ _ _ h]
  · by_cases h2 : i = n
    · subst h2
      rw [mk1_get _ _ _ (by omega), List.getElem?_append_right (by rw [mk1_length]; omega), mk1_length]
      simp
    · rw [List.getElem?_eq_none (by rw [mk1_length]; omega), List.getElem?_eq_none (by simp [mk1_length]; omega)]

theorem mk1_step {k : Int} {xs : List Int} {i : Nat} (hi : i < xs.length) : (List.map (D.int .i64) (mk1 k i ++ xs.drop i)).set (i : Int).toNat (.int .i64 (k + i)) = List.map (D.int .i64) (mk1 k (i + 1) ++ xs.drop (i + 1)) := by
  have e1 : xs.drop i = xs[i] :: xs.drop (i + 1) := List.drop_eq_getElem_cons hi
  have h : (i : Int).toNat = (List.map (D.int .i64) (mk1 k i)).length := by simp [mk1_length]
  rw [mk1_snoc, e1, h, List.map_append, List.set_append_right _ _ (Nat.le_refl _), Nat.sub_self, List.map_cons, List.set_cons_zero]
  simp

theorem laws_markInt64S {xs : List Int} {k : Int} (hk : 0 ≤ k) (hl : k + xs.length ≤ 4611686018427387904) :
    HC Tryz.prog 59 [.own 10000, .d (.int .i64 k)] [(10000, .arr 2 1 (xs.map (.int .i64)))] (.d (.int .i64 (k + xs.length))) [(10000, .arr 2 1 ((mk1 k xs.length).map (.int .i64)))] := by
  refine hc_intro tabIs _ Tryz.func59 rfl rfl Tryz.ntmps59 rfl rfl rfl ?_ fun w0 ok0 XM XA anc => ?_
  · refine likeIn_cons rfl ?_ likeIn_nil
    exact ⟨rfl, rfl, by simp [mk1_length]⟩
  repeat (first | refine zc ?_ | refine zv ?_)
  refine awp_loop (fun i : Nat => i ≤ xs.length)
    (fun i => [(0, .own 10000), (1, .d (.int .i64 (k + i))), (5, .d (.int .i64 i))]) (fun i => [(10000, .arr 2 1 ((mk1 k i ++ xs.drop i).map (.int .i64)))]) (fun i => xs.length - i) 0 (by simp) ?_ rfl ?_
  · exact zs
  · intro i hi
    have hm1 : (mk1 k i).length = i := mk1_length ..
    have hle : (List.map (D.int .i64) (mk1 k i ++ xs.drop i)).length = xs.length := by simp [mk1_length]; omega
    by_cases hlt : i < xs.length
    · repeat (first | refine zc ?_ | refine zv ?_)
      refine loop_n (i + 1) (by omega) ?_ (by simp only [setH, Nat.beq_refl, mk1_step hlt]) (by omega)
      exact zs
    · have : i = xs.length := by omega
      subst this
      repeat (first | refine zc ?_ | refine zv ?_)
      (refine awp_ret ?_; (repeat (first | refine then_r ?_ | refine block_r ?_ | refine loop_r ?_)); refine u_rH [(10000, 10000)] ?_ ?_)
      · rfl
      · simp [pickH, pickG, Heap.get, Chunk.mapc, look]

def tot : List (List Int) → Nat
  | [] => 0
  | ns :: l => ns.length + tot l
theorem tot_append (a b : List (List Int)) : tot (a ++ b) = tot a + tot b := by
  induction a with
  | nil => simp [tot]
  | cons x a ih => simp [tot, ih]; omega

/-- Rows, each of them marked on from where the one before it ends. -/
def mkR : Int → List (List Int) → List (List Int)
  | _, [] => []
  | k, ns :: l => mk1 k ns.length :: mkR (k + ns.length) l
theorem mkR_length : ∀ (l : List (List Int)) (k : Int), (mkR k l).length = l.length
  | [], _ => rfl
  | ns :: l, k => by simp [mkR, mkR_length l]
theorem mkR_lens : ∀ (l : List (List Int)) (k : Int), (mkR k l).map List.length = l.map List.length
  | [], _ => rfl
  | ns :: l, k => by simp [mkR, mkR_lens l, mk1_length]
theorem mkR_snoc : ∀ (l : List (List Int)) (k : Int) (ns : List Int), mkR k (l ++ [ns]) = mkR k l ++ [mk1 (k + tot l) ns.length]
  | [], k, ns => by simp [mkR, tot]
  | x :: l, k, ns => by
    have e : k + (x.length : Int) + (tot l : Int) = k + ((x.length + tot l : Nat) : Int) := by omega
    simp only [List.cons_append, mkR, mkR_snoc l, tot, e]
theorem tot_take {nss : List (List Int)} {i : Nat} (hi : i < nss.length) : tot (nss.take (i + 1)) = tot (nss.take i) + nss[i].length := by
  rw [List.take_succ_eq_append_getElem hi, tot_append]
  simp [tot]
theorem tot_le (nss : List (List Int)) (i : Nat) : tot (nss.take i) ≤ tot nss := by
  have := tot_append (nss.take i) (nss.drop i)
  rw [List.take_append_drop] at this
  omega

/-- Rows as the data of own rows. -/
def rws (nss : List (List Int)) : List (List D) := nss.map fun ns => ns.map (.int .i64)
theorem rws_length (nss : List (List Int)) : (rws nss).length = nss.length := by simp [rws]
theorem rws_lst (nss : List (List Int)) : (rws nss).map D.lst = nss.map ints := by
  unfold rws
  rw [List.map_map]
  rfl
theorem rws_dat (nss : List (List Int)) : D.lst ((rws nss).map D.lst) = rows nss := by rw [rws_lst]; rfl

theorem mkR_like {nss : List (List Int)} {k : Int} {e e' sz : Nat} : (Chunk.rows e e' sz (rws nss) none).like (.rows e e' sz (rws (mkR k nss)) none) := by
  refine ⟨rfl, rfl, rfl, rfl, ?_⟩
  have := mkR_lens nss k
  simp only [rws, List.map_map]
  have e : (List.length ∘ fun ns : List Int => List.map (D.int .i64) ns) = List.length := by funext ns; simp
  rw [e, this]

theorem laws_markInt64SS {nss : List (List Int)} {k : Int} (hk : 0 ≤ k) (hl : k + tot nss ≤ 4611686018427387904) (hn : nss.length ≤ 9223372036854775807) :
    HC Tryz.prog 13 [.own 10000, .d (.int .i64 k)] [(10000, .rows 43 2 1 (rws nss) none)] (.d (.int .i64 (k + tot nss))) [(10000, .rows 43 2 1 (rws (mkR k nss)) none)] := by
  refine hc_intro tabIs _ Tryz.func13 rfl rfl Tryz.ntmps13 rfl rfl rfl ?_ fun w0 ok0 XM XA anc => ?_
  · refine likeIn_cons rfl ?_ likeIn_nil
    exact mkR_like
  repeat (first | refine zc ?_ | refine zv ?_)
  refine awp_loop (fun i : Nat => i ≤ nss.length)
    (fun i => [(0, .own 10000), (1, .d (.int .i64 (k + tot (nss.take i)))), (5, .d (.int .i64 i))]) (fun i => [(10000, .rows 43 2 1 (rws (mkR k (nss.take i) ++ nss.drop i)) none)]) (fun i => nss.length - i) 0 (by simp) ?_ ?_ ?_
  · refine ⟨rfl, ?_, rfl, trivial⟩
    simp [lk, argsS, tot]
  · simp [mkR]
  · intro i hi
    have hmk : (mkR k (nss.take i)).length = i := by rw [mkR_length]; simp; omega
    have hle : (rws (mkR k (nss.take i) ++ nss.drop i)).length = nss.length := by rw [rws_length]; simp [hmk]; omega
    have htl := tot_le nss i
    by_cases hlt : i < nss.length
    · have hx : (rws (mkR k (nss.take i) ++ nss.drop i))[i]? = some (nss[i].map (.int .i64)) := by
        unfold rws
        rw [List.getElem?_map, List.getElem?_append_right (by omega), hmk]
        simp [hlt]
      have htk := tot_take hlt
      have htl2 := tot_le nss (i + 1)
      generalize hxs : rws (mkR k (nss.take i) ++ nss.drop i) = xss at *
      have hx' : xss[(i : Int).toNat]? = some (nss[i].map (.int .i64)) := by simpa using hx
      repeat (first | refine zc ?_ | refine zv ?_)
      refine awpL_carve 15 10000 40000 rfl rfl hx' rfl rfl rfl ?_
      repeat (first | refine zc ?_ | refine zv ?_)
      refine hcl [(40000, 10000)] [(10000, 40000)] (laws_markInt64S (xs := nss[i]) (k := k + tot (nss.take i)) (by omega) (by omega)) ?_
      refine awpL_back 10000 40000 rfl rfl rfl rfl rfl rfl hx' (by simp [mk1_length]) ?_
      repeat (first | refine zc ?_ | refine zv ?_)
      refine loop_n (i + 1) (by omega) ?_ ?_ (by omega)
      · exact zs
      · have hst : xss.set (i : Int).toNat (List.map (.int .i64) (mk1 (k + tot (nss.take i)) nss[i].length)) = rws (mkR k (nss.take (i + 1)) ++ nss.drop (i + 1)) := by
          rw [← hxs, List.take_succ_eq_append_getElem hlt, mkR_snoc]
          have e1 : nss.drop i = nss[i] :: nss.drop (i + 1) := List.drop_eq_getElem_cons hlt
          have h : (i : Int).toNat = (rws (mkR k (nss.take i))).length := by rw [rws_length]; simp [hmk]
          have e2 : rws (mkR k (nss.take i) ++ nss.drop i) = rws (mkR k (nss.take i)) ++ rws (nss.drop i) := by simp [rws]
          rw [e2, h, List.set_append_right _ _ (Nat.le_refl _), Nat.sub_self, e1]
          show rws _ ++ (List.map _ nss[i] :: rws (nss.drop (i + 1))).set 0 _ = _
          rw [List.set_cons_zero]
          unfold rws
          simp only [List.map_append, List.map_cons, List.map_nil, List.append_assoc, List.cons_append, List.nil_append]
        rw [← hst]; rfl
    · have : i = nss.length := by omega
      subst this
      have hq : (rws (mkR k nss)).length = nss.length := by rw [rws_length, mkR_length]
      repeat (first | refine zc ?_ | refine zv ?_)
      (refine awp_ret ?_; (repeat (first | refine then_r ?_ | refine block_r ?_ | refine loop_r ?_)); refine u_rH [(10000, 10000)] ?_ ?_)
      · simp [resV, SV.ren, lk]
      · simp [pickH, pickG, Heap.get, Chunk.mapc, holeMap, look]
end Go.Proofs.YtfemhnmggobhjaaGreat

/-! Contracts of how the laws' package looks for its marks, and of its copies as memory of one's own. No condition. -/
namespace Go.Proofs.YtfemhnmggobhjaaGreat
open Go
attribute [local irreducible] awp awpL awpQL awpQ awpM pWalk Qt AC thenQ blockQ loopQ OpTo
set_option linter.unusedVariables false
set_option linter.unusedSimpArgs false
set_option maxHeartbeats 2000000
attribute [local irreducible] HC

theorem laws_heldInt64S {n : Nat} {k : Int} (hk : 0 ≤ k) (hl : k + n ≤ 4611686018427387904) : AC Tryz.prog 60 [ints (mk1 k n), .int .i64 k] (.int .i64 (k + n)) := by
  have hlen := mk1_length n k
  have hle : (List.map (D.int IntKind.i64) (mk1 k n)).length = n := by simp [hlen]
  refine ac_intro tabIs _ Tryz.func60 rfl rfl Tryz.ntmps60 rfl rfl fun w0 ok0 => ?_
  repeat (first | refine zc ?_ | refine zv ?_)
  refine awp_loop (fun i : Nat => i ≤ n) (fun i => [(0, .d (ints (mk1 k n))), (1, .d (.int .i64 (k + i))), (5, .d (.int .i64 i))]) (fun _ => []) (fun i => n - i) 0 (by simp) ?_ rfl ?_
  · exact zs
  · intro i hi
    by_cases hlt : i < n
    · have hx : (List.map (D.int .i64) (mk1 k n))[(i : Int).toNat]? = some (.int .i64 (k + i)) := by simp [mk1_get n k i hlt]
      repeat (first | refine zc ?_ | refine zv ?_)
      refine loop_n (i + 1) (by omega) ?_ rfl (by omega)
      exact zs
    · have : i = n := by omega
      subst this
      repeat (first | refine zc ?_ | refine zv ?_)
      (refine awp_ret ?_; (repeat (first | refine then_r ?_ | refine block_r ?_ | refine loop_r ?_)); apply ret_ok (.inr rfl); (focus exact rfl))
      rfl

theorem laws_heldInt64SS {nss : List (List Int)} {k : Int} (hk : 0 ≤ k) (hl : k + tot nss ≤ 4611686018427387904) (hn : nss.length ≤ 9223372036854775807) : AC Tryz.prog 14 [rows (mkR k nss), .int .i64 k] (.int .i64 (k + tot nss)) := by
  have hle : (List.map ints (mkR k nss)).length = nss.length := by simp [mkR_length]
  have hlm := mkR_length nss k
  refine ac_intro tabIs _ Tryz.func14 rfl rfl Tryz.ntmps14 rfl rfl fun w0 ok0 => ?_
  repeat (first | refine zc ?_ | refine zv ?_)
  refine awp_loop (fun i : Nat => i ≤ nss.length) (fun i => [(0, .d (rows (mkR k nss))), (1, .d (.int .i64 (k + tot (nss.take i)))), (5, .d (.int .i64 i))]) (fun _ => []) (fun i => nss.length - i) 0 (by simp) ?_ rfl ?_
  · refine ⟨rfl, ?_, rfl, trivial⟩
    simp [lk, args0, tot]
  · intro i hi
    have htl := tot_le nss i
    by_cases hlt : i < nss.length
    · have htk := tot_take hlt
      have htl2 := tot_le nss (i + 1)
      have hget : (mkR k nss)[i]? = some (mk1 (k + tot (nss.take i)) nss[i].length) := by
        have e : mkR k nss = mkR k (nss.take i ++ [nss[i]] ++ nss.drop (i + 1)) := by
          rw [← List.take_succ_eq_append_getElem hlt, List.take_append_drop]
        have gen : ∀ (a b : List (List Int)) (k : Int), mkR k (a ++ b) = mkR k a ++ mkR (k + tot a) b := by
          intro a
          induction a with
          | nil => intro b k; simp [mkR, tot]
          | cons x a ih =>
            intro b k
            have e : k + (x.length : Int) + (tot a : Int) = k + ((x.length + tot a : Nat) : Int) := by omega
            simp only [List.cons_append, mkR, ih, tot, e]
        have hm : (mkR k (nss.take i)).length = i := by rw [mkR_length]; simp; omega
        rw [e, gen, gen, List.append_assoc, List.getElem?_append_right (by omega), hm]
        simp [mkR]
      have hx : (List.map ints (mkR k nss))[(i : Int).toNat]? = some (ints (mk1 (k + tot (nss.take i)) nss[i].length)) := by simp [hget]
      have hc := laws_heldInt64S (n := nss[i].length) (k := k + tot (nss.take i)) (by omega) (by omega)
      repeat (first | refine zc ?_ | ((first | apply c_l | apply c_q | apply c_lr | apply c_qr); (iterate 2 exact rfl); (focus (first | exact hc)); (iterate 2 exact rfl)) | (apply v_c; (iterate 4 exact rfl); (focus (first | exact hc)); (iterate 2 exact rfl)) | refine zv ?_)
      refine loop_n (i + 1) (by omega) ?_ rfl (by omega)
      refine ⟨rfl, ?_, rfl, trivial⟩
      simp [lk]
      omega
    · have : i = nss.length := by omega
      subst this
      repeat (first | refine zc ?_ | refine zv ?_)
      (refine awp_ret ?_; (repeat (first | refine then_r ?_ | refine block_r ?_ | refine loop_r ?_)); apply ret_ok (.inr rfl); (focus exact rfl))
      simp

theorem laws_toInt64SH {ns : List Int} (h1 : ns.length ≤ 1048576) : HC Tryz.prog 101 [.d (ints ns)] [] (.own 30000) [(30000, .arr 2 1 (ns.map (.int .i64)))] := by
  have hl : (List.map (D.int IntKind.i64) ns).length = ns.length := by simp
  refine hc_intro tabIs _ Tryz.func101 rfl rfl Tryz.ntmps101 rfl rfl rfl ?_ fun w0 ok0 XM XA anc => ?_
  · exact likeIn_nil
  repeat (first | refine zc ?_ | refine zv ?_)
  refine awp_loop (fun k : Nat => k ≤ ns.length) (fun k => [(0, .d (ints ns)), (3, .own 7), (4, .d (.int .i64 k))]) (fun k => [(7, .arr 2 1 (upTo (.int .i64 0) (ns.map (.int .i64)) k))]) (fun k => ns.length - k) 0 (by omega) ?_ ?_ ?_
  · exact zs
  · rw [upTo_zero, List.length_map]
    exact congrArg (fun n => [(7, Chunk.arr 2 1 (List.replicate n (D.int .i64 0)))]) (by simp)
  · intro k hk
    by_cases hlt : k < ns.length
    · have he := el_int hlt
      have hu := upTo_length (D.int .i64 0) (ns.map (.int .i64)) k (by simpa using hk)
      have hs := upTo_set (D.int .i64 0) (ns.map (.int .i64)) k (by simpa using hlt)
      repeat (first | refine zc ?_ | refine zv ?_)
      refine loop_n (k + 1) (by omega) ?_ ?_ (by omega)
      · exact zs
      · rw [← hs]; simp [setH]
    · have hk' : k = ns.length := by omega
      subst hk'
      repeat (first | refine zc ?_ | refine zv ?_)
      have := upTo_all (D.int .i64 0) (ns.map (.int .i64))
      rw [hl] at this
      (refine awp_ret ?_; (repeat (first | refine then_r ?_ | refine block_r ?_ | refine loop_r ?_)); refine u_rH [(7, 30000)] ?_ ?_)
      · rfl
      · rw [this]; rfl

theorem laws_toInt64SSH {nss : List (List Int)} (h1 : nss.length ≤ 1048576) (h2 : ∀ ns ∈ nss, ns.length ≤ 1048576) : HC Tryz.prog 48 [.d (rows nss)] [] (.own 30000) [(30000, .rows 43 2 1 (rws nss) none)] := by
  have hl : (List.map ints nss).length = nss.length := by simp
  refine hc_intro tabIs _ Tryz.func48 rfl rfl Tryz.ntmps48 rfl rfl rfl ?_ fun w0 ok0 XM XA anc => ?_
  · exact likeIn_nil
  repeat (first | refine zc ?_ | refine zv ?_)
  refine awp_toRows 7 2 1 rfl rfl rfl (allNils_rep _) ?_
  refine awp_loop (fun k : Nat => k ≤ nss.length) (fun k => [(0, .d (rows nss)), (3, .own 7), (4, .d (.int .i64 k))]) (fun k => [(7, .rows 43 2 1 (upTo [] (rws nss) k) none)]) (fun k => nss.length - k) 0 (by omega) ?_ ?_ ?_
  · exact zs
  · rw [upTo_zero, rws_length]
    exact congrArg (fun n => [(7, Chunk.rows 43 2 1 n none)]) (by simp)
  · intro k hk
    have hu := upTo_length ([] : List D) (rws nss) k (by rw [rws_length]; exact hk)
    rw [rws_length] at hu
    by_cases hlt : k < nss.length
    · have he := el_row hlt
      have hb := h2 _ (List.getElem_mem hlt)
      have hs := upTo_set ([] : List D) (rws nss) k (by rw [rws_length]; exact hlt)
      have hc := laws_toInt64SH hb
      repeat (first | refine zc ?_ | refine zv ?_)
      refine hcl [] [(30000, 20)] hc ?_
      repeat (first | refine zc ?_ | refine zv ?_)
      refine loop_n (k + 1) (by omega) ?_ ?_ (by omega)
      · exact zs
      · have e : (rws nss)[k]'(by rw [rws_length]; exact hlt) = List.map (.int .i64) nss[k] := by simp [rws]
        rw [← hs, e]
        rfl
    · have hk' : k = nss.length := by omega
      subst hk'
      repeat (first | refine zc ?_ | refine zv ?_)
      have := upTo_all ([] : List D) (rws nss)
      rw [rws_length] at this
      (refine awp_ret ?_; (repeat (first | refine then_r ?_ | refine block_r ?_ | refine loop_r ?_)); refine u_rH [(7, 30000)] ?_ ?_)
      · rfl
      · rw [this]; rfl

theorem laws_toMachineH {s o : Int} {nx ou : List (List Int)} (h1 : nx.length ≤ 1048576) (h2 : ∀ ns ∈ nx, ns.length ≤ 1048576) (h3 : ou.length ≤ 1048576) (h4 : ∀ ns ∈ ou, ns.length ≤ 1048576) :
    HC Tryz.prog 8 [.d (mach s o nx ou)] [] (.agg [.d (.int .i64 s), .d (.int .i64 o), .own 30000, .own 30001]) [(30000, .rows 43 2 1 (rws nx) none), (30001, .rows 43 2 1 (rws ou) none)] := by
  have c1 := laws_toInt64SSH h1 h2
  have c2 := laws_toInt64SSH h3 h4
  unfold mach
  refine hc_intro tabIs _ Tryz.func8 rfl rfl Tryz.ntmps8 rfl rfl rfl ?_ fun w0 ok0 XM XA anc => ?_
  · exact likeIn_nil
  repeat (first | refine v_w (t := 3) ?_ | refine v_w (t := 2) ?_ | refine zc ?_ | refine u_w (t := 2) ?_ | refine u_w (t := 3) ?_ | refine zv ?_)
  refine hcl [] [(30000, 12)] c1 ?_
  repeat (first | refine zc ?_ | refine zv ?_)
  refine hcl [] [(30000, 16)] c2 ?_
  repeat (first | refine zc ?_ | refine zv ?_)
  (refine awp_ret ?_; (repeat (first | refine then_r ?_ | refine block_r ?_ | refine loop_r ?_)); refine u_rH [(12, 30000), (16, 30001)] ?_ ?_)
  · rfl
  · rfl

theorem laws_markMachine {s o : Int} {nx ou : List (List Int)} {k : Int} (hk : 0 ≤ k) (hl : k + tot nx + tot ou ≤ 4611686018427387904) (hn : nx.length ≤ 9223372036854775807) (hn2 : ou.length ≤ 9223372036854775807) :
    HC Tryz.prog 12 [.agg [.d (.int .i64 s), .d (.int .i64 o), .own 10000, .own 10001], .d (.int .i64 k)] [(10000, .rows 43 2 1 (rws nx) none), (10001, .rows 43 2 1 (rws ou) none)] (.d (.int .i64 (k + tot nx + tot ou)))
      [(10000, .rows 43 2 1 (rws (mkR k nx)) none), (10001, .rows 43 2 1 (rws (mkR (k + tot nx) ou)) none)] := by
  have c1 := laws_markInt64SS (nss := nx) (k := k) hk (by omega) hn
  have c2 := laws_markInt64SS (nss := ou) (k := k + tot nx) (by omega) (by omega) hn2
  refine hc_intro tabIs _ Tryz.func12 rfl rfl Tryz.ntmps12 rfl rfl rfl ?_ fun w0 ok0 XM XA anc => ?_
  · exact likeIn_cons rfl mkR_like (likeIn_cons rfl mkR_like likeIn_nil)
  repeat (first | refine zc ?_ | refine zv ?_)
  refine hcl [(10000, 10000)] [(10000, 10000)] c1 ?_
  repeat (first | refine zc ?_ | refine zv ?_)
  refine hcl [(10001, 10000)] [(10000, 10001)] c2 ?_
  repeat (first | refine zc ?_ | refine zv ?_)
  (refine awp_ret ?_; (repeat (first | refine then_r ?_ | refine block_r ?_ | refine loop_r ?_)); refine u_rH [(10000, 10000), (10001, 10001)] ?_ ?_)
  · rfl
  · rfl

end Go.Proofs.YtfemhnmggobhjaaGreat

/-! All states of an automaton. No condition. -/
namespace Go.Proofs.YtfemhnmggobhjaaGreat
open Go
attribute [local irreducible] awp awpL awpQL awpQ awpM pWalk Qt AC thenQ blockQ loopQ OpTo
set_option linter.unusedVariables false
set_option linter.unusedSimpArgs false
set_option maxHeartbeats 2000000
attribute [local irreducible] HC

section
attribute [local semireducible] AC HC
/-- What is made as memory of one's own is data too. -/
theorem ac_of_hc {P : Program} {f : Nat} {xs : List D} {r : SV} {h' : Heap} {d : D} (hc : HC P f (xs.map .d) [] r h') (hd : slotD h' r = some d) : AC P f xs d := by
  refine ⟨hc.1, fun w ok vs hok hvs => ?_⟩
  refine (hc.2.2 w ok (fun _ => ⟨0, 0, true, []⟩) vs hok ⟨by simp, by simp, by simp, by simp, by simp⟩ (RepSVs.ofD (by simpa using hvs.1) fun i v x hv hx => hvs.2 i v x (by simpa using hv) hx)).mono ?_
  rintro e w' ⟨v, σ', rfl, hE, hv⟩
  refine ⟨v, rfl, slotG_rep hE.rep (fun b hb => hb.1) (fun p hp b hb => ?_) hv hd, hE.os, hE.tape, hE.output, hE.size, fun b hb => hE.frame b hb (by simp)⟩
  rcases (hE.mine p hp b hb).2 with h | ⟨_, c, h, _⟩
  · exact .inr h
  · cases h
end

/-! ### Tables -/
def fnL (N : Nat) (F : Nat → Int) : List Int := (List.range N).map F

@[simp] theorem fnL_length {N : Nat} {F : Nat → Int} : (fnL N F).length = N := by simp [fnL]
theorem fnL_get {N k : Nat} {F : Nat → Int} (h : k < N) : (fnL N F)[k]? = some (F k) := by simp [fnL, h]
end Go.Proofs.YtfemhnmggobhjaaGreat
