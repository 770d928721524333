/- Drawn automata: l02Drawn, l03Linked, A2Automaton. No condition. -/
import Derived.Test.YtckpadnjldebaaaGreatGi
namespace Go.Proofs.YtckpadnjldebaaaGreat
open Go
attribute [local irreducible] awp awpL awpQL awpQ awpM pWalk Qt AC thenQ blockQ loopQ OpTo
set_option linter.unusedVariables false
set_option linter.unusedSimpArgs false
set_option maxHeartbeats 2000000
attribute [local irreducible] HC HX
theorem aok_10 {n m : Int} {nx : List (List Int)} (a : AOk n nx m) (h : m <= 10) : AOk n nx 10 := ⟨by have := a.n1; omega, a.l1, a.t⟩
theorem aok_auto {n m : Int} {nx : List (List Int)} (a : AOk n nx m) (h : m <= 10) : autoOk n nx = true := by
  have hn := a.n1
  have hl := a.l1
  simp only [autoOk, inB, Bool.and_eq_true, decide_eq_true_eq, List.all_eq_true]
  refine ⟨⟨by omega, by omega⟩, fun ns hns => ?_⟩
  have := a.t ns hns
  simp only [rowOk, allIn, inB, Bool.and_eq_true, decide_eq_true_eq, List.all_eq_true]
  exact ⟨this.1, fun x hx => by have := this.2 x hx; omega⟩
theorem aok_slow {n : Int} (h : 2 <= n /\ n <= 7) : AOk n [slT n n.toNat, slY n n.toNat] 7 := ⟨by omega, by simp, fun ns hns => by
  rcases List.mem_cons.1 hns with rfl | hns
  . exact slT_el h.1
  . rw [List.mem_singleton.1 hns]; exact slY_el h.1⟩
theorem spec_l02DrawnX {code : List Int} {s : Src} {k : Nat} (hb : BytesOk code) (h : SOk s k) (hk : k <= 999970000) :
    HX Tryz.prog 194 [.ref 10000 0] [(10000, srcB code s)] (fun _ i => dwG (k + 2000) i) dwR (dwH code) := by
  have hP : ∀ (s : Src) (k : Nat) (n : Int), SOk s k -> k <= 999999990 -> n <= 1000 -> HC Tryz.prog 56 [.ref 10000 0, .d (.int .i64 n)] [(10000, srcB code s)] (.d (.int .i64 (pickV code n s))) [(10000, srcB code (pickS code n s))] := fun s k n a b c => spec_pick hb a b (by omega)
  have hQ : ∀ (s : Src) (k : Nat) (n : Int), SOk s k -> k <= 999999990 -> n <= 1000 -> HC Tryz.prog 53 [.ref 10000 0, .d (.int .i64 n)] [(10000, srcB code s)] (.d (.bool (decide (pickV code n s = 0)))) [(10000, srcB code (pickS code n s))] := fun s k n a b c => spec_one hb a b (by omega)
  have c1 := hP s k 6 h (by omega) (by omega)
  have r1 := pick_range (s := s) (n := 6) hb (by omega)
  have h1 := pick_ok (code := code) (n := 6) h
  generalize pickV code 6 s = y at *
  generalize pickS code 6 s = s1 at *
  have c2 := hP s1 _ 6 h1 (by omega) (by omega)
  have r2 := pick_range (s := s1) (n := 6) hb (by omega)
  have h2 := pick_ok (code := code) (n := 6) h1
  have c3 := spec_l02SlowO (n := 2 + pickV code 6 s1) (by omega)
  have cA := spec_l01AlikeX hb h1 (by omega)
  have cB := spec_l01BentX hb h1 (by omega)
  have hN := dnN_range (s := s1) (most := 6) hb (by omega)
  have hL := dnL_range (s := (dnN code 6 s1).2) hb
  have hD1 := rwsK_ok (code := code) (dnL_ok (code := code) (dnN_ok (code := code) (most := 6) h1)) (n := (dnN code 6 s1).1) (by omega) (dnL code (dnN code 6 s1).2).1.toNat
  have cD := spec_l01DrawnO (most := 6) hb (by omega) h1 (by omega)
  have hT := rwsK_el (s := (dnL code (dnN code 6 s1).2).2) hb hN.1 (dnL code (dnN code 6 s1).2).1.toNat
  have hTl := rwsK_len (code := code) (n := (dnN code 6 s1).1) (s := (dnL code (dnN code 6 s1).2).2) (dnL code (dnN code 6 s1).2).1.toNat
  have hLN : 1 <= (dnL code (dnN code 6 s1).2).1.toNat /\ (dnL code (dnN code 6 s1).2).1.toNat <= 3 := by omega
  generalize rwsK code (dnN code 6 s1).1 (dnL code (dnN code 6 s1).2).2 (dnL code (dnN code 6 s1).2).1.toNat = R at *
  generalize (dnN code 6 s1).1 = N at *
  generalize (dnL code (dnN code 6 s1).2).1.toNat = LN at *
  obtain ⟨nx, s3⟩ := R
  dsimp only at cD hT hTl hD1
  have aD : AOk N nx 6 := ⟨hN, by omega, hT⟩
  have hD1 : SOk s3 (k + 200) := hD1.mono (by omega)
  unfold srcB at *
  refine hx_intro tabIs _ Tryz.func194 rfl rfl Tryz.ntmps194 rfl rfl rfl ?_ fun w0 ok0 XM XA anc he0 hX0 => ?_
  . intro i
    cases i
    . exact likeIn_cons rfl rfl likeIn_nil
    . exact likeIn_cons rfl rfl likeIn_nil
  repeat (first | refine zc ?_ | refine zv ?_)
  refine hcl [(10000, 10000)] [(10000, 10000)] c1 ?_
  by_cases y0 : y = 0
  . generalize pickV code 6 s1 = m at *
    generalize pickS code 6 s1 = s2 at *
    have h2 : SOk s2 (k + 2000) := h2.mono (by omega)
    repeat (first | refine zc ?_ | refine zv ?_)
    refine hcl [(10000, 10000)] [(10000, 10000)] c2 ?_
    repeat (first | refine zc ?_ | refine zv ?_)
    refine hcl [] [(30000, 200)] c3 ?_
    repeat (first | refine zc ?_ | refine zv ?_)
    (refine awp_ret ?_; (repeat (first | refine then_r ?_ | refine block_r ?_ | refine loop_r ?_)); refine ⟨.ok (2 + m) [slT (2 + m) (2 + m).toNat, slY (2 + m) (2 + m).toNat] s2, ⟨aok_10 (aok_slow (by omega)) (by omega), h2⟩, u_rH [(10000, 10000), (200, 30000)] ?_ ?_⟩)
    . rfl
    . rfl
  . by_cases y1 : y = 1
    . repeat (first | refine zc ?_ | refine zv ?_)
      refine hxl [(10000, 10000)] [(10000, 10000), (30000, 200)] ((0, []), s1, []) cA (fun _ _ _ _ h => h) (fun i hi => ?_)
      obtain ⟨⟨n, nx2⟩, s4, ms⟩ := i
      obtain ⟨ha, h4⟩ := hi
      dsimp only at ha h4 ⊢
      have h4 : SOk s4 (k + 2000) := h4.mono (by omega)
      repeat (first | refine zc ?_ | refine zv ?_)
      (refine awp_ret ?_; (repeat (first | refine then_r ?_ | refine block_r ?_ | refine loop_r ?_)); refine ⟨.ok n nx2 s4, ⟨aok_10 ha (by omega), h4⟩, u_rH [(10000, 10000), (200, 30000)] ?_ ?_⟩)
      . rfl
      . rfl
    . by_cases y2 : y = 2
      . repeat (first | refine zc ?_ | refine zv ?_)
        refine hxl [(10000, 10000)] [(10000, 10000), (30000, 200)] (.no 0 [] s1) cB (fun _ _ _ _ h => h) (fun i hi => ?_) (hcall := fun i => by cases i <;> rfl)
        cases i with
        | ok n nx2 s4 =>
          obtain ⟨ha, h4⟩ := hi
          have h4 : SOk s4 (k + 2000) := h4.mono (by omega)
          unfold dwR dwH
          dsimp only
          repeat (first | refine zc ?_ | refine zv ?_)
          (refine awp_ret ?_; (repeat (first | refine then_r ?_ | refine block_r ?_ | refine loop_r ?_)); refine ⟨.ok n nx2 s4, ⟨ha, h4⟩, u_rH [(10000, 10000), (200, 30000)] ?_ ?_⟩)
          . rfl
          . rfl
        | no n nx2 s4 =>
          obtain ⟨ha, hr, h4⟩ := hi
          have h4 : SOk s4 (k + 2000) := h4.mono (by omega)
          unfold dwR dwH
          dsimp only
          repeat (first | refine zc ?_ | refine zv ?_)
          (refine awp_ret ?_; (repeat (first | refine then_r ?_ | refine block_r ?_ | refine loop_r ?_)); refine ⟨.no n nx2 s4, ⟨ha, hr, h4⟩, u_rH [(10000, 10000), (200, 30000)] ?_ ?_⟩)
          . rfl
          . rfl
      . clear c2 c3 cA cB h2 r2
        have c5 := hQ _ _ 2 hD1 (by omega) (by omega)
        have h5 := pick_ok (code := code) (n := 2) hD1
        have hrl := rws_length nx
        repeat (first | refine zc ?_ | refine zv ?_)
        refine hcl [(10000, 10000)] [(10000, 10000), (30000, 200)] cD ?_
        repeat (first | refine zc ?_ | refine zv ?_)
        refine hcl [(10000, 10000)] [(10000, 10000)] c5 ?_
        by_cases q : pickV code 2 s3 = 0
        . have hq : decide (pickV code 2 s3 = 0) = true := decide_eq_true q
          generalize pickS code 2 s3 = s5 at *
          have c6 := hP _ _ ((rws nx).length : Nat) h5 (by omega) (by omega)
          have r6 := pick_range (s := s5) (n := ((rws nx).length : Nat)) hb (by omega)
          have h6 := pick_ok (code := code) (n := ((rws nx).length : Nat)) h5
          generalize pickV code ((rws nx).length : Nat) s5 = x at *
          generalize pickS code ((rws nx).length : Nat) s5 = s6 at *
          have c7 := hP _ _ N h6 (by omega) (by omega)
          have r7 := pick_range (s := s6) (n := N) hb (by omega)
          have h7 := pick_ok (code := code) (n := N) h6
          generalize pickV code N s6 = y1 at *
          generalize pickS code N s6 = s7 at *
          have c8 := hP _ _ N h7 (by omega) (by omega)
          have r8 := pick_range (s := s7) (n := N) hb (by omega)
          have h8 := pick_ok (code := code) (n := N) h7
          generalize pickV code N s7 = y2 at *
          generalize pickS code N s7 = s8 at *
          have h8 : SOk s8 (k + 2000) := h8.mono (by omega)
          have hat : x.toNat < nx.length := by omega
          have hrn := (hT _ (List.getElem_mem hat)).1
          have hre := (hT _ (List.getElem_mem hat)).2
          have hxr : (rws nx)[x.toNat]? = some ((nx[x.toNat]).map (.int .i64)) := by simp [rws, hat]
          have hg2 := el_int2 (ns := nx[x.toNat]) (q := y2) (by omega)
          have hz : 0 <= (nx[x.toNat]).getD y2.toNat 0 /\ (nx[x.toNat]).getD y2.toNat 0 < N := by
            refine hre _ ?_
            rw [List.getD_eq_getElem?_getD, List.getElem?_eq_getElem (by omega)]
            exact List.getElem_mem _
          generalize (nx[x.toNat]).getD y2.toNat 0 = z at *
          have hset : (rws nx).set x.toNat (((nx[x.toNat]).map (D.int .i64)).set y1.toNat (.int .i64 z)) = rws (nx.set x.toNat ((nx[x.toNat]).set y1.toNat z)) := by
            unfold rws
            rw [List.map_set, List.map_set]
          have hA2 : AOk N (nx.set x.toNat ((nx[x.toNat]).set y1.toNat z)) 6 := ⟨aD.n1, by rw [List.length_set]; exact aD.l1, fun ns hns => by
            rcases List.mem_or_eq_of_mem_set hns with h | h
            . exact hT ns h
            . rw [h]
              refine ⟨by rw [List.length_set]; exact hrn, fun v hv => ?_⟩
              rcases List.mem_or_eq_of_mem_set hv with h | h
              . exact hre v h
              . rw [h]; exact hz⟩
          have hrl2 : (((nx[x.toNat]).map (D.int .i64)).length : Int) = N := by simp; omega
          generalize (nx[x.toNat]).map (D.int .i64) = RA at *
          generalize nx.set x.toNat ((nx[x.toNat]).set y1.toNat z) = nx' at *
          generalize rws nx = RN at *
          repeat (first | refine zc ?_ | refine zv ?_)
          refine hcl [(10000, 10000)] [(10000, 10000)] c6 ?_
          repeat (first | refine zcq ?_ | refine zv ?_)
          refine awp_carve0 200 x.toNat 300 rfl hxr rfl rfl rfl ?_
          refine u_m [(5, [10000]), (8, [10000]), (14, [10000]), (17, [10000]), (21, [300])] (.tk [10000] [0, 2, 6, 9, 11, 15, 1, 7, 10, 16, 3, 12, 4, 13] (.fork 5 14 (.fork 8 14 (.tk [] [14] (.tk [] [17] (.tk [10000] [18, 19, 20] (.tk [] [21] .done)))) (.tk [] [8] (.tk [] [17] (.tk [10000] [18, 19, 20] (.tk [] [21] .done))))) (.tk [] [5] (.tk [] [8] (.tk [] [17] (.tk [10000] [18, 19, 20] (.tk [] [21] .done))))))) ?_
          repeat' (first | refine m_fork ?_ ?_ | refine m_fork3 ?_ ?_ ?_ | refine hclM [(10000, 10000)] [(10000, 10000)] c7 ?_ | refine hclM [(10000, 10000)] [(10000, 10000)] c8 ?_ | refine zc ?_ | ((first | apply x_l | apply x_q | apply x_lr | apply x_qr); (focus (first | (apply wa_loadHole; (iterate 5 (focus (first | exact rfl | (first | assumption | omega | (simp; omega) | (simp; done) | rfl))))))); exact rfl) | (apply v_x; (iterate 2 exact rfl); (focus (intro ok0 nw hle; (first | (apply wa_loadHole; (iterate 5 (focus (first | exact rfl | (first | assumption | omega | (simp; omega) | (simp; done) | rfl)))))))); (iterate 2 exact rfl)) | refine zv ?_)
          all_goals
            refine awp_back 200 300 (by exact rfl) (by exact rfl) (by exact rfl) (by exact rfl) (by exact rfl) (by exact rfl) hxr (by simp) ?_
            (refine awp_ret ?_; (repeat (first | refine then_r ?_ | refine block_r ?_ | refine loop_r ?_)); refine ⟨.ok N nx' s8, ⟨aok_10 hA2 (by omega), h8⟩, u_rH [(10000, 10000), (200, 30000)] ?_ ?_⟩)
            . rfl
            . unfold dwH
              dsimp only
              rw [<- hset]
              rfl
        . generalize pickS code 2 s3 = s5 at *
          have h5 : SOk s5 (k + 2000) := h5.mono (by omega)
          have hq : decide (pickV code 2 s3 = 0) = false := decide_eq_false q
          repeat (first | refine zc ?_ | refine zv ?_)
          (refine awp_ret ?_; (repeat (first | refine then_r ?_ | refine block_r ?_ | refine loop_r ?_)); refine ⟨.ok N nx s5, ⟨aok_10 aD (by omega), h5⟩, u_rH [(10000, 10000), (200, 30000)] ?_ ?_⟩)
          . rfl
          . rfl
end Go.Proofs.YtckpadnjldebaaaGreat
namespace Go.Proofs.YtckpadnjldebaaaGreat
open Go
attribute [local irreducible] awp awpL awpQL awpQ awpM pWalk Qt AC thenQ blockQ loopQ OpTo
set_option linter.unusedVariables false
set_option linter.unusedSimpArgs false
set_option maxHeartbeats 2000000
attribute [local irreducible] HC HX
theorem spec_l01OkH {n : Int} {nx : List (List Int)} (a : AOk n nx 10) :
    HC Tryz.prog 82 [.ref 10000 0] [(10000, .box [.d (.int .i64 n), .own 10001]), (10001, .rows 29 2 1 (rws nx) none)] (.d (.bool true)) [(10000, .box [.d (.int .i64 n), .own 10001]), (10001, .rows 29 2 1 (rws nx) none)] := by
  have hn := a.n1
  have hl := a.l1
  have hw : AC Tryz.prog 174 [.int .i64 n, .int .i64 1, .int .i64 10] (.bool true) := (show inB n 1 10 = true by simp [inB]; omega) ▸ spec_l00In
  have hw2 : AC Tryz.prog 174 [.int .i64 (rws nx).length, .int .i64 1, .int .i64 3] (.bool true) := (show inB (rws nx).length 1 3 = true by rw [rws_length]; simp [inB]; omega) ▸ spec_l00In
  have hrl := rws_length nx
  refine hc_intro tabIs _ Tryz.func82 rfl rfl Tryz.ntmps82 rfl rfl rfl ?_ fun w0 ok0 XM XA anc he0 hX0 => ?_
  . exact likeIn_cons rfl rfl (likeIn_cons rfl ⟨rfl, rfl, rfl, rfl, rfl⟩ likeIn_nil)
  repeat (first | refine zc ?_ | refine zk (e := by exact hw) (n := ?_) | refine zk (e := by exact hw2) (n := ?_) | refine zv ?_ | refine zg ?_)
  refine awp_loop (fun k : Nat => k <= nx.length) (fun k => [(0, .ref 10000 0), (3, .d (.int .i64 k))]) (fun _ => [(10000, .box [.d (.int .i64 n), .own 10001]), (10001, .rows 29 2 1 (rws nx) none)]) (fun k => nx.length - k) 0 (by omega) ?_ rfl ?_
  . exact zs
  . intro k hk
    by_cases hlt : k < nx.length
    . have hx : (rws nx)[(k : Int).toNat]? = some ((nx[k]).map (.int .i64)) := by simp [rws, hlt]
      have hr := a.t _ (List.getElem_mem hlt)
      have hw3 : AC Tryz.prog 195 [.lst ((nx[k]).map (.int .i64)), .int .i64 n] (.bool true) := (show rowOk n n nx[k] = true by
        simp only [rowOk, allIn, inB, Bool.and_eq_true, decide_eq_true_eq, List.all_eq_true]
        exact ⟨hr.1, fun x hx => by have := hr.2 x hx; omega⟩) ▸ spec_l01Map (ns := nx[k]) (by omega) (by omega)
      generalize (nx[k]).map (D.int .i64) = RA at *
      have hset : (rws nx).set (k : Int).toNat RA = rws nx := by
        refine List.ext_getElem? fun i => ?_
        by_cases hi : i = (k : Int).toNat
        . rw [hi, List.getElem?_set_self (by omega)]; exact hx.symm
        . rw [List.getElem?_set_ne (fun e => hi e.symm)]
      generalize rws nx = RN at *
      repeat (first | refine zcn ?_ | refine zv ?_)
      refine awp_carve0 10001 (k : Int).toNat 40000 rfl hx rfl rfl rfl ?_
      repeat (first | refine zcr ?_ | ((first | apply x_l | apply x_q | apply x_lr | apply x_qr); (focus (first | (apply wa_loadHole; (iterate 5 (focus (first | exact rfl | (first | assumption | omega | (simp; omega) | (simp; done) | rfl))))))); exact rfl) | refine zk (e := by exact hw3) (n := ?_) | (apply v_x; (iterate 2 exact rfl); (focus (intro ok0 nw hle; (first | (apply wa_loadHole; (iterate 5 (focus (first | exact rfl | (first | assumption | omega | (simp; omega) | (simp; done) | rfl)))))))); (iterate 2 exact rfl)) | refine zv ?_)
      refine awp_back 10001 40000 (by exact rfl) (by exact rfl) (by exact rfl) (by exact rfl) (by exact rfl) (by exact rfl) hx (by simp) ?_
      refine awp_perm _ rfl ?_
      repeat (first | refine zc ?_ | refine zv ?_)
      refine loop_n (k + 1) (by omega) ?_ ?_ (by omega)
      . exact zs
      . exact congrArg (fun L => [(10000, Chunk.box [SV.d (D.int .i64 n), SV.own 10001]), (10001, Chunk.rows 29 2 1 L none)]) hset.symm
    . have hke : k = nx.length := by omega
      subst hke
      repeat (first | refine zc ?_ | refine zv ?_)
      (refine zb ?_; refine u_rH [(10000, 10000), (10001, 10001)] ?_ ?_)
      . rfl
      . rfl
theorem spec_l03LinkedX {code : List Int} {s : Src} {k : Nat} (hb : BytesOk code) (h : SOk s k) (hk : k <= 999960000) :
    HX Tryz.prog 81 [.ref 10000 0] [(10000, srcB code s)] (fun _ i => dwG (k + 3000) i) dwR (dwH code) := by
  have hQ : ∀ (s : Src) (k : Nat) (n : Int), SOk s k -> k <= 999999990 -> n <= 1000 -> HC Tryz.prog 53 [.ref 10000 0, .d (.int .i64 n)] [(10000, srcB code s)] (.d (.bool (decide (pickV code n s = 0)))) [(10000, srcB code (pickS code n s))] := fun s k n a b c => spec_one hb a b (by omega)
  have cD := spec_l02DrawnX hb h (by omega)
  unfold srcB at *
  refine hx_intro tabIs _ Tryz.func81 rfl rfl Tryz.ntmps81 rfl rfl rfl ?_ fun w0 ok0 XM XA anc he0 hX0 => ?_
  . intro i
    cases i
    . exact likeIn_cons rfl rfl likeIn_nil
    . exact likeIn_cons rfl rfl likeIn_nil
  repeat (first | refine zc ?_ | refine zv ?_)
  refine hxl [(10000, 10000)] [(10000, 10000), (30000, 200)] (.no 0 [] s) cD (fun _ _ _ _ h => h) (fun i hi => ?_) (hcall := fun i => by cases i <;> rfl)
  cases i with
  | no n nx s1 =>
    obtain ⟨ha, hr, h1⟩ := hi
    have h1 : SOk s1 (k + 3000) := h1.mono (by omega)
    have e1 := spec_l01Ok (s := n) hr
    rw [ha] at e1
    unfold dwR dwH
    dsimp only
    repeat (first | refine zc ?_ | refine zk (e := by exact e1) (n := ?_) | refine zv ?_ | refine zg ?_)
    (refine awp_ret ?_; (repeat (first | refine then_r ?_ | refine block_r ?_ | refine loop_r ?_)); refine ⟨.no n nx s1, ⟨ha, hr, h1⟩, u_rH [(10000, 10000), (200, 30000)] ?_ ?_⟩)
    . rfl
    . rfl
  | ok n nx s1 =>
    obtain ⟨ha, h1⟩ := hi
    have hau := aok_auto ha (by omega)
    have e1 := spec_l01Ok (s := n) (rowsOk_tblD ha.t (by have := ha.n1; omega) (by have := ha.l1; omega))
    rw [hau, <- rws_dat] at e1
    have c2 := hQ _ _ 4 h1 (by omega) (by omega)
    have h2 := pick_ok (code := code) (n := 4) h1
    unfold dwR dwH
    dsimp only
    have hn := ha.n1
    have hl := ha.l1
    have e2 := spec_l01OkH ha
    have hat : 0 < nx.length := by omega
    have hx : (rws nx)[0]? = some ((nx[0]).map (.int .i64)) := by simp [rws, hat]
    have hT0 := ha.t _ (List.getElem_mem hat)
    repeat (first | refine zc ?_ | refine zv ?_)
    refine hcl [(3, 10000), (200, 10001)] [(10000, 3), (10001, 200)] e2 ?_
    repeat (first | refine zc ?_ | refine zv ?_ | refine zg ?_)
    refine hclG [(10000, 10000)] [(10000, 10000)] c2 ?_
    by_cases q : pickV code 4 s1 = 0
    . have hq : decide (pickV code 4 s1 = 0) = true := decide_eq_true q
      generalize pickS code 4 s1 = s2 at *
      have h2 : SOk s2 (k + 3000) := h2.mono (by omega)
      repeat (first | refine zc ?_ | refine zv ?_ | refine zg ?_)
      (refine awp_ret ?_; (repeat (first | refine then_r ?_ | refine block_r ?_ | refine loop_r ?_)); refine ⟨.ok n nx s2, ⟨ha, h2⟩, u_rH [(10000, 10000), (200, 30000)] ?_ ?_⟩)
      . rfl
      . rfl
    . have hq : decide (pickV code 4 s1 = 0) = false := decide_eq_false q
      generalize pickS code 4 s1 = s2 at *
      have h2 : SOk s2 (k + 3000) := h2.mono (by omega)
      have hbk : ∀ r : List Int, (rws nx).set 0 (r.map (.int .i64)) = rws (nx.set 0 r) := fun r => by unfold rws; rw [List.map_set]
      generalize hR0 : nx[0] = r0 at *
      repeat (first | refine zcr ?_ | refine zv ?_ | refine zg ?_)
      refine awp_sub (s' := [(0, .ref 10000 0), (2, .ref 2 0), (3, .ref 3 0)]) (by exact zs) ?_
      refine awp_permTo [(2, .box [.d (.int .i64 0), .d .nils]), (3, .box [.d (.int .i64 n), .own 200]), (200, .rows 29 2 1 (rws nx) none), (10000, .box [.d (u8s code), .d (.int .i64 s2.pos), .d (.int .u64 s2.sd)])] rfl ?_
      have hrl := rws_length nx
      refine awp_carve0 200 0 300 rfl hx rfl rfl rfl ?_
      refine awp_permTo [(2, .box [.d (.int .i64 0), .d .nils]), (3, .box [.d (.int .i64 n), .own 200]), (200, .rows 29 2 1 (rws nx) (some (0, .own 300))), (300, .arr 2 1 (r0.map (.int .i64))), (10000, .box [.d (u8s code), .d (.int .i64 s2.pos), .d (.int .u64 s2.sd)])] rfl ?_
      repeat (first | refine zc ?_ | refine zv ?_)
      refine awp_loop (fun q : Nat × List Int => q.1 <= n.toNat /\ (q.2.length : Int) = n /\ ∀ v ∈ q.2, 0 <= v /\ v < n) (fun q => [(0, .ref 10000 0), (2, .ref 2 0), (3, .ref 3 0), (4, .d (.int .i64 q.1))])
        (fun q => [(2, .box [.d (.int .i64 0), .d .nils]), (3, .box [.d (.int .i64 n), .own 200]), (200, .rows 29 2 1 (rws nx) (some (0, .own 300))), (300, .arr 2 1 (q.2.map (.int .i64))), (10000, .box [.d (u8s code), .d (.int .i64 s2.pos), .d (.int .u64 s2.sd)])]) (fun q => n.toNat - q.1) (0, r0) ⟨Nat.zero_le _, hT0.1, hT0.2⟩ ?_ rfl ?_
      . exact zs
      . rintro ⟨i, r⟩ ⟨hi, hrl1, hrv⟩
        dsimp only at hi hrl1 hrv ⊢
        have hrm : ((r.map (D.int .i64)).length : Int) = n := by simp; omega
        by_cases hin : i < n.toNat
        . have hm0 : 0 <= ((i : Int) + 1) % n := Int.emod_nonneg _ (by omega)
          have hm1 : ((i : Int) + 1) % n < n := Int.emod_lt_of_pos _ (by omega)
          have hrs : (r.map (D.int .i64)).set (i : Int).toNat (.int .i64 (((i : Int) + 1) % n)) = (r.set i (((i : Int) + 1) % n)).map (.int .i64) := by rw [Int.toNat_natCast, List.map_set]
          generalize hRM : r.map (D.int .i64) = RM at *
          repeat (first | refine zc ?_ | ((first | apply x_l | apply x_q | apply x_lr | apply x_qr); (focus (first | (apply wa_loadHole; (iterate 5 (focus (first | exact rfl | (first | assumption | omega | (simp; omega) | (simp; done) | rfl))))))); exact rfl) | (apply v_x; (iterate 2 exact rfl); (focus (intro ok0 nw hle; (first | (apply wa_loadHole; (iterate 5 (focus (first | exact rfl | (first | assumption | omega | (simp; omega) | (simp; done) | rfl)))))))); (iterate 2 exact rfl)) | refine zv ?_)
          refine loop_n (i + 1, r.set i (((i : Int) + 1) % n)) ⟨by dsimp only; omega, by dsimp only; rw [List.length_set]; exact hrl1, fun v hv => ?_⟩ ?_ ?_ (by dsimp only; omega)
          . rcases List.mem_or_eq_of_mem_set hv with h | h
            . exact hrv v h
            . rw [h]; exact ⟨hm0, hm1⟩
          . exact zs
          . show [_, _, _, _, _] = _
            rw [<- hrs]; rfl
        . have hie : i = n.toNat := by omega
          have hA2 : AOk n (nx.set 0 r) 10 := ⟨ha.n1, by rw [List.length_set]; exact hl, fun ns hns => by
            rcases List.mem_or_eq_of_mem_set hns with h | h
            . exact ha.t ns h
            . rw [h]; exact ⟨hrl1, hrv⟩⟩
          have hb2 := hbk r
          repeat (first | refine zcr ?_ | refine zv ?_)
          refine awp_back 200 300 (by exact rfl) (by exact rfl) (by exact rfl) (by exact rfl) (by exact rfl) (by exact rfl) hx (by simp; omega) ?_
          repeat (first | refine zc ?_ | refine zv ?_)
          (refine awp_ret ?_; (repeat (first | refine then_r ?_ | refine block_r ?_ | refine loop_r ?_)); refine ⟨.ok n (nx.set 0 r) s2, ⟨hA2, h2⟩, u_rH [(10000, 10000), (200, 30000)] ?_ ?_⟩)
          . rfl
          . dsimp only
            rw [<- hb2]
            rfl
theorem spec_A2AutomatonX {code : List Int} (hb : BytesOk code) :
    HX Tryz.prog 19 [.d (u8s code)] [] (ι := Int × List (List Int)) (fun _ i => AOk i.1 i.2 7) (fun i => .d (.agg [.int .i64 i.1, rows i.2])) (fun _ => []) := by
  have c0 := spec_From (code := code)
  have cL := spec_l03LinkedX (s := ⟨0, 0⟩) (k := 0) hb ⟨Nat.le_refl _, by simp⟩ (by omega)
  have cS := spec_l02Slow (n := 4) (by omega)
  have aS := aok_slow (n := 4) (by omega)
  unfold srcB at *
  refine hx_intro tabIs _ Tryz.func19 rfl rfl Tryz.ntmps19 rfl rfl rfl ?_ fun w0 ok0 XM XA anc he0 hX0 => ?_
  . exact fun _ => likeIn_nil
  repeat (first | refine zc ?_ | refine zv ?_)
  refine hcl [] [(30000, 100)] c0 ?_
  repeat (first | refine zc ?_ | refine zv ?_)
  refine hxl [(100, 10000)] [(10000, 100), (30000, 200)] (.no 0 [] ⟨0, 0⟩) cL (fun _ _ _ _ h => h) (fun i hi => ?_) (hcall := fun i => by cases i <;> rfl)
  cases i with
  | no n nx s1 =>
    obtain ⟨ha, hr, h1⟩ := hi
    have e1 := spec_l01Ok (s := n) hr
    rw [ha] at e1
    unfold dwR dwH
    dsimp only
    repeat (first | refine zc ?_ | refine zk (e := by exact e1) (n := ?_) | refine zk (e := by exact cS) (n := ?_) | refine zv ?_ | refine zg ?_)
    (refine awp_ret ?_; (repeat (first | refine then_r ?_ | refine block_r ?_ | refine loop_r ?_)); refine ⟨(4, [slT 4 (4 : Int).toNat, slY 4 (4 : Int).toNat]), aS, u_rH [] ?_ ?_⟩)
    . rfl
    . rfl
  | ok n nx s1 =>
    obtain ⟨ha, h1⟩ := hi
    have e1 := spec_l01Ok (s := n) (rowsOk_tblD ha.t (by have := ha.n1; omega) (by have := ha.l1; omega))
    rw [aok_auto ha (by omega), <- rws_dat] at e1
    unfold dwR dwH
    dsimp only
    refine awpL_freeze 200 rfl rfl ?_
    by_cases h7 : n <= 7
    . repeat (first | refine zc ?_ | refine zk (e := by exact e1) (n := ?_) | refine zv ?_ | refine zg ?_)
      (refine awp_ret ?_; (repeat (first | refine then_r ?_ | refine block_r ?_ | refine loop_r ?_)); refine ⟨(n, nx), ⟨by have := ha.n1; dsimp only; omega, ha.l1, ha.t⟩, u_rH [] ?_ ?_⟩)
      . exact congrArg (fun d => SV.d (.agg [.int .i64 n, d])) (rws_dat nx)
      . rfl
    . repeat (first | refine zc ?_ | refine zk (e := by exact e1) (n := ?_) | refine zk (e := by exact cS) (n := ?_) | refine zv ?_ | refine zg ?_)
      (refine awp_ret ?_; (repeat (first | refine then_r ?_ | refine block_r ?_ | refine loop_r ?_)); refine ⟨(4, [slT 4 (4 : Int).toNat, slY 4 (4 : Int).toNat]), aS, u_rH [] ?_ ?_⟩)
      . rfl
      . rfl
end Go.Proofs.YtckpadnjldebaaaGreat
