/- The law of scripts: a script answers what its deeds do, and tells what is told behind them. Condition: the variables of strconv are laid. -/
import Derived.Test.YtffmlijngfhhaaaGreatDoorSc
import Derived.Test.YtffmlijngfhhaaaGreatDoorQd
namespace Go.Proofs.YtffmlijngfhhaaaGreatDoor
open Go
attribute [local irreducible] awp awpL awpQL awpQ awpM pWalk Qt AC thenQ blockQ loopQ OpTo
set_option linter.unusedVariables false
set_option linter.unusedSimpArgs false
set_option maxHeartbeats 2000000
attribute [local irreducible] HC
open Go.Lib (itoa)
def scA (s : Int) (nx : List (List Int)) (lp : List Int) : Ln -> List (List UInt8) -> List (List UInt8)
  | _, [] => []
  | n, l :: r => (ansF s nx lp n l).2 :: scA s nx lp (ansF s nx lp n l).1 r
def unL (A : List (List UInt8)) : List UInt8 := A.flatMap fun p => p ++ [10]
theorem scT_un {s : Int} {nx : List (List Int)} {lp : List Int} : ∀ (ls : List (List UInt8)) (n : Ln), scT s nx lp n ls = unL (scA s nx lp n ls)
  | [], _ => rfl
  | l :: r, n => by
    show _ ++ scT s nx lp _ r = (_ :: scA s nx lp _ r).flatMap _
    rw [scT_un r, List.flatMap_cons]
    rfl
theorem scA_len {s : Int} {nx : List (List Int)} {lp : List Int} : ∀ (ls : List (List UInt8)) (n : Ln), (scA s nx lp n ls).length = ls.length
  | [], _ => rfl
  | l :: r, n => by simp [scA, scA_len r]
theorem scA_append {s : Int} {nx : List (List Int)} {lp : List Int} : ∀ (a b : List (List UInt8)) (n : Ln), scA s nx lp n (a ++ b) = scA s nx lp n a ++ scA s nx lp (scN s nx lp n a) b
  | [], _, _ => rfl
  | l :: r, b, n => by simp only [List.cons_append, scA, scN]; rw [scA_append r b]
def okT : List UInt8 := [111, 107]
def okN : List (List UInt8) -> Nat
  | [] => 0
  | l :: r => (if l = okT then 1 else 0) + okN r
theorem okN_append : ∀ (a b : List (List UInt8)), okN (a ++ b) = okN a + okN b
  | [], b => by simp [okN]
  | l :: a, b => by simp only [List.cons_append, okN]; rw [okN_append a b]; omega
theorem okN_le : ∀ a : List (List UInt8), okN a <= a.length
  | [] => Nat.le_refl _
  | c :: a => by have := okN_le a; simp only [okN, List.length_cons]; split <;> omega
def dtx (p : Int × Int) : List UInt8 := dtxt p.1 p.2
theorem ans_deed {s : Int} {nx : List (List Int)} {lp : List Int} {n : Ln} {p : Int × Int} (h : vdeed p.1 p.2 = true) :
    ansF s nx lp n (dtx p) = ((doF s nx lp n p.1 p.2).1, if (doF s nx lp n p.1 p.2).2 = 0 then [111, 107] else [101, 114, 114, 111, 114, 32] ++ cnm (doF s nx lp n p.1 p.2).2) := by
  unfold ansF dtx
  rw [rd_dtxt h]
theorem scN_deeds {s : Int} {nx : List (List Int)} {lp : List Int} : ∀ (ds : List (Int × Int)) (n : Ln), (∀ p ∈ ds, vdeed p.1 p.2 = true) -> scN s nx lp n (ds.map dtx) = runF s nx lp n ds
  | [], _, _ => rfl
  | p :: ds, n, h => by
    simp only [List.map_cons, scN, runF]
    rw [ans_deed (h p (List.mem_cons_self ..))]
    exact scN_deeds ds _ fun q hq => h q (List.mem_cons_of_mem _ hq)
theorem ok_deeds {s : Int} {nx : List (List Int)} {lp : List Int} : ∀ (ds : List (Int × Int)) (n : Ln), (∀ p ∈ ds, vdeed p.1 p.2 = true) -> okN (scA s nx lp n (ds.map dtx)) = doneF (codesF s nx lp n ds)
  | [], _, _ => rfl
  | p :: ds, n, h => by
    simp only [List.map_cons, scA, codesF, okN, doneF]
    rw [ans_deed (h p (List.mem_cons_self ..)), ok_deeds ds _ fun q hq => h q (List.mem_cons_of_mem _ hq)]
    congr 1
    by_cases h0 : (doF s nx lp n p.1 p.2).2 = 0
    . rw [if_pos h0, if_pos h0]; rfl
    . rw [if_neg h0, if_neg h0, if_neg]
      intro e
      have := congrArg List.length e
      rw [List.length_append, cnm_len] at this
      simp [okT] at this
theorem no10_cnm (c : Int) : ∀ x ∈ cnm c, x ≠ 10 := by
  unfold cnm
  split <;> decide
theorem no10_itoa {n : Int} (h : 0 <= n) : ∀ c ∈ itoa n, c ≠ 10 /\ c ≠ 111 := fun c hc => by
  have := isDig_iff.1 (List.all_eq_true.1 (itoa_all h) c hc)
  refine ⟨fun e => ?_, fun e => ?_⟩ <;> (rw [e] at this; simp at this)
theorem no10_sepT : ∀ l : List Int, (∀ q ∈ l, 0 <= q /\ q <= 999) -> ∀ c ∈ sepT l, c ≠ 10 /\ c ≠ 111 := by
  refine fun l => ?_
  rw [<- List.reverse_reverse l]
  generalize l.reverse = r
  induction r with
  | nil => intro _ c hc; simp [sepT, Go.Lib.join] at hc
  | cons x r ih =>
    intro h c hc
    rw [List.reverse_cons] at h hc
    have h1 := ih fun q hq => h q (by simp only [List.mem_append]; exact .inl hq)
    have h2 := no10_itoa (h x (by simp)).1
    rw [sepT_snoc] at hc
    split at hc
    . exact h2 c hc
    . rcases List.mem_append.1 hc with hc | hc
      . rcases List.mem_append.1 hc with hc | hc
        . exact h1 c hc
        . simp at hc; subst hc; decide
      . exact h2 c hc
theorem no10_err : ∀ c ∈ ([101, 114, 114, 111, 114, 32] : List UInt8), c ≠ 10 := by decide
theorem no10_deeds {s : Int} {nx : List (List Int)} {lp : List Int} : ∀ (ds : List (Int × Int)) (n : Ln), (∀ p ∈ ds, vdeed p.1 p.2 = true) -> ∀ a ∈ scA s nx lp n (ds.map dtx), ∀ c ∈ a, c ≠ 10
  | [], _, _, a, ha => by cases ha
  | p :: ds, n, h, a, ha => by
    simp only [List.map_cons, scA] at ha
    rcases List.mem_cons.1 ha with rfl | ha
    . rw [ans_deed (h p (List.mem_cons_self ..))]
      dsimp only
      split
      . decide
      . intro c hc
        rcases List.mem_append.1 hc with hc | hc
        . exact no10_err c hc
        . exact no10_cnm _ c hc
    . rw [ans_deed (h p (List.mem_cons_self ..))] at ha
      exact no10_deeds ds _ (fun q hq => h q (List.mem_cons_of_mem _ hq)) a ha
theorem dtx_no10 {p : Int × Int} (h : vdeed p.1 p.2 = true) : ∀ c ∈ dtx p, c ≠ 10 := by
  obtain ⟨h1, h2, h3, h4⟩ := vdeed_k h
  have hw : ∀ c ∈ dword p.1, c ≠ 10 := by
    simp only [inB, Bool.and_eq_true, decide_eq_true_eq] at h1
    have : p.1 = 1 \/ p.1 = 2 \/ p.1 = 3 \/ p.1 = 4 \/ p.1 = 5 \/ p.1 = 6 \/ p.1 = 7 \/ p.1 = 8 \/ p.1 = 9 := by omega
    rcases this with e | e | e | e | e | e | e | e | e <;> (rw [e]; decide)
  unfold dtx dtxt
  rw [if_pos h]
  split
  . intro c hc
    rcases List.mem_append.1 hc with hc | hc
    . exact hw c hc
    . rcases List.mem_cons.1 hc with rfl | hc
      . decide
      . exact (no10_itoa h2 c hc).1
  . exact hw
def toldT : List UInt8 := [116, 111, 108, 100]
def witT : List UInt8 := [119, 104, 97, 116, 32, 105, 115, 32, 116, 104, 105, 115]
def whatT : List UInt8 := [119, 104, 97, 116]
theorem lns_un : ∀ (A : List (List UInt8)) (r : List UInt8), (∀ a ∈ A, ∀ c ∈ a, c ≠ 10) -> lns (unL A ++ r) = A ++ lns r
  | [], r, _ => rfl
  | a :: A, r, h => by
    show lns (((a ++ [10]) ++ unL A) ++ r) = a :: (A ++ lns r)
    rw [List.append_assoc, List.append_assoc, show ([10] : List UInt8) ++ (unL A ++ r) = 10 :: (unL A ++ r) from rfl, lns_at (h a (List.mem_cons_self ..)), lns_un A r fun b hb => h b (List.mem_cons_of_mem _ hb)]
theorem unL_len : ∀ (A : List (List UInt8)) (k : Nat), (∀ a ∈ A, a.length <= k) -> (unL A).length <= (k + 1) * A.length
  | [], k, _ => by simp [unL]
  | a :: A, k, h => by
    have h1 := unL_len A k fun b hb => h b (List.mem_cons_of_mem _ hb)
    have h2 := h a (List.mem_cons_self ..)
    show ((a ++ [10]) ++ unL A).length <= _
    rw [List.length_append, List.length_append, List.length_cons, List.length_cons, List.length_nil, Nat.mul_add]
    omega
def scrT (ds : List (Int × Int)) : List UInt8 := unL (ds.map dtx) ++ (toldT ++ 10 :: witT)
theorem scL_scr {ds : List (Int × Int)} (h : ∀ p ∈ ds, vdeed p.1 p.2 = true) : scL (scrT ds) = ds.map dtx ++ [toldT, witT] := by
  have e : lns (scrT ds) = ds.map dtx ++ [toldT, witT] := by
    unfold scrT
    rw [lns_un _ _ fun a ha => by
      obtain ⟨p, hp, rfl⟩ := List.mem_map.1 ha
      exact dtx_no10 (h p hp)]
    congr 1
  unfold scL
  rw [if_neg, e]
  intro h0
  have : (lns (scrT ds)).getLast (lns_ne _) = witT := by
    have h1 : (lns (scrT ds)).getLast? = some witT := by rw [e]; simp
    rw [List.getLast?_eq_some_getLast (lns_ne _)] at h1
    exact Option.some.inj h1
  rw [this] at h0
  exact absurd h0 (by decide)
theorem rd_told : rd toldT = none := by decide
theorem rd_wit : rd witT = none := by decide
theorem scA_scr {s st : Int} {nx : List (List Int)} {lp : List Int} {ds : List (Int × Int)} (h : ∀ p ∈ ds, vdeed p.1 p.2 = true) :
    scA s nx lp (ln0 s st) (ds.map dtx ++ [toldT, witT]) = scA s nx lp (ln0 s st) (ds.map dtx) ++ [sepT (toldD nx (runF s nx lp (ln0 s st) ds).d), whatT] := by
  rw [scA_append, scN_deeds ds _ h]
  have key : ∀ n : Ln, scA s nx lp n [toldT, witT] = [sepT (toldD nx n.d), whatT] := fun n => by
    have h1 : ansF s nx lp n toldT = (n, sepT (toldD nx n.d)) := by
      unfold ansF
      rw [rd_told]
      rfl
    have h2 : ansF s nx lp n witT = (n, whatT) := by
      unfold ansF
      rw [rd_wit]
      rfl
    simp only [scA, h1, h2]
  rw [key]
theorem un_take {A : List (List UInt8)} {k : Nat} (hk : k < A.length) : unL A = unL (A.take k) ++ ((A[k] ++ [10]) ++ unL (A.drop (k + 1))) := by
  unfold unL
  conv => lhs; rw [<- List.take_append_drop k A, List.flatMap_append, List.drop_eq_getElem_cons hk, List.flatMap_cons]
theorem un_take1 {A : List (List UInt8)} {k : Nat} (hk : k < A.length) : unL (A.take (k + 1)) = unL (A.take k) ++ (A[k] ++ [10]) := by
  unfold unL
  rw [List.take_succ_eq_append_getElem hk, List.flatMap_append]
  simp
theorem un_in {A : List (List UInt8)} {k j : Nat} (hk : k < A.length) (hj : j < A[k].length) : (unL A)[(unL (A.take k)).length + j]? = some A[k][j] := by
  rw [un_take hk, List.getElem?_append_right (by omega), Nat.add_sub_cancel_left, List.getElem?_append_left (by simp; omega), List.getElem?_append_left hj]
  simp
theorem un_end {A : List (List UInt8)} {k : Nat} (hk : k < A.length) : (unL A)[(unL (A.take k)).length + A[k].length]? = some 10 := by
  rw [un_take hk, List.getElem?_append_right (by omega), Nat.add_sub_cancel_left, List.getElem?_append_left (by simp), List.getElem?_append_right (by omega)]
  simp
theorem un_cut {A : List (List UInt8)} {k : Nat} (hk : k < A.length) : ((unL A).drop (unL (A.take k)).length).take A[k].length = A[k] := by
  rw [un_take hk, List.drop_left, List.append_assoc, List.take_left]
end Go.Proofs.YtffmlijngfhhaaaGreatDoor
namespace Go.Proofs.YtffmlijngfhhaaaGreatDoor
open Go
attribute [local irreducible] awp awpL awpQL awpQ awpM pWalk Qt AC thenQ blockQ loopQ OpTo
set_option linter.unusedVariables false
set_option linter.unusedSimpArgs false
set_option maxHeartbeats 2000000
attribute [local irreducible] HC
open Go.Lib (itoa)
theorem law_FnLineScript {code more : List Int} (hb : BytesOk code) (hm : BytesOk more) : AC Tryz.prog 6 [u8s code, u8s more] (.bool true) := by
  have eL := laws_a2Long (a := code) (b := more)
  by_cases hl : (decide (3000 < code.length) || decide (3000 < more.length)) = true
  . rw [hl] at eL
    refine ac_intro tabIs _ Tryz.func6 rfl rfl Tryz.ntmps6 rfl rfl fun w0 ok0 he0 => ?_
    repeat (first | refine zc ?_ | refine zk (e := by exact eL) (n := ?_) | refine zv ?_)
    refine zt ?_
    rfl
  . rw [Bool.not_eq_true] at hl
    rw [hl] at eL
    have eA := spec_A2Lit hb
    have hv := drawn_ok hb
    generalize (drA code ⟨0, 0⟩).1 = s at *
    generalize (drA code ⟨0, 0⟩).2.1 = nx at *
    generalize (drP code ⟨0, 0⟩).1 = lp at *
    have v := lv_of hv
    have hs1 := v.s1
    have eT := laws_a2At (b := more) (n := s) hm (by omega)
    have hst := atV_range (b := more) (n := s) (by omega)
    generalize atV more s = st at *
    have eD := spec_A2Deeds (s := s) (st := st) (nx := nx) (lp := lp) hm hv hst
    obtain ⟨hdl, hdv⟩ := dsV_ok (code := more) (s := s) (st := st) (nx := nx) (lp := lp) hm hv hst
    generalize dsV more s st nx lp = ds at *
    have hle : (ds.map deedD).length = ds.length := by simp
    have c1 := impl_LineAfter hv hst hdv (by omega)
    have c2 := impl_ToldAfter hv hst hdv (by omega)
    have hln := runF_ok hv ds (ln0_ok (nx := nx) hst) fun p hp => ddOk_of (hdv p hp)
    obtain ⟨ht1, ht2⟩ := toldD_facts hv hln.d
    have hdx : ∀ a ∈ ds.map dtx, a.length <= 11 := fun a ha => by
      obtain ⟨p, hp, rfl⟩ := List.mem_map.1 ha
      exact dtxt_len p.1 p.2 (hdv p hp)
    have hxl : ∀ i, (unL ((ds.take i).map dtx)).length <= 12 * ds.length := fun i => by
      have := unL_len ((ds.take i).map dtx) 11 fun a ha => hdx a (by
        obtain ⟨p, hp, rfl⟩ := List.mem_map.1 ha
        exact List.mem_map.2 ⟨p, List.mem_of_mem_take hp, rfl⟩)
      rw [List.length_map, List.length_take] at this
      omega
    have hscr : scrT ds = unL (ds.map dtx) ++ [116, 111, 108, 100, 10, 119, 104, 97, 116, 32, 105, 115, 32, 116, 104, 105, 115] := rfl
    have hx0 := hxl ds.length
    rw [List.take_length] at hx0
    have hsl : (scrT ds).length <= 20000 := by
      rw [hscr, List.length_append]
      simp
      omega
    have hsL := scL_scr hdv
    have hsc : scC s st nx lp (scrT ds) = 0 := by
      unfold scC
      rw [if_pos hv, if_pos ⟨hst.1, hst.2, hsl, by rw [hsL]; simp; omega⟩]
    have f1 := impl_RunScript (s := s) (st := st) (nx := nx) (lp := lp) (l := scrT ds) (rowsOk_of v) (by have := v.lp; omega) (by omega)
    have f2 := spec_RunScript (s := s) (st := st) (nx := nx) (lp := lp) (l := scrT ds) (rowsOk_of v) (by have := v.lp; omega) (by omega)
    have hO : scO s st nx lp (scrT ds) = unL (scA s nx lp (ln0 s st) (ds.map dtx) ++ [sepT (toldD nx (runF s nx lp (ln0 s st) ds).d), whatT]) := by
      unfold scO
      rw [if_pos hsc, hsL, scT_un, scA_scr hdv]
    rw [hsc, hO, hscr] at f1 f2
    have hA1 := scA_len (s := s) (nx := nx) (lp := lp) (ds.map dtx) (ln0 s st)
    rw [List.length_map] at hA1
    have hok := ok_deeds (s := s) (nx := nx) (lp := lp) ds (ln0 s st) hdv
    have hn10 := no10_deeds (s := s) (nx := nx) (lp := lp) ds (ln0 s st) hdv
    have htn := no10_sepT _ ht2
    have hsepl := fun i => sepT_len ((toldD nx (runF s nx lp (ln0 s st) ds).d).take i) fun q hq => ht2 q (List.mem_of_mem_take hq)
    have hAl : ∀ a ∈ scA s nx lp (ln0 s st) (ds.map dtx) ++ [sepT (toldD nx (runF s nx lp (ln0 s st) ds).d), whatT], a.length <= 1000 := by
      have : ∀ (ls : List (List UInt8)) {k : Nat} {n : Ln}, LnOk s nx k n -> ∀ a ∈ scA s nx lp n ls, a.length <= 1000 := by
        intro ls
        induction ls with
        | nil => intro k n _ a ha; cases ha
        | cons l ls ih =>
          intro k n h a ha
          rcases List.mem_cons.1 ha with rfl | ha
          . exact ansF_len hv h
          . exact ih (ansF_ok hv h) a ha
      rw [<- scA_scr hdv]
      exact this _ (ln0_ok (nx := nx) hst)
    generalize runF s nx lp (ln0 s st) ds = L at *
    generalize toldD nx L.d = td at *
    generalize doneF (codesF s nx lp (ln0 s st) ds) = dn at *
    generalize scA s nx lp (ln0 s st) (ds.map dtx) = A0 at *
    have hout : unL (A0 ++ [sepT td, whatT]) = unL A0 ++ (sepT td ++ [10, 119, 104, 97, 116, 10]) := by
      unfold unL
      rw [List.flatMap_append]
      simp [whatT]
    have hokA : okN (A0 ++ [sepT td, whatT]) = dn := by
      rw [okN_append, hok]
      have h1 : sepT td ≠ okT := fun e => (htn 111 (by rw [e]; simp [okT])).2 rfl
      have h2 : whatT ≠ okT := by decide
      simp only [okN, if_neg h1, if_neg h2]
      omega
    have hA10 : ∀ a ∈ A0 ++ [sepT td, whatT], ∀ c ∈ a, c ≠ 10 := fun a ha => by
      rcases List.mem_append.1 ha with ha | ha
      . exact hn10 a ha
      . simp only [List.mem_cons, List.not_mem_nil, or_false] at ha
        rcases ha with rfl | rfl
        . exact fun c hc => (htn c hc).1
        . decide
    have hAlen : (A0 ++ [sepT td, whatT]).length = ds.length + 2 := by simp; omega
    have hun := unL_len _ 1000 hAl
    rw [hAlen] at hun
    generalize hAe : A0 ++ [sepT td, whatT] = A at *
    have hsp0 := hsepl td.length
    rw [List.take_length] at hsp0
    unfold ltD deedsD lnL at *
    refine ac_intro tabIs _ Tryz.func6 rfl rfl Tryz.ntmps6 rfl rfl fun w0 ok0 he0 => ?_
    repeat (first | refine zc ?_ | refine zk (e := by exact eL) (n := ?_) | refine zk (e := by exact eA) (n := ?_) | refine zk (e := by exact eT) (n := ?_) | refine zk (e := by exact eD) (n := ?_) | refine zv ?_)
    refine awp_loop (fun i : Nat => i <= ds.length) (fun i => [(5, .ref 5 0), (6, .d (.int .i64 st)), (7, .d (.lst (ds.map deedD))), (8, .d (.str (unL ((ds.take i).map dtx)))), (9, .d (.int .i64 i)), (10, .d (.int .i64 i))]) (fun _ => [(5, .box [.d (.int .i64 s), .d (rows nx), .d (ints lp)])]) (fun i => ds.length - i) 0 (by omega) ?_ rfl ?_
    . exact zs
    . intro i hi
      by_cases hlt : i < ds.length
      . have hx := el_deed hlt
        have e1 := spec_DeedText (k := ds[i].1) (a := ds[i].2)
        have hdi := hdx (dtx ds[i]) (List.mem_map.2 ⟨_, List.getElem_mem hlt, rfl⟩)
        have hxi := hxl i
        have hsn : unL ((ds.take (i + 1)).map dtx) = unL ((ds.take i).map dtx) ++ (dtx ds[i] ++ [10]) := by
          rw [List.take_succ_eq_append_getElem hlt, List.map_append]
          unfold unL
          rw [List.flatMap_append]
          simp
        rw [show dtxt ds[i].1 ds[i].2 = dtx ds[i] from rfl] at e1
        generalize unL ((ds.take i).map dtx) = ux at *
        generalize dtx ds[i] = tx at *
        generalize ds[i] = p at *
        repeat (first | refine zc ?_ | refine zk (e := by exact e1) (n := ?_) | refine zv ?_)
        refine loop_n (i + 1) (by omega) ?_ rfl (by omega)
        rw [hsn]
        exact zs
      . have : i = ds.length := by omega
        subst this
        rw [List.take_length]
        generalize unL (ds.map dtx) = ux at *
        repeat (first | refine zcn ?_ | refine zk (e := by exact c2) (n := ?_) | refine zk (e := by exact c1) (n := ?_) | refine zv ?_)
        refine awpL_freezeB 14 rfl rfl rfl ?_
        have hmt : (td.map (D.int .i64)).length = td.length := by simp
        have hdO : decide (unL A = unL A) = true := decide_eq_true rfl
        repeat (first | refine zc ?_ | refine zk (e := by exact f1) (n := ?_) | refine zk (e := by exact f2) (n := ?_) | refine zv ?_ | refine zg ?_)
        refine awp_sub (s' := [(9, .d (.int .i64 ds.length)), (11, .d (ints td)), (15, .d (.int .i64 dn)), (17, .d (.str (unL A))), (21, .d (.str [])), (22, .d (.int .i64 0))]) (by exact zs) ?_
        refine awp_permTo [(5, .box [.d (.int .i64 s), .d (rows nx), .d (ints lp)])] rfl ?_
        refine awp_loop (fun i : Nat => i <= td.length) (fun i => [(9, .d (.int .i64 ds.length)), (11, .d (ints td)), (15, .d (.int .i64 dn)), (17, .d (.str (unL A))), (21, .d (.str (sepT (td.take i)))), (22, .d (.int .i64 i))]) (fun _ => [(5, .box [.d (.int .i64 s), .d (rows nx), .d (ints lp)])]) (fun i => td.length - i) 0 (by omega) ?_ rfl ?_
        . exact zs
        . intro i hi
          by_cases hlt : i < td.length
          . have hx := el_intA hlt
            have hqi := ht2 td[i] (List.getElem_mem hlt)
            have e1 := spec_Decimal hqi
            have hil := itoa_len hqi
            have hsl := hsepl i
            rw [List.length_take] at hsl
            have hsn := sepT_snoc (td.take i) td[i]
            rw [<- List.take_succ_eq_append_getElem hlt] at hsn
            by_cases h0 : i = 0
            . subst h0
              rw [if_pos (by simp)] at hsn
              generalize itoa td[0] = t1 at *
              generalize td[0] = x at *
              repeat (first | refine zc ?_ | refine zk (e := by exact e1) (n := ?_) | refine zv ?_ | refine zg ?_)
              refine loop_n 1 (by omega) ?_ rfl (by omega)
              rw [hsn]
              exact zs
            . rw [if_neg (by intro h; have := congrArg List.length h; rw [List.length_take, List.length_nil] at this; omega)] at hsn
              generalize sepT (td.take i) = tt at *
              generalize itoa td[i] = t1 at *
              generalize td[i] = x at *
              repeat (first | refine zc ?_ | refine zk (e := by exact e1) (n := ?_) | refine zv ?_ | refine zg ?_)
              refine loop_n (i + 1) (by omega) ?_ rfl (by omega)
              rw [hsn]
              exact zs
          . have : i = td.length := by omega
            subst this
            rw [List.take_length]
            have hlO := congrArg List.length hout
            rw [List.length_append] at hlO
            repeat (first | refine zcr ?_ | refine zv ?_)
            refine awp_region ?_
            repeat (first | refine zcr ?_ | refine zv ?_)
            refine awp_region ?_
            repeat (first | refine zcr ?_ | refine zv ?_)
            refine awp_sub (s' := [(9, .d (.int .i64 ds.length)), (15, .d (.int .i64 dn)), (17, .d (.str (unL A))), (21, .d (.str (sepT td ++ [10, 119, 104, 97, 116, 10])))]) (by exact zs) ?_
            have hlt9 : (sepT td ++ [10, 119, 104, 97, 116, 10]).length <= 1000 := by simp; omega
            generalize sepT td ++ [10, 119, 104, 97, 116, 10] = lt at *
            have hdrop : (unL A).drop ((((unL A).length : Nat) : Int) - (lt.length : Nat)).toNat = lt := by
              rw [hout, show (((unL A0 ++ lt).length : Int) - (lt.length : Nat)).toNat = (unL A0).length by rw [List.length_append]; omega, List.drop_left]
            have hdd : decide ((unL A).drop ((((unL A).length : Nat) : Int) - (lt.length : Nat)).toNat = lt) = true := decide_eq_true hdrop
            have hcu : ∀ (k : Nat) (hk : k < A.length), (unL A)[((((unL (A.take k)).length + A[k].length : Nat)) : Int).toNat]? = some 10 := fun k hk => un_end hk
            have hll : (unL A).length <= 1000000 := by omega
            have hpl : ∀ k, (unL (A.take k)).length <= (unL A).length := fun k => by
              have : unL A = unL (A.take k) ++ unL (A.drop k) := by
                unfold unL
                conv => lhs; rw [<- List.take_append_drop k A, List.flatMap_append]
              rw [this, List.length_append]
              omega
            have hun1 : ∀ (k : Nat) (hk : k < A.length), (unL A).length = (unL (A.take k)).length + A[k].length + 1 + (unL (A.drop (k + 1))).length := fun k hk => by
              conv => lhs; rw [un_take hk]
              simp only [List.length_append, List.length_cons, List.length_nil]
              omega
            repeat (first | refine zc ?_ | ((first | apply x_l | apply x_q | apply x_lr | apply x_qr); (focus (first | (apply qa_strSlice_l; (iterate 6 (focus (first | exact rfl | (first | assumption | omega | (simp; omega) | (simp; done) | rfl))))))); exact rfl) | (apply v_x; (iterate 2 exact rfl); (focus (intro ok0 nw hle; (first | (apply qa_strSlice_l; (iterate 6 (focus (first | exact rfl | (first | assumption | omega | (simp; omega) | (simp; done) | rfl)))))))); (iterate 2 exact rfl)) | refine zv ?_ | refine zg ?_)
            rw [hdd]
            repeat (first | refine zc ?_ | refine zv ?_)
            refine awp_sub (s' := [(9, .d (.int .i64 ds.length)), (15, .d (.int .i64 dn)), (17, .d (.str (unL A))), (23, .d (.int .i64 0)), (24, .d (.int .i64 0)), (25, .d (.int .i64 0)), (26, .d (.int .i64 0))]) (by exact zs) ?_
            refine awp_loop (fun p : Nat × Nat => p.1 <= A.length /\ (∀ a, A[p.1]? = some a -> p.2 <= a.length) /\ (p.1 = A.length -> p.2 = 0)) (fun p => [(9, .d (.int .i64 ds.length)), (15, .d (.int .i64 dn)), (17, .d (.str (unL A))), (23, .d (.int .i64 (okN (A.take p.1) : Nat))), (24, .d (.int .i64 (p.1 : Nat))), (25, .d (.int .i64 ((unL (A.take p.1)).length : Nat))), (26, .d (.int .i64 ((unL (A.take p.1)).length + p.2 : Nat)))]) (fun _ => [(5, .box [.d (.int .i64 s), .d (rows nx), .d (ints lp)])]) (fun p => (unL A).length - ((unL (A.take p.1)).length + p.2)) (0, 0) ⟨by omega, fun a _ => by omega, fun _ => rfl⟩ ?_ rfl ?_
            . exact zs
            . rintro ⟨k, j⟩ ⟨hk, hj, hz⟩
              simp only at hk hj hz ⊢
              by_cases hkl : k < A.length
              . have hj := hj A[k] (List.getElem?_eq_getElem hkl)
                have hu1 := hun1 k hkl
                have hnn := hA10 A[k] (List.getElem_mem hkl)
                have hk1 := congrArg List.length (un_take1 hkl)
                simp only [List.length_append, List.length_cons, List.length_nil] at hk1
                have hoN : okN (A.take (k + 1)) = okN (A.take k) + (if A[k] = okT then 1 else 0) := by
                  rw [List.take_succ_eq_append_getElem hkl, okN_append]
                  simp [okN]
                have hoL := okN_le (A.take k)
                rw [List.length_take] at hoL
                by_cases hjl : j < A[k].length
                . have hy : (unL A)[((((unL (A.take k)).length + j : Nat)) : Int).toNat]? = some A[k][j] := un_in hkl hjl
                  have hc : decide (((A[k][j].toNat : Nat) : Int) = 10) = false := decide_eq_false fun e => hnn _ (List.getElem_mem hjl) (UInt8.toNat_inj.1 (show A[k][j].toNat = 10 by omega))
                  generalize A[k][j] = c at *
                  generalize hpre : (unL (A.take k)).length = pre at *
                  generalize unL A = O at *
                  generalize hg : okN (A.take k) = g at *
                  repeat (first | refine zc ?_ | ((first | apply x_l | apply x_q | apply x_lr | apply x_qr); (focus (first | (apply qa_strIndex; (iterate 6 (focus (first | exact rfl | (first | assumption | omega | (simp; omega) | (simp; done) | rfl))))))); exact rfl) | (apply v_x; (iterate 2 exact rfl); (focus (intro ok0 nw hle; (first | (apply qa_strIndex; (iterate 6 (focus (first | exact rfl | (first | assumption | omega | (simp; omega) | (simp; done) | rfl)))))))); (iterate 2 exact rfl)) | refine zv ?_ | refine zg ?_)
                  refine loop_n ((k, j + 1) : Nat × Nat) ⟨hk, fun a ha => ?_, fun e => ?_⟩ ?_ rfl ?_
                  . rw [List.getElem?_eq_getElem hkl] at ha; cases ha; exact hjl
                  . simp only at e; omega
                  . dsimp only
                    rw [hg, hpre]
                    exact zs
                  . dsimp only
                    rw [hpre]
                    omega
                . have hje : j = A[k].length := by omega
                  subst hje
                  have hy := hcu k hkl
                  have hcut := un_cut hkl
                  have hcut2 : ((unL A).drop ((((unL (A.take k)).length : Nat)) : Int).toNat).take (((((unL (A.take k)).length + A[k].length : Nat)) : Int).toNat - ((((unL (A.take k)).length : Nat)) : Int).toNat) = A[k] := by
                    rw [Int.toNat_natCast, Int.toNat_natCast, Nat.add_sub_cancel_left]
                    exact hcut
                  have hnx : ∀ a, A[k + 1]? = some a -> 0 <= a.length := fun a _ => by omega
                  by_cases hak : A[k] = okT
                  . have hd : decide (((unL A).drop ((((unL (A.take k)).length : Nat)) : Int).toNat).take (((((unL (A.take k)).length + A[k].length : Nat)) : Int).toNat - ((((unL (A.take k)).length : Nat)) : Int).toNat) = [111, 107]) = true := decide_eq_true (hcut2.trans hak)
                    rw [if_pos hak] at hoN
                    clear hcut2
                    generalize hpre : (unL (A.take k)).length = pre at *
                    generalize hg : okN (A.take k) = g at *
                    generalize A[k].length = al at *
                    generalize unL A = O at *
                    repeat (first | refine zc ?_ | ((first | apply x_l | apply x_q | apply x_lr | apply x_qr); (focus (first | (apply qa_strIndex; (iterate 6 (focus (first | exact rfl | (first | assumption | omega | (simp; omega) | (simp; done) | rfl))))) | (apply qa_strSlice_lh; (iterate 8 (focus (first | exact rfl | (first | assumption | omega | (simp; omega) | (simp; done) | rfl))))))); exact rfl) | (apply v_x; (iterate 2 exact rfl); (focus (intro ok0 nw hle; (first | (apply qa_strIndex; (iterate 6 (focus (first | exact rfl | (first | assumption | omega | (simp; omega) | (simp; done) | rfl))))) | (apply qa_strSlice_lh; (iterate 8 (focus (first | exact rfl | (first | assumption | omega | (simp; omega) | (simp; done) | rfl)))))))); (iterate 2 exact rfl)) | refine zv ?_ | refine zg ?_)
                    refine loop_n ((k + 1, 0) : Nat × Nat) ⟨hkl, hnx, fun _ => rfl⟩ ?_ rfl ?_
                    . dsimp only
                      rw [hoN, hk1]
                      exact zs
                    . dsimp only
                      rw [hk1]
                      omega
                  . have hd : decide (((unL A).drop ((((unL (A.take k)).length : Nat)) : Int).toNat).take (((((unL (A.take k)).length + A[k].length : Nat)) : Int).toNat - ((((unL (A.take k)).length : Nat)) : Int).toNat) = [111, 107]) = false := decide_eq_false fun e => hak (hcut2.symm.trans e)
                    rw [if_neg hak, Nat.add_zero] at hoN
                    clear hcut2
                    generalize hpre : (unL (A.take k)).length = pre at *
                    generalize hg : okN (A.take k) = g at *
                    generalize A[k].length = al at *
                    generalize unL A = O at *
                    repeat (first | refine zc ?_ | ((first | apply x_l | apply x_q | apply x_lr | apply x_qr); (focus (first | (apply qa_strIndex; (iterate 6 (focus (first | exact rfl | (first | assumption | omega | (simp; omega) | (simp; done) | rfl))))) | (apply qa_strSlice_lh; (iterate 8 (focus (first | exact rfl | (first | assumption | omega | (simp; omega) | (simp; done) | rfl))))))); exact rfl) | (apply v_x; (iterate 2 exact rfl); (focus (intro ok0 nw hle; (first | (apply qa_strIndex; (iterate 6 (focus (first | exact rfl | (first | assumption | omega | (simp; omega) | (simp; done) | rfl))))) | (apply qa_strSlice_lh; (iterate 8 (focus (first | exact rfl | (first | assumption | omega | (simp; omega) | (simp; done) | rfl)))))))); (iterate 2 exact rfl)) | refine zv ?_ | refine zg ?_)
                    refine loop_n ((k + 1, 0) : Nat × Nat) ⟨hkl, hnx, fun _ => rfl⟩ ?_ rfl ?_
                    . dsimp only
                      rw [hoN, hk1]
                      exact zs
                    . dsimp only
                      rw [hk1]
                      omega
              . have hke : k = A.length := by omega
                subst hke
                have hj0 := hz rfl
                subst hj0
                rw [List.take_length, hokA, hAlen]
                generalize unL A = O at *
                repeat (first | refine zc ?_ | refine zv ?_ | refine zg ?_)
                refine zt ?_
                simp
end Go.Proofs.YtffmlijngfhhaaaGreatDoor
