/- The plan that leads home: plain facts. No condition. -/
import Derived.Test.YtampglcgipefnaaGreatOx
import Derived.Test.YtampglcgipefnaaGreatDh
namespace Go.Proofs.YtampglcgipefnaaGreat
open Go
attribute [local irreducible] awp awpL awpQL awpQ awpM pWalk Qt AC thenQ blockQ loopQ OpTo
set_option linter.unusedVariables false
set_option linter.unusedSimpArgs false
set_option maxHeartbeats 2000000
attribute [local irreducible] HC

/-- These deeds can all be done, and lead there. -/
def Went (s : Int) (nx : List (List Int)) (lp : List Int) (n : Ln) (q : List (Int × Int)) (m : Ln) : Prop := runF s nx lp n q = m ∧ ∀ c ∈ codesF s nx lp n q, c = 0
section
variable {s : Int} {nx : List (List Int)} {lp : List Int}
theorem Went.one {n m : Ln} {c a : Int} (h : doF s nx lp n c a = (m, 0)) : Went s nx lp n [(c, a)] m := ⟨by show (doF s nx lp n c a).1 = m; rw [h], fun x hx => by
  have hx : x ∈ [(doF s nx lp n c a).2] := hx
  rw [h] at hx; simpa using hx⟩
theorem Went.nil {n : Ln} : Went s nx lp n [] n := ⟨rfl, fun x hx => by cases hx⟩
theorem Went.append {n m l : Ln} {p q : List (Int × Int)} (h : Went s nx lp n p m) (h2 : Went s nx lp m q l) : Went s nx lp n (p ++ q) l := by
  refine ⟨by rw [runF_append, h.1, h2.1], fun c hc => ?_⟩
  rw [codesF_append, h.1] at hc
  rcases List.mem_append.1 hc with hc | hc
  · exact h.2 c hc
  · exact h2.2 c hc

/-! ### One deed -/
theorem do_drop {n : Ln} {p : Pk} {w : List Pk} (hw : n.wire = p :: w) : doF s nx lp n 6 0 = ({ n with wire := w }, 0) := by
  unfold doF
  rw [if_neg (by decide), if_neg (by decide), if_neg (by decide), if_neg (by decide), if_neg (by decide), if_neg (by decide), if_neg (by rw [hw]; simp), if_pos rfl, if_neg (by decide), hw]
  rfl
/-- The report that the machine sends. -/
def rpF (lp : List Int) (n : Ln) : Pk := ⟨true, n.life, n.tk, lamp lp n.st⟩
theorem do_report {n : Ln} (hw : n.wire = []) : doF s nx lp n 3 0 = ({ n with wire := [rpF lp n] }, 0) := by
  unfold doF sendF
  rw [if_neg (by decide), if_neg (by decide), if_pos rfl, if_neg (by rw [hw]; decide), hw]
  rfl
theorem do_deliver {n : Ln} {p : Pk} (hw : n.wire = [p]) : doF s nx lp n 4 0 = ({ inF s nx lp n p with wire := [] }, 0) := by
  unfold doF
  rw [if_neg (by decide), if_neg (by decide), if_neg (by decide), if_neg (by decide), if_neg (by decide), if_neg (by decide), if_neg (by rw [hw]; simp), if_neg (by decide), if_neg (by decide), hw]
  rfl
theorem do_save {n : Ln} : doF s nx lp n 8 0 = ({ n with sv := n.d }, 0) := by
  unfold doF
  rw [if_neg (by decide), if_neg (by decide), if_neg (by decide), if_neg (by decide), if_pos rfl]
theorem do_post {n : Ln} {a : Int} (hw : n.wire = []) (h : a < n.sv.ord.length) : doF s nx lp n 2 a = ({ n with wire := [⟨false, n.sv.life, a, n.sv.ord.getD a.toNat 0⟩] }, 0) := by
  unfold doF sendF
  rw [if_neg (by decide), if_pos rfl, if_neg (by omega), if_neg (by rw [hw]; decide), hw]
  rfl
theorem do_order {n : Ln} {a : Int} (h1 : a < nx.length) (h2 : ¬ n.d.ord.length = 60) : doF s nx lp n 1 a = ({ n with d := ⟨n.d.life, n.d.ord ++ [a], n.d.sure, n.d.bel⟩ }, 0) := by
  unfold doF
  rw [if_pos rfl, if_neg (by omega), if_neg h2]
theorem do_full {n : Ln} {a : Int} (h1 : a < nx.length) (h2 : n.d.ord.length = 60) : doF s nx lp n 1 a = (n, 3) := by
  unfold doF
  rw [if_pos rfl, if_neg (by omega), if_pos h2]

/-! ### The parts of the plan -/
theorem went_drops : ∀ (i : Nat) (n : Ln), i ≤ n.wire.length → Went s nx lp n (List.replicate i (6, 0)) { n with wire := n.wire.drop i }
  | 0, n, _ => Went.nil
  | i + 1, n, h => by
    have hlt : i < n.wire.length := by omega
    have e := List.drop_eq_getElem_cons hlt
    have := (went_drops i n (by omega)).append (Went.one (do_drop (s := s) (nx := nx) (lp := lp) (n := { n with wire := n.wire.drop i }) e))
    rw [List.replicate_succ']
    exact this
/-- What is done to hear of the machine. -/
def hearL : List (Int × Int) := [(3, 0), (4, 0), (8, 0)]
def hearF (s : Int) (nx : List (List Int)) (lp : List Int) (n : Ln) : Ln := ⟨n.st, n.life, n.tk, readF s nx lp n.d (rpF lp n), readF s nx lp n.d (rpF lp n), []⟩
def hear1 (lp : List Int) (n : Ln) : Ln := { n with wire := [rpF lp n] }
def hear2 (s : Int) (nx : List (List Int)) (lp : List Int) (n : Ln) : Ln := { n with d := readF s nx lp n.d (rpF lp n), wire := [] }
theorem hear_do1 {n : Ln} (hw : n.wire = []) : doF s nx lp n 3 0 = (hear1 lp n, 0) := do_report hw
theorem hear_do2 {n : Ln} : doF s nx lp (hear1 lp n) 4 0 = (hear2 s nx lp n, 0) := by
  rw [do_deliver (p := rpF lp n) rfl]
  rfl
theorem hear_do3 {n : Ln} : doF s nx lp (hear2 s nx lp n) 8 0 = (hearF s nx lp n, 0) := by
  rw [do_save]
  rfl
theorem went_hear {n : Ln} (hw : n.wire = []) : Went s nx lp n hearL (hearF s nx lp n) := ((Went.one (hear_do1 hw)).append (Went.one hear_do2)).append (Went.one hear_do3)
/-- What the desk is then. -/
theorem hear_read {n : Ln} {hs : List Int} (h : LnInv s nx lp n hs) : ∃ ord bel, readF s nx lp n.d (rpF lp n) = ⟨n.life, ord, n.tk, bel⟩ ∧ 0 ≤ n.tk ∧ n.tk ≤ ord.length := by
  have htk := h.tk
  have hdl := h.dl
  have hsl := h.sl
  by_cases hc : n.d.life < n.life
  · have h0 := h.tk0 (by omega)
    refine ⟨[], (imgL nx (mk1 0 s.toNat) (seg [] 0 n.tk)).filter fun q => decide (lamp lp q = lamp lp n.st), ?_, htk, by simp; omega⟩
    have ho : openF s n.d (rpF lp n) = ⟨n.life, [], 0, mk1 0 s.toNat⟩ := if_pos hc
    unfold readF
    rw [ho]
    exact if_pos ⟨rfl, htk, by show n.tk ≤ (([] : List Int).length : Nat); simp; omega⟩
  · have he : n.d.life = n.life := by omega
    have h1 := h.ds he
    have h2 := h.tkD he
    refine ⟨n.d.ord, (imgL nx n.d.bel (seg n.d.ord n.d.sure n.tk)).filter fun q => decide (lamp lp q = lamp lp n.st), ?_, htk, h2⟩
    have ho : openF s n.d (rpF lp n) = n.d := if_neg hc
    unfold readF
    rw [ho]
    refine (if_pos ⟨he.symm, h1.2.1, h2⟩).trans ?_
    rw [he]
    rfl

/-- A line that is known but for the last orders. -/
def lnP (st lf : Int) (ord : List Int) (tk su : Int) (bel : List Int) : Ln := ⟨st, lf, tk, ⟨lf, ord, su, bel⟩, ⟨lf, ord, su, bel⟩, []⟩
def lnP1 (st lf : Int) (ord : List Int) (tk su : Int) (bel : List Int) : Ln := { lnP st lf ord tk su bel with wire := [⟨false, lf, tk, ord.getD tk.toNat 0⟩] }
theorem post_do1 {st lf : Int} {ord : List Int} {tk su : Int} {bel : List Int} (h : tk < ord.length) : doF s nx lp (lnP st lf ord tk su bel) 2 tk = (lnP1 st lf ord tk su bel, 0) := do_post rfl h
theorem post_do2 {st lf : Int} {ord : List Int} {tk su : Int} {bel : List Int} : doF s nx lp (lnP1 st lf ord tk su bel) 4 0 = (lnP (at2 nx (ord.getD tk.toNat 0) st) lf ord (tk + 1) su bel, 0) := by
  rw [do_deliver (p := ⟨false, lf, tk, ord.getD tk.toNat 0⟩) rfl]
  unfold inF lnP1 lnP
  rw [if_neg (by simp), if_pos ⟨rfl, rfl⟩]
def pstL (tk : Int) (j : Nat) : List (Int × Int) := (List.range j).flatMap fun i : Nat => [(2, tk + i), (4, 0)]
theorem pstL_succ {tk : Int} {j : Nat} : pstL tk (j + 1) = pstL tk j ++ [(2, tk + j), (4, 0)] := by simp [pstL, List.range_succ, List.flatMap_append]
theorem pstL_len {tk : Int} : ∀ j, (pstL tk j).length = 2 * j
  | 0 => rfl
  | j + 1 => by rw [pstL_succ, List.length_append, pstL_len j]; simp; omega
def stP (nx : List (List Int)) (st : Int) (ord : List Int) (tk : Int) : Nat → Int
  | 0 => st
  | j + 1 => at2 nx (ord.getD (tk + j).toNat 0) (stP nx st ord tk j)
theorem stP_range {st : Int} {ord : List Int} {tk : Int} (hx : Tbl s s nx) (hst : 0 ≤ st ∧ st < s) (ho : ∀ x ∈ ord, 0 ≤ x ∧ x < nx.length) (h0 : 0 ≤ tk) : ∀ j : Nat, tk + j ≤ ord.length → 0 ≤ stP nx st ord tk j ∧ stP nx st ord tk j < s
  | 0, _ => hst
  | j + 1, h => by
    have ih := stP_range hx hst ho h0 j (by omega)
    refine tbl_at hx (ho _ ?_) ih
    have : (tk + j).toNat < ord.length := by omega
    rw [List.getD_eq_getElem?_getD, List.getElem?_eq_getElem this]
    exact List.getElem_mem this
theorem went_posts {st lf : Int} {ord : List Int} {tk su : Int} {bel : List Int} (h0 : 0 ≤ tk) : ∀ j : Nat, tk + j ≤ ord.length → Went s nx lp (lnP st lf ord tk su bel) (pstL tk j) (lnP (stP nx st ord tk j) lf ord (tk + j) su bel)
  | 0, _ => by
    show Went s nx lp _ [] (lnP st lf ord (tk + (0 : Nat)) su bel)
    rw [show tk + ((0 : Nat) : Int) = tk by omega]
    exact Went.nil
  | j + 1, h => by
    have := ((went_posts (st := st) (lf := lf) (su := su) (bel := bel) h0 j (by omega)).append (Went.one (post_do1 (s := s) (nx := nx) (lp := lp) (st := stP nx st ord tk j) (lf := lf) (ord := ord) (tk := tk + j) (su := su) (bel := bel) (by omega)))).append (Went.one (post_do2 (s := s) (nx := nx) (lp := lp)))
    rw [pstL_succ]
    rw [show tk + ((j + 1 : Nat) : Int) = tk + j + 1 by omega]
    rw [List.append_assoc] at this
    exact this

/-- A line that is known. -/
def lnH (q lf : Int) (ord : List Int) (bel : List Int) : Ln := ⟨q, lf, ord.length, ⟨lf, ord, ord.length, bel⟩, ⟨lf, ord, ord.length, bel⟩, []⟩
/-- The states that are believed behind the second report. -/
def belH (nx : List (List Int)) (lp ord bel : List Int) (su q : Int) : List Int := (imgL nx bel (seg ord su ord.length)).filter fun r => decide (lamp lp r = lamp lp q)
theorem hear_P {q lf : Int} {ord : List Int} {su : Int} {bel : List Int} (h : su ≤ ord.length) : hearF s nx lp (lnP q lf ord ord.length su bel) = lnH q lf ord (belH nx lp ord bel su q) := by
  have : readF s nx lp ⟨lf, ord, su, bel⟩ (rpF lp (lnP q lf ord ord.length su bel)) = ⟨lf, ord, ord.length, belH nx lp ord bel su q⟩ := by
    have ho : openF s ⟨lf, ord, su, bel⟩ (rpF lp (lnP q lf ord ord.length su bel)) = ⟨lf, ord, su, bel⟩ := if_neg (by simp [rpF, lnP])
    unfold readF
    rw [ho]
    rw [if_pos ⟨rfl, h, Int.le_refl _⟩]
    rfl
  unfold hearF
  rw [show (lnP q lf ord ord.length su bel).d = ⟨lf, ord, su, bel⟩ from rfl, this]
  rfl
/-- A round. -/
def rndL (x : Int) (k : Int) : List (Int × Int) := [(1, x), (8, 0), (2, k), (4, 0)] ++ hearL
def rnd1 (q lf : Int) (ord : List Int) (bel : List Int) (x : Int) : Ln := { lnH q lf ord bel with d := ⟨lf, ord ++ [x], ord.length, bel⟩ }
theorem rnd_do1 {q lf : Int} {ord : List Int} {bel : List Int} {x : Int} (h1 : x < nx.length) (h2 : ¬ ord.length = 60) : doF s nx lp (lnH q lf ord bel) 1 x = (rnd1 q lf ord bel x, 0) := do_order h1 h2
theorem rnd_do2 {q lf : Int} {ord : List Int} {bel : List Int} {x : Int} : doF s nx lp (rnd1 q lf ord bel x) 8 0 = (lnP q lf (ord ++ [x]) ord.length ord.length bel, 0) := do_save
theorem belH_one {lp ord bel : List Int} {x q : Int} : belH nx lp (ord ++ [x]) bel ord.length q = (imgL nx bel [x]).filter fun r => decide (lamp lp r = lamp lp q) := by
  unfold belH
  have : seg (ord ++ [x]) ord.length (ord ++ [x]).length = [x] := by simp [seg]
  rw [this]
theorem ord_get {ord : List Int} {x : Int} : (ord ++ [x]).getD ((ord.length : Nat) : Int).toNat 0 = x := by simp [List.getD_eq_getElem?_getD]
theorem rnd_do4 {q lf : Int} {ord : List Int} {bel : List Int} {x : Int} : doF s nx lp (lnP1 q lf (ord ++ [x]) ord.length ord.length bel) 4 0 = (lnP (at2 nx x q) lf (ord ++ [x]) (ord ++ [x]).length ord.length bel, 0) := by
  rw [post_do2, ord_get]
  simp
theorem rnd_hear {q lf : Int} {ord : List Int} {bel : List Int} {x : Int} : hearF s nx lp (lnP q lf (ord ++ [x]) (ord ++ [x]).length ord.length bel) = lnH q lf (ord ++ [x]) ((imgL nx bel [x]).filter fun r => decide (lamp lp r = lamp lp q)) := by
  rw [hear_P (by simp; omega), belH_one]
theorem went_round {q lf : Int} {ord : List Int} {bel : List Int} {x : Int} (h1 : x < nx.length) (h2 : ¬ ord.length = 60) :
    Went s nx lp (lnH q lf ord bel) (rndL x ord.length) (lnH (at2 nx x q) lf (ord ++ [x]) ((imgL nx bel [x]).filter fun r => decide (lamp lp r = lamp lp (at2 nx x q)))) := by
  have a1 := Went.one (rnd_do1 (s := s) (lp := lp) (q := q) (lf := lf) (ord := ord) (bel := bel) h1 h2)
  have a2 := Went.one (rnd_do2 (s := s) (nx := nx) (lp := lp) (q := q) (lf := lf) (ord := ord) (bel := bel) (x := x))
  have a3 := Went.one (post_do1 (s := s) (nx := nx) (lp := lp) (st := q) (lf := lf) (ord := ord ++ [x]) (tk := ord.length) (su := ord.length) (bel := bel) (by simp; omega))
  have a4 := Went.one (rnd_do4 (s := s) (nx := nx) (lp := lp) (q := q) (lf := lf) (ord := ord) (bel := bel) (x := x))
  have a5 := went_hear (s := s) (nx := nx) (lp := lp) (n := lnP (at2 nx x q) lf (ord ++ [x]) (ord ++ [x]).length ord.length bel) rfl
  rw [rnd_hear] at a5
  exact (((a1.append a2).append a3).append a4).append a5
/-- The rounds: the deeds, did an order fail, and what is believed, the state, the orders then. -/
noncomputable def rnds (s : Int) (nx : List (List Int)) (lp : List Int) : Nat → Nat → Int → List Int → List (Int × Int) → List (Int × Int) × Bool × Nat × Int × List Int
  | 0, f, q, ord, out => (out, false, f, q, ord)
  | k + 1, f, q, ord, out => if dep s nx lp f = 0 then (out, false, f, q, ord) else if ord.length = 60 then (out, true, f, q, ord)
    else rnds s nx lp k (bel nx lp f (ltr s nx lp f).toNat (lamp lp (at2 nx (ltr s nx lp f) q)).toNat) (at2 nx (ltr s nx lp f) q) (ord ++ [ltr s nx lp f]) (out ++ rndL (ltr s nx lp f) ord.length)
theorem rnds_end {k f : Nat} {q : Int} {ord : List Int} {out : List (Int × Int)} (h : dep s nx lp f = 0) : rnds s nx lp k f q ord out = (out, false, f, q, ord) := by
  cases k with
  | zero => rfl
  | succ k => exact if_pos h
theorem rnds_full {k f : Nat} {q : Int} {ord : List Int} {out : List (Int × Int)} (h : ¬ dep s nx lp f = 0) (hk : 0 < k) (ho : ord.length = 60) : rnds s nx lp k f q ord out = (out, true, f, q, ord) := by
  cases k with
  | zero => omega
  | succ k =>
    unfold rnds
    rw [if_neg h, if_pos ho]
theorem rnds_step {k f x y : Nat} {q q' : Int} {ord : List Int} {out : List (Int × Int)} (h : Stp s nx lp f q x y q') (h0 : 0 < dep s nx lp f) (hk : dep s nx lp f ≤ k) (ho : ¬ ord.length = 60) : rnds s nx lp k f q ord out = rnds s nx lp (k - 1) (bel nx lp f x y) q' (ord ++ [(x : Int)]) (out ++ rndL x ord.length) := by
  cases k with
  | zero => omega
  | succ k =>
    rw [rnds, if_neg (by omega), if_neg ho, h.l1]
    have hy : (lamp lp (at2 nx x q)).toNat = y := by rw [h.a1, h.y2]; omega
    rw [show ((x : Nat) : Int).toNat = x by omega, hy, h.a1]
    rfl
/-- The rounds lead there. -/
theorem rnds_went (hv : litOk s nx lp = true) {lf : Int} {n : Ln} : ∀ (k f : Nat) (q : Int) (ord : List Int) (out : List (Int × Int)), dep s nx lp f ≤ k → 0 ≤ dep s nx lp f → f < 2 ^ s.toNat → (0 ≤ q ∧ q < s) → Went s nx lp n out (lnH q lf ord (setN f)) →
    (rnds s nx lp k f q ord out).2.1 = false → Went s nx lp n (rnds s nx lp k f q ord out).1 (lnH (rnds s nx lp k f q ord out).2.2.2.1 lf (rnds s nx lp k f q ord out).2.2.2.2 (setN (rnds s nx lp k f q ord out).2.2.1)) ∧ dep s nx lp (rnds s nx lp k f q ord out).2.2.1 = 0 ∧ (rnds s nx lp k f q ord out).2.2.1 < 2 ^ s.toNat
  | k, f, q, ord, out, hk, h0, hf, hq, hw, hb => by
    by_cases hz : dep s nx lp f = 0
    · rw [rnds_end hz]
      exact ⟨hw, hz, hf⟩
    · by_cases ho : ord.length = 60
      · rw [rnds_full hz (by omega) ho] at hb
        cases hb
      · obtain ⟨x, y, q', st⟩ := stp hv hf hq (by omega)
        rw [rnds_step st (by omega) hk ho] at hb ⊢
        have hd := st.d1
        cases k with
        | zero => omega
        | succ k =>
          have h1 := went_round (s := s) (nx := nx) (lp := lp) (q := q) (lf := lf) (ord := ord) (bel := setN f) (x := x) (by have := st.x1; omega) ho
          rw [st.a1, st.y2, bel_list (lv_of hv) hf st.x1] at h1
          exact rnds_went hv k (bel nx lp f x y) q' (ord ++ [(x : Int)]) (out ++ rndL x ord.length) (by omega) hd.1 st.f1 st.q1 (hw.append h1) hb
end
end Go.Proofs.YtampglcgipefnaaGreat
