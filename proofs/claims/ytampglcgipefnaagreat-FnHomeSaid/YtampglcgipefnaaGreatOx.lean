/- Lines of machines: what holds of a line that began at its beginning. Plain facts, no condition. -/
import Derived.Test.YtampglcgipefnaaGreatOm
namespace Go.Proofs.YtampglcgipefnaaGreat
open Go
attribute [local irreducible] awp awpL awpQL awpQ awpM pWalk Qt AC thenQ blockQ loopQ OpTo
set_option linter.unusedVariables false
set_option linter.unusedSimpArgs false
set_option maxHeartbeats 2000000
attribute [local irreducible] HC

/-- hs: the states of this life of the machine, the last one is that in which it is. -/
structure LnInv (s : Int) (nx : List (List Int)) (lp : List Int) (n : Ln) (hs : List Int) : Prop where
  hl : (hs.length : Int) = n.tk + 1
  hr : ∀ q ∈ hs, 0 ≤ q ∧ q < s
  hst : hs.getD n.tk.toNat 0 = n.st
  wl : ∀ p ∈ n.wire, p.life ≤ n.life
  wr : ∀ p ∈ n.wire, p.rep = true → p.life = n.life → 0 ≤ p.num ∧ p.num ≤ n.tk ∧ lamp lp (hs.getD p.num.toNat 0) = p.val
  wo : ∀ p ∈ n.wire, p.rep = false → p.life = n.life → n.sv.life = n.life ∧ 0 ≤ p.num ∧ p.num < n.sv.ord.length ∧ p.val = n.sv.ord.getD p.num.toNat 0
  dl : n.d.life ≤ n.life
  sl : n.sv.life ≤ n.d.life
  pre : n.sv.life = n.d.life → n.sv.ord <+: n.d.ord
  ds : n.d.life = n.life → 0 ≤ n.d.sure ∧ n.d.sure ≤ n.tk ∧ hs.getD n.d.sure.toNat 0 ∈ n.d.bel
  ss : n.sv.life = n.life → 0 ≤ n.sv.sure ∧ n.sv.sure ≤ n.tk ∧ hs.getD n.sv.sure.toNat 0 ∈ n.sv.bel
  tk1 : n.sv.life = n.life → n.tk ≤ n.sv.ord.length
  tk0 : n.sv.life < n.life → n.tk = 0
  step : ∀ j : Nat, (j : Int) < n.tk → hs.getD (j + 1) 0 = at2 nx (n.sv.ord.getD j 0) (hs.getD j 0)

theorem getD_pre {a b : List Int} (h : a <+: b) {j : Nat} (hj : j < a.length) : b.getD j 0 = a.getD j 0 := by
  obtain ⟨c, rfl⟩ := h
  rw [List.getD_eq_getElem?_getD, List.getD_eq_getElem?_getD, List.getElem?_append_left hj]

theorem lnInv0 {s st : Int} {nx : List (List Int)} {lp : List Int} (h : 0 ≤ st ∧ st < s) : LnInv s nx lp (ln0 s st) [st] where
  hl := by simp [ln0]
  hr := fun q hq => by simp at hq; subst hq; exact h
  hst := by simp [ln0]
  wl := fun p hp => by simp [ln0] at hp
  wr := fun p hp => by simp [ln0] at hp
  wo := fun p hp => by simp [ln0] at hp
  dl := by simp [ln0, dsk0]
  sl := by simp [ln0]
  pre := fun _ => by simp [ln0]
  ds := fun _ => ⟨by simp [ln0, dsk0], by simp [ln0, dsk0], by simp only [ln0, dsk0]; exact (mem_mk1 _ _ _).2 (by simp; omega)⟩
  ss := fun _ => ⟨by simp [ln0, dsk0], by simp [ln0, dsk0], by simp only [ln0, dsk0]; exact (mem_mk1 _ _ _).2 (by simp; omega)⟩
  tk1 := fun _ => by simp [ln0]
  tk0 := fun _ => by simp [ln0]
  step := fun j hj => by simp [ln0] at hj; omega

/-- A packet is sent. -/
theorem LnInv.send {s : Int} {nx : List (List Int)} {lp : List Int} {n : Ln} {hs : List Int} (h : LnInv s nx lp n hs) {p : Pk} (h1 : p.life ≤ n.life) (h2 : p.rep = true → p.life = n.life → 0 ≤ p.num ∧ p.num ≤ n.tk ∧ lamp lp (hs.getD p.num.toNat 0) = p.val)
    (h3 : p.rep = false → p.life = n.life → n.sv.life = n.life ∧ 0 ≤ p.num ∧ p.num < n.sv.ord.length ∧ p.val = n.sv.ord.getD p.num.toNat 0) : LnInv s nx lp (sendF n p).1 hs := by
  unfold sendF
  split
  · exact h
  · have key : ∀ {P : Pk → Prop}, (∀ q ∈ n.wire, P q) → P p → ∀ q ∈ n.wire ++ [p], P q := fun {P} ha hb q hq => by
      rcases List.mem_append.1 hq with hq | hq
      · exact ha q hq
      · simp at hq
        subst hq
        exact hb
    exact ⟨h.hl, h.hr, h.hst, key h.wl h1, key h.wr h2, key h.wo h3, h.dl, h.sl, h.pre, h.ds, h.ss, h.tk1, h.tk0, h.step⟩
/-- The wire is cut. -/
theorem LnInv.cut {s : Int} {nx : List (List Int)} {lp : List Int} {n : Ln} {hs : List Int} (h : LnInv s nx lp n hs) {w : List Pk} (hw : ∀ p ∈ w, p ∈ n.wire) : LnInv s nx lp { n with wire := w } hs :=
  ⟨h.hl, h.hr, h.hst, fun p hp => h.wl p (hw p hp), fun p hp => h.wr p (hw p hp), fun p hp => h.wo p (hw p hp), h.dl, h.sl, h.pre, h.ds, h.ss, h.tk1, h.tk0, h.step⟩

theorem LnInv.tk {s : Int} {nx : List (List Int)} {lp : List Int} {n : Ln} {hs : List Int} (h : LnInv s nx lp n hs) : 0 ≤ n.tk := by
  have h1 := h.hl
  have h2 := h.hst
  by_cases e : hs = []
  · subst e
    simp at h1
    have h3 := h.tk1
    have h4 := h.tk0
    have h5 := h.sl
    have h6 := h.dl
    by_cases e : n.sv.life = n.life
    · have := (h.ss e).1
      have := (h.ss e).2.1
      omega
    · have := h4 (by omega)
      omega
  · have := List.length_pos_iff.2 e
    omega
theorem LnInv.mem {s : Int} {nx : List (List Int)} {lp : List Int} {n : Ln} {hs : List Int} (h : LnInv s nx lp n hs) {j : Int} (h1 : 0 ≤ j) (h2 : j ≤ n.tk) : 0 ≤ hs.getD j.toNat 0 ∧ hs.getD j.toNat 0 < s := by
  have := h.hl
  have hj : j.toNat < hs.length := by omega
  rw [List.getD_eq_getElem?_getD, List.getElem?_eq_getElem hj]
  exact h.hr _ (List.getElem_mem hj)

/-- A run along the states that have been. -/
theorem run_hist {nx : List (List Int)} {hs ord : List Int} : ∀ (m : Nat) {a b : Nat}, b - a = m → a ≤ b → b ≤ ord.length → (∀ j : Nat, a ≤ j → j < b → hs.getD (j + 1) 0 = at2 nx (ord.getD j 0) (hs.getD j 0)) → runS nx (hs.getD a 0) (seg ord a b) = hs.getD b 0
  | 0, a, b, hm, hab, _, _ => by
    have : a = b := by omega
    subst this
    simp [seg, runS]
  | m + 1, a, b, hm, hab, hb, hst => by
    have hlt : a < ord.length := by omega
    have e : seg ord a b = ord.getD a 0 :: seg ord (a + 1 : Nat) b := by
      unfold seg
      simp only [Int.toNat_natCast]
      rw [List.drop_eq_getElem_cons hlt, show b - a = (b - (a + 1)) + 1 by omega, List.take_succ_cons, List.getD_eq_getElem?_getD, List.getElem?_eq_getElem hlt]
      rfl
    rw [e]
    show runS nx (at2 nx (ord.getD a 0) (hs.getD a 0)) _ = _
    rw [← hst a (Nat.le_refl _) (by omega)]
    exact run_hist m (by omega) (by omega) hb fun j h1 h2 => hst j (by omega) h2

theorem LnInv.stepD {s : Int} {nx : List (List Int)} {lp : List Int} {n : Ln} {hs : List Int} (h : LnInv s nx lp n hs) (hd : n.d.life = n.life) : ∀ j : Nat, (j : Int) < n.tk → hs.getD (j + 1) 0 = at2 nx (n.d.ord.getD j 0) (hs.getD j 0) := fun j hj => by
  have h1 := h.tk0
  have h2 := h.sl
  have hsv : n.sv.life = n.life := by
    by_cases e : n.sv.life = n.life
    · exact e
    · have := h1 (by omega)
      omega
  have h3 := h.tk1 hsv
  rw [getD_pre (h.pre (by omega)) (j := j) (by omega)]
  exact h.step j hj
theorem LnInv.tkD {s : Int} {nx : List (List Int)} {lp : List Int} {n : Ln} {hs : List Int} (h : LnInv s nx lp n hs) (hd : n.d.life = n.life) : n.tk ≤ n.d.ord.length := by
  have h1 := h.tk0
  have h2 := h.sl
  by_cases e : n.sv.life = n.life
  · have h3 := h.tk1 e
    have := (h.pre (by omega)).length_le
    omega
  · have := h1 (by omega)
    omega

/-- A report is read. -/
theorem LnInv.read {s : Int} {nx : List (List Int)} {lp : List Int} {n : Ln} {hs : List Int} {p : Pk} (h : LnInv s nx lp n hs) (hp : p ∈ n.wire) (hr : p.rep = true) : LnInv s nx lp { n with d := readF s nx lp n.d p } hs := by
  have w1 := h.wl p hp
  have w2 := h.wr p hp hr
  have htk := h.tk
  have hsl := h.sl
  have hdl := h.dl
  -- the desk, opened
  have eL : (openF s n.d p).life ≤ n.life ∧ n.d.life ≤ (openF s n.d p).life ∧ (n.sv.life = (openF s n.d p).life → n.sv.ord <+: (openF s n.d p).ord) ∧
      ((openF s n.d p).life = n.life → 0 ≤ (openF s n.d p).sure ∧ (openF s n.d p).sure ≤ n.tk ∧ hs.getD (openF s n.d p).sure.toNat 0 ∈ (openF s n.d p).bel) ∧
      ((openF s n.d p).life = n.life → ∀ j : Nat, (j : Int) < n.tk → (j : Int) < (openF s n.d p).ord.length → hs.getD (j + 1) 0 = at2 nx ((openF s n.d p).ord.getD j 0) (hs.getD j 0)) := by
    unfold openF
    split
    · rename_i hlt
      refine ⟨w1, by dsimp only; omega, fun e => by dsimp only at e; omega, fun _ => ⟨Int.le_refl _, htk, ?_⟩, fun _ j _ hj => by simp at hj; omega⟩
      have := h.mem (j := 0) (by omega) htk
      exact (mem_mk1 _ _ _).2 (by dsimp only; omega)
    · exact ⟨hdl, Int.le_refl _, h.pre, h.ds, fun e j hj _ => h.stepD e j hj⟩
  obtain ⟨e1, e2, e3, e4, e5⟩ := eL
  unfold readF
  generalize openF s n.d p = e at *
  split
  · rename_i hc
    refine ⟨h.hl, h.hr, h.hst, h.wl, h.wr, h.wo, e1, by show n.sv.life ≤ e.life; omega, e3, fun hlf => ?_, h.ss, h.tk1, h.tk0, h.step⟩
    obtain ⟨a1, a2, a3⟩ := w2 (by have : e.life = n.life := hlf; omega)
    obtain ⟨b1, b2, b3⟩ := e4 hlf
    refine ⟨a1, a2, List.mem_filter.2 ⟨((imgL_spec nx e.bel _).2 _).2 ⟨_, b3, ?_⟩, by simpa using a3⟩⟩
    have := run_hist (nx := nx) (hs := hs) (ord := e.ord) _ (a := e.sure.toNat) (b := p.num.toNat) rfl (by omega) (by omega) fun j h1 h2 => e5 hlf j (by omega) (by omega)
    rw [show ((e.sure.toNat : Nat) : Int) = e.sure by omega, show ((p.num.toNat : Nat) : Int) = p.num by omega] at this
    exact this.symm
  · exact ⟨h.hl, h.hr, h.hst, h.wl, h.wr, h.wo, e1, by show n.sv.life ≤ e.life; omega, e3, e4, h.ss, h.tk1, h.tk0, h.step⟩

/-- An order is taken. -/
theorem LnInv.take {s : Int} {nx : List (List Int)} {lp : List Int} {n : Ln} {hs : List Int} {p : Pk} (h : LnInv s nx lp n hs) (hp : p ∈ n.wire) (hr : p.rep = false) (h1 : p.life = n.life) (h2 : p.num = n.tk) (h3 : 0 ≤ at2 nx p.val n.st ∧ at2 nx p.val n.st < s) :
    LnInv s nx lp { n with st := at2 nx p.val n.st, tk := n.tk + 1 } (hs ++ [at2 nx p.val n.st]) := by
  obtain ⟨w1, w2, w3, w4⟩ := h.wo p hp hr h1
  have htk := h.tk
  have hhl := h.hl
  have gl : ∀ j : Int, 0 ≤ j → j ≤ n.tk → (hs ++ [at2 nx p.val n.st]).getD j.toNat 0 = hs.getD j.toNat 0 := fun j a b => by
    rw [List.getD_eq_getElem?_getD, List.getD_eq_getElem?_getD, List.getElem?_append_left (by omega)]
  have ge : (hs ++ [at2 nx p.val n.st]).getD (n.tk + 1).toNat 0 = at2 nx p.val n.st := by
    rw [List.getD_eq_getElem?_getD, List.getElem?_append_right (by omega), show (n.tk + 1).toNat - hs.length = 0 by omega]
    rfl
  refine ⟨?_, ?_, ge, h.wl, fun q a b c => ?_, h.wo, h.dl, h.sl, h.pre, fun e => ?_, fun e => ?_, fun _ => by show n.tk + 1 ≤ (n.sv.ord.length : Int); omega, fun e => ?_, fun j hj => ?_⟩
  · show ((hs ++ [_]).length : Int) = n.tk + 1 + 1
    simp
    omega
  · intro q hq
    rcases List.mem_append.1 hq with hq | hq
    · exact h.hr q hq
    · simp at hq
      subst hq
      exact h3
  · obtain ⟨x1, x2, x3⟩ := h.wr q a b c
    refine ⟨x1, by show q.num ≤ n.tk + 1; omega, ?_⟩
    rw [gl _ x1 x2]
    exact x3
  · obtain ⟨x1, x2, x3⟩ := h.ds e
    refine ⟨x1, by show n.d.sure ≤ n.tk + 1; omega, ?_⟩
    rw [gl _ x1 x2]
    exact x3
  · obtain ⟨x1, x2, x3⟩ := h.ss e
    refine ⟨x1, by show n.sv.sure ≤ n.tk + 1; omega, ?_⟩
    rw [gl _ x1 x2]
    exact x3
  · have e : n.sv.life < n.life := e
    omega
  · have hj : (j : Int) < n.tk + 1 := hj
    have g1 := gl j (by omega) (by omega)
    rw [Int.toNat_natCast] at g1
    rw [g1]
    by_cases e : (j : Int) = n.tk
    · have : j + 1 = (n.tk + 1).toNat := by omega
      rw [this, ge, w4, h2]
      have hst := h.hst
      rw [show n.tk.toNat = j by omega] at hst ⊢
      rw [hst]
    · have g2 := gl (j + 1 : Nat) (by omega) (by omega)
      rw [Int.toNat_natCast] at g2
      rw [g2]
      exact h.step j (by omega)

theorem inF_inv {s : Int} {nx : List (List Int)} {lp : List Int} {k : Nat} {n : Ln} {hs : List Int} {p : Pk} (v : LV s nx lp) (hok : LnOk s nx k n) (h : LnInv s nx lp n hs) (hp : p ∈ n.wire) : ∃ hs', LnInv s nx lp (inF s nx lp n p) hs' := by
  unfold inF
  split
  · rename_i hr
    exact ⟨hs, h.read hp hr⟩
  · rename_i hr
    have hr : p.rep = false := by simpa using hr
    split
    · rename_i hc
      exact ⟨_, h.take hp hr hc.1 hc.2 (tbl_at v.nx ((hok.wire p hp).vo hr) hok.st)⟩
    · exact ⟨hs, h⟩

theorem doF_inv {s : Int} {nx : List (List Int)} {lp : List Int} {k : Nat} {n : Ln} {hs : List Int} {c a : Int} (hv : litOk s nx lp = true) (hok : LnOk s nx k n) (h : LnInv s nx lp n hs) (hd : ddOk (c, a)) : ∃ hs', LnInv s nx lp (doF s nx lp n c a).1 hs' := by
  have v := lv_of hv
  have ha : 0 ≤ a ∧ a ≤ 999 := ⟨hd.2.2.1, hd.2.2.2⟩
  have htk := h.tk
  have hsl := h.sl
  have hdl := h.dl
  unfold doF
  split
  · split
    · exact ⟨hs, h⟩
    · split
      · exact ⟨hs, h⟩
      · exact ⟨hs, h.hl, h.hr, h.hst, h.wl, h.wr, h.wo, h.dl, h.sl, fun e => (h.pre e).trans (List.prefix_append _ _), h.ds, h.ss, h.tk1, h.tk0, h.step⟩
  split
  · split
    · exact ⟨hs, h⟩
    · exact ⟨hs, h.send (by show n.sv.life ≤ n.life; omega) (fun e => by cases e) fun _ e => ⟨e, ha.1, by dsimp only; omega, rfl⟩⟩
  split
  · exact ⟨hs, h.send (Int.le_refl _) (fun _ _ => ⟨htk, Int.le_refl _, by dsimp only; rw [h.hst]⟩) fun e => by cases e⟩
  split
  · split
    · exact ⟨hs, h⟩
    · split
      · exact ⟨hs, h⟩
      · refine ⟨[a], by simp, fun q hq => ?_, by simp, fun p hp => ?_, fun p hp _ e => ?_, fun p hp _ e => ?_, ?_, h.sl, h.pre, fun e => ?_, fun e => ?_, fun e => ?_, fun _ => rfl, fun j hj => ?_⟩
        · simp at hq; subst hq; omega
        · have := h.wl p hp; show p.life ≤ n.life + 1; omega
        · have := h.wl p hp; have e : p.life = n.life + 1 := e; omega
        · have := h.wl p hp; have e : p.life = n.life + 1 := e; omega
        · show n.d.life ≤ n.life + 1; omega
        · have e : n.d.life = n.life + 1 := e; omega
        · have e : n.sv.life = n.life + 1 := e; omega
        · have e : n.sv.life = n.life + 1 := e; omega
        · have hj : (j : Int) < 0 := hj; omega
  split
  · refine ⟨hs, h.hl, h.hr, h.hst, h.wl, h.wr, fun p hp hr e => ?_, h.dl, Int.le_refl _, fun _ => List.prefix_rfl, h.ds, h.ds, fun e => h.tkD e, fun e => ?_, fun j hj => ?_⟩
    · obtain ⟨x1, x2, x3, x4⟩ := h.wo p hp hr e
      have hp := h.pre (by omega)
      have := hp.length_le
      refine ⟨by show n.d.life = n.life; omega, x2, by show p.num < n.d.ord.length; omega, ?_⟩
      rw [x4]
      exact (getD_pre hp (by omega)).symm
    · have e : n.d.life < n.life := e
      exact h.tk0 (by omega)
    · have hj : (j : Int) < n.tk := hj
      refine h.stepD ?_ j hj
      by_cases e : n.sv.life = n.life
      · omega
      · have := h.tk0 (by omega)
        omega
  split
  · exact ⟨hs, h.hl, h.hr, h.hst, h.wl, h.wr, h.wo, by show n.sv.life ≤ n.life; omega, Int.le_refl _, fun _ => List.prefix_rfl, h.ss, h.ss, h.tk1, h.tk0, h.step⟩
  split
  · exact ⟨hs, h⟩
  · rename_i hlt
    have hp : n.wire.getD a.toNat pk0 ∈ n.wire := by
      have : a.toNat < n.wire.length := by omega
      rw [List.getD_eq_getElem?_getD, List.getElem?_eq_getElem this]
      exact List.getElem_mem this
    obtain ⟨hs', h'⟩ := inF_inv v hok h hp
    have hw : ∀ q ∈ (if c = 5 then n.wire else n.wire.eraseIdx a.toNat), q ∈ n.wire := fun q hq => by
      split at hq
      · exact hq
      · exact List.mem_of_mem_eraseIdx hq
    by_cases h6 : c = 6
    · rw [if_pos h6]
      exact ⟨hs, h.cut hw⟩
    · rw [if_neg h6]
      exact ⟨hs', h'.cut fun q hq => by rw [inF_wire]; exact hw q hq⟩

theorem runF_inv {s : Int} {nx : List (List Int)} {lp : List Int} (hv : litOk s nx lp = true) : ∀ (ds : List (Int × Int)) {k : Nat} {n : Ln} {hs : List Int}, LnOk s nx k n → LnInv s nx lp n hs → (∀ p ∈ ds, ddOk p) → ∃ hs', LnInv s nx lp (runF s nx lp n ds) hs'
  | [], _, _, hs, _, h, _ => ⟨hs, h⟩
  | p :: ds, k, n, hs, hok, h, hd => by
    obtain ⟨hs', h'⟩ := doF_inv hv hok h (hd p (List.mem_cons_self ..))
    exact runF_inv hv ds (doF_ok hv hok (hd p (List.mem_cons_self ..))) h' fun q hq => hd q (List.mem_cons_of_mem _ hq)

end Go.Proofs.YtampglcgipefnaaGreat
