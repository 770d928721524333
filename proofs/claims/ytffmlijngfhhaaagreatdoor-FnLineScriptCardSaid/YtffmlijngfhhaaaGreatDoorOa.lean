/- Lines of machines: what a deed does, and what stays so: plain facts. No condition. -/
import Derived.Test.YtffmlijngfhhaaaGreatDoorSb
import Derived.Test.YtffmlijngfhhaaaGreatDoorMa
namespace Go.Proofs.YtffmlijngfhhaaaGreatDoor
open Go
attribute [local irreducible] awp awpL awpQL awpQ awpM pWalk Qt AC thenQ blockQ loopQ OpTo
set_option linter.unusedVariables false
set_option linter.unusedSimpArgs false
set_option maxHeartbeats 2000000
attribute [local irreducible] HC
structure Dsk where
  life : Int
  ord : List Int
  sure : Int
  bel : List Int
structure Pk where
  rep : Bool
  life : Int
  num : Int
  val : Int
structure Ln where
  st : Int
  life : Int
  tk : Int
  d : Dsk
  sv : Dsk
  wire : List Pk
def pkD (p : Pk) : D := .agg [.bool p.rep, .int .i64 p.life, .int .i64 p.num, .int .i64 p.val]
def dskL (d : Dsk) : List D := [.int .i64 d.life, ints d.ord, .int .i64 d.sure, ints d.bel]
def dskD (d : Dsk) : D := .agg (dskL d)
def deedD (p : Int × Int) : D := .agg [.int .i64 p.1, .int .i64 p.2]
def deedsD (ds : List (Int × Int)) : D := .lst (ds.map deedD)
def seg (l : List Int) (a b : Int) : List Int := (l.drop a.toNat).take (b.toNat - a.toNat)
def openF (s : Int) (d : Dsk) (p : Pk) : Dsk := if d.life < p.life then ⟨p.life, [], 0, mk1 0 s.toNat⟩ else d
def readF (s : Int) (nx : List (List Int)) (lp : List Int) (d : Dsk) (p : Pk) : Dsk :=
  if p.life = (openF s d p).life /\ (openF s d p).sure <= p.num /\ p.num <= (openF s d p).ord.length then
    ⟨(openF s d p).life, (openF s d p).ord, p.num, (imgL nx (openF s d p).bel (seg (openF s d p).ord (openF s d p).sure p.num)).filter fun q => decide (lamp lp q = p.val)⟩
  else openF s d p
def inF (s : Int) (nx : List (List Int)) (lp : List Int) (n : Ln) (p : Pk) : Ln :=
  if p.rep then { n with d := readF s nx lp n.d p }
  else if p.life = n.life /\ p.num = n.tk then { n with st := at2 nx p.val n.st, tk := n.tk + 1 } else n
def sendF (n : Ln) (p : Pk) : Ln × Int := if n.wire.length = 10 then (n, 3) else ({ n with wire := n.wire ++ [p] }, 0)
def pk0 : Pk := ⟨false, 0, 0, 0⟩
def doF (s : Int) (nx : List (List Int)) (lp : List Int) (n : Ln) (k a : Int) : Ln × Int :=
  if k = 1 then
    if (nx.length : Int) <= a then (n, 2) else if n.d.ord.length = 60 then (n, 3) else ({ n with d := ⟨n.d.life, n.d.ord ++ [a], n.d.sure, n.d.bel⟩ }, 0)
  else if k = 2 then
    if (n.sv.ord.length : Int) <= a then (n, 2) else sendF n ⟨false, n.sv.life, a, n.sv.ord.getD a.toNat 0⟩
  else if k = 3 then sendF n ⟨true, n.life, n.tk, lamp lp n.st⟩
  else if k = 7 then
    if s <= a then (n, 2) else if n.life = 6 then (n, 3) else ({ n with st := a, life := n.life + 1, tk := 0 }, 0)
  else if k = 8 then ({ n with sv := n.d }, 0)
  else if k = 9 then ({ n with d := n.sv }, 0)
  else if (n.wire.length : Int) <= a then (n, 2)
  else
    ({ (if k = 6 then n else inF s nx lp n (n.wire.getD a.toNat pk0)) with wire := if k = 5 then n.wire else n.wire.eraseIdx a.toNat }, 0)
def runF (s : Int) (nx : List (List Int)) (lp : List Int) : Ln -> List (Int × Int) -> Ln
  | n, [] => n
  | n, p :: ds => runF s nx lp (doF s nx lp n p.1 p.2).1 ds
def codesF (s : Int) (nx : List (List Int)) (lp : List Int) : Ln -> List (Int × Int) -> List Int
  | _, [] => []
  | n, p :: ds => (doF s nx lp n p.1 p.2).2 :: codesF s nx lp (doF s nx lp n p.1 p.2).1 ds
def dsk0 (s : Int) : Dsk := ⟨0, [], 0, mk1 0 s.toNat⟩
def ln0 (s st : Int) : Ln := ⟨st, 0, 0, dsk0 s, dsk0 s, []⟩
def ddOk (p : Int × Int) : Prop := 1 <= p.1 /\ p.1 <= 9 /\ 0 <= p.2 /\ p.2 <= 999
structure DskOk (s : Int) (nx : List (List Int)) (d : Dsk) : Prop where
  life : 0 <= d.life /\ d.life <= 6
  len : d.ord.length <= 60
  ord : ∀ x ∈ d.ord, 0 <= x /\ x < nx.length
  sure : 0 <= d.sure /\ d.sure <= d.ord.length
  bel : ∀ q ∈ d.bel, 0 <= q /\ q < s
  ris : d.bel.Pairwise (· < ·)
structure PkOk (s : Int) (nx : List (List Int)) (k : Nat) (p : Pk) : Prop where
  life : 0 <= p.life /\ p.life <= 6
  num : 0 <= p.num /\ p.num <= k + 60
  vr : p.rep = true -> 0 <= p.val /\ p.val <= 3
  vo : p.rep = false -> 0 <= p.val /\ p.val < nx.length
structure LnOk (s : Int) (nx : List (List Int)) (k : Nat) (n : Ln) : Prop where
  st : 0 <= n.st /\ n.st < s
  life : 0 <= n.life /\ n.life <= 6
  tk : 0 <= n.tk /\ n.tk <= k
  d : DskOk s nx n.d
  sv : DskOk s nx n.sv
  wl : n.wire.length <= 10
  wire : ∀ p ∈ n.wire, PkOk s nx k p
theorem DskOk.bel_len {s : Int} {nx : List (List Int)} {d : Dsk} (h : DskOk s nx d) (hs : s <= 10) : d.bel.length <= 10 := by
  have := h.ris
  have hb := h.bel
  generalize d.bel = l at *
  have key : ∀ (l : List Int) (lo : Int), l.Pairwise (· < ·) -> (∀ q ∈ l, lo <= q /\ q < 10) -> (l.length : Int) <= max 0 (10 - lo) := by
    intro l
    induction l with
    | nil => intro lo _ _; simp; omega
    | cons x l ih =>
      intro lo hp hl
      have hp' := List.pairwise_cons.1 hp
      have hx := hl x (List.mem_cons_self ..)
      have := ih (x + 1) hp'.2 (fun q hq => ⟨by have := hp'.1 q hq; omega, (hl q (List.mem_cons_of_mem _ hq)).2⟩)
      simp only [List.length_cons]
      omega
  have := key l 0 this fun q hq => by have := hb q hq; omega
  omega
theorem dsk0_ok {s : Int} {nx : List (List Int)} (hs : 0 <= s) {life : Int} (hl : 0 <= life /\ life <= 6) : DskOk s nx ⟨life, [], 0, mk1 0 s.toNat⟩ :=
  ⟨hl, by simp, fun x hx => by simp at hx, by simp, fun q hq => by have := (mem_mk1 _ _ q).1 hq; omega, mk1_pairwise _ _⟩
theorem ln0_ok {s st : Int} {nx : List (List Int)} (h : 0 <= st /\ st < s) : LnOk s nx 0 (ln0 s st) :=
  ⟨h, by simp [ln0], by simp [ln0], dsk0_ok (by omega) (by omega), dsk0_ok (by omega) (by omega), by simp [ln0], fun p hp => by simp [ln0] at hp⟩
theorem openF_ok {s : Int} {nx : List (List Int)} {k : Nat} {d : Dsk} {p : Pk} (hs : 0 <= s) (h : DskOk s nx d) (hp : PkOk s nx k p) : DskOk s nx (openF s d p) := by
  unfold openF
  split
  . exact dsk0_ok hs hp.life
  . exact h
theorem mem_seg {l : List Int} {a b x : Int} (h : x ∈ seg l a b) : x ∈ l := List.mem_of_mem_drop (List.mem_of_mem_take h)
theorem seg_len {l : List Int} {a b : Int} : (seg l a b).length <= l.length := by
  unfold seg
  rw [List.length_take, List.length_drop]
  omega
theorem runS_range {s : Int} {nx : List (List Int)} (hx : Tbl s s nx) : ∀ (w : List Int) {q : Int}, 0 <= q /\ q < s -> (∀ l ∈ w, 0 <= l /\ l < nx.length) -> 0 <= runS nx q w /\ runS nx q w < s
  | [], _, h, _ => h
  | l :: w, _, h, hw => runS_range hx w (tbl_at hx (hw l (List.mem_cons_self ..)) h) fun x hm => hw x (List.mem_cons_of_mem _ hm)
theorem readF_ok {s : Int} {nx : List (List Int)} {lp : List Int} {k : Nat} {d : Dsk} {p : Pk} (v : LV s nx lp) (h : DskOk s nx d) (hp : PkOk s nx k p) : DskOk s nx (readF s nx lp d p) := by
  have h1 := openF_ok (by have := v.s1; omega) h hp
  unfold readF
  generalize openF s d p = e at *
  split
  . rename_i hc
    obtain ⟨i1, i2⟩ := imgL_spec nx e.bel (seg e.ord e.sure p.num)
    refine ⟨h1.life, h1.len, h1.ord, ⟨hp.num.1, hc.2.2⟩, fun q hq => ?_, List.Pairwise.filter _ i1⟩
    obtain ⟨q0, hq0, rfl⟩ := (i2 q).1 (List.mem_filter.1 hq).1
    exact runS_range v.nx _ (h1.bel q0 hq0) fun l hl => h1.ord l (mem_seg hl)
  . exact h1
theorem PkOk.mono {s : Int} {nx : List (List Int)} {k : Nat} {p : Pk} (h : PkOk s nx k p) : PkOk s nx (k + 1) p := ⟨h.life, by have := h.num; omega, h.vr, h.vo⟩
theorem LnOk.mono {s : Int} {nx : List (List Int)} {k : Nat} {n : Ln} (h : LnOk s nx k n) : LnOk s nx (k + 1) n := ⟨h.st, h.life, by have := h.tk; omega, h.d, h.sv, h.wl, fun p hp => (h.wire p hp).mono⟩
theorem inF_ok {s : Int} {nx : List (List Int)} {lp : List Int} {k : Nat} {n : Ln} {p : Pk} (v : LV s nx lp) (h : LnOk s nx k n) (hp : PkOk s nx k p) : LnOk s nx (k + 1) (inF s nx lp n p) := by
  unfold inF
  split
  . exact ⟨h.st, h.life, by have := h.tk; show 0 <= n.tk /\ n.tk <= _; omega, readF_ok v h.d hp, h.sv, h.wl, fun p hp => (h.wire p hp).mono⟩
  . rename_i hr
    split
    . exact ⟨tbl_at v.nx (hp.vo (by simpa using hr)) h.st, h.life, by have := h.tk; show 0 <= n.tk + 1 /\ n.tk + 1 <= _; omega, h.d, h.sv, h.wl, fun p hp => (h.wire p hp).mono⟩
    . exact h.mono
theorem sendF_ok {s : Int} {nx : List (List Int)} {k : Nat} {n : Ln} {p : Pk} (h : LnOk s nx k n) (hp : PkOk s nx k p) : LnOk s nx k (sendF n p).1 := by
  unfold sendF
  split
  . exact h
  . rename_i hl
    have := h.wl
    refine ⟨h.st, h.life, h.tk, h.d, h.sv, by show (n.wire ++ [p]).length <= 10; simp; omega, fun q hq => ?_⟩
    have hq : q ∈ n.wire ++ [p] := hq
    rcases List.mem_append.1 hq with hq | hq
    . exact h.wire q hq
    . simp at hq
      subst hq
      exact hp
theorem lamp_in {s : Int} {nx : List (List Int)} {lp : List Int} (hv : litOk s nx lp = true) {q : Int} (hq : 0 <= q /\ q < s) : 0 <= lamp lp q /\ lamp lp q <= 3 := by
  have v := lv_of hv
  simp only [litOk, allIn, Bool.and_eq_true, List.all_eq_true, inB, decide_eq_true_eq] at hv
  have := v.lp
  exact hv.2.2 _ (get_mem2 (q := q) (by omega))
theorem doF_ok {s : Int} {nx : List (List Int)} {lp : List Int} {k : Nat} {n : Ln} {c a : Int} (hv : litOk s nx lp = true) (h : LnOk s nx k n) (hd : ddOk (c, a)) : LnOk s nx (k + 1) (doF s nx lp n c a).1 := by
  have v := lv_of hv
  have ha : 0 <= a /\ a <= 999 := ⟨hd.2.2.1, hd.2.2.2⟩
  unfold doF
  split
  . split
    . exact h.mono
    . split
      . exact h.mono
      . rename_i h1 h2
        refine ⟨h.st, h.life, by have := h.tk; show 0 <= n.tk /\ n.tk <= _; omega, ⟨h.d.life, ?_, ?_, ?_, h.d.bel, h.d.ris⟩, h.sv, h.wl, fun p hp => (h.wire p hp).mono⟩
        . show (n.d.ord ++ [a]).length <= 60
          have := h.d.len
          simp
          omega
        . intro x hx
          have hx : x ∈ n.d.ord ++ [a] := hx
          rcases List.mem_append.1 hx with hx | hx
          . exact h.d.ord x hx
          . simp at hx
            omega
        . have := h.d.sure
          show 0 <= n.d.sure /\ n.d.sure <= ((n.d.ord ++ [a]).length : Int)
          simp
          omega
  split
  . split
    . exact h.mono
    . rename_i h2
      refine (sendF_ok h ⟨h.sv.life, ?_, by simp, fun _ => ?_⟩).mono
      . have := h.sv.len
        show 0 <= a /\ a <= _
        omega
      . exact h.sv.ord _ (get_mem2 (q := a) (by omega))
  split
  . refine (sendF_ok h ⟨h.life, ?_, fun _ => lamp_in hv h.st, by simp⟩).mono
    have := h.tk
    show 0 <= n.tk /\ n.tk <= _
    omega
  split
  . split
    . exact h.mono
    . split
      . exact h.mono
      . rename_i h1 h2
        have := h.life
        exact ⟨by show 0 <= a /\ a < s; omega, by show 0 <= n.life + 1 /\ n.life + 1 <= 6; omega, by show (0 : Int) <= 0 /\ (0 : Int) <= _; omega, h.d, h.sv, h.wl, fun p hp => (h.wire p hp).mono⟩
  split
  . exact ⟨h.st, h.life, by have := h.tk; show 0 <= n.tk /\ n.tk <= _; omega, h.d, h.d, h.wl, fun p hp => (h.wire p hp).mono⟩
  split
  . exact ⟨h.st, h.life, by have := h.tk; show 0 <= n.tk /\ n.tk <= _; omega, h.sv, h.sv, h.wl, fun p hp => (h.wire p hp).mono⟩
  split
  . exact h.mono
  . rename_i hlt
    have hp : PkOk s nx k (n.wire.getD a.toNat pk0) := by
      have : a.toNat < n.wire.length := by omega
      rw [List.getD_eq_getElem?_getD, List.getElem?_eq_getElem this]
      exact h.wire _ (List.getElem_mem this)
    have hi := inF_ok v h hp
    have hm := h.mono
    have hwl : (if c = 5 then n.wire else n.wire.eraseIdx a.toNat).length <= 10 := by
      have := h.wl
      split
      . exact this
      . have := List.length_eraseIdx_le n.wire a.toNat
        omega
    have hwm : ∀ p ∈ (if c = 5 then n.wire else n.wire.eraseIdx a.toNat), PkOk s nx (k + 1) p := fun p hp => by
      refine (h.wire p ?_).mono
      split at hp
      . exact hp
      . exact List.mem_of_mem_eraseIdx hp
    by_cases h6 : c = 6
    . rw [if_pos h6]
      exact ⟨hm.st, hm.life, hm.tk, hm.d, hm.sv, hwl, hwm⟩
    . rw [if_neg h6]
      exact ⟨hi.st, hi.life, hi.tk, hi.d, hi.sv, hwl, hwm⟩
theorem runF_ok {s : Int} {nx : List (List Int)} {lp : List Int} (hv : litOk s nx lp = true) : ∀ (ds : List (Int × Int)) {k : Nat} {n : Ln}, LnOk s nx k n -> (∀ p ∈ ds, ddOk p) -> LnOk s nx (k + ds.length) (runF s nx lp n ds)
  | [], _, _, h, _ => h
  | p :: ds, k, n, h, hd => by
    have := runF_ok hv ds (doF_ok hv h (hd p (List.mem_cons_self ..))) fun q hq => hd q (List.mem_cons_of_mem _ hq)
    rw [List.length_cons, show k + (ds.length + 1) = k + 1 + ds.length by omega]
    exact this
theorem runF_append {s : Int} {nx : List (List Int)} {lp : List Int} : ∀ (a b : List (Int × Int)) (n : Ln), runF s nx lp n (a ++ b) = runF s nx lp (runF s nx lp n a) b
  | [], _, _ => rfl
  | p :: a, b, n => by simp only [List.cons_append, runF]; exact runF_append a b _
theorem codesF_append {s : Int} {nx : List (List Int)} {lp : List Int} : ∀ (a b : List (Int × Int)) (n : Ln), codesF s nx lp n (a ++ b) = codesF s nx lp n a ++ codesF s nx lp (runF s nx lp n a) b
  | [], _, _ => rfl
  | p :: a, b, n => by simp only [List.cons_append, runF, codesF]; rw [codesF_append a b]
theorem codesF_len {s : Int} {nx : List (List Int)} {lp : List Int} : ∀ (a : List (Int × Int)) (n : Ln), (codesF s nx lp n a).length = a.length
  | [], _ => rfl
  | p :: a, n => by simp [codesF, codesF_len a]
theorem runF_take {s : Int} {nx : List (List Int)} {lp : List Int} {ds : List (Int × Int)} {n : Ln} {i : Nat} (hi : i < ds.length) : runF s nx lp n (ds.take (i + 1)) = (doF s nx lp (runF s nx lp n (ds.take i)) ds[i].1 ds[i].2).1 := by
  rw [List.take_succ_eq_append_getElem hi, runF_append]
  rfl
theorem codesF_take {s : Int} {nx : List (List Int)} {lp : List Int} {ds : List (Int × Int)} {n : Ln} {i : Nat} (hi : i < ds.length) : codesF s nx lp n (ds.take (i + 1)) = codesF s nx lp n (ds.take i) ++ [(doF s nx lp (runF s nx lp n (ds.take i)) ds[i].1 ds[i].2).2] := by
  rw [List.take_succ_eq_append_getElem hi, codesF_append]
  rfl
def toldF (nx : List (List Int)) : List Int -> List Int -> List Int -> List Int
  | _, out, [] => out
  | now, out, x :: w => toldF nx (imgL nx now [x]) ((imgL nx now [x]).foldl insL out) w
def toldD (nx : List (List Int)) (d : Dsk) : List Int := toldF nx d.bel d.bel (d.ord.drop d.sure.toNat)
end Go.Proofs.YtffmlijngfhhaaaGreatDoor
