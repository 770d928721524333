/- Draws of lit automata. No condition. -/
import Derived.Test.YtckpadnjldebaaaGreatKa
import Derived.Test.YtckpadnjldebaaaGreatOm
import Derived.Test.YtckpadnjldebaaaGreatFwX
namespace Go.Proofs.YtckpadnjldebaaaGreat
open Go
attribute [local irreducible] awp awpL awpQL awpQ awpM pWalk Qt AC thenQ blockQ loopQ OpTo
set_option linter.unusedVariables false
set_option linter.unusedSimpArgs false
set_option maxHeartbeats 2000000
attribute [local irreducible] HC
def slT (n : Int) (k : Nat) : List Int := (List.range k).map fun j : Nat => ((j : Int) + 1) % n
def slY (n : Int) (k : Nat) : List Int := (List.range k).map fun j : Nat => (j : Int) % (n - 1)
theorem slT_succ {n : Int} {k : Nat} : slT n (k + 1) = slT n k ++ [((k : Int) + 1) % n] := by simp [slT, List.range_succ]
theorem slY_succ {n : Int} {k : Nat} : slY n (k + 1) = slY n k ++ [(k : Int) % (n - 1)] := by simp [slY, List.range_succ]
theorem spec_l02Slow {n : Int} (hn : 2 <= n /\ n <= 100) : AC Tryz.prog 83 [.int .i64 n] (.agg [.int .i64 n, rows [slT n n.toNat, slY n n.toNat]]) := by
  refine ac_introC tabIs _ Tryz.func83 rfl rfl Tryz.ntmps83 rfl rfl fun w0 ok0 he0 => ?_
  repeat (first | refine v_w (t := 7) ?_ | refine v_w (t := 6) ?_ | refine zc ?_ | refine u_w (t := 6) ?_ | refine u_w (t := 7) ?_ | refine zv ?_)
  refine awp_loop (fun k : Nat => (k : Int) <= n) (fun k => [(0, .d (.int .i64 n)), (2, .ref 2 0), (3, .own 6), (4, .own 7), (5, .d (.int .i64 k))]) (fun k => [(7, .arr 2 1 ((slY n k).map (.int .i64))), (6, .arr 2 1 ((slT n k).map (.int .i64))), (2, .box [.d (.int .i64 0), .d .nils])]) (fun k => n.toNat - k) 0 (by omega) ?_ rfl ?_
  . exact zs
  . intro k hk
    have h1 : ((slY n k).map (D.int .i64)).length = k := by simp [slY]
    have h2 : ((slT n k).map (D.int .i64)).length = k := by simp [slT]
    have h3 : (slT n k).length = k := by simp [slT]
    have h4 : (slY n k).length = k := by simp [slY]
    have e1 := slT_succ (n := n) (k := k)
    have e2 := slY_succ (n := n) (k := k)
    by_cases hlt : (k : Int) < n
    . repeat (first | refine zc ?_ | refine zv ?_)
      refine loop_n (k + 1) (by omega) ?_ ?_ (by omega)
      . exact zs
      . rw [e1, e2]; simp only [List.map_append]; (as_aux_lemma => kernel_rfl)
    . have : k = n.toNat := by omega
      subst this
      refine awp_freeze 7 rfl rfl ?_
      refine awp_freeze 6 rfl rfl ?_
      repeat (first | refine zc ?_ | refine zv ?_)
      refine ztC ?_
      rfl
def rwK (code : List Int) (n kind : Int) (s : Src) : Nat -> List Int × Src
  | 0 => ([], s)
  | i + 1 =>
    let r := rwK code n kind s i
    let to_ := pickV code n r.2
    let s1 := pickS code n r.2
    if kind = 0 then (r.1 ++ [((i : Int) + 1) % n], s1)
    else if kind = 1 then (r.1 ++ [if pickV code 4 s1 = 0 then to_ else (i : Int)], pickS code 4 s1)
    else if kind = 2 then (r.1 ++ [if pickV code 3 s1 = 0 then to_ else n - 1 - i], pickS code 3 s1)
    else (r.1 ++ [to_], s1)
def rwsK (code : List Int) (n : Int) (s : Src) : Nat -> List (List Int) × Src
  | 0 => ([], s)
  | x + 1 =>
    let r := rwsK code n s x
    let e := rwK code n (pickV code 5 r.2) (pickS code 5 r.2) n.toNat
    (r.1 ++ [e.1], e.2)
theorem rwK_len {code : List Int} {n kind : Int} {s : Src} : ∀ i, (rwK code n kind s i).1.length = i
  | 0 => rfl
  | i + 1 => by
    have := rwK_len (code := code) (n := n) (kind := kind) (s := s) i
    unfold rwK
    dsimp only
    split
    . simp [this]
    . split
      . simp [this]
      . split <;> simp [this]
theorem rwK_el {code : List Int} {n kind : Int} {s : Src} (hb : BytesOk code) (hn : 1 <= n) : ∀ i : Nat, (i : Int) <= n -> ∀ v ∈ (rwK code n kind s i).1, 0 <= v /\ v < n
  | 0, _ => fun v h => by cases h
  | i + 1, hi => by
    have ih := rwK_el (kind := kind) (s := s) hb hn i (by omega)
    have hp := pick_range (s := (rwK code n kind s i).2) hb hn
    have key : ∀ x : Int, 0 <= x /\ x < n -> ∀ v ∈ (rwK code n kind s i).1 ++ [x], 0 <= v /\ v < n := fun x hx v hv => by
      rcases List.mem_append.1 hv with h | h
      . exact ih v h
      . simp only [List.mem_singleton] at h; subst h; exact hx
    unfold rwK
    dsimp only
    split
    . exact key _ ⟨Int.emod_nonneg _ (by omega), Int.emod_lt_of_pos _ (by omega)⟩
    . split
      . refine key _ ?_
        split
        . exact hp
        . omega
      . split
        . refine key _ ?_
          split
          . exact hp
          . omega
        . exact key _ hp
theorem rwK_ok {code : List Int} {n kind : Int} {s : Src} {k : Nat} (h : SOk s k) : ∀ i, SOk (rwK code n kind s i).2 (k + 4 * i)
  | 0 => h
  | i + 1 => by
    have ih := rwK_ok (code := code) (n := n) (kind := kind) h i
    have h1 := pick_ok (code := code) (n := n) ih
    have h2 := fun n => pick_ok (code := code) (n := n) h1
    unfold rwK
    dsimp only
    split
    . exact h1.mono (by omega)
    . split
      . refine SOk.mono (h2 4) ?_; omega
      . split
        . refine SOk.mono (h2 3) ?_; omega
        . exact h1.mono (by omega)
theorem rwsK_len {code : List Int} {n : Int} {s : Src} : ∀ x, (rwsK code n s x).1.length = x
  | 0 => rfl
  | x + 1 => by have := rwsK_len (code := code) (n := n) (s := s) x; simp [rwsK, this]
theorem rwsK_ok {code : List Int} {n : Int} {s : Src} {k : Nat} (h : SOk s k) (hn : n <= 10) : ∀ x, SOk (rwsK code n s x).2 (k + 42 * x)
  | 0 => h
  | x + 1 => (rwK_ok (pick_ok (rwsK_ok h hn x)) n.toNat).mono (by omega)
theorem rwsK_el {code : List Int} {n : Int} {s : Src} (hb : BytesOk code) (hn : 1 <= n) : ∀ x, Tbl n n (rwsK code n s x).1
  | 0 => fun ns h => by cases h
  | x + 1 => fun ns h => by
    rcases List.mem_append.1 h with h | h
    . exact rwsK_el hb hn x ns h
    . simp only [List.mem_singleton] at h
      subst h
      exact ⟨by rw [rwK_len]; omega, rwK_el hb hn _ (by omega)⟩
def dnN (code : List Int) (most : Int) (s : Src) : Int × Src :=
  let n0 := 1 + pickV code most s
  let s1 := pickS code most s
  if n0 < 3 then
    if pickV code 3 s1 = 0 then (n0, pickS code 3 s1)
    else (min most (3 + pickV code 3 (pickS code 3 s1)), pickS code 3 (pickS code 3 s1))
  else (n0, s1)
def dnL (code : List Int) (s : Src) : Int × Src :=
  let l0 := 1 + pickV code 3 s
  let s1 := pickS code 3 s
  if l0 = 1 then (if pickV code 3 s1 = 0 then 1 else 2, pickS code 3 s1) else (l0, s1)
theorem dnN_range {code : List Int} {most : Int} {s : Src} (hb : BytesOk code) (hm : 1 <= most) : 1 <= (dnN code most s).1 /\ (dnN code most s).1 <= most := by
  have h1 := pick_range (s := s) hb hm
  have h2 := pick_range (s := pickS code 3 (pickS code most s)) (n := 3) hb (by omega)
  unfold dnN
  dsimp only
  split
  . split
    . exact ⟨by dsimp only; omega, by dsimp only; omega⟩
    . exact ⟨by dsimp only; omega, by dsimp only; omega⟩
  . exact ⟨by dsimp only; omega, by dsimp only; omega⟩
theorem dnN_ok {code : List Int} {most : Int} {s : Src} {k : Nat} (h : SOk s k) : SOk (dnN code most s).2 (k + 6) := by
  have h1 := pick_ok (code := code) (n := most) h
  have h2 := fun n => pick_ok (code := code) (n := n) h1
  have h3 := fun n m => pick_ok (code := code) (n := m) (h2 n)
  unfold dnN
  dsimp only
  split
  . split
    . refine SOk.mono (h2 3) ?_; omega
    . refine SOk.mono (h3 3 3) ?_; omega
  . exact h1.mono (by omega)
theorem dnL_range {code : List Int} {s : Src} (hb : BytesOk code) : 1 <= (dnL code s).1 /\ (dnL code s).1 <= 3 := by
  have h1 := pick_range (s := s) (n := 3) hb (by omega)
  unfold dnL
  dsimp only
  split
  . dsimp only
    split <;> omega
  . exact ⟨by dsimp only; omega, by dsimp only; omega⟩
theorem dnL_ok {code : List Int} {s : Src} {k : Nat} (h : SOk s k) : SOk (dnL code s).2 (k + 4) := by
  have h1 := pick_ok (code := code) (n := 3) h
  have h2 := fun n => pick_ok (code := code) (n := n) h1
  unfold dnL
  dsimp only
  split
  . refine SOk.mono (h2 3) ?_; omega
  . exact h1.mono (by omega)
end Go.Proofs.YtckpadnjldebaaaGreat
namespace Go.Proofs.YtckpadnjldebaaaGreat
open Go
attribute [local irreducible] awp awpL awpQL awpQ awpM pWalk Qt AC thenQ blockQ loopQ OpTo
set_option linter.unusedVariables false
set_option linter.unusedSimpArgs false
set_option maxHeartbeats 2000000
attribute [local irreducible] HC
attribute [local semireducible] thenQ in
theorem awp_cut2 {cx : Cx} {x c y : Code} {s : Slots} {h : Heap} {Q : Exit -> Slots -> Heap -> Prop} (S1 : Slots) (H1 : Heap) (hx : awp cx x s h (thenQ cx c (fun e s' h' => match e with | .normal => Subs s' S1 /\ sortH h' = H1 | _ => False))) (hy : awp cx y S1 H1 Q) : awp cx x s h (thenQ cx c (thenQ cx y Q)) :=
  awp_mono hx fun e s' h' hq => by
    cases e with
    | normal =>
      have hq : awp cx c s' h' _ := hq
      refine awp_mono hq fun e s' h' hq => ?_
      cases e with
      | normal =>
        obtain ⟨h1, h2⟩ := hq
        exact awp_perm H1 h2 (awp_sub h1 hy)
      | _ => exact False.elim hq
    | _ => exact False.elim hq
theorem minL {a b : Int} : AC Tryz.prog 289 [.int .i64 a, .int .i64 b] (.int .i64 (min a b)) := by
  by_cases h : a < b
  . refine ac_intro tabIs _ Tryz.func289 rfl rfl Tryz.ntmps289 rfl rfl fun w0 ok0 he0 => ?_
    repeat (first | refine zc ?_ | refine zv ?_)
    refine zt ?_
    rw [Int.min_eq_left (by omega)]
  . refine ac_intro tabIs _ Tryz.func289 rfl rfl Tryz.ntmps289 rfl rfl fun w0 ok0 he0 => ?_
    repeat (first | refine zc ?_ | refine zv ?_)
    refine zt ?_
    rw [Int.min_eq_right (by omega)]
theorem spec_l01Drawn {code : List Int} {most : Int} {s : Src} {k : Nat} (hb : BytesOk code) (hm : 1 <= most /\ most <= 9) (h : SOk s k) (hk : k <= 999999000) :
    HC Tryz.prog 212 [.ref 10000 0, .d (.int .i64 most)] [(10000, srcB code s)] (.d (.agg [.int .i64 (dnN code most s).1, .lst ((rws (rwsK code (dnN code most s).1 (dnL code (dnN code most s).2).2 (dnL code (dnN code most s).2).1.toNat).1).map D.lst)]))
      [(10000, srcB code (rwsK code (dnN code most s).1 (dnL code (dnN code most s).2).2 (dnL code (dnN code most s).2).1.toNat).2)] := by
  have hP : ∀ (s : Src) (k : Nat) (n : Int), SOk s k -> k <= 999999990 -> n <= 1000 -> HC Tryz.prog 56 [.ref 10000 0, .d (.int .i64 n)] [(10000, srcB code s)] (.d (.int .i64 (pickV code n s))) [(10000, srcB code (pickS code n s))] := fun s k n a b c => spec_pick hb a b (by omega)
  have hQ : ∀ (s : Src) (k : Nat) (n : Int), SOk s k -> k <= 999999990 -> n <= 1000 -> HC Tryz.prog 53 [.ref 10000 0, .d (.int .i64 n)] [(10000, srcB code s)] (.d (.bool (decide (pickV code n s = 0)))) [(10000, srcB code (pickS code n s))] := fun s k n a b c => spec_one hb a b (by omega)
  have k1 := pick_ok (code := code) (n := most) h
  have k2 := pick_ok (code := code) (n := 3) k1
  have kN := dnN_ok (code := code) (most := most) h
  have hN := dnN_range (s := s) hb hm.1
  have hr0 := pick_range (s := s) (n := most) hb hm.1
  have hr1 := pick_range (s := pickS code 3 (pickS code most s)) (n := 3) hb (by omega)
  have hc1 := hP s k most h (by omega) (by omega)
  have hc2 := hQ _ _ 3 k1 (by omega) (by omega)
  have hc3 := hP _ _ 3 k2 (by omega) (by omega)
  have hNe : dnN code most s = if 1 + pickV code most s < 3 then (if pickV code 3 (pickS code most s) = 0 then (1 + pickV code most s, pickS code 3 (pickS code most s)) else (min most (3 + pickV code 3 (pickS code 3 (pickS code most s))), pickS code 3 (pickS code 3 (pickS code most s)))) else (1 + pickV code most s, pickS code most s) := rfl
  generalize dnN code most s = N at *
  unfold srcB at *
  refine hc_intro tabIs _ Tryz.func212 rfl rfl Tryz.ntmps212 rfl rfl rfl ?_ fun w0 ok0 XM XA anc he0 hX0 => ?_
  . exact likeIn_cons rfl rfl likeIn_nil
  repeat (first | refine zc ?_ | refine zv ?_)
  refine hcl [(10000, 10000)] [(10000, 10000)] hc1 ?_
  repeat (first | refine zcr ?_ | refine zv ?_)
  refine awp_cut2 [(0, .ref 10000 0), (4, .ref 4 0), (5, .d (.int .i64 N.1))] [(4, .box [.d (.int .i64 0), .d .nils]), (10000, .box [.d (u8s code), .d (.int .i64 N.2.pos), .d (.int .u64 N.2.sd)])] ?_ ?_
  . refine awp_region ?_
    by_cases c1 : 1 + pickV code most s < 3
    . rw [if_pos c1] at hNe
      by_cases c2 : pickV code 3 (pickS code most s) = 0
      . rw [if_pos c2] at hNe
        subst hNe
        repeat (first | refine zc ?_ | refine zv ?_ | refine zg ?_)
        refine hclG [(10000, 10000)] [(10000, 10000)] hc2 ?_
        repeat (first | refine zc ?_ | refine zv ?_ | refine zg ?_)
        exact ⟨by exact zs, rfl⟩
      . rw [if_neg c2] at hNe
        subst hNe
        repeat (first | refine zc ?_ | refine zv ?_ | refine zg ?_)
        refine hclG [(10000, 10000)] [(10000, 10000)] hc2 ?_
        repeat (first | refine zc ?_ | refine zv ?_ | refine zg ?_)
        refine hcl [(10000, 10000)] [(10000, 10000)] hc3 ?_
        repeat (first | refine zc ?_ | refine zk (e := by exact minL) (n := ?_) | refine zv ?_ | refine zg ?_)
        exact ⟨by exact zs, rfl⟩
    . rw [if_neg c1] at hNe
      subst hNe
      repeat (first | refine zc ?_ | refine zv ?_ | refine zg ?_)
      exact ⟨by exact zs, rfl⟩
  . have hL := dnL_range (s := N.2) hb
    have kL := dnL_ok (code := code) kN
    have l1 := pick_ok (code := code) (n := 3) kN
    have hq1 := hP _ _ 3 kN (by omega) (by omega)
    have hq2 := hQ _ _ 3 l1 (by omega) (by omega)
    have hrl := pick_range (s := N.2) (n := 3) hb (by omega)
    have hLe : dnL code N.2 = if 1 + pickV code 3 N.2 = 1 then (if pickV code 3 (pickS code 3 N.2) = 0 then 1 else 2, pickS code 3 (pickS code 3 N.2)) else (1 + pickV code 3 N.2, pickS code 3 N.2) := rfl
    generalize dnL code N.2 = L at *
    clear hc1 hc2 hc3 hNe
    repeat (first | refine zcr ?_ | refine zv ?_)
    refine awp_region ?_
    repeat (first | refine zc ?_ | refine zv ?_)
    refine hcl [(10000, 10000)] [(10000, 10000)] hq1 ?_
    repeat (first | refine zcr ?_ | refine zv ?_)
    refine awp_cut2 [(0, .ref 10000 0), (4, .ref 4 0), (5, .d (.int .i64 N.1)), (6, .d (.int .i64 L.1))] [(4, .box [.d (.int .i64 0), .d .nils]), (10000, .box [.d (u8s code), .d (.int .i64 L.2.pos), .d (.int .u64 L.2.sd)])] ?_ ?_
    . refine awp_region ?_
      by_cases c1 : 1 + pickV code 3 N.2 = 1
      . rw [if_pos c1] at hLe
        by_cases c2 : pickV code 3 (pickS code 3 N.2) = 0
        . rw [if_pos c2] at hLe
          subst hLe
          repeat (first | refine zc ?_ | refine zv ?_ | refine zg ?_)
          refine hclG [(10000, 10000)] [(10000, 10000)] hq2 ?_
          repeat (first | refine zc ?_ | refine zv ?_ | refine zg ?_)
          exact ⟨⟨rfl, rfl, rfl, congrArg (fun v : Int => SV.d (.int .i64 v)) c1, trivial⟩, rfl⟩
        . rw [if_neg c2] at hLe
          subst hLe
          repeat (first | refine zc ?_ | refine zv ?_ | refine zg ?_)
          refine hclG [(10000, 10000)] [(10000, 10000)] hq2 ?_
          repeat (first | refine zc ?_ | refine zv ?_ | refine zg ?_)
          exact ⟨by exact zs, rfl⟩
      . rw [if_neg c1] at hLe
        subst hLe
        repeat (first | refine zc ?_ | refine zv ?_ | refine zg ?_)
        exact ⟨by exact zs, rfl⟩
    . clear hLe hq1 hq2
      have hel := fun x => rwsK_el (s := L.2) hb hN.1 x
      have hok := fun x => rwsK_ok (code := code) kL (n := N.1) (by omega) x
      have hlen := fun x => rwsK_len (code := code) (n := N.1) (s := L.2) x
      repeat (first | refine zc ?_ | refine zv ?_)
      refine awp_nilCell 7 1 200 29 1 (by exact rfl) (by exact rfl) rfl rfl rfl ?_
      refine awp_toRows 200 2 1 rfl rfl rfl rfl ?_
      refine awp_perm _ rfl ?_
      refine awp_loop (fun x : Nat => (x : Int) <= L.1) (fun x => [(0, .ref 10000 0), (4, .ref 4 0), (5, .d (.int .i64 N.1)), (6, .d (.int .i64 L.1)), (7, .ref 7 0), (8, .d (.int .i64 x))])
        (fun x => [(4, .box [.d (.int .i64 0), .d .nils]), (7, .box [.d (.int .i64 N.1), .own 200]), (200, .rows 29 2 1 (rws (rwsK code N.1 L.2 x).1) none), (10000, .box [.d (u8s code), .d (.int .i64 (rwsK code N.1 L.2 x).2.pos), .d (.int .u64 (rwsK code N.1 L.2 x).2.sd)])]) (fun x => L.1.toNat - x) 0 (by omega) ?_ rfl ?_
      . exact zs
      . intro x hx
        have hrl1 := rws_length (rwsK code N.1 L.2 x).1
        have hlx := hlen x
        have hkx := hok x
        by_cases hlt : (x : Int) < L.1
        . have hst : rwsK code N.1 L.2 (x + 1) = ((rwsK code N.1 L.2 x).1 ++ [(rwK code N.1 (pickV code 5 (rwsK code N.1 L.2 x).2) (pickS code 5 (rwsK code N.1 L.2 x).2) N.1.toNat).1], (rwK code N.1 (pickV code 5 (rwsK code N.1 L.2 x).2) (pickS code 5 (rwsK code N.1 L.2 x).2) N.1.toNat).2) := rfl
          have hq := hP _ _ 5 hkx (by omega) (by omega)
          have hk5 := pick_ok (code := code) (n := 5) hkx
          generalize rwsK code N.1 L.2 x = r at *
          repeat (first | refine v_w (t := 46) ?_ | refine zc ?_ | refine u_w (t := 46) ?_ | refine zv ?_)
          refine hcl [(10000, 10000)] [(10000, 10000)] hq ?_
          repeat (first | refine zcr ?_ | refine zv ?_)
          have hko := fun i => rwK_ok (code := code) (n := N.1) (kind := pickV code 5 r.2) hk5 i
          have hkl := fun i => rwK_len (code := code) (n := N.1) (kind := pickV code 5 r.2) (s := pickS code 5 r.2) i
          generalize pickV code 5 r.2 = kd at *
          generalize pickS code 5 r.2 = s5 at *
          refine awp_sub (s' := [(0, .ref 10000 0), (4, .ref 4 0), (5, .d (.int .i64 N.1)), (6, .d (.int .i64 L.1)), (7, .ref 7 0), (8, .d (.int .i64 x)), (9, .own 46), (10, .d (.int .i64 kd))]) (by exact zs) ?_
          refine awp_permTo [(46, .arr 2 1 []), (4, .box [.d (.int .i64 0), .d .nils]), (7, .box [.d (.int .i64 N.1), .own 200]), (200, .rows 29 2 1 (rws r.1) none), (10000, .box [.d (u8s code), .d (.int .i64 s5.pos), .d (.int .u64 s5.sd)])] rfl ?_
          repeat (first | refine zc ?_ | refine zv ?_)
          refine awp_loop (fun i : Nat => (i : Int) <= N.1) (fun i => [(0, .ref 10000 0), (4, .ref 4 0), (5, .d (.int .i64 N.1)), (6, .d (.int .i64 L.1)), (7, .ref 7 0), (8, .d (.int .i64 x)), (9, .own 46), (10, .d (.int .i64 kd)), (11, .d (.int .i64 i))])
            (fun i => [(46, .arr 2 1 ((rwK code N.1 kd s5 i).1.map (.int .i64))), (4, .box [.d (.int .i64 0), .d .nils]), (7, .box [.d (.int .i64 N.1), .own 200]), (200, .rows 29 2 1 (rws r.1) none), (10000, .box [.d (u8s code), .d (.int .i64 (rwK code N.1 kd s5 i).2.pos), .d (.int .u64 (rwK code N.1 kd s5 i).2.sd)])]) (fun i => N.1.toNat - i) 0 (by omega) ?_ rfl ?_
          . exact zs
          . intro i hi
            have hko1 := hko i
            have hkl1 := hkl i
            have hm1 : ((rwK code N.1 kd s5 i).1.map (D.int .i64)).length = i := by simp [hkl1]
            by_cases hil : (i : Int) < N.1
            . have hsi : rwK code N.1 kd s5 (i + 1) = if kd = 0 then ((rwK code N.1 kd s5 i).1 ++ [((i : Int) + 1) % N.1], pickS code N.1 (rwK code N.1 kd s5 i).2) else if kd = 1 then ((rwK code N.1 kd s5 i).1 ++ [if pickV code 4 (pickS code N.1 (rwK code N.1 kd s5 i).2) = 0 then pickV code N.1 (rwK code N.1 kd s5 i).2 else (i : Int)], pickS code 4 (pickS code N.1 (rwK code N.1 kd s5 i).2))
                else if kd = 2 then ((rwK code N.1 kd s5 i).1 ++ [if pickV code 3 (pickS code N.1 (rwK code N.1 kd s5 i).2) = 0 then pickV code N.1 (rwK code N.1 kd s5 i).2 else N.1 - 1 - i], pickS code 3 (pickS code N.1 (rwK code N.1 kd s5 i).2)) else ((rwK code N.1 kd s5 i).1 ++ [pickV code N.1 (rwK code N.1 kd s5 i).2], pickS code N.1 (rwK code N.1 kd s5 i).2) := rfl
              have q1 := hP _ _ N.1 hko1 (by omega) (by omega)
              have hk2 := pick_ok (code := code) (n := N.1) hko1
              have q4 := hQ _ _ 4 hk2 (by omega) (by omega)
              have q3 := hQ _ _ 3 hk2 (by omega) (by omega)
              generalize rwK code N.1 kd s5 i = r2 at *
              by_cases d0 : kd = 0
              . rw [if_pos d0] at hsi
                repeat (first | refine zc ?_ | refine zv ?_)
                refine hcl [(10000, 10000)] [(10000, 10000)] q1 ?_
                repeat (first | refine zcr ?_ | refine zv ?_)
                refine awp_perm _ rfl ?_
                repeat (first | refine zc ?_ | refine zv ?_ | refine zg ?_)
                refine loop_n (i + 1) (by omega) ?_ ?_ (by omega)
                . exact zs
                . rw [hsi]; simp only [List.map_append]; (as_aux_lemma => kernel_rfl)
              . rw [if_neg d0] at hsi
                by_cases d1 : kd = 1
                . rw [if_pos d1] at hsi
                  by_cases d4 : pickV code 4 (pickS code N.1 r2.2) = 0
                  . rw [if_pos d4] at hsi
                    repeat (first | refine zc ?_ | refine zv ?_)
                    refine hcl [(10000, 10000)] [(10000, 10000)] q1 ?_
                    repeat (first | refine zc ?_ | refine zv ?_ | refine zg ?_)
                    refine hcl [(10000, 10000)] [(10000, 10000)] q4 ?_
                    repeat (first | refine zcr ?_ | refine zv ?_)
                    refine awp_perm _ rfl ?_
                    repeat (first | refine zc ?_ | refine zv ?_ | refine zg ?_)
                    refine loop_n (i + 1) (by omega) ?_ ?_ (by omega)
                    . exact zs
                    . rw [hsi]; simp only [List.map_append]; (as_aux_lemma => kernel_rfl)
                  . rw [if_neg d4] at hsi
                    repeat (first | refine zc ?_ | refine zv ?_)
                    refine hcl [(10000, 10000)] [(10000, 10000)] q1 ?_
                    repeat (first | refine zc ?_ | refine zv ?_ | refine zg ?_)
                    refine hcl [(10000, 10000)] [(10000, 10000)] q4 ?_
                    repeat (first | refine zcr ?_ | refine zv ?_)
                    refine awp_perm _ rfl ?_
                    repeat (first | refine zc ?_ | refine zv ?_ | refine zg ?_)
                    refine loop_n (i + 1) (by omega) ?_ ?_ (by omega)
                    . exact zs
                    . rw [hsi]; simp only [List.map_append]; (as_aux_lemma => kernel_rfl)
                . rw [if_neg d1] at hsi
                  by_cases d2 : kd = 2
                  . rw [if_pos d2] at hsi
                    by_cases d4 : pickV code 3 (pickS code N.1 r2.2) = 0
                    . rw [if_pos d4] at hsi
                      repeat (first | refine zc ?_ | refine zv ?_)
                      refine hcl [(10000, 10000)] [(10000, 10000)] q1 ?_
                      repeat (first | refine zc ?_ | refine zv ?_ | refine zg ?_)
                      refine hcl [(10000, 10000)] [(10000, 10000)] q3 ?_
                      repeat (first | refine zcr ?_ | refine zv ?_)
                      refine awp_perm _ rfl ?_
                      repeat (first | refine zc ?_ | refine zv ?_ | refine zg ?_)
                      refine loop_n (i + 1) (by omega) ?_ ?_ (by omega)
                      . exact zs
                      . rw [hsi]; simp only [List.map_append]; (as_aux_lemma => kernel_rfl)
                    . rw [if_neg d4] at hsi
                      repeat (first | refine zc ?_ | refine zv ?_)
                      refine hcl [(10000, 10000)] [(10000, 10000)] q1 ?_
                      repeat (first | refine zc ?_ | refine zv ?_ | refine zg ?_)
                      refine hcl [(10000, 10000)] [(10000, 10000)] q3 ?_
                      repeat (first | refine zcr ?_ | refine zv ?_)
                      refine awp_perm _ rfl ?_
                      repeat (first | refine zc ?_ | refine zv ?_ | refine zg ?_)
                      refine loop_n (i + 1) (by omega) ?_ ?_ (by omega)
                      . exact zs
                      . rw [hsi]; simp only [List.map_append]; (as_aux_lemma => kernel_rfl)
                  . rw [if_neg d2] at hsi
                    repeat (first | refine zc ?_ | refine zv ?_)
                    refine hcl [(10000, 10000)] [(10000, 10000)] q1 ?_
                    repeat (first | refine zcr ?_ | refine zv ?_)
                    refine awp_perm _ rfl ?_
                    repeat (first | refine zc ?_ | refine zv ?_ | refine zg ?_)
                    refine loop_n (i + 1) (by omega) ?_ ?_ (by omega)
                    . exact zs
                    . rw [hsi]; simp only [List.map_append]; (as_aux_lemma => kernel_rfl)
            . have hiN : i = N.1.toNat := by omega
              subst hiN
              have ra : rws (r.1 ++ [(rwK code N.1 kd s5 N.1.toNat).1]) = rws r.1 ++ [(rwK code N.1 kd s5 N.1.toNat).1.map (.int .i64)] := by simp [rws]
              generalize rwK code N.1 kd s5 N.1.toNat = r2 at *
              repeat (first | refine zcr ?_ | refine zv ?_)
              refine awp_region ?_
              repeat (first | refine zcr ?_ | refine zv ?_)
              refine awp_region ?_
              repeat (first | refine zcr ?_ | refine zv ?_)
              refine awp_perm _ rfl ?_
              repeat (first | refine zc ?_ | refine zv ?_)
              refine loop_n (x + 1) (by omega) ?_ ?_ (by omega)
              . exact zs
              . rw [hst]; simp only []; rw [ra]; (as_aux_lemma => kernel_rfl)
        . have hxL : x = L.1.toNat := by omega
          subst hxL
          refine awp_freeze 200 rfl rfl ?_
          repeat (first | refine zc ?_ | refine zv ?_)
          (refine zb ?_; refine u_rH [(10000, 10000)] ?_ ?_)
          . rfl
          . rfl
end Go.Proofs.YtckpadnjldebaaaGreat
namespace Go.Proofs.YtckpadnjldebaaaGreat
open Go
attribute [local irreducible] awp awpL awpQL awpQ awpM pWalk Qt AC thenQ blockQ loopQ OpTo
set_option linter.unusedVariables false
set_option linter.unusedSimpArgs false
set_option maxHeartbeats 2000000
attribute [local irreducible] HC
theorem slT_el {n : Int} (hn : 2 <= n) : ((slT n n.toNat).length : Int) = n /\ ∀ v ∈ slT n n.toNat, 0 <= v /\ v < n := by
  refine ⟨by simp [slT]; omega, fun v hv => ?_⟩
  obtain ⟨y, _, rfl⟩ := List.mem_map.1 hv
  exact ⟨Int.emod_nonneg _ (by omega), Int.emod_lt_of_pos _ (by omega)⟩
theorem slY_el {n : Int} (hn : 2 <= n) : ((slY n n.toNat).length : Int) = n /\ ∀ v ∈ slY n n.toNat, 0 <= v /\ v < n := by
  refine ⟨by simp [slY]; omega, fun v hv => ?_⟩
  obtain ⟨y, _, rfl⟩ := List.mem_map.1 hv
  have := Int.emod_lt_of_pos (y : Int) (show 0 < n - 1 by omega)
  exact ⟨Int.emod_nonneg _ (by omega), by omega⟩
theorem laws_a2Long {a b : List Int} : AC Tryz.prog 18 [u8s a, u8s b] (.bool (decide (3000 < a.length) || decide (3000 < b.length))) := by
  have h1 : (a.map (D.int .u8)).length = a.length := by simp
  have h2 : (b.map (D.int .u8)).length = b.length := by simp
  unfold u8s
  by_cases c : (3000 : Int) < a.length
  . refine ac_intro tabIs _ Tryz.func18 rfl rfl Tryz.ntmps18 rfl rfl fun w0 ok0 he0 => ?_
    repeat (first | refine zc ?_ | refine zv ?_ | refine zg ?_)
    refine zt ?_
    have c' : 3000 < a.length := by omega
    simp [c']
  . refine ac_intro tabIs _ Tryz.func18 rfl rfl Tryz.ntmps18 rfl rfl fun w0 ok0 he0 => ?_
    repeat (first | refine zc ?_ | refine zv ?_ | refine zg ?_)
    refine zt ?_
    have c' : ¬ 3000 < a.length := by omega
    simp [c']; omega
def atV (b : List Int) (n : Int) : Int := if b.length = 0 then 0 else b.getD 0 0 % n
theorem atV_range {b : List Int} {n : Int} (hn : 1 <= n) : 0 <= atV b n /\ atV b n < n := by
  unfold atV
  split
  . omega
  . exact ⟨Int.emod_nonneg _ (by omega), Int.emod_lt_of_pos _ (by omega)⟩
theorem laws_a2At {b : List Int} {n : Int} (hb : BytesOk b) (hn : 1 <= n /\ n <= 1000000) : AC Tryz.prog 27 [u8s b, .int .i64 0, .int .i64 n] (.int .i64 (atV b n)) := by
  have h1 : (b.map (D.int .u8)).length = b.length := by simp
  have hr := byte_range (s := ⟨0, 0⟩) hb
  unfold atV
  by_cases c : b.length = 0
  . rw [if_pos c]
    have : b = [] := List.length_eq_zero_iff.1 c
    subst this
    unfold u8s
    refine ac_intro tabIs _ Tryz.func27 rfl rfl Tryz.ntmps27 rfl rfl fun w0 ok0 he0 => ?_
    repeat (first | refine zc ?_ | refine zv ?_ | refine zg ?_)
    refine zt ?_
    rfl
  . rw [if_neg c]
    have hp : 0 < b.length := by omega
    have hp2 : ¬ (0 : Int) ≥ ((b.map (D.int .u8)).length : Nat) := by omega
    have hp3 : ¬ b = [] := fun e => by subst e; simp at hp
    have hx : (b.map (D.int .u8))[(0 : Int).toNat]? = some (.int .u8 (b.getD 0 0)) := by
      cases b with
      | nil => simp at c
      | cons x b => rfl
    unfold byteAt at hr
    change 0 <= b.getD 0 0 /\ b.getD 0 0 <= 255 at hr
    generalize b.getD 0 0 = x at *
    unfold u8s
    refine ac_intro tabIs _ Tryz.func27 rfl rfl Tryz.ntmps27 rfl rfl fun w0 ok0 he0 => ?_
    repeat (first | refine zc ?_ | ((first | apply x_l | apply x_q | apply x_lr | apply x_qr); (focus (first | (apply qk_conv; (iterate 6 (focus (first | exact rfl | (first | assumption | omega | (simp; omega) | (simp; done) | rfl))))))); exact rfl) | (apply v_x; (iterate 2 exact rfl); (focus (intro ok0 nw hle; (first | (apply qk_conv; (iterate 6 (focus (first | exact rfl | (first | assumption | omega | (simp; omega) | (simp; done) | rfl)))))))); (iterate 2 exact rfl)) | refine zv ?_ | refine zg ?_)
    refine zt ?_
    rfl
end Go.Proofs.YtckpadnjldebaaaGreat
namespace Go.Proofs.YtckpadnjldebaaaGreat
open Go
attribute [local irreducible] awp awpL awpQL awpQ awpM pWalk Qt AC thenQ blockQ loopQ OpTo
set_option linter.unusedVariables false
set_option linter.unusedSimpArgs false
set_option maxHeartbeats 2000000
attribute [local irreducible] HC
end Go.Proofs.YtckpadnjldebaaaGreat
namespace Go.Proofs.YtckpadnjldebaaaGreat
open Go
attribute [local irreducible] awp awpL awpQL awpQ awpM pWalk Qt AC thenQ blockQ loopQ OpTo
set_option linter.unusedVariables false
set_option linter.unusedSimpArgs false
set_option maxHeartbeats 2000000
attribute [local irreducible] HC
end Go.Proofs.YtckpadnjldebaaaGreat
