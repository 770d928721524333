/- Draws of lit automata. No condition. -/
import Derived.Test.YtffmlijngfhhaaaGreatDoorKa
import Derived.Test.YtffmlijngfhhaaaGreatDoorOm
import Derived.Test.YtffmlijngfhhaaaGreatDoorFwX
namespace Go.Proofs.YtffmlijngfhhaaaGreatDoor
open Go
attribute [local irreducible] awp awpL awpQL awpQ awpM pWalk Qt AC thenQ blockQ loopQ OpTo
set_option linter.unusedVariables false
set_option linter.unusedSimpArgs false
set_option maxHeartbeats 2000000
attribute [local irreducible] HC
def slT (n : Int) (k : Nat) : List Int := (List.range k).map fun j : Nat => ((j : Int) + 1) % n
def slY (n : Int) (k : Nat) : List Int := (List.range k).map fun j : Nat => (j : Int) % (n - 1)
theorem slT_succ {n : Int} {k : Nat} : slT n (k + 1) = slT n k ++ [((k : Int) + 1) % n] := by simp [slT, List.range_succ]
theorem slY_succ {n : Int} {k : Nat} : slY n (k + 1) = slY n k ++ [(k : Int) % (n - 1)] := by simp [slY, List.range_succ]
theorem spec_l02Slow {n : Int} (hn : 2 <= n /\ n <= 100) : AC Tryz.prog 106 [.int .i64 n] (.agg [.int .i64 n, rows [slT n n.toNat, slY n n.toNat]]) := by
  refine ac_introC tabIs _ Tryz.func106 rfl rfl Tryz.ntmps106 rfl rfl fun w0 ok0 he0 => ?_
  repeat (first | refine v_w (t := 7) ?_ | refine v_w (t := 6) ?_ | refine zc ?_ | refine u_w (t := 6) ?_ | refine u_w (t := 7) ?_ | refine zv ?_)
  refine awp_loop (fun k : Nat => (k : Int) <= n) (fun k => [(0, .d (.int .i64 n)), (2, .ref 2 0), (3, .own 6), (4, .own 7), (5, .d (.int .i64 k))]) (fun k => [(7, .arr 2 1 ((slY n k).map (.int .i64))), (6, .arr 2 1 ((slT n k).map (.int .i64))), (2, .box [.d (.int .i64 0), .d .nils])]) (fun k => n.toNat - k) 0 (by omega) ?_ rfl ?_
  . exact zs
  . intro k hk
    have h1 : ((slY n k).map (D.int .i64)).length = k := by simp [slY]
    have h2 : ((slT n k).map (D.int .i64)).length = k := by simp [slT]
    have h3 : (slT n k).length = k := by simp [slT]
    have h4 : (slY n k).length = k := by simp [slY]
    have e1 := slT_succ (n := n) (k := k)
    have e2 := slY_succ (n := n) (k := k)
    by_cases hlt : (k : Int) < n
    . repeat (first | refine zc ?_ | refine zv ?_)
      refine loop_n (k + 1) (by omega) ?_ ?_ (by omega)
      . exact zs
      . rw [e1, e2]; simp only [List.map_append]; (as_aux_lemma => kernel_rfl)
    . have : k = n.toNat := by omega
      subst this
      refine awp_freeze 7 rfl rfl ?_
      refine awp_freeze 6 rfl rfl ?_
      repeat (first | refine zc ?_ | refine zv ?_)
      refine ztC ?_
      rfl
def rwK (code : List Int) (n kind : Int) (s : Src) : Nat -> List Int × Src
  | 0 => ([], s)
  | i + 1 =>
    let r := rwK code n kind s i
    let to_ := pickV code n r.2
    let s1 := pickS code n r.2
    if kind = 0 then (r.1 ++ [((i : Int) + 1) % n], s1)
    else if kind = 1 then (r.1 ++ [if pickV code 4 s1 = 0 then to_ else (i : Int)], pickS code 4 s1)
    else if kind = 2 then (r.1 ++ [if pickV code 3 s1 = 0 then to_ else n - 1 - i], pickS code 3 s1)
    else (r.1 ++ [to_], s1)
def rwsK (code : List Int) (n : Int) (s : Src) : Nat -> List (List Int) × Src
  | 0 => ([], s)
  | x + 1 =>
    let r := rwsK code n s x
    let e := rwK code n (pickV code 5 r.2) (pickS code 5 r.2) n.toNat
    (r.1 ++ [e.1], e.2)
theorem rwK_len {code : List Int} {n kind : Int} {s : Src} : ∀ i, (rwK code n kind s i).1.length = i
  | 0 => rfl
  | i + 1 => by
    have := rwK_len (code := code) (n := n) (kind := kind) (s := s) i
    unfold rwK
    dsimp only
    split
    . simp [this]
    . split
      . simp [this]
      . split <;> simp [this]
theorem rwK_el {code : List Int} {n kind : Int} {s : Src} (hb : BytesOk code) (hn : 1 <= n) : ∀ i : Nat, (i : Int) <= n -> ∀ v ∈ (rwK code n kind s i).1, 0 <= v /\ v < n
  | 0, _ => fun v h => by cases h
  | i + 1, hi => by
    have ih := rwK_el (kind := kind) (s := s) hb hn i (by omega)
    have hp := pick_range (s := (rwK code n kind s i).2) hb hn
    have key : ∀ x : Int, 0 <= x /\ x < n -> ∀ v ∈ (rwK code n kind s i).1 ++ [x], 0 <= v /\ v < n := fun x hx v hv => by
      rcases List.mem_append.1 hv with h | h
      . exact ih v h
      . simp only [List.mem_singleton] at h; subst h; exact hx
    unfold rwK
    dsimp only
    split
    . exact key _ ⟨Int.emod_nonneg _ (by omega), Int.emod_lt_of_pos _ (by omega)⟩
    . split
      . refine key _ ?_
        split
        . exact hp
        . omega
      . split
        . refine key _ ?_
          split
          . exact hp
          . omega
        . exact key _ hp
theorem rwK_ok {code : List Int} {n kind : Int} {s : Src} {k : Nat} (h : SOk s k) : ∀ i, SOk (rwK code n kind s i).2 (k + 4 * i)
  | 0 => h
  | i + 1 => by
    have ih := rwK_ok (code := code) (n := n) (kind := kind) h i
    have h1 := pick_ok (code := code) (n := n) ih
    have h2 := fun n => pick_ok (code := code) (n := n) h1
    unfold rwK
    dsimp only
    split
    . exact h1.mono (by omega)
    . split
      . refine SOk.mono (h2 4) ?_; omega
      . split
        . refine SOk.mono (h2 3) ?_; omega
        . exact h1.mono (by omega)
theorem rwsK_len {code : List Int} {n : Int} {s : Src} : ∀ x, (rwsK code n s x).1.length = x
  | 0 => rfl
  | x + 1 => by have := rwsK_len (code := code) (n := n) (s := s) x; simp [rwsK, this]
theorem rwsK_ok {code : List Int} {n : Int} {s : Src} {k : Nat} (h : SOk s k) (hn : n <= 10) : ∀ x, SOk (rwsK code n s x).2 (k + 42 * x)
  | 0 => h
  | x + 1 => (rwK_ok (pick_ok (rwsK_ok h hn x)) n.toNat).mono (by omega)
theorem rwsK_el {code : List Int} {n : Int} {s : Src} (hb : BytesOk code) (hn : 1 <= n) : ∀ x, Tbl n n (rwsK code n s x).1
  | 0 => fun ns h => by cases h
  | x + 1 => fun ns h => by
    rcases List.mem_append.1 h with h | h
    . exact rwsK_el hb hn x ns h
    . simp only [List.mem_singleton] at h
      subst h
      exact ⟨by rw [rwK_len]; omega, rwK_el hb hn _ (by omega)⟩
def dnN (code : List Int) (most : Int) (s : Src) : Int × Src :=
  let n0 := 1 + pickV code most s
  let s1 := pickS code most s
  if n0 < 3 then
    if pickV code 3 s1 = 0 then (n0, pickS code 3 s1)
    else (min most (3 + pickV code 3 (pickS code 3 s1)), pickS code 3 (pickS code 3 s1))
  else (n0, s1)
def dnL (code : List Int) (s : Src) : Int × Src :=
  let l0 := 1 + pickV code 3 s
  let s1 := pickS code 3 s
  if l0 = 1 then (if pickV code 3 s1 = 0 then 1 else 2, pickS code 3 s1) else (l0, s1)
theorem dnN_range {code : List Int} {most : Int} {s : Src} (hb : BytesOk code) (hm : 1 <= most) : 1 <= (dnN code most s).1 /\ (dnN code most s).1 <= most := by
  have h1 := pick_range (s := s) hb hm
  have h2 := pick_range (s := pickS code 3 (pickS code most s)) (n := 3) hb (by omega)
  unfold dnN
  dsimp only
  split
  . split
    . exact ⟨by dsimp only; omega, by dsimp only; omega⟩
    . exact ⟨by dsimp only; omega, by dsimp only; omega⟩
  . exact ⟨by dsimp only; omega, by dsimp only; omega⟩
theorem dnN_ok {code : List Int} {most : Int} {s : Src} {k : Nat} (h : SOk s k) : SOk (dnN code most s).2 (k + 6) := by
  have h1 := pick_ok (code := code) (n := most) h
  have h2 := fun n => pick_ok (code := code) (n := n) h1
  have h3 := fun n m => pick_ok (code := code) (n := m) (h2 n)
  unfold dnN
  dsimp only
  split
  . split
    . refine SOk.mono (h2 3) ?_; omega
    . refine SOk.mono (h3 3 3) ?_; omega
  . exact h1.mono (by omega)
theorem dnL_range {code : List Int} {s : Src} (hb : BytesOk code) : 1 <= (dnL code s).1 /\ (dnL code s).1 <= 3 := by
  have h1 := pick_range (s := s) (n := 3) hb (by omega)
  unfold dnL
  dsimp only
  split
  . dsimp only
    split <;> omega
  . exact ⟨by dsimp only; omega, by dsimp only; omega⟩
theorem dnL_ok {code : List Int} {s : Src} {k : Nat} (h : SOk s k) : SOk (dnL code s).2 (k + 4) := by
  have h1 := pick_ok (code := code) (n := 3) h
  have h2 := fun n => pick_ok (code := code) (n := n) h1
  unfold dnL
  dsimp only
  split
  . refine SOk.mono (h2 3) ?_; omega
  . exact h1.mono (by omega)
end Go.Proofs.YtffmlijngfhhaaaGreatDoor
namespace Go.Proofs.YtffmlijngfhhaaaGreatDoor
open Go
attribute [local irreducible] awp awpL awpQL awpQ awpM pWalk Qt AC thenQ blockQ loopQ OpTo
set_option linter.unusedVariables false
set_option linter.unusedSimpArgs false
set_option maxHeartbeats 2000000
attribute [local irreducible] HC
attribute [local semireducible] thenQ in
theorem awp_cut2 {cx : Cx} {x c y : Code} {s : Slots} {h : Heap} {Q : Exit -> Slots -> Heap -> Prop} (S1 : Slots) (H1 : Heap) (hx : awp cx x s h (thenQ cx c (fun e s' h' => match e with | .normal => Subs s' S1 /\ sortH h' = H1 | _ => False))) (hy : awp cx y S1 H1 Q) : awp cx x s h (thenQ cx c (thenQ cx y Q)) :=
  awp_mono hx fun e s' h' hq => by
    cases e with
    | normal =>
      have hq : awp cx c s' h' _ := hq
      refine awp_mono hq fun e s' h' hq => ?_
      cases e with
      | normal =>
        obtain ⟨h1, h2⟩ := hq
        exact awp_perm H1 h2 (awp_sub h1 hy)
      | _ => exact False.elim hq
    | _ => exact False.elim hq
theorem minL {a b : Int} : AC Tryz.prog 153 [.int .i64 a, .int .i64 b] (.int .i64 (min a b)) := by
  by_cases h : a < b
  . refine ac_intro tabIs _ Tryz.func153 rfl rfl Tryz.ntmps153 rfl rfl fun w0 ok0 he0 => ?_
    repeat (first | refine zc ?_ | refine zv ?_)
    refine zt ?_
    rw [Int.min_eq_left (by omega)]
  . refine ac_intro tabIs _ Tryz.func153 rfl rfl Tryz.ntmps153 rfl rfl fun w0 ok0 he0 => ?_
    repeat (first | refine zc ?_ | refine zv ?_)
    refine zt ?_
    rw [Int.min_eq_right (by omega)]
theorem spec_l01Drawn {code : List Int} {most : Int} {s : Src} {k : Nat} (hb : BytesOk code) (hm : 1 <= most /\ most <= 9) (h : SOk s k) (hk : k <= 999999000) :
    HC Tryz.prog 105 [.ref 10000 0, .d (.int .i64 most)] [(10000, srcB code s)] (.d (.agg [.int .i64 (dnN code most s).1, .lst ((rws (rwsK code (dnN code most s).1 (dnL code (dnN code most s).2).2 (dnL code (dnN code most s).2).1.toNat).1).map D.lst)]))
      [(10000, srcB code (rwsK code (dnN code most s).1 (dnL code (dnN code most s).2).2 (dnL code (dnN code most s).2).1.toNat).2)] := by
  have hP : ∀ (s : Src) (k : Nat) (n : Int), SOk s k -> k <= 999999990 -> n <= 1000 -> HC Tryz.prog 58 [.ref 10000 0, .d (.int .i64 n)] [(10000, srcB code s)] (.d (.int .i64 (pickV code n s))) [(10000, srcB code (pickS code n s))] := fun s k n a b c => spec_pick hb a b (by omega)
  have hQ : ∀ (s : Src) (k : Nat) (n : Int), SOk s k -> k <= 999999990 -> n <= 1000 -> HC Tryz.prog 51 [.ref 10000 0, .d (.int .i64 n)] [(10000, srcB code s)] (.d (.bool (decide (pickV code n s = 0)))) [(10000, srcB code (pickS code n s))] := fun s k n a b c => spec_one hb a b (by omega)
  have k1 := pick_ok (code := code) (n := most) h
  have k2 := pick_ok (code := code) (n := 3) k1
  have kN := dnN_ok (code := code) (most := most) h
  have hN := dnN_range (s := s) hb hm.1
  have hr0 := pick_range (s := s) (n := most) hb hm.1
  have hr1 := pick_range (s := pickS code 3 (pickS code most s)) (n := 3) hb (by omega)
  have hc1 := hP s k most h (by omega) (by omega)
  have hc2 := hQ _ _ 3 k1 (by omega) (by omega)
  have hc3 := hP _ _ 3 k2 (by omega) (by omega)
  have hNe : dnN code most s = if 1 + pickV code most s < 3 then (if pickV code 3 (pickS code most s) = 0 then (1 + pickV code most s, pickS code 3 (pickS code most s)) else (min most (3 + pickV code 3 (pickS code 3 (pickS code most s))), pickS code 3 (pickS code 3 (pickS code most s)))) else (1 + pickV code most s, pickS code most s) := rfl
  generalize dnN code most s = N at *
  unfold srcB at *
  refine hc_intro tabIs _ Tryz.func105 rfl rfl Tryz.ntmps105 rfl rfl rfl ?_ fun w0 ok0 XM XA anc he0 hX0 => ?_
  . exact likeIn_cons rfl rfl likeIn_nil
  repeat (first | refine zc ?_ | refine zv ?_)
  refine hcl [(10000, 10000)] [(10000, 10000)] hc1 ?_
  repeat (first | refine zcr ?_ | refine zv ?_)
  refine awp_cut2 [(0, .ref 10000 0), (4, .ref 4 0), (5, .d (.int .i64 N.1))] [(4, .box [.d (.int .i64 0), .d .nils]), (10000, .box [.d (u8s code), .d (.int .i64 N.2.pos), .d (.int .u64 N.2.sd)])] ?_ ?_
  . refine awp_region ?_
    by_cases c1 : 1 + pickV code most s < 3
    . rw [if_pos c1] at hNe
      by_cases c2 : pickV code 3 (pickS code most s) = 0
      . rw [if_pos c2] at hNe
        subst hNe
        repeat (first | refine zc ?_ | refine zv ?_ | refine zg ?_)
        refine hclG [(10000, 10000)] [(10000, 10000)] hc2 ?_
        repeat (first | refine zc ?_ | refine zv ?_ | refine zg ?_)
        exact ⟨by exact zs, rfl⟩
      . rw [if_neg c2] at hNe
        subst hNe
        repeat (first | refine zc ?_ | refine zv ?_ | refine zg ?_)
        refine hclG [(10000, 10000)] [(10000, 10000)] hc2 ?_
        repeat (first | refine zc ?_ | refine zv ?_ | refine zg ?_)
        refine hcl [(10000, 10000)] [(10000, 10000)] hc3 ?_
        repeat (first | refine zc ?_ | refine zk (e := by exact minL) (n := ?_) | refine zv ?_ | refine zg ?_)
        exact ⟨by exact zs, rfl⟩
    . rw [if_neg c1] at hNe
      subst hNe
      repeat (first | refine zc ?_ | refine zv ?_ | refine zg ?_)
      exact ⟨by exact zs, rfl⟩
  . have hL := dnL_range (s := N.2) hb
    have kL := dnL_ok (code := code) kN
    have l1 := pick_ok (code := code) (n := 3) kN
    have hq1 := hP _ _ 3 kN (by omega) (by omega)
    have hq2 := hQ _ _ 3 l1 (by omega) (by omega)
    have hrl := pick_range (s := N.2) (n := 3) hb (by omega)
    have hLe : dnL code N.2 = if 1 + pickV code 3 N.2 = 1 then (if pickV code 3 (pickS code 3 N.2) = 0 then 1 else 2, pickS code 3 (pickS code 3 N.2)) else (1 + pickV code 3 N.2, pickS code 3 N.2) := rfl
    generalize dnL code N.2 = L at *
    clear hc1 hc2 hc3 hNe
    repeat (first | refine zcr ?_ | refine zv ?_)
    refine awp_region ?_
    repeat (first | refine zc ?_ | refine zv ?_)
    refine hcl [(10000, 10000)] [(10000, 10000)] hq1 ?_
    repeat (first | refine zcr ?_ | refine zv ?_)
    refine awp_cut2 [(0, .ref 10000 0), (4, .ref 4 0), (5, .d (.int .i64 N.1)), (6, .d (.int .i64 L.1))] [(4, .box [.d (.int .i64 0), .d .nils]), (10000, .box [.d (u8s code), .d (.int .i64 L.2.pos), .d (.int .u64 L.2.sd)])] ?_ ?_
    . refine awp_region ?_
      by_cases c1 : 1 + pickV code 3 N.2 = 1
      . rw [if_pos c1] at hLe
        by_cases c2 : pickV code 3 (pickS code 3 N.2) = 0
        . rw [if_pos c2] at hLe
          subst hLe
          repeat (first | refine zc ?_ | refine zv ?_ | refine zg ?_)
          refine hclG [(10000, 10000)] [(10000, 10000)] hq2 ?_
          repeat (first | refine zc ?_ | refine zv ?_ | refine zg ?_)
          exact ⟨⟨rfl, rfl, rfl, congrArg (fun v : Int => SV.d (.int .i64 v)) c1, trivial⟩, rfl⟩
        . rw [if_neg c2] at hLe
          subst hLe
          repeat (first | refine zc ?_ | refine zv ?_ | refine zg ?_)
          refine hclG [(10000, 10000)] [(10000, 10000)] hq2 ?_
          repeat (first | refine zc ?_ | refine zv ?_ | refine zg ?_)
          exact ⟨by exact zs, rfl⟩
      . rw [if_neg c1] at hLe
        subst hLe
        repeat (first | refine zc ?_ | refine zv ?_ | refine zg ?_)
        exact ⟨by exact zs, rfl⟩
    . clear hLe hq1 hq2
      have hel := fun x => rwsK_el (s := L.2) hb hN.1 x
      have hok := fun x => rwsK_ok (code := code) kL (n := N.1) (by omega) x
      have hlen := fun x => rwsK_len (code := code) (n := N.1) (s := L.2) x
      repeat (first | refine zc ?_ | refine zv ?_)
      refine awp_nilCell 7 1 200 27 1 (by exact rfl) (by exact rfl) rfl rfl rfl ?_
      refine awp_toRows 200 2 1 rfl rfl rfl rfl ?_
      refine awp_perm _ rfl ?_
      refine awp_loop (fun x : Nat => (x : Int) <= L.1) (fun x => [(0, .ref 10000 0), (4, .ref 4 0), (5, .d (.int .i64 N.1)), (6, .d (.int .i64 L.1)), (7, .ref 7 0), (8, .d (.int .i64 x))])
        (fun x => [(4, .box [.d (.int .i64 0), .d .nils]), (7, .box [.d (.int .i64 N.1), .own 200]), (200, .rows 27 2 1 (rws (rwsK code N.1 L.2 x).1) none), (10000, .box [.d (u8s code), .d (.int .i64 (rwsK code N.1 L.2 x).2.pos), .d (.int .u64 (rwsK code N.1 L.2 x).2.sd)])]) (fun x => L.1.toNat - x) 0 (by omega) ?_ rfl ?_
      . exact zs
      . intro x hx
        have hrl1 := rws_length (rwsK code N.1 L.2 x).1
        have hlx := hlen x
        have hkx := hok x
        by_cases hlt : (x : Int) < L.1
        . have hst : rwsK code N.1 L.2 (x + 1) = ((rwsK code N.1 L.2 x).1 ++ [(rwK code N.1 (pickV code 5 (rwsK code N.1 L.2 x).2) (pickS code 5 (rwsK code N.1 L.2 x).2) N.1.toNat).1], (rwK code N.1 (pickV code 5 (rwsK code N.1 L.2 x).2) (pickS code 5 (rwsK code N.1 L.2 x).2) N.1.toNat).2) := rfl
          have hq := hP _ _ 5 hkx (by omega) (by omega)
          have hk5 := pick_ok (code := code) (n := 5) hkx
          generalize rwsK code N.1 L.2 x = r at *
          repeat (first | refine v_w (t := 46) ?_ | refine zc ?_ | refine u_w (t := 46) ?_ | refine zv ?_)
          refine hcl [(10000, 10000)] [(10000, 10000)] hq ?_
          repeat (first | refine zcr ?_ | refine zv ?_)
          have hko := fun i => rwK_ok (code := code) (n := N.1) (kind := pickV code 5 r.2) hk5 i
          have hkl := fun i => rwK_len (code := code) (n := N.1) (kind := pickV code 5 r.2) (s := pickS code 5 r.2) i
          generalize pickV code 5 r.2 = kd at *
          generalize pickS code 5 r.2 = s5 at *
          refine awp_sub (s' := [(0, .ref 10000 0), (4, .ref 4 0), (5, .d (.int .i64 N.1)), (6, .d (.int .i64 L.1)), (7, .ref 7 0), (8, .d (.int .i64 x)), (9, .own 46), (10, .d (.int .i64 kd))]) (by exact zs) ?_
          refine awp_permTo [(46, .arr 2 1 []), (4, .box [.d (.int .i64 0), .d .nils]), (7, .box [.d (.int .i64 N.1), .own 200]), (200, .rows 27 2 1 (rws r.1) none), (10000, .box [.d (u8s code), .d (.int .i64 s5.pos), .d (.int .u64 s5.sd)])] rfl ?_
          repeat (first | refine zc ?_ | refine zv ?_)
          refine awp_loop (fun i : Nat => (i : Int) <= N.1) (fun i => [(0, .ref 10000 0), (4, .ref 4 0), (5, .d (.int .i64 N.1)), (6, .d (.int .i64 L.1)), (7, .ref 7 0), (8, .d (.int .i64 x)), (9, .own 46), (10, .d (.int .i64 kd)), (11, .d (.int .i64 i))])
            (fun i => [(46, .arr 2 1 ((rwK code N.1 kd s5 i).1.map (.int .i64))), (4, .box [.d (.int .i64 0), .d .nils]), (7, .box [.d (.int .i64 N.1), .own 200]), (200, .rows 27 2 1 (rws r.1) none), (10000, .box [.d (u8s code), .d (.int .i64 (rwK code N.1 kd s5 i).2.pos), .d (.int .u64 (rwK code N.1 kd s5 i).2.sd)])]) (fun i => N.1.toNat - i) 0 (by omega) ?_ rfl ?_
          . exact zs
          . intro i hi
            have hko1 := hko i
            have hkl1 := hkl i
            have hm1 : ((rwK code N.1 kd s5 i).1.map (D.int .i64)).length = i := by simp [hkl1]
            by_cases hil : (i : Int) < N.1
            . have hsi : rwK code N.1 kd s5 (i + 1) = if kd = 0 then ((rwK code N.1 kd s5 i).1 ++ [((i : Int) + 1) % N.1], pickS code N.1 (rwK code N.1 kd s5 i).2) else if kd = 1 then ((rwK code N.1 kd s5 i).1 ++ [if pickV code 4 (pickS code N.1 (rwK code N.1 kd s5 i).2) = 0 then pickV code N.1 (rwK code N.1 kd s5 i).2 else (i : Int)], pickS code 4 (pickS code N.1 (rwK code N.1 kd s5 i).2))
                else if kd = 2 then ((rwK code N.1 kd s5 i).1 ++ [if pickV code 3 (pickS code N.1 (rwK code N.1 kd s5 i).2) = 0 then pickV code N.1 (rwK code N.1 kd s5 i).2 else N.1 - 1 - i], pickS code 3 (pickS code N.1 (rwK code N.1 kd s5 i).2)) else ((rwK code N.1 kd s5 i).1 ++ [pickV code N.1 (rwK code N.1 kd s5 i).2], pickS code N.1 (rwK code N.1 kd s5 i).2) := rfl
              have q1 := hP _ _ N.1 hko1 (by omega) (by omega)
              have hk2 := pick_ok (code := code) (n := N.1) hko1
              have q4 := hQ _ _ 4 hk2 (by omega) (by omega)
              have q3 := hQ _ _ 3 hk2 (by omega) (by omega)
              generalize rwK code N.1 kd s5 i = r2 at *
              by_cases d0 : kd = 0
              . rw [if_pos d0] at hsi
                repeat (first | refine zc ?_ | refine zv ?_)
                refine hcl [(10000, 10000)] [(10000, 10000)] q1 ?_
                repeat (first | refine zcr ?_ | refine zv ?_)
                refine awp_perm _ rfl ?_
                repeat (first | refine zc ?_ | refine zv ?_ | refine zg ?_)
                refine loop_n (i + 1) (by omega) ?_ ?_ (by omega)
                . exact zs
                . rw [hsi]; simp only [List.map_append]; (as_aux_lemma => kernel_rfl)
              . rw [if_neg d0] at hsi
                by_cases d1 : kd = 1
                . rw [if_pos d1] at hsi
                  by_cases d4 : pickV code 4 (pickS code N.1 r2.2) = 0
                  . rw [if_pos d4] at hsi
                    repeat (first | refine zc ?_ | refine zv ?_)
                    refine hcl [(10000, 10000)] [(10000, 10000)] q1 ?_
                    repeat (first | refine zc ?_ | refine zv ?_ | refine zg ?_)
                    refine hcl [(10000, 10000)] [(10000, 10000)] q4 ?_
                    repeat (first | refine zcr ?_ | refine zv ?_)
                    refine awp_perm _ rfl ?_
                    repeat (first | refine zc ?_ | refine zv ?_ | refine zg ?_)
                    refine loop_n (i + 1) (by omega) ?_ ?_ (by omega)
                    . exact zs
                    . rw [hsi]; simp only [List.map_append]; (as_aux_lemma => kernel_rfl)
                  . rw [if_neg d4] at hsi
                    repeat (first | refine zc ?_ | refine zv ?_)
                    refine hcl [(10000, 10000)] [(10000, 10000)] q1 ?_
                    repeat (first | refine zc ?_ | refine zv ?_ | refine zg ?_)
                    refine hcl [(10000, 10000)] [(10000, 10000)] q4 ?_
                    repeat (first | refine zcr ?_ | refine zv ?_)
                    refine awp_perm _ rfl ?_
                    repeat (first | refine zc ?_ | refine zv ?_ | refine zg ?_)
                    refine loop_n (i + 1) (by omega) ?_ ?_ (by omega)
                    . exact zs
                    . rw [hsi]; simp only [List.map_append]; (as_aux_lemma => kernel_rfl)
                . rw [if_neg d1] at hsi
                  by_cases d2 : kd = 2
                  . rw [if_pos d2] at hsi
                    by_cases d4 : pickV code 3 (pickS code N.1 r2.2) = 0
                    . rw [if_pos d4] at hsi
                      repeat (first | refine zc ?_ | refine zv ?_)
                      refine hcl [(10000, 10000)] [(10000, 10000)] q1 ?_
                      repeat (first | refine zc ?_ | refine zv ?_ | refine zg ?_)
                      refine hcl [(10000, 10000)] [(10000, 10000)] q3 ?_
                      repeat (first | refine zcr ?_ | refine zv ?_)
                      refine awp_perm _ rfl ?_
                      repeat (first | refine zc ?_ | refine zv ?_ | refine zg ?_)
                      refine loop_n (i + 1) (by omega) ?_ ?_ (by omega)
                      . exact zs
                      . rw [hsi]; simp only [List.map_append]; (as_aux_lemma => kernel_rfl)
                    . rw [if_neg d4] at hsi
                      repeat (first | refine zc ?_ | refine zv ?_)
                      refine hcl [(10000, 10000)] [(10000, 10000)] q1 ?_
                      repeat (first | refine zc ?_ | refine zv ?_ | refine zg ?_)
                      refine hcl [(10000, 10000)] [(10000, 10000)] q3 ?_
                      repeat (first | refine zcr ?_ | refine zv ?_)
                      refine awp_perm _ rfl ?_
                      repeat (first | refine zc ?_ | refine zv ?_ | refine zg ?_)
                      refine loop_n (i + 1) (by omega) ?_ ?_ (by omega)
                      . exact zs
                      . rw [hsi]; simp only [List.map_append]; (as_aux_lemma => kernel_rfl)
                  . rw [if_neg d2] at hsi
                    repeat (first | refine zc ?_ | refine zv ?_)
                    refine hcl [(10000, 10000)] [(10000, 10000)] q1 ?_
                    repeat (first | refine zcr ?_ | refine zv ?_)
                    refine awp_perm _ rfl ?_
                    repeat (first | refine zc ?_ | refine zv ?_ | refine zg ?_)
                    refine loop_n (i + 1) (by omega) ?_ ?_ (by omega)
                    . exact zs
                    . rw [hsi]; simp only [List.map_append]; (as_aux_lemma => kernel_rfl)
            . have hiN : i = N.1.toNat := by omega
              subst hiN
              have ra : rws (r.1 ++ [(rwK code N.1 kd s5 N.1.toNat).1]) = rws r.1 ++ [(rwK code N.1 kd s5 N.1.toNat).1.map (.int .i64)] := by simp [rws]
              generalize rwK code N.1 kd s5 N.1.toNat = r2 at *
              repeat (first | refine zcr ?_ | refine zv ?_)
              refine awp_region ?_
              repeat (first | refine zcr ?_ | refine zv ?_)
              refine awp_region ?_
              repeat (first | refine zcr ?_ | refine zv ?_)
              refine awp_perm _ rfl ?_
              repeat (first | refine zc ?_ | refine zv ?_)
              refine loop_n (x + 1) (by omega) ?_ ?_ (by omega)
              . exact zs
              . rw [hst]; simp only []; rw [ra]; (as_aux_lemma => kernel_rfl)
        . have hxL : x = L.1.toNat := by omega
          subst hxL
          refine awp_freeze 200 rfl rfl ?_
          repeat (first | refine zc ?_ | refine zv ?_)
          (refine zb ?_; refine u_rH [(10000, 10000)] ?_ ?_)
          . rfl
          . rfl
end Go.Proofs.YtffmlijngfhhaaaGreatDoor
namespace Go.Proofs.YtffmlijngfhhaaaGreatDoor
open Go
attribute [local irreducible] awp awpL awpQL awpQ awpM pWalk Qt AC thenQ blockQ loopQ OpTo
set_option linter.unusedVariables false
set_option linter.unusedSimpArgs false
set_option maxHeartbeats 2000000
attribute [local irreducible] HC
def lpK (code : List Int) (lm : Int) (s : Src) : Nat -> List Int × Src
  | 0 => ([], s)
  | i + 1 => ((lpK code lm s i).1 ++ [pickV code lm (lpK code lm s i).2], pickS code lm (lpK code lm s i).2)
theorem lpK_len {code : List Int} {lm : Int} {s : Src} : ∀ i, (lpK code lm s i).1.length = i
  | 0 => rfl
  | i + 1 => by have := lpK_len (code := code) (lm := lm) (s := s) i; simp [lpK, this]
theorem lpK_ok {code : List Int} {lm : Int} {s : Src} {k : Nat} (h : SOk s k) : ∀ i, SOk (lpK code lm s i).2 (k + 2 * i)
  | 0 => h
  | i + 1 => (pick_ok (lpK_ok h i)).mono (by omega)
theorem lpK_el {code : List Int} {lm : Int} {s : Src} (hb : BytesOk code) (hl : 1 <= lm) : ∀ i, ∀ v ∈ (lpK code lm s i).1, 0 <= v /\ v < lm
  | 0 => fun v h => by cases h
  | i + 1 => fun v h => by
    rcases List.mem_append.1 h with h | h
    . exact lpK_el hb hl i v h
    . simp only [List.mem_singleton] at h; subst h; exact pick_range hb hl
def drR (code : List Int) (s : Src) : List (List Int) × Src := rwsK code (dnN code 5 s).1 (dnL code (dnN code 5 s).2).2 (dnL code (dnN code 5 s).2).1.toNat
def drA (code : List Int) (s : Src) : Int × List (List Int) × Src :=
  if pickV code 4 (drR code s).2 = 0 then
    (2 + pickV code 4 (pickS code 4 (drR code s).2), [slT (2 + pickV code 4 (pickS code 4 (drR code s).2)) (2 + pickV code 4 (pickS code 4 (drR code s).2)).toNat, slY (2 + pickV code 4 (pickS code 4 (drR code s).2)) (2 + pickV code 4 (pickS code 4 (drR code s).2)).toNat], pickS code 4 (pickS code 4 (drR code s).2))
  else ((dnN code 5 s).1, (drR code s).1, pickS code 4 (drR code s).2)
def drLm (code : List Int) (s : Src) : Int := 1 + pickV code 3 (drA code s).2.2
def drP (code : List Int) (s : Src) : List Int × Src := lpK code (drLm code s) (pickS code 3 (drA code s).2.2) (drA code s).1.toNat
theorem slT_el {n : Int} (hn : 2 <= n) : ((slT n n.toNat).length : Int) = n /\ ∀ v ∈ slT n n.toNat, 0 <= v /\ v < n := by
  refine ⟨by simp [slT]; omega, fun v hv => ?_⟩
  obtain ⟨y, _, rfl⟩ := List.mem_map.1 hv
  exact ⟨Int.emod_nonneg _ (by omega), Int.emod_lt_of_pos _ (by omega)⟩
theorem slY_el {n : Int} (hn : 2 <= n) : ((slY n n.toNat).length : Int) = n /\ ∀ v ∈ slY n n.toNat, 0 <= v /\ v < n := by
  refine ⟨by simp [slY]; omega, fun v hv => ?_⟩
  obtain ⟨y, _, rfl⟩ := List.mem_map.1 hv
  have := Int.emod_lt_of_pos (y : Int) (show 0 < n - 1 by omega)
  exact ⟨Int.emod_nonneg _ (by omega), by omega⟩
theorem drA_ok {code : List Int} {s : Src} (hb : BytesOk code) : (1 <= (drA code s).1 /\ (drA code s).1 <= 5) /\ (1 <= (drA code s).2.1.length /\ (drA code s).2.1.length <= 3) /\ Tbl (drA code s).1 (drA code s).1 (drA code s).2.1 := by
  have hN := dnN_range (s := s) (most := 5) hb (by omega)
  have hL := dnL_range (s := (dnN code 5 s).2) hb
  have hp := pick_range (s := pickS code 4 (drR code s).2) (n := 4) hb (by omega)
  unfold drA
  split
  . dsimp only
    have hn : 2 <= 2 + pickV code 4 (pickS code 4 (drR code s).2) /\ 2 + pickV code 4 (pickS code 4 (drR code s).2) <= 5 := by omega
    generalize 2 + pickV code 4 (pickS code 4 (drR code s).2) = n at *
    refine ⟨by omega, by simp, fun ns h => ?_⟩
    simp at h
    rcases h with rfl | rfl
    . exact slT_el hn.1
    . exact slY_el hn.1
  . refine ⟨hN, ?_, ?_⟩
    . show 1 <= (drR code s).1.length /\ (drR code s).1.length <= 3
      unfold drR
      rw [rwsK_len]
      omega
    . exact rwsK_el hb hN.1 _
theorem drA_src {code : List Int} {s : Src} {k : Nat} (hb : BytesOk code) (h : SOk s k) : SOk (drA code s).2.2 (k + 200) := by
  have hN := dnN_range (s := s) (most := 5) hb (by omega)
  have hL := dnL_range (s := (dnN code 5 s).2) hb
  have h1 := rwsK_ok (code := code) (dnL_ok (code := code) (dnN_ok (code := code) (most := 5) h)) (n := (dnN code 5 s).1) (by omega) (dnL code (dnN code 5 s).2).1.toNat
  have h2 := pick_ok (code := code) (n := 4) h1
  have h3 := pick_ok (code := code) (n := 4) h2
  unfold drA
  split
  . refine SOk.mono h3 ?_; omega
  . refine SOk.mono h2 ?_; omega
theorem spec_l08Drawn {code : List Int} {s : Src} {k : Nat} (hb : BytesOk code) (h : SOk s k) (hk : k <= 999990000) :
    HC Tryz.prog 37 [.ref 10000 0] [(10000, srcB code s)] (.agg [.d (.int .i64 (drA code s).1), .d (rows (drA code s).2.1), .own 30000]) [(10000, srcB code (drP code s).2), (30000, .arr 2 1 ((drP code s).1.map (.int .i64)))] := by
  have hP : ∀ (s : Src) (k : Nat) (n : Int), SOk s k -> k <= 999999990 -> n <= 1000 -> HC Tryz.prog 58 [.ref 10000 0, .d (.int .i64 n)] [(10000, srcB code s)] (.d (.int .i64 (pickV code n s))) [(10000, srcB code (pickS code n s))] := fun s k n a b c => spec_pick hb a b (by omega)
  have hQ : ∀ (s : Src) (k : Nat) (n : Int), SOk s k -> k <= 999999990 -> n <= 1000 -> HC Tryz.prog 51 [.ref 10000 0, .d (.int .i64 n)] [(10000, srcB code s)] (.d (.bool (decide (pickV code n s = 0)))) [(10000, srcB code (pickS code n s))] := fun s k n a b c => spec_one hb a b (by omega)
  have hN := dnN_range (s := s) (most := 5) hb (by omega)
  have hL := dnL_range (s := (dnN code 5 s).2) hb
  have h1 := rwsK_ok (code := code) (dnL_ok (code := code) (dnN_ok (code := code) (most := 5) h)) (n := (dnN code 5 s).1) (by omega) (dnL code (dnN code 5 s).2).1.toNat
  have h2 := pick_ok (code := code) (n := 4) h1
  have hc1 := spec_l01Drawn (most := 5) hb (by omega) h (by omega)
  have hAs := drA_src hb h
  have hAo := drA_ok (s := s) hb
  have hc2 := hQ _ _ 4 h1 (by omega) (by omega)
  have hc3 := hP _ _ 4 h2 (by omega) (by omega)
  have hp4 := pick_range (s := pickS code 4 (drR code s).2) (n := 4) hb (by omega)
  have hAe : drA code s = if pickV code 4 (drR code s).2 = 0 then (2 + pickV code 4 (pickS code 4 (drR code s).2), [slT (2 + pickV code 4 (pickS code 4 (drR code s).2)) (2 + pickV code 4 (pickS code 4 (drR code s).2)).toNat, slY (2 + pickV code 4 (pickS code 4 (drR code s).2)) (2 + pickV code 4 (pickS code 4 (drR code s).2)).toNat], pickS code 4 (pickS code 4 (drR code s).2))
    else ((dnN code 5 s).1, (drR code s).1, pickS code 4 (drR code s).2) := rfl
  have e5 := spec_l02Slow (n := 2 + pickV code 4 (pickS code 4 (drR code s).2)) (by omega)
  unfold drP drLm
  rw [rws_dat] at hc1
  rw [show rwsK code (dnN code 5 s).1 (dnL code (dnN code 5 s).2).2 (dnL code (dnN code 5 s).2).1.toNat = drR code s from rfl] at hc1 h1 h2 hc2 hc3
  generalize drA code s = A at *
  generalize drR code s = R at *
  generalize (dnN code 5 s).1 = N at *
  unfold srcB at *
  refine hc_intro tabIs _ Tryz.func37 rfl rfl Tryz.ntmps37 rfl rfl rfl ?_ fun w0 ok0 XM XA anc he0 hX0 => ?_
  . exact likeIn_cons rfl rfl likeIn_nil
  repeat (first | refine zc ?_ | refine zv ?_)
  refine hcl [(10000, 10000)] [(10000, 10000)] hc1 ?_
  repeat (first | refine zcr ?_ | refine zv ?_)
  refine awp_cut2 [(0, .ref 10000 0), (2, .ref 2 0), (3, .ref 3 0)] [(2, .box [.d (.int .i64 0), .d .nils, .d .nils]), (3, .box [.d (.int .i64 A.1), .d (rows A.2.1), .d .nils]), (10000, .box [.d (u8s code), .d (.int .i64 A.2.2.pos), .d (.int .u64 A.2.2.sd)])] ?_ ?_
  . refine awp_region ?_
    by_cases c1 : pickV code 4 R.2 = 0
    . rw [if_pos c1] at hAe
      subst hAe
      repeat (first | refine zc ?_ | refine zv ?_)
      refine hcl [(10000, 10000)] [(10000, 10000)] hc2 ?_
      repeat (first | refine zc ?_ | refine zv ?_ | refine zg ?_)
      refine hcl [(10000, 10000)] [(10000, 10000)] hc3 ?_
      repeat (first | refine zc ?_ | refine zk (e := by exact e5) (n := ?_) | refine zv ?_)
      exact ⟨by exact zs, rfl⟩
    . rw [if_neg c1] at hAe
      subst hAe
      repeat (first | refine zc ?_ | refine zv ?_)
      refine hcl [(10000, 10000)] [(10000, 10000)] hc2 ?_
      repeat (first | refine zc ?_ | refine zv ?_ | refine zg ?_)
      exact ⟨by exact zs, rfl⟩
  . have hrl := pick_range (s := A.2.2) (n := 3) hb (by omega)
    have hq1 := hP _ _ 3 hAs (by omega) (by omega)
    have hk3 := pick_ok (code := code) (n := 3) hAs
    have hok := fun i => lpK_ok (code := code) (lm := 1 + pickV code 3 A.2.2) hk3 i
    have hlen := fun i => lpK_len (code := code) (lm := 1 + pickV code 3 A.2.2) (s := pickS code 3 A.2.2) i
    clear hc1 hc2 hc3 hAe e5
    repeat (first | refine zc ?_ | refine zv ?_)
    refine hcl [(10000, 10000)] [(10000, 10000)] hq1 ?_
    repeat (first | refine zcr ?_ | refine zv ?_)
    have hlm : 1 <= 1 + pickV code 3 A.2.2 /\ 1 + pickV code 3 A.2.2 <= 3 := by omega
    generalize 1 + pickV code 3 A.2.2 = lm at *
    generalize pickS code 3 A.2.2 = s3 at *
    refine awp_sub (s' := [(0, .ref 10000 0), (2, .ref 2 0), (3, .ref 3 0), (4, .d (.int .i64 lm))]) (by exact zs) ?_
    refine awp_nilCell 3 2 201 2 1 (by exact rfl) (by exact rfl) rfl rfl rfl ?_
    refine awp_permTo [(2, .box [.d (.int .i64 0), .d .nils, .d .nils]), (3, .box [.d (.int .i64 A.1), .d (rows A.2.1), .own 201]), (201, .arr 2 1 []), (10000, .box [.d (u8s code), .d (.int .i64 s3.pos), .d (.int .u64 s3.sd)])] rfl ?_
    repeat (first | refine zc ?_ | refine zv ?_)
    refine awp_loop (fun i : Nat => (i : Int) <= A.1) (fun i => [(0, .ref 10000 0), (2, .ref 2 0), (3, .ref 3 0), (4, .d (.int .i64 lm)), (5, .d (.int .i64 i))])
      (fun i => [(2, .box [.d (.int .i64 0), .d .nils, .d .nils]), (3, .box [.d (.int .i64 A.1), .d (rows A.2.1), .own 201]), (201, .arr 2 1 ((lpK code lm s3 i).1.map (.int .i64))), (10000, .box [.d (u8s code), .d (.int .i64 (lpK code lm s3 i).2.pos), .d (.int .u64 (lpK code lm s3 i).2.sd)])]) (fun i => A.1.toNat - i) 0 (by omega) ?_ rfl ?_
    . exact zs
    . intro i hi
      have hoi := hok i
      have hli := hlen i
      have hm1 : ((lpK code lm s3 i).1.map (D.int .i64)).length = i := by simp [hli]
      by_cases hlt : (i : Int) < A.1
      . have hst : lpK code lm s3 (i + 1) = ((lpK code lm s3 i).1 ++ [pickV code lm (lpK code lm s3 i).2], pickS code lm (lpK code lm s3 i).2) := rfl
        have q1 := hP _ _ lm hoi (by omega) (by omega)
        generalize lpK code lm s3 i = r at *
        repeat (first | refine zcn ?_ | refine zv ?_)
        refine u_mJ [(4, [10000]), (6, [201]), (8, [3])] (.tk [10000] [0, 1] (.tk [] [2, 3, 4, 5, 6] (.tk [10000, 201] [7] (.tk [] [8] .done))))
          [(0, .ref 10000 0), (2, .ref 2 0), (3, .ref 3 0), (4, .d (.int .i64 lm)), (5, .d (.int .i64 i))]
          [(2, .box [.d (.int .i64 0), .d .nils, .d .nils]), (3, .box [.d (.int .i64 A.1), .d (rows A.2.1), .own 201]), (201, .arr 2 1 (r.1.map (.int .i64) ++ [.int .i64 (pickV code lm r.2)])), (10000, .box [.d (u8s code), .d (.int .i64 (pickS code lm r.2).pos), .d (.int .u64 (pickS code lm r.2).sd)])] ?_ ?_
        . repeat (first | refine zc ?_ | refine zv ?_)
          refine hclM [(10000, 10000)] [(10000, 10000)] q1 ?_
          repeat (first | refine zc ?_ | refine zv ?_)
          exact ⟨by exact zs, perm_of_sort rfl⟩
        . repeat (first | refine zc ?_ | refine zv ?_)
          refine loop_n (i + 1) (by omega) ?_ ?_ (by omega)
          . exact zs
          . rw [hst]; simp only [List.map_append]; (as_aux_lemma => kernel_rfl)
      . have hiA : i = A.1.toNat := by omega
        subst hiA
        repeat (first | refine zc ?_ | refine zv ?_)
        (refine zb ?_; refine u_rH [(10000, 10000), (201, 30000)] ?_ ?_)
        . rfl
        . rfl
theorem spec_A2Lit {code : List Int} (hb : BytesOk code) : AC Tryz.prog 8 [u8s code] (ltD (drA code ⟨0, 0⟩).1 (drA code ⟨0, 0⟩).2.1 (drP code ⟨0, 0⟩).1) := by
  have c0 := spec_From (code := code)
  have c1 := spec_l08Drawn (s := ⟨0, 0⟩) (k := 0) hb ⟨Nat.le_refl _, by simp⟩ (by omega)
  generalize drA code ⟨0, 0⟩ = A at *
  generalize drP code ⟨0, 0⟩ = P at *
  unfold ltD srcB at *
  refine ac_introC tabIs _ Tryz.func8 rfl rfl Tryz.ntmps8 rfl rfl fun w0 ok0 he0 => ?_
  repeat (first | refine zc ?_ | refine zv ?_)
  refine hcl [] [(30000, 100)] c0 ?_
  repeat (first | refine zc ?_ | refine zv ?_)
  refine hcl [(100, 10000)] [(10000, 100), (30000, 201)] c1 ?_
  refine awpL_freeze 201 rfl rfl ?_
  repeat (first | refine zc ?_ | refine zv ?_)
  refine ztC ?_
  rfl
theorem drawn_ok {code : List Int} (hb : BytesOk code) : litOk (drA code ⟨0, 0⟩).1 (drA code ⟨0, 0⟩).2.1 (drP code ⟨0, 0⟩).1 = true := by
  obtain ⟨h1, h2, h3⟩ := drA_ok (s := ⟨0, 0⟩) hb
  have hr := pick_range (s := (drA code ⟨0, 0⟩).2.2) (n := 3) hb (by omega)
  have hl := lpK_len (code := code) (lm := drLm code ⟨0, 0⟩) (s := pickS code 3 (drA code ⟨0, 0⟩).2.2) (drA code ⟨0, 0⟩).1.toNat
  have he := lpK_el (code := code) (lm := drLm code ⟨0, 0⟩) (s := pickS code 3 (drA code ⟨0, 0⟩).2.2) hb (by unfold drLm; omega) (drA code ⟨0, 0⟩).1.toNat
  have hlm : drLm code ⟨0, 0⟩ <= 3 := by unfold drLm; omega
  unfold drP
  generalize drA code ⟨0, 0⟩ = A at *
  generalize lpK code (drLm code ⟨0, 0⟩) (pickS code 3 A.2.2) A.1.toNat = P at *
  simp only [litOk, autoOk, allIn, inB, rowOk, Bool.and_eq_true, List.all_eq_true, decide_eq_true_eq]
  refine ⟨⟨⟨by omega, by omega⟩, fun ns hn => ⟨(h3 ns hn).1, fun v hv => ?_⟩⟩, by omega, fun v hv => ?_⟩
  . have := (h3 ns hn).2 v hv; omega
  . have := he v hv; omega
theorem laws_a2Long {a b : List Int} : AC Tryz.prog 7 [u8s a, u8s b] (.bool (decide (3000 < a.length) || decide (3000 < b.length))) := by
  have h1 : (a.map (D.int .u8)).length = a.length := by simp
  have h2 : (b.map (D.int .u8)).length = b.length := by simp
  unfold u8s
  by_cases c : (3000 : Int) < a.length
  . refine ac_intro tabIs _ Tryz.func7 rfl rfl Tryz.ntmps7 rfl rfl fun w0 ok0 he0 => ?_
    repeat (first | refine zc ?_ | refine zv ?_ | refine zg ?_)
    refine zt ?_
    have c' : 3000 < a.length := by omega
    simp [c']
  . refine ac_intro tabIs _ Tryz.func7 rfl rfl Tryz.ntmps7 rfl rfl fun w0 ok0 he0 => ?_
    repeat (first | refine zc ?_ | refine zv ?_ | refine zg ?_)
    refine zt ?_
    have c' : ¬ 3000 < a.length := by omega
    simp [c']; omega
def atV (b : List Int) (n : Int) : Int := if b.length = 0 then 0 else b.getD 0 0 % n
theorem atV_range {b : List Int} {n : Int} (hn : 1 <= n) : 0 <= atV b n /\ atV b n < n := by
  unfold atV
  split
  . omega
  . exact ⟨Int.emod_nonneg _ (by omega), Int.emod_lt_of_pos _ (by omega)⟩
theorem laws_a2At {b : List Int} {n : Int} (hb : BytesOk b) (hn : 1 <= n /\ n <= 1000) : AC Tryz.prog 9 [u8s b, .int .i64 0, .int .i64 n] (.int .i64 (atV b n)) := by
  have h1 : (b.map (D.int .u8)).length = b.length := by simp
  have hr := byte_range (s := ⟨0, 0⟩) hb
  unfold atV
  by_cases c : b.length = 0
  . rw [if_pos c]
    have : b = [] := List.length_eq_zero_iff.1 c
    subst this
    unfold u8s
    refine ac_intro tabIs _ Tryz.func9 rfl rfl Tryz.ntmps9 rfl rfl fun w0 ok0 he0 => ?_
    repeat (first | refine zc ?_ | refine zv ?_ | refine zg ?_)
    refine zt ?_
    rfl
  . rw [if_neg c]
    have hp : 0 < b.length := by omega
    have hp2 : ¬ (0 : Int) ≥ ((b.map (D.int .u8)).length : Nat) := by omega
    have hp3 : ¬ b = [] := fun e => by subst e; simp at hp
    have hx : (b.map (D.int .u8))[(0 : Int).toNat]? = some (.int .u8 (b.getD 0 0)) := by
      cases b with
      | nil => simp at c
      | cons x b => rfl
    unfold byteAt at hr
    change 0 <= b.getD 0 0 /\ b.getD 0 0 <= 255 at hr
    generalize b.getD 0 0 = x at *
    unfold u8s
    refine ac_intro tabIs _ Tryz.func9 rfl rfl Tryz.ntmps9 rfl rfl fun w0 ok0 he0 => ?_
    repeat (first | refine zc ?_ | ((first | apply x_l | apply x_q | apply x_lr | apply x_qr); (focus (first | (apply qk_conv; (iterate 6 (focus (first | exact rfl | (first | assumption | omega | (simp; omega) | (simp; done) | rfl))))))); exact rfl) | (apply v_x; (iterate 2 exact rfl); (focus (intro ok0 nw hle; (first | (apply qk_conv; (iterate 6 (focus (first | exact rfl | (first | assumption | omega | (simp; omega) | (simp; done) | rfl)))))))); (iterate 2 exact rfl)) | refine zv ?_ | refine zg ?_)
    refine zt ?_
    rfl
end Go.Proofs.YtffmlijngfhhaaaGreatDoor
namespace Go.Proofs.YtffmlijngfhhaaaGreatDoor
open Go
attribute [local irreducible] awp awpL awpQL awpQ awpM pWalk Qt AC thenQ blockQ loopQ OpTo
set_option linter.unusedVariables false
set_option linter.unusedSimpArgs false
set_option maxHeartbeats 2000000
attribute [local irreducible] HC
end Go.Proofs.YtffmlijngfhhaaaGreatDoor
namespace Go.Proofs.YtffmlijngfhhaaaGreatDoor
open Go
attribute [local irreducible] awp awpL awpQL awpQ awpM pWalk Qt AC thenQ blockQ loopQ OpTo
set_option linter.unusedVariables false
set_option linter.unusedSimpArgs false
set_option maxHeartbeats 2000000
attribute [local irreducible] HC
def kindL : List Int := [1, 1, 1, 2, 2, 2, 3, 3, 4, 4, 4, 4, 5, 6, 7, 8, 8, 8, 9, 3]
def upN (code : List Int) (n m : Int) (s : Src) : Int := n + pickV code m s / (m - 1)
def upV (code : List Int) (n m : Int) (s : Src) : Int := pickV code (upN code n m s) (pickS code m s)
def upS (code : List Int) (n m : Int) (s : Src) : Src := pickS code (upN code n m s) (pickS code m s)
def dd1 (code : List Int) (s : Int) (nl : Nat) (n : Ln) (k : Int) (r : Src) : (Int × Int) × Src :=
  if k = 1 then ((k, upV code nl 16 r), upS code nl 16 r)
  else if k = 2 then ((k, upV code n.sv.ord.length 8 r), upS code n.sv.ord.length 8 r)
  else if k = 4 \/ k = 5 \/ k = 6 then ((k, upV code n.wire.length 8 r), upS code n.wire.length 8 r)
  else if k = 7 then (if pickV code 3 (upS code s 12 r) = 0 then (k, upV code s 12 r) else (3, 0), pickS code 3 (upS code s 12 r))
  else ((k, 0), r)
def ddsK (code : List Int) (s : Int) (nx : List (List Int)) (lp : List Int) (n0 : Ln) (r0 : Src) : Nat -> List (Int × Int) × Ln × Src
  | 0 => ([], n0, r0)
  | i + 1 =>
    let q := ddsK code s nx lp n0 r0 i
    let e := dd1 code s nx.length q.2.1 (kindL.getD (pickV code 20 q.2.2).toNat 0) (pickS code 20 q.2.2)
    (q.1 ++ [e.1], (doF s nx lp q.2.1 e.1.1 e.1.2).1, e.2)
theorem kind_range {j : Nat} (h : j < 20) : 1 <= kindL.getD j 0 /\ kindL.getD j 0 <= 9 := by
  have : ((List.range 20).all fun j => decide (1 <= kindL.getD j 0) && decide (kindL.getD j 0 <= 9)) = true := by decide
  have := List.all_eq_true.1 this j (List.mem_range.2 h)
  simpa using this
theorem upN_range {code : List Int} {n m : Int} {r : Src} (hb : BytesOk code) (hm : 2 <= m) : n <= upN code n m r /\ upN code n m r <= n + 1 := by
  have h := pick_range (s := r) (n := m) hb (by omega)
  unfold upN
  have h1 : 0 <= pickV code m r / (m - 1) := Int.ediv_nonneg h.1 (by omega)
  have h2 : pickV code m r / (m - 1) <= 1 := by
    have : pickV code m r / (m - 1) < 2 := Int.ediv_lt_of_lt_mul (by omega) (by omega)
    omega
  omega
theorem pick_any {code : List Int} {n : Int} {r : Src} (hb : BytesOk code) : 0 <= pickV code n r /\ (pickV code n r < n \/ pickV code n r = 0) := by
  by_cases h : 1 <= n
  . have := pick_range (s := r) hb h; omega
  . have : pickV code n r = 0 := by unfold pickV; rw [if_pos (by omega)]
    omega
theorem upV_range {code : List Int} {n m : Int} {r : Src} (hb : BytesOk code) (hm : 2 <= m) (hn : 0 <= n /\ n <= 900) : 0 <= upV code n m r /\ upV code n m r <= 999 := by
  have h := upN_range (n := n) (r := r) hb hm
  have := pick_any (n := upN code n m r) (r := pickS code m r) hb
  unfold upV
  omega
theorem upS_ok {code : List Int} {n m : Int} {r : Src} {k : Nat} (h : SOk r k) : SOk (upS code n m r) (k + 4) := pick_ok (pick_ok h)
theorem dd1_ok {code : List Int} {s : Int} {nl : Nat} {n : Ln} {k : Int} {r : Src} (hb : BytesOk code) (hk : 1 <= k /\ k <= 9) (h1 : 0 <= s /\ s <= 10) (h2 : nl <= 10) (h3 : n.sv.ord.length <= 60) (h4 : n.wire.length <= 10) : vdeed (dd1 code s nl n k r).1.1 (dd1 code s nl n k r).1.2 = true := by
  have a1 := upV_range (n := nl) (m := 16) (r := r) hb (by omega) (by omega)
  have a2 := upV_range (n := n.sv.ord.length) (m := 8) (r := r) hb (by omega) (by omega)
  have a3 := upV_range (n := n.wire.length) (m := 8) (r := r) hb (by omega) (by omega)
  have a4 := upV_range (n := s) (m := 12) (r := r) hb (by omega) (by omega)
  have key : ∀ k a : Int, k = 1 \/ k = 2 \/ k = 4 \/ k = 5 \/ k = 6 \/ k = 7 -> 0 <= a /\ a <= 999 -> vdeed k a = true := fun k a h h2 => by
    rcases h with rfl | rfl | rfl | rfl | rfl | rfl <;> simp [vdeed, inB, dtell, dtold] <;> omega
  unfold dd1
  split
  . exact key _ _ (by dsimp only; omega) a1
  split
  . exact key _ _ (by dsimp only; omega) a2
  split
  . exact key _ _ (by dsimp only; omega) a3
  split
  . dsimp only
    split
    . exact key _ _ (by omega) a4
    . decide
  . have : k = 3 \/ k = 8 \/ k = 9 := by omega
    rcases this with rfl | rfl | rfl <;> simp [vdeed, inB, dtell, dtold]
theorem dd1_src {code : List Int} {s : Int} {nl : Nat} {n : Ln} {k : Int} {r : Src} {j : Nat} (h : SOk r j) : SOk (dd1 code s nl n k r).2 (j + 6) := by
  have a := fun n m => upS_ok (code := code) (n := n) (m := m) h
  unfold dd1
  split
  . exact (a _ _).mono (by omega)
  split
  . exact (a _ _).mono (by omega)
  split
  . exact (a _ _).mono (by omega)
  split
  . show SOk (pickS code 3 (upS code s 12 r)) _
    exact pick_ok (a s 12)
  . exact h.mono (by omega)
theorem ddsK_ok {code : List Int} {s : Int} {nx : List (List Int)} {lp : List Int} {n0 : Ln} {r0 : Src} {k0 j0 : Nat} (hb : BytesOk code) (hv : litOk s nx lp = true) (hs : s <= 10) (hn : nx.length <= 10) (h0 : LnOk s nx k0 n0) (hr : SOk r0 j0) :
    ∀ i, (ddsK code s nx lp n0 r0 i).1.length = i /\ (∀ p ∈ (ddsK code s nx lp n0 r0 i).1, vdeed p.1 p.2 = true) /\ LnOk s nx (k0 + i) (ddsK code s nx lp n0 r0 i).2.1 /\ SOk (ddsK code s nx lp n0 r0 i).2.2 (j0 + 8 * i)
  | 0 => ⟨rfl, (fun p hp => by cases hp), h0, hr⟩
  | i + 1 => by
    obtain ⟨h1, h2, h3, h4⟩ := ddsK_ok hb hv hs hn h0 hr i
    have v := lv_of hv
    have hp := pick_range (s := (ddsK code s nx lp n0 r0 i).2.2) (n := 20) hb (by omega)
    have hd := dd1_ok (s := s) (nl := nx.length) (n := (ddsK code s nx lp n0 r0 i).2.1) (r := pickS code 20 (ddsK code s nx lp n0 r0 i).2.2) hb (kind_range (j := (pickV code 20 (ddsK code s nx lp n0 r0 i).2.2).toNat) (by omega)) (by have := v.s1; omega) hn h3.sv.len h3.wl
    refine ⟨by simp [ddsK, h1], fun p hp => ?_, doF_ok hv h3 (ddOk_of hd), ?_⟩
    . rcases List.mem_append.1 hp with h | h
      . exact h2 p h
      . simp only [List.mem_singleton] at h; subst h; exact hd
    . exact (dd1_src (pick_ok h4)).mono (by omega)
def meetQ (S1 : Slots) (H1 : Heap) : Exit -> Slots -> Heap -> Prop
  | .normal, s, h => Subs s S1 /\ sortH h = H1
  | _, _, _ => False
attribute [local semireducible] thenQ blockQ in
theorem thenQ_mono {cx : Cx} {c : Code} {Q' Q : Exit -> Slots -> Heap -> Prop} (hq : ∀ e s h, Q' e s h -> Q e s h) : ∀ e s h, thenQ cx c Q' e s h -> thenQ cx c Q e s h := fun e s h ht => by
  cases e with
  | normal => exact awp_mono ht hq
  | _ => exact hq _ _ _ ht
attribute [local semireducible] thenQ blockQ in
theorem blockQ_mono {id : Nat} {Q' Q : Exit -> Slots -> Heap -> Prop} (hq : ∀ e s h, Q' e s h -> Q e s h) : ∀ e s h, blockQ id Q' e s h -> blockQ id Q e s h := fun e s h ht => by
  cases e with
  | exit i =>
    by_cases e : i = id
    . subst e
      simp only [blockQ, if_true] at ht ⊢
      exact hq _ _ _ ht
    . simp only [blockQ, e, if_false] at ht ⊢
      exact hq _ _ _ ht
  | _ => exact hq _ _ _ ht
theorem meet_to {cx : Cx} {y : Code} {Q : Exit -> Slots -> Heap -> Prop} {S1 : Slots} {H1 : Heap} (hy : awp cx y S1 H1 Q) : ∀ e s h, meetQ S1 H1 e s h -> thenQ cx y Q e s h := fun e s h hm => by
  cases e with
  | normal => exact then_n (awp_perm H1 hm.2 (awp_sub hm.1 hy))
  | _ => exact False.elim hm
theorem awp_cutB {cx : Cx} {x c y : Code} {s : Slots} {h : Heap} {Q : Exit -> Slots -> Heap -> Prop} {id : Nat} (S1 : Slots) (H1 : Heap) (hx : awp cx x s h (thenQ cx c (blockQ id (meetQ S1 H1)))) (hy : awp cx y S1 H1 Q) : awp cx x s h (thenQ cx c (blockQ id (thenQ cx y Q))) :=
  awp_mono hx (thenQ_mono (blockQ_mono (meet_to hy)))
theorem meet_n {S1 : Slots} {H1 : Heap} {s : Slots} {h : Heap} (hs : Subs s S1) (hh : sortH h = H1) : meetQ S1 H1 .normal s h := ⟨hs, hh⟩
theorem spec_l08Deeds {code : List Int} {s st most : Int} {nx : List (List Int)} {lp : List Int} {r : Src} {j : Nat} (hb : BytesOk code) (hv : litOk s nx lp = true) (hst : 0 <= st /\ st < s) (hm : 0 <= most /\ most <= 100) (h : SOk r j) (hj : j <= 999990000) :
    HC Tryz.prog 39 [.ref 10000 0, .d (.ptr (ltD s nx lp)), .d (.int .i64 st), .d (.int .i64 most)] [(10000, srcB code r)] (.own 30000)
      [(10000, srcB code (ddsK code s nx lp (ln0 s st) (pickS code (most + 1) r) (pickV code (most + 1) r).toNat).2.2), (30000, .arr 44 2 ((ddsK code s nx lp (ln0 s st) (pickS code (most + 1) r) (pickV code (most + 1) r).toNat).1.map deedD))] := by
  have hP : ∀ (s : Src) (k : Nat) (n : Int), SOk s k -> k <= 999999990 -> n <= 1000 -> HC Tryz.prog 58 [.ref 10000 0, .d (.int .i64 n)] [(10000, srcB code s)] (.d (.int .i64 (pickV code n s))) [(10000, srcB code (pickS code n s))] := fun s k n a b c => spec_pick hb a b (by omega)
  have hQ : ∀ (s : Src) (k : Nat) (n : Int), SOk s k -> k <= 999999990 -> n <= 1000 -> HC Tryz.prog 51 [.ref 10000 0, .d (.int .i64 n)] [(10000, srcB code s)] (.d (.bool (decide (pickV code n s = 0)))) [(10000, srcB code (pickS code n s))] := fun s k n a b c => spec_one hb a b (by omega)
  have hA : ∀ (s : Src) (k : Nat), SOk s k -> k <= 999999990 -> HC Tryz.prog 107 [.ref 10000 0, .d (ints kindL)] [(10000, srcB code s)] (.d (.int .i64 (kindL.getD (pickV code 20 s).toNat 0))) [(10000, srcB code (pickS code 20 s))] := fun s k a b => spec_among (l := kindL) hb a b (by decide) (by decide)
  have v := lv_of hv
  have hs := v.s1
  have hn1 := v.n1
  have e1 := spec_l08Begin (s := s) (st := st) (nx := nx) (lp := lp) (by omega)
  have hr0 := pick_range (s := r) (n := most + 1) hb (by omega)
  have hc0 := hP r j (most + 1) h (by omega) (by omega)
  have hok := fun i => ddsK_ok (r0 := pickS code (most + 1) r) hb hv (by omega) (by omega) (ln0_ok (nx := nx) hst) (pick_ok h) i
  generalize pickV code (most + 1) r = K at *
  generalize pickS code (most + 1) r = r0 at *
  unfold ltD srcB at *
  refine hc_intro tabIs _ Tryz.func39 rfl rfl Tryz.ntmps39 rfl rfl rfl ?_ fun w0 ok0 XM XA anc he0 hX0 => ?_
  . exact likeIn_cons rfl rfl likeIn_nil
  repeat (first | refine v_w (t := 13) ?_ | refine zc ?_ | refine u_w (t := 13) ?_ | refine zk (e := by exact e1) (n := ?_) | refine zv ?_)
  refine hcl [(10000, 10000)] [(10000, 10000)] hc0 ?_
  repeat (first | refine zc ?_ | refine zv ?_)
  refine awp_nilCell 10 11 99 93 4 rfl rfl rfl rfl rfl ?_
  refine awp_permTo [(10, lnB (.own 99) (ln0 s st)), (13, .arr 44 2 []), (99, wrC []), (10000, .box [.d (u8s code), .d (.int .i64 r0.pos), .d (.int .u64 r0.sd)])] rfl ?_
  refine awp_loop (fun i : Nat => (i : Int) <= K) (fun i => [(0, .ref 10000 0), (1, .d (.ptr (.agg [.int .i64 s, rows nx, ints lp]))), (9, .own 13), (10, .ref 10 0), (11, .d (.int .i64 (K - i)))])
    (fun i => [(10, lnB (.own 99) (ddsK code s nx lp (ln0 s st) r0 i).2.1), (13, .arr 44 2 ((ddsK code s nx lp (ln0 s st) r0 i).1.map deedD)), (99, wrC (ddsK code s nx lp (ln0 s st) r0 i).2.1.wire), (10000, .box [.d (u8s code), .d (.int .i64 (ddsK code s nx lp (ln0 s st) r0 i).2.2.pos), .d (.int .u64 (ddsK code s nx lp (ln0 s st) r0 i).2.2.sd)])]) (fun i => K.toNat - i) 0 (by omega) ?_ rfl ?_
  . rw [show K - ((0 : Nat) : Int) = K by omega]
    exact zs
  . intro i hi
    obtain ⟨o1, o2, o3, o4⟩ := hok i
    by_cases hlt : (i : Int) < K
    . have hst : ddsK code s nx lp (ln0 s st) r0 (i + 1) = ((ddsK code s nx lp (ln0 s st) r0 i).1 ++ [(dd1 code s nx.length (ddsK code s nx lp (ln0 s st) r0 i).2.1 (kindL.getD (pickV code 20 (ddsK code s nx lp (ln0 s st) r0 i).2.2).toNat 0) (pickS code 20 (ddsK code s nx lp (ln0 s st) r0 i).2.2)).1],
        (doF s nx lp (ddsK code s nx lp (ln0 s st) r0 i).2.1 (dd1 code s nx.length (ddsK code s nx lp (ln0 s st) r0 i).2.1 (kindL.getD (pickV code 20 (ddsK code s nx lp (ln0 s st) r0 i).2.2).toNat 0) (pickS code 20 (ddsK code s nx lp (ln0 s st) r0 i).2.2)).1.1 (dd1 code s nx.length (ddsK code s nx lp (ln0 s st) r0 i).2.1 (kindL.getD (pickV code 20 (ddsK code s nx lp (ln0 s st) r0 i).2.2).toNat 0) (pickS code 20 (ddsK code s nx lp (ln0 s st) r0 i).2.2)).1.2).1,
        (dd1 code s nx.length (ddsK code s nx lp (ln0 s st) r0 i).2.1 (kindL.getD (pickV code 20 (ddsK code s nx lp (ln0 s st) r0 i).2.2).toNat 0) (pickS code 20 (ddsK code s nx lp (ln0 s st) r0 i).2.2)).2) := rfl
      generalize ddsK code s nx lp (ln0 s st) r0 i = q at *
      have hp20 := pick_range (s := q.2.2) (n := 20) hb (by omega)
      have hkr := kind_range (j := (pickV code 20 q.2.2).toNat) (by omega)
      have hca := hA _ _ o4 (by omega)
      have k1 := pick_ok (code := code) (n := 20) o4
      have hd1 := ddOk_of (dd1_ok (s := s) (nl := nx.length) (n := q.2.1) (r := pickS code 20 q.2.2) hb hkr (by omega) (by omega) o3.sv.len o3.wl)
      generalize kindL.getD (pickV code 20 q.2.2).toNat 0 = kd at *
      generalize pickS code 20 q.2.2 = r1 at *
      have c9 := spec_l08Do hv o3 (by omega) hd1
      have hml : (List.map ints nx).length = nx.length := by simp
      have hsvl : (q.2.1.sv.ord.map (D.int .i64)).length = q.2.1.sv.ord.length := by simp
      have hwl : (q.2.1.wire.map pkD).length = q.2.1.wire.length := by simp
      have hsvn := o3.sv.len
      have hwln := o3.wl
      unfold lnB wrC at *
      repeat (first | refine zc ?_ | refine zv ?_)
      refine hcl [(10000, 10000)] [(10000, 10000)] hca ?_
      repeat (first | refine zcr ?_ | refine zv ?_)
      refine awp_sub (s' := [(0, .ref 10000 0), (1, .d (.ptr (.agg [.int .i64 s, rows nx, ints lp]))), (9, .own 13), (10, .ref 10 0), (11, .d (.int .i64 (K - i))), (12, .ref 12 0)]) (by exact zs) ?_
      refine awp_permTo [(10, lnB (.own 99) q.2.1), (12, .box [.d (.int .i64 kd), .d (.int .i64 0)]), (13, .arr 44 2 (q.1.map deedD)), (99, wrC q.2.1.wire), (10000, .box [.d (u8s code), .d (.int .i64 r1.pos), .d (.int .u64 r1.sd)])] rfl ?_
      refine awp_region ?_
      repeat (first | refine zcr ?_ | refine zv ?_)
      refine awp_cutB [(0, .ref 10000 0), (1, .d (.ptr (.agg [.int .i64 s, rows nx, ints lp]))), (9, .own 13), (10, .ref 10 0), (11, .d (.int .i64 (K - i))), (12, .ref 12 0)] [(10, lnB (.own 99) q.2.1), (12, .box [.d (.int .i64 (dd1 code s nx.length q.2.1 kd r1).1.1), .d (.int .i64 (dd1 code s nx.length q.2.1 kd r1).1.2)]), (13, .arr 44 2 (q.1.map deedD)), (99, wrC q.2.1.wire), (10000, .box [.d (u8s code), .d (.int .i64 (dd1 code s nx.length q.2.1 kd r1).2.pos), .d (.int .u64 (dd1 code s nx.length q.2.1 kd r1).2.sd)])] ?_ ?_
      . unfold lnB wrC
        refine awp_region ?_
        by_cases d1 : kd = 1
        . have : dd1 code s nx.length q.2.1 kd r1 = ((kd, upV code nx.length 16 r1), upS code nx.length 16 r1) := if_pos d1
          rw [this, <- hml]
          have hun := upN_range (n := ((List.map ints nx).length : Nat)) (m := 16) (r := r1) hb (by omega)
          have hpm := pick_range (s := r1) (n := 16) hb (by omega)
          have ca := hP _ _ 16 k1 (by omega) (by omega)
          have cb := hP (pickS code 16 r1) _ (upN code ((List.map ints nx).length : Nat) 16 r1) (pick_ok k1) (by omega) (by omega)
          repeat (first | refine zcn ?_ | refine zv ?_)
          refine u_mJ [(0, []), (8, [10000]), (11, [10000]), (13, [12])] (.tk [10000] [1, 2, 3, 4, 5, 6] (.tk [] [7] (.fork 0 8 (.tk [] [8, 9, 10, 11, 12, 13] .done) (.tk [] [0, 9, 10, 11, 12, 13] .done))))
            [(0, .ref 10000 0), (1, .d (.ptr (.agg [.int .i64 s, rows nx, ints lp]))), (9, .own 13), (10, .ref 10 0), (11, .d (.int .i64 (K - i))), (12, .ref 12 0)]
            [(10, .box [.d (.int .i64 q.2.1.st), .d (.int .i64 q.2.1.life), .d (.int .i64 q.2.1.tk), .d (.int .i64 q.2.1.d.life), .d (ints q.2.1.d.ord), .d (.int .i64 q.2.1.d.sure), .d (ints q.2.1.d.bel), .d (.int .i64 q.2.1.sv.life), .d (ints q.2.1.sv.ord), .d (.int .i64 q.2.1.sv.sure), .d (ints q.2.1.sv.bel), .own 99]), (12, .box [.d (.int .i64 kd), .d (.int .i64 (upV code ((List.map ints nx).length : Nat) 16 r1))]), (13, .arr 44 2 (q.1.map deedD)), (99, .arr 93 4 (q.2.1.wire.map pkD)), (10000, .box [.d (u8s code), .d (.int .i64 (upS code ((List.map ints nx).length : Nat) 16 r1).pos), .d (.int .u64 (upS code ((List.map ints nx).length : Nat) 16 r1).sd)])] ?_ ?_
          . repeat' (first | refine m_fork ?_ ?_ | refine m_fork3 ?_ ?_ ?_ | refine hclM [(10000, 10000)] [(10000, 10000)] ca ?_ | refine hclM [(10000, 10000)] [(10000, 10000)] cb ?_ | refine zc ?_ | refine zv ?_)
            all_goals exact ⟨by exact zs, perm_of_sort rfl⟩
          . repeat (first | refine zc ?_ | refine zv ?_)
            exact meet_n (by exact zs) rfl
        . by_cases d2 : kd = 2
          . have : dd1 code s nx.length q.2.1 kd r1 = ((kd, upV code q.2.1.sv.ord.length 8 r1), upS code q.2.1.sv.ord.length 8 r1) := by unfold dd1; rw [if_neg d1, if_pos d2]
            rw [this, <- hsvl]
            have hun := upN_range (n := ((q.2.1.sv.ord.map (D.int .i64)).length : Nat)) (m := 8) (r := r1) hb (by omega)
            have hpm := pick_range (s := r1) (n := 8) hb (by omega)
            have ca := hP _ _ 8 k1 (by omega) (by omega)
            have cb := hP (pickS code 8 r1) _ (upN code ((q.2.1.sv.ord.map (D.int .i64)).length : Nat) 8 r1) (pick_ok k1) (by omega) (by omega)
            repeat (first | refine zcn ?_ | refine zv ?_)
            refine u_mJ [(0, []), (6, [10000]), (9, [10000]), (11, [12])] (.tk [10000] [1, 2, 3, 4] (.tk [] [5] (.fork 0 6 (.tk [] [6, 7, 8, 9, 10, 11] .done) (.tk [] [0, 7, 8, 9, 10, 11] .done))))
              [(0, .ref 10000 0), (1, .d (.ptr (.agg [.int .i64 s, rows nx, ints lp]))), (9, .own 13), (10, .ref 10 0), (11, .d (.int .i64 (K - i))), (12, .ref 12 0)]
              [(10, .box [.d (.int .i64 q.2.1.st), .d (.int .i64 q.2.1.life), .d (.int .i64 q.2.1.tk), .d (.int .i64 q.2.1.d.life), .d (ints q.2.1.d.ord), .d (.int .i64 q.2.1.d.sure), .d (ints q.2.1.d.bel), .d (.int .i64 q.2.1.sv.life), .d (ints q.2.1.sv.ord), .d (.int .i64 q.2.1.sv.sure), .d (ints q.2.1.sv.bel), .own 99]), (12, .box [.d (.int .i64 kd), .d (.int .i64 (upV code ((q.2.1.sv.ord.map (D.int .i64)).length : Nat) 8 r1))]), (13, .arr 44 2 (q.1.map deedD)), (99, .arr 93 4 (q.2.1.wire.map pkD)), (10000, .box [.d (u8s code), .d (.int .i64 (upS code ((q.2.1.sv.ord.map (D.int .i64)).length : Nat) 8 r1).pos), .d (.int .u64 (upS code ((q.2.1.sv.ord.map (D.int .i64)).length : Nat) 8 r1).sd)])] ?_ ?_
            . repeat' (first | refine m_fork ?_ ?_ | refine m_fork3 ?_ ?_ ?_ | refine hclM [(10000, 10000)] [(10000, 10000)] ca ?_ | refine hclM [(10000, 10000)] [(10000, 10000)] cb ?_ | refine zc ?_ | refine zv ?_)
              all_goals exact ⟨by exact zs, perm_of_sort rfl⟩
            . repeat (first | refine zc ?_ | refine zv ?_)
              exact meet_n (by exact zs) rfl
          . by_cases d3 : kd = 4 \/ kd = 5 \/ kd = 6
            . have : dd1 code s nx.length q.2.1 kd r1 = ((kd, upV code q.2.1.wire.length 8 r1), upS code q.2.1.wire.length 8 r1) := by unfold dd1; rw [if_neg d1, if_neg d2, if_pos d3]
              rw [this, <- hwl]
              have hun := upN_range (n := ((q.2.1.wire.map pkD).length : Nat)) (m := 8) (r := r1) hb (by omega)
              have hpm := pick_range (s := r1) (n := 8) hb (by omega)
              have ca := hP _ _ 8 k1 (by omega) (by omega)
              have cb := hP (pickS code 8 r1) _ (upN code ((q.2.1.wire.map pkD).length : Nat) 8 r1) (pick_ok k1) (by omega) (by omega)
              rcases d3 with d4 | d4 | d4
              . repeat (first | refine zcn ?_ | refine zv ?_)
                refine u_mJ [(0, []), (5, [10000]), (8, [10000]), (10, [12])] (.tk [10000] [1, 2, 3] (.tk [] [4] (.fork 0 5 (.tk [] [5, 6, 7, 8, 9, 10] .done) (.tk [] [0, 6, 7, 8, 9, 10] .done))))
                  [(0, .ref 10000 0), (1, .d (.ptr (.agg [.int .i64 s, rows nx, ints lp]))), (9, .own 13), (10, .ref 10 0), (11, .d (.int .i64 (K - i))), (12, .ref 12 0)]
                  [(10, .box [.d (.int .i64 q.2.1.st), .d (.int .i64 q.2.1.life), .d (.int .i64 q.2.1.tk), .d (.int .i64 q.2.1.d.life), .d (ints q.2.1.d.ord), .d (.int .i64 q.2.1.d.sure), .d (ints q.2.1.d.bel), .d (.int .i64 q.2.1.sv.life), .d (ints q.2.1.sv.ord), .d (.int .i64 q.2.1.sv.sure), .d (ints q.2.1.sv.bel), .own 99]), (12, .box [.d (.int .i64 kd), .d (.int .i64 (upV code ((q.2.1.wire.map pkD).length : Nat) 8 r1))]), (13, .arr 44 2 (q.1.map deedD)), (99, .arr 93 4 (q.2.1.wire.map pkD)), (10000, .box [.d (u8s code), .d (.int .i64 (upS code ((q.2.1.wire.map pkD).length : Nat) 8 r1).pos), .d (.int .u64 (upS code ((q.2.1.wire.map pkD).length : Nat) 8 r1).sd)])] ?_ ?_
                . repeat' (first | refine m_fork ?_ ?_ | refine m_fork3 ?_ ?_ ?_ | refine hclM [(10000, 10000)] [(10000, 10000)] ca ?_ | refine hclM [(10000, 10000)] [(10000, 10000)] cb ?_ | refine zc ?_ | refine zv ?_)
                  all_goals exact ⟨by exact zs, perm_of_sort rfl⟩
                . repeat (first | refine zc ?_ | refine zv ?_)
                  exact meet_n (by exact zs) rfl
              . repeat (first | refine zcn ?_ | refine zv ?_)
                refine u_mJ [(0, []), (5, [10000]), (8, [10000]), (10, [12])] (.tk [10000] [1, 2, 3] (.tk [] [4] (.fork 0 5 (.tk [] [5, 6, 7, 8, 9, 10] .done) (.tk [] [0, 6, 7, 8, 9, 10] .done))))
                  [(0, .ref 10000 0), (1, .d (.ptr (.agg [.int .i64 s, rows nx, ints lp]))), (9, .own 13), (10, .ref 10 0), (11, .d (.int .i64 (K - i))), (12, .ref 12 0)]
                  [(10, .box [.d (.int .i64 q.2.1.st), .d (.int .i64 q.2.1.life), .d (.int .i64 q.2.1.tk), .d (.int .i64 q.2.1.d.life), .d (ints q.2.1.d.ord), .d (.int .i64 q.2.1.d.sure), .d (ints q.2.1.d.bel), .d (.int .i64 q.2.1.sv.life), .d (ints q.2.1.sv.ord), .d (.int .i64 q.2.1.sv.sure), .d (ints q.2.1.sv.bel), .own 99]), (12, .box [.d (.int .i64 kd), .d (.int .i64 (upV code ((q.2.1.wire.map pkD).length : Nat) 8 r1))]), (13, .arr 44 2 (q.1.map deedD)), (99, .arr 93 4 (q.2.1.wire.map pkD)), (10000, .box [.d (u8s code), .d (.int .i64 (upS code ((q.2.1.wire.map pkD).length : Nat) 8 r1).pos), .d (.int .u64 (upS code ((q.2.1.wire.map pkD).length : Nat) 8 r1).sd)])] ?_ ?_
                . repeat' (first | refine m_fork ?_ ?_ | refine m_fork3 ?_ ?_ ?_ | refine hclM [(10000, 10000)] [(10000, 10000)] ca ?_ | refine hclM [(10000, 10000)] [(10000, 10000)] cb ?_ | refine zc ?_ | refine zv ?_)
                  all_goals exact ⟨by exact zs, perm_of_sort rfl⟩
                . repeat (first | refine zc ?_ | refine zv ?_)
                  exact meet_n (by exact zs) rfl
              . repeat (first | refine zcn ?_ | refine zv ?_)
                refine u_mJ [(0, []), (5, [10000]), (8, [10000]), (10, [12])] (.tk [10000] [1, 2, 3] (.tk [] [4] (.fork 0 5 (.tk [] [5, 6, 7, 8, 9, 10] .done) (.tk [] [0, 6, 7, 8, 9, 10] .done))))
                  [(0, .ref 10000 0), (1, .d (.ptr (.agg [.int .i64 s, rows nx, ints lp]))), (9, .own 13), (10, .ref 10 0), (11, .d (.int .i64 (K - i))), (12, .ref 12 0)]
                  [(10, .box [.d (.int .i64 q.2.1.st), .d (.int .i64 q.2.1.life), .d (.int .i64 q.2.1.tk), .d (.int .i64 q.2.1.d.life), .d (ints q.2.1.d.ord), .d (.int .i64 q.2.1.d.sure), .d (ints q.2.1.d.bel), .d (.int .i64 q.2.1.sv.life), .d (ints q.2.1.sv.ord), .d (.int .i64 q.2.1.sv.sure), .d (ints q.2.1.sv.bel), .own 99]), (12, .box [.d (.int .i64 kd), .d (.int .i64 (upV code ((q.2.1.wire.map pkD).length : Nat) 8 r1))]), (13, .arr 44 2 (q.1.map deedD)), (99, .arr 93 4 (q.2.1.wire.map pkD)), (10000, .box [.d (u8s code), .d (.int .i64 (upS code ((q.2.1.wire.map pkD).length : Nat) 8 r1).pos), .d (.int .u64 (upS code ((q.2.1.wire.map pkD).length : Nat) 8 r1).sd)])] ?_ ?_
                . repeat' (first | refine m_fork ?_ ?_ | refine m_fork3 ?_ ?_ ?_ | refine hclM [(10000, 10000)] [(10000, 10000)] ca ?_ | refine hclM [(10000, 10000)] [(10000, 10000)] cb ?_ | refine zc ?_ | refine zv ?_)
                  all_goals exact ⟨by exact zs, perm_of_sort rfl⟩
                . repeat (first | refine zc ?_ | refine zv ?_)
                  exact meet_n (by exact zs) rfl
            . by_cases d7 : kd = 7
              . have : dd1 code s nx.length q.2.1 kd r1 = (if pickV code 3 (upS code s 12 r1) = 0 then (kd, upV code s 12 r1) else (3, 0), pickS code 3 (upS code s 12 r1)) := by unfold dd1; rw [if_neg d1, if_neg d2, if_neg d3, if_pos d7]
                rw [this]
                have d4 : ¬ kd = 4 := by omega
                have d5 : ¬ kd = 5 := by omega
                have d6 : ¬ kd = 6 := by omega
                have hun := upN_range (n := s) (m := 12) (r := r1) hb (by omega)
                have hpm := pick_range (s := r1) (n := 12) hb (by omega)
                have ca := hP _ _ 12 k1 (by omega) (by omega)
                have cb := hP (pickS code 12 r1) _ (upN code s 12 r1) (pick_ok k1) (by omega) (by omega)
                have cq := hQ (upS code s 12 r1) _ 3 (upS_ok k1) (by omega) (by omega)
                repeat (first | refine zcn ?_ | refine zv ?_)
                refine u_mJ [(0, []), (7, [10000]), (10, [10000]), (12, [12])] (.tk [10000] [1, 2, 3, 4, 5] (.tk [] [6] (.fork 0 7 (.tk [] [7, 8, 9, 10, 11, 12] .done) (.tk [] [0, 8, 9, 10, 11, 12] .done))))
                  [(0, .ref 10000 0), (1, .d (.ptr (.agg [.int .i64 s, rows nx, ints lp]))), (9, .own 13), (10, .ref 10 0), (11, .d (.int .i64 (K - i))), (12, .ref 12 0)]
                  [(10, .box [.d (.int .i64 q.2.1.st), .d (.int .i64 q.2.1.life), .d (.int .i64 q.2.1.tk), .d (.int .i64 q.2.1.d.life), .d (ints q.2.1.d.ord), .d (.int .i64 q.2.1.d.sure), .d (ints q.2.1.d.bel), .d (.int .i64 q.2.1.sv.life), .d (ints q.2.1.sv.ord), .d (.int .i64 q.2.1.sv.sure), .d (ints q.2.1.sv.bel), .own 99]), (12, .box [.d (.int .i64 kd), .d (.int .i64 (upV code s 12 r1))]), (13, .arr 44 2 (q.1.map deedD)), (99, .arr 93 4 (q.2.1.wire.map pkD)), (10000, .box [.d (u8s code), .d (.int .i64 (upS code s 12 r1).pos), .d (.int .u64 (upS code s 12 r1).sd)])] ?_ ?_
                . repeat' (first | refine m_fork ?_ ?_ | refine m_fork3 ?_ ?_ ?_ | refine hclM [(10000, 10000)] [(10000, 10000)] ca ?_ | refine hclM [(10000, 10000)] [(10000, 10000)] cb ?_ | refine zc ?_ | refine zv ?_)
                  all_goals exact ⟨by exact zs, perm_of_sort rfl⟩
                . by_cases d8 : pickV code 3 (upS code s 12 r1) = 0
                  . rw [if_pos d8]
                    repeat (first | refine zc ?_ | refine zv ?_)
                    refine hcl [(10000, 10000)] [(10000, 10000)] cq ?_
                    repeat (first | refine zc ?_ | refine zv ?_)
                    exact meet_n (by exact zs) rfl
                  . rw [if_neg d8]
                    repeat (first | refine zc ?_ | refine zv ?_)
                    refine hcl [(10000, 10000)] [(10000, 10000)] cq ?_
                    repeat (first | refine zc ?_ | refine zv ?_)
                    exact meet_n (by exact zs) rfl
              . have : dd1 code s nx.length q.2.1 kd r1 = ((kd, 0), r1) := by unfold dd1; rw [if_neg d1, if_neg d2, if_neg d3, if_neg d7]
                rw [this]
                have d4 : ¬ kd = 4 := by omega
                have d5 : ¬ kd = 5 := by omega
                have d6 : ¬ kd = 6 := by omega
                repeat (first | refine zc ?_ | refine zv ?_)
                exact meet_n (by exact zs) rfl
      . unfold lnB wrC
        generalize dd1 code s nx.length q.2.1 kd r1 = e at *
        generalize doF s nx lp q.2.1 e.1.1 e.1.2 = n' at *
        unfold deedD at c9
        repeat (first | refine zc ?_ | refine zv ?_)
        refine hcl [(10, 10000), (99, 20000)] [(10000, 10), (20000, 99)] c9 ?_
        repeat (first | refine zcr ?_ | refine zv ?_)
        refine awp_freezeB 12 rfl rfl rfl ?_
        refine awp_perm _ rfl ?_
        repeat (first | refine zc ?_ | refine zv ?_)
        refine loop_n (i + 1) (by omega) ?_ ?_ (by omega)
        . rw [show K - ((i + 1 : Nat) : Int) = K - i - 1 by omega]
          exact zs
        . rw [hst]; simp only [List.map_append]; (as_aux_lemma => kernel_rfl)
    . have hiK : i = K.toNat := by omega
      subst hiK
      repeat (first | refine zc ?_ | refine zv ?_)
      (refine zb ?_; refine u_rH [(10000, 10000), (13, 30000)] ?_ ?_)
      . rfl
      . rfl
def dsV (code : List Int) (s st : Int) (nx : List (List Int)) (lp : List Int) : List (Int × Int) := (ddsK code s nx lp (ln0 s st) (pickS code 37 ⟨0, 0⟩) (pickV code 37 ⟨0, 0⟩).toNat).1
theorem spec_A2DeedsH {code : List Int} {s st : Int} {nx : List (List Int)} {lp : List Int} (hb : BytesOk code) (hv : litOk s nx lp = true) (hst : 0 <= st /\ st < s) :
    HC Tryz.prog 10 [.d (u8s code), .d (ltD s nx lp), .d (.int .i64 st)] [] (.own 30000) [(30000, .arr 44 2 ((dsV code s st nx lp).map deedD))] := by
  have c0 := spec_From (code := code)
  have c1 := spec_l08Deeds (r := ⟨0, 0⟩) (j := 0) (most := 36) hb hv hst (by omega) ⟨Nat.le_refl _, by simp⟩ (by omega)
  unfold dsV
  rw [show (36 : Int) + 1 = 37 from rfl] at c1
  generalize ddsK code s nx lp (ln0 s st) (pickS code 37 ⟨0, 0⟩) (pickV code 37 ⟨0, 0⟩).toNat = q at *
  unfold ltD srcB at *
  refine hc_intro tabIs _ Tryz.func10 rfl rfl Tryz.ntmps10 rfl rfl rfl ?_ fun w0 ok0 XM XA anc he0 hX0 => ?_
  . exact likeIn_nil
  repeat (first | refine zc ?_ | refine zv ?_)
  refine hcl [] [(30000, 100)] c0 ?_
  repeat (first | refine zc ?_ | refine zv ?_)
  refine hcl [(100, 10000)] [(10000, 100), (30000, 201)] c1 ?_
  repeat (first | refine zc ?_ | refine zv ?_)
  (refine zb ?_; refine u_rH [(201, 30000)] ?_ ?_)
  . rfl
  . rfl
theorem spec_A2Deeds {code : List Int} {s st : Int} {nx : List (List Int)} {lp : List Int} (hb : BytesOk code) (hv : litOk s nx lp = true) (hst : 0 <= st /\ st < s) :
    AC Tryz.prog 10 [u8s code, ltD s nx lp, .int .i64 st] (deedsD (dsV code s st nx lp)) := ac_of_hc (spec_A2DeedsH hb hv hst) rfl
theorem dsV_ok {code : List Int} {s st : Int} {nx : List (List Int)} {lp : List Int} (hb : BytesOk code) (hv : litOk s nx lp = true) (hst : 0 <= st /\ st < s) : (dsV code s st nx lp).length <= 36 /\ ∀ p ∈ dsV code s st nx lp, vdeed p.1 p.2 = true := by
  have v := lv_of hv
  have hs := v.s1
  have hn1 := v.n1
  have hp := pick_range (s := ⟨0, 0⟩) (n := 37) hb (by omega)
  obtain ⟨h1, h2, _⟩ := ddsK_ok (r0 := pickS code 37 ⟨0, 0⟩) (j0 := 2) hb hv (by omega) (by omega) (ln0_ok (nx := nx) hst) (pick_ok (k := 0) ⟨Nat.le_refl _, by simp⟩) (pickV code 37 ⟨0, 0⟩).toNat
  exact ⟨by unfold dsV; omega, h2⟩
end Go.Proofs.YtffmlijngfhhaaaGreatDoor
