/- Machines by their numbers: how many there are, their tables; the machine with a number in the reference. No condition. -/
import Derived.Test.YtfemhnmggobhjaaGreatCa
import Derived.Test.YtfemhnmggobhjaaGreatTa
namespace Go.Proofs.YtfemhnmggobhjaaGreat
open Go
attribute [local irreducible] awp awpL awpQL awpQ awpM pWalk Qt AC thenQ blockQ loopQ OpTo
set_option linter.unusedVariables false
set_option linter.unusedSimpArgs false
set_option maxHeartbeats 2000000
attribute [local irreducible] HC
def capC (q : Int) : Nat -> Int
  | 0 => 1
  | i + 1 => if capC q i <= 50000 then capC q i * q else capC q i
theorem capC_range {q : Int} (h : 1 <= q /\ q <= 30) : ∀ i, 1 <= capC q i /\ capC q i <= 1500000
  | 0 => by simp [capC]
  | i + 1 => by
    have ih := capC_range h i
    unfold capC
    split
    . rename_i hc
      have h1 : 1 * 1 <= capC q i * q := Int.mul_le_mul ih.1 h.1 (by omega) (by omega)
      have h2 : capC q i * q <= 50000 * 30 := Int.mul_le_mul hc h.2 (by omega) (by omega)
      omega
    . exact ih
theorem capC_stop {q : Int} {i : Nat} (h : ¬ capC q i <= 50000) : ∀ d, capC q (i + d) = capC q i
  | 0 => rfl
  | d + 1 => by
    have ih := capC_stop h d
    show (if capC q (i + d) <= 50000 then capC q (i + d) * q else capC q (i + d)) = _
    rw [ih, if_neg h]
def cntM (n o : Int) (L : Nat) : Int := capC (n * o) (n * L).toNat
theorem no_range {n o : Int} (hn : 1 <= n /\ n <= 10) (ho : 1 <= o /\ o <= 3) : 1 <= n * o /\ n * o <= 30 := by
  have h1 : 1 * 1 <= n * o := Int.mul_le_mul hn.1 ho.1 (by omega) (by omega)
  have h2 : n * o <= 10 * 3 := Int.mul_le_mul hn.2 ho.2 (by omega) (by omega)
  omega
section
variable {s o : Int} {nx ou : List (List Int)}
theorem impl_count (m : MV s o nx ou) {n : Int} (hn : 1 <= n /\ n <= 10) : AC Tryz.prog 88 [.int .i64 n, .ptr (mach s o nx ou)] (.int .i64 (cntM n o nx.length)) := by
  have ho := m.o1
  have hL := m.n1
  have e1 := impl_size2 (nss := nx)
  have hno := no_range hn ho
  have hnl2 := no_range hn (o := (nx.length : Int)) (by omega)
  unfold cntM
  generalize hN : n * (nx.length : Int) = N at *
  generalize hq : n * o = q at *
  have hN2 : n * (nx.length : Int) <= 30 /\ 1 <= n * (nx.length : Int) := by rw [hN]; omega
  refine ac_intro tabIs _ Tryz.func88 rfl rfl Tryz.ntmps88 rfl rfl fun w0 ok0 he0 => ?_
  repeat (first | refine zc ?_ | refine zk (e := by exact e1) (n := ?_) | refine zv ?_)
  refine awp_loop (fun i : Nat => (i : Int) <= N /\ ∀ j, j < i -> capC q (j + 1) <= 50000) (fun i => [(0, .d (.int .i64 n)), (1, .d (.ptr (mach s o nx ou))), (4, .d (.int .i64 (capC q i))), (9, .d (.int .i64 (n * (nx.length : Int)))), (10, .d (.int .i64 i))]) (fun _ => []) (fun i => N.toNat - i) 0 (by exact ⟨by omega, fun j h => by omega⟩) ?_ rfl ?_
  . exact zs
  . rintro i ⟨hi, hb⟩
    have hcr := capC_range hno i
    have hcr2 := capC_range hno (i + 1)
    have hst : capC q (i + 1) = if capC q i <= 50000 then capC q i * q else capC q i := rfl
    have hsp := capC_stop (q := q) (i := i + 1)
    have hc : capC q i <= 50000 := by
      cases i with
      | zero => simp [capC]
      | succ i => exact hb i (by omega)
    rw [if_pos hc] at hst
    have hst' : capC q (i + 1) = capC q i * (n * o) := by rw [hst, hq]
    have hmul : 1 <= capC q i * (n * o) /\ capC q i * (n * o) <= 1500000 := by rw [<- hst']; exact hcr2
    by_cases hlt : (i : Int) < N
    . by_cases hc2 : capC q (i + 1) <= 50000
      . rw [hst'] at hc2
        repeat (first | refine zc ?_ | refine zv ?_)
        refine loop_n (i + 1) ⟨by omega, fun j hj => ?_⟩ ?_ rfl (by omega)
        . by_cases e : j = i
          . subst e; rw [hst']; exact hc2
          . exact hb j (by omega)
        . rw [hst']
          exact zs
      . have hend : capC q N.toNat = capC q (i + 1) := by
          have := hsp hc2 (N.toNat - (i + 1))
          rwa [show i + 1 + (N.toNat - (i + 1)) = N.toNat by omega] at this
        rw [hst'] at hc2 hend
        repeat (first | refine zc ?_ | refine zv ?_)
        refine zt ?_
        rw [hend]
    . have hi' : i = N.toNat := by omega
      subst hi'
      repeat (first | refine zc ?_ | refine zv ?_)
      refine zt ?_
      rfl
end
def iterN (n o number : Int) : Nat -> Int
  | 0 => number
  | t + 1 => iterN n o number t / o / n
theorem iterN_range {n o number : Int} (hn : 1 <= n) (ho : 1 <= o) (h : 0 <= number) : ∀ t, 0 <= iterN n o number t /\ iterN n o number t <= number
  | 0 => ⟨h, Int.le_refl _⟩
  | t + 1 => by
    have ih := iterN_range hn ho h t
    unfold iterN
    have h1 : 0 <= iterN n o number t / o := Int.ediv_nonneg ih.1 (by omega)
    have h2 : iterN n o number t / o <= iterN n o number t := Int.ediv_le_self _ ih.1
    have h3 : 0 <= iterN n o number t / o / n := Int.ediv_nonneg h1 (by omega)
    have h4 : iterN n o number t / o / n <= iterN n o number t / o := Int.ediv_le_self _ h1
    omega
def vO (n o number : Int) (t : Nat) : Int := iterN n o number t % o
def vN (n o number : Int) (t : Nat) : Int := iterN n o number t / o % n
def prcB (j i a b : Nat) : Bool := decide (a < j \/ (a = j /\ b < i))
def tabI (L n : Nat) (F : Nat -> Nat -> Int) : List (List Int) := (List.range L).map fun l => fnL n (F l)
def parT (L n : Nat) (V : Nat -> Int) (j i : Nat) (l s : Nat) : Int := if prcB j i (L - 1 - l) (n - 1 - s) then V ((L - 1 - l) * n + (n - 1 - s)) else 0
def numT (L n : Nat) (V : Nat -> Int) (l s : Nat) : Int := V ((L - 1 - l) * n + (n - 1 - s))
@[simp] theorem tabI_length {L n : Nat} {F : Nat -> Nat -> Int} : (tabI L n F).length = L := by simp [tabI]
theorem tabI_snoc {L n : Nat} {F : Nat -> Nat -> Int} : tabI (L + 1) n F = tabI L n F ++ [fnL n (F L)] := by simp [tabI, List.range_succ]
theorem tabI_congr {L n : Nat} {F G : Nat -> Nat -> Int} (h : ∀ l s, l < L -> s < n -> F l s = G l s) : tabI L n F = tabI L n G := List.map_congr_left fun l hl => fnL_congr fun s hs => h l s (List.mem_range.1 hl) hs
theorem rws_tabI_get {L n l : Nat} {F : Nat -> Nat -> Int} (h : l < L) : (rws (tabI L n F))[l]? = some ((fnL n (F l)).map (.int .i64)) := by simp [rws, tabI, h]
theorem rws_tabI_set {L n l k : Nat} {F : Nat -> Nat -> Int} {v : Int} : (rws (tabI L n F)).set l (((fnL n (F l)).map (D.int .i64)).set k (.int .i64 v)) = rws (tabI L n fun a b => if a = l /\ b = k then v else F a b) := by
  rw [fnL_set]
  apply List.ext_getElem?
  intro j
  rw [List.getElem?_set]
  by_cases hi : l = j
  . subst hi
    by_cases hk : l < L
    . simp [rws, tabI, hk]
    . simp [rws, tabI, hk]
  . have hne : ¬ j = l := fun e => hi e.symm
    by_cases hk : j < L
    . simp [rws, tabI, hi, hk, hne]
    . simp [rws, tabI, hi, hk]
theorem parT_next {L n : Nat} {V : Nat -> Int} {j i : Nat} (hj : j < L) (hi : i < n) : tabI L n (fun a b => if a = L - 1 - j /\ b = n - 1 - i then V (j * n + i) else parT L n V j i a b) = tabI L n (parT L n V j (i + 1)) := tabI_congr fun l s hl hs => by
  unfold parT prcB
  by_cases h : l = L - 1 - j /\ s = n - 1 - i
  . obtain ⟨h1, h2⟩ := h
    have e1 : L - 1 - l = j := by omega
    have e2 : n - 1 - s = i := by omega
    rw [if_pos ⟨h1, h2⟩, e1, e2]
    simp
  . rw [if_neg h]
    have : (L - 1 - l < j \/ (L - 1 - l = j /\ n - 1 - s < i)) ↔ (L - 1 - l < j \/ (L - 1 - l = j /\ n - 1 - s < i + 1)) := by omega
    simp only [decide_eq_true_eq, this]
theorem parT_row {L n : Nat} {V : Nat -> Int} {j : Nat} : tabI L n (parT L n V j n) = tabI L n (parT L n V (j + 1) 0) := tabI_congr fun l s hl hs => by
  unfold parT prcB
  have : (L - 1 - l < j \/ (L - 1 - l = j /\ n - 1 - s < n)) ↔ (L - 1 - l < j + 1 \/ (L - 1 - l = j + 1 /\ n - 1 - s < 0)) := by omega
  simp only [decide_eq_true_eq, this]
theorem parT_none {L n : Nat} {V : Nat -> Int} : tabI L n (fun _ _ => 0) = tabI L n (parT L n V 0 0) := tabI_congr fun l s hl hs => by simp [parT, prcB]
theorem parT_all {L n : Nat} {V : Nat -> Int} : tabI L n (parT L n V L 0) = tabI L n (numT L n V) := tabI_congr fun l s hl hs => by
  unfold parT prcB numT
  have : (L - 1 - l < L \/ (L - 1 - l = L /\ n - 1 - s < 0)) := by omega
  rw [decide_eq_true this]
  rfl
theorem fnL_zero {n : Nat} : List.replicate n (D.int .i64 0) = (fnL n fun _ => 0).map (.int .i64) := by
  unfold fnL
  rw [List.map_map]
  exact (List.eq_replicate_iff.2 ⟨by simp, fun b hb => by simp at hb; exact hb.2.symm⟩).symm
def numX (n : Nat) (o : Int) (L : Nat) (number : Int) : List (List Int) × List (List Int) := (tabI L n (numT L n (vN n o number)), tabI L n (numT L n (vO n o number)))
theorem mv_num {n : Nat} {o : Int} {L : Nat} {number : Int} (hn : 1 <= n /\ n <= 10) (ho : 1 <= o /\ o <= 3) (hL : 1 <= L /\ L <= 3) (h : 0 <= number) : MV n o (numX n o L number).1 (numX n o L number).2 := by
  refine ⟨by omega, ho, by simp [numX]; omega, by simp [numX], fun ns hns => ?_, fun ns hns => ?_⟩
  . simp only [numX, tabI, List.mem_map] at hns
    obtain ⟨l, _, rfl⟩ := hns
    refine ⟨by rw [fnL_length], fun x hx => ?_⟩
    simp only [fnL, List.mem_map] at hx
    obtain ⟨q, _, rfl⟩ := hx
    unfold numT vN
    exact ⟨Int.emod_nonneg _ (by omega), Int.emod_lt_of_pos _ (by omega)⟩
  . simp only [numX, tabI, List.mem_map] at hns
    obtain ⟨l, _, rfl⟩ := hns
    refine ⟨by rw [fnL_length], fun x hx => ?_⟩
    simp only [fnL, List.mem_map] at hx
    obtain ⟨q, _, rfl⟩ := hx
    unfold numT vO
    exact ⟨Int.emod_nonneg _ (by omega), Int.emod_lt_of_pos _ (by omega)⟩
section
variable {s o : Int} {nx ou : List (List Int)}
end
end Go.Proofs.YtfemhnmggobhjaaGreat
