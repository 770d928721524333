/- The search for a word that tells two machines apart: plain facts. No condition. -/
import Derived.Test.YtfemhnmggobhjaaGreatNg
import Derived.Test.YtfemhnmggobhjaaGreatFwV
import Derived.Test.YtfemhnmggobhjaaGreatFy
import Derived.Test.YtfemhnmggobhjaaGreatNh
namespace Go.Proofs.YtfemhnmggobhjaaGreat
open Go
attribute [local irreducible] awp awpL awpQL awpQ awpM pWalk Qt AC thenQ blockQ loopQ OpTo
set_option linter.unusedVariables false
set_option linter.unusedSimpArgs false
set_option maxHeartbeats 2000000
attribute [local irreducible] HC
theorem firstEx {P : Nat → Prop} : ∀ k, P k → ∃ D, D ≤ k ∧ P D ∧ ∀ d, d < D → ¬ P d := fun k => by
  induction k using Nat.strongRecOn with
  | _ k ih =>
    intro h
    by_cases he : ∃ d, d < k ∧ P d
    . obtain ⟨d, hd, hp⟩ := he
      obtain ⟨D, h1, h2⟩ := ih d hd hp
      exact ⟨D, by omega, h2⟩
    . exact ⟨k, Nat.le_refl _, h, fun d hd hp => he ⟨d, hd, hp⟩⟩
theorem nodupLe : ∀ (N : Nat) (l : List Nat), l.Nodup → (∀ x ∈ l, x < N) → l.length ≤ N
  | 0, l, _, h => by
    cases l with
    | nil => simp
    | cons a l => have := h a (List.mem_cons_self ..); omega
  | N + 1, l, hn, h => by
    have h1 := nodupLe N (l.erase N) (hn.erase N) fun x hx => by
      have := hn.mem_erase_iff.1 hx
      have := h x this.2
      omega
    have := List.length_erase (a := N) (l := l)
    split at this <;> omega
abbrev PL := List (Nat × List Int)
def nxP (nx nx' : List (List Int)) (c x : Nat) : Nat := (at2 nx x (c / 16 : Nat)).toNat * 16 + (at2 nx' x (c % 16 : Nat)).toNat
def difP (ou ou' : List (List Int)) (c x : Nat) : Bool := decide (¬ at2 ou x (c / 16 : Nat) = at2 ou' x (c % 16 : Nat))
def addP (L : PL) (c : Nat) (w : List Int) : PL := if c ∈ L.map (·.1) then L else L ++ [(c, w)]
def letP (nx nx' : List (List Int)) (p : Nat × List Int) (L : PL) : Nat → PL
  | 0 => L
  | x + 1 => addP (letP nx nx' p L x) (nxP nx nx' p.1 x) (p.2 ++ [(x : Int)])
structure POk (s s' : Int) (L : PL) : Prop where
  nd : (L.map (·.1)).Nodup
  lt : ∀ p ∈ L, ((p.1 / 16 : Nat) : Int) < s ∧ ((p.1 % 16 : Nat) : Int) < s'
  wl : ∀ p ∈ L, p.2.length < L.length
theorem POk.len {s s' : Int} {L : PL} (hs : s ≤ 10) (hs' : s' ≤ 10) (h : POk s s' L) : L.length ≤ 160 := by
  have := nodupLe 160 (L.map (·.1)) h.nd fun x hx => by
    obtain ⟨p, hp, rfl⟩ := List.mem_map.1 hx
    have := h.lt p hp
    omega
  simpa using this
theorem addP_pre (L : PL) (c : Nat) (w : List Int) : ∃ t, addP L c w = L ++ t := by
  unfold addP
  split
  . exact ⟨[], by simp⟩
  . exact ⟨_, rfl⟩
theorem addP_ok {s s' : Int} {L : PL} {c : Nat} {w : List Int} (h : POk s s' L) (hc : ((c / 16 : Nat) : Int) < s ∧ ((c % 16 : Nat) : Int) < s') (hw : w.length ≤ L.length) : POk s s' (addP L c w) := by
  unfold addP
  split
  . exact h
  . rename_i hn
    refine ⟨?_, fun p hp => ?_, fun p hp => ?_⟩
    . rw [List.map_append]
      refine List.nodup_append.2 ⟨h.nd, by simp, fun a ha b hb => ?_⟩
      simp only [List.map_cons, List.map_nil, List.mem_singleton] at hb
      subst hb
      exact fun e => hn (e ▸ ha)
    . rcases List.mem_append.1 hp with h1 | h1
      . exact h.lt p h1
      . simp only [List.mem_singleton] at h1
        subst h1
        exact hc
    . rw [List.length_append]
      rcases List.mem_append.1 hp with h1 | h1
      . have := h.wl p h1
        simp only [List.length_singleton]
        omega
      . simp only [List.mem_singleton] at h1
        subst h1
        simp only [List.length_singleton]
        show w.length < _
        omega
theorem letP_pre (nx nx' : List (List Int)) (p : Nat × List Int) (L : PL) : ∀ k, ∃ t, letP nx nx' p L k = L ++ t
  | 0 => ⟨[], by simp [letP]⟩
  | k + 1 => by
    obtain ⟨t, ht⟩ := letP_pre nx nx' p L k
    obtain ⟨u, hu⟩ := addP_pre (letP nx nx' p L k) (nxP nx nx' p.1 k) (p.2 ++ [(k : Int)])
    exact ⟨t ++ u, by show addP _ _ _ = _; rw [hu, ht, List.append_assoc]⟩
section
variable {s o s' o' : Int} {nx ou nx' ou' : List (List Int)}
theorem nxP_ok (m : MV s o nx ou) (m' : MV s' o' nx' ou') (he : nx'.length = nx.length) {c x : Nat} (hx : x < nx.length) (hc : ((c / 16 : Nat) : Int) < s ∧ ((c % 16 : Nat) : Int) < s') :
    ((nxP nx nx' c x / 16 : Nat) : Int) = at2 nx x (c / 16 : Nat) ∧ ((nxP nx nx' c x % 16 : Nat) : Int) = at2 nx' x (c % 16 : Nat) ∧ (0 ≤ at2 nx x (c / 16 : Nat) ∧ at2 nx x (c / 16 : Nat) < s) ∧ 0 ≤ at2 nx' x (c % 16 : Nat) ∧ at2 nx' x (c % 16 : Nat) < s' := by
  have h1 := tbl_at m.nx (l := (x : Int)) (q := ((c / 16 : Nat) : Int)) (by omega) (by omega)
  have h2 := tbl_at m'.nx (l := (x : Int)) (q := ((c % 16 : Nat) : Int)) (by omega) (by omega)
  have hs := m'.s1
  unfold nxP
  generalize at2 nx x (c / 16 : Nat) = a at *
  generalize at2 nx' x (c % 16 : Nat) = b at *
  omega
theorem letP_ok (m : MV s o nx ou) (m' : MV s' o' nx' ou') (he : nx'.length = nx.length) {p : Nat × List Int} {L : PL} (h : POk s s' L) (hp : p ∈ L) : ∀ k, k ≤ nx.length → POk s s' (letP nx nx' p L k)
  | 0, _ => h
  | k + 1, hk => by
    have ih := letP_ok m m' he h hp k (by omega)
    obtain ⟨h1, h2, h3, h4⟩ := nxP_ok m m' he (c := p.1) (x := k) (by omega) (h.lt p hp)
    obtain ⟨t, ht⟩ := letP_pre nx nx' p L k
    have hw := h.wl p hp
    refine addP_ok ih (by omega) ?_
    rw [ht, List.length_append, List.length_append]
    simp only [List.length_singleton]
    omega
end
end Go.Proofs.YtfemhnmggobhjaaGreat
namespace Go.Proofs.YtfemhnmggobhjaaGreat
open Go
attribute [local irreducible] awp awpL awpQL awpQ awpM pWalk Qt AC thenQ blockQ loopQ OpTo
set_option linter.unusedVariables false
set_option linter.unusedSimpArgs false
set_option maxHeartbeats 2000000
attribute [local irreducible] HC
end Go.Proofs.YtfemhnmggobhjaaGreat
namespace Go.Proofs.YtfemhnmggobhjaaGreat
open Go
attribute [local irreducible] awp awpL awpQL awpQ awpM pWalk Qt AC thenQ blockQ loopQ OpTo
set_option linter.unusedVariables false
set_option linter.unusedSimpArgs false
set_option maxHeartbeats 2000000
attribute [local irreducible] HC
theorem spec_l01Find1 {ls : List (List Int)} {w : List Int} {k0 : Nat} (hn : ls.length ≤ 1000) (hl : ∀ v ∈ ls, v.length ≤ 1000) (hw : w.length ≤ 1000) (h0 : k0 < ls.length) (hq : ls[k0] = w) (hmin : ∀ d, (h : d < k0) → ¬ ls[d] = w) : AC Tryz.prog 146 [rows ls, ints w] (.int .i64 k0) := by
  have hle : (List.map ints ls).length = ls.length := by simp
  refine ac_intro tabIs _ Tryz.func146 rfl rfl Tryz.ntmps146 rfl rfl fun w0 ok0 => ?_
  repeat (first | refine zc ?_ | refine zv ?_)
  refine awp_loop (fun k : Nat => k ≤ k0) (fun k => [(0, .d (rows ls)), (1, .d (ints w)), (5, .d (.int .i64 k))]) (fun _ => []) (fun k => ls.length - k) 0 (by omega) ?_ rfl ?_
  . exact zs
  . intro k hk
    have hlt : k < ls.length := by omega
    have hx : (List.map ints ls)[(k : Int).toNat]? = some (ints ls[k]) := by simp [hlt]
    have e1 := spec_l00Same (a := ls[k]) (b := w) (by have := hl _ (List.getElem_mem hlt); omega) (by omega)
    by_cases e : k < k0
    . rw [decide_eq_false (hmin k e)] at e1
      repeat (first | refine zc ?_ | refine zk (e := by exact e1) (n := ?_) | refine zv ?_)
      refine loop_n (k + 1) (by omega) ?_ rfl (by omega)
      exact zs
    . have : k = k0 := by omega
      subst this
      rw [decide_eq_true hq] at e1
      repeat (first | refine zc ?_ | refine zk (e := by exact e1) (n := ?_) | refine zv ?_)
      refine zt ?_
      rfl
theorem spec_l01Find0 {ls : List (List Int)} {w : List Int} (hn : ls.length ≤ 1000) (hl : ∀ v ∈ ls, v.length ≤ 1000) (hw : w.length ≤ 1000) (hnot : w ∉ ls) : AC Tryz.prog 146 [rows ls, ints w] (.int .i64 (-1)) := by
  have hle : (List.map ints ls).length = ls.length := by simp
  refine ac_intro tabIs _ Tryz.func146 rfl rfl Tryz.ntmps146 rfl rfl fun w0 ok0 => ?_
  repeat (first | refine zc ?_ | refine zv ?_)
  refine awp_loop (fun k : Nat => k ≤ ls.length) (fun k => [(0, .d (rows ls)), (1, .d (ints w)), (5, .d (.int .i64 k))]) (fun _ => []) (fun k => ls.length - k) 0 (by omega) ?_ rfl ?_
  . exact zs
  . intro k hk
    by_cases hlt : k < ls.length
    . have hx : (List.map ints ls)[(k : Int).toNat]? = some (ints ls[k]) := by simp [hlt]
      have e1 := spec_l00Same (a := ls[k]) (b := w) (by have := hl _ (List.getElem_mem hlt); omega) (by omega)
      rw [decide_eq_false fun e : ls[k] = w => hnot (by rw [← e]; exact List.getElem_mem hlt)] at e1
      repeat (first | refine zc ?_ | refine zk (e := by exact e1) (n := ?_) | refine zv ?_)
      refine loop_n (k + 1) (by omega) ?_ rfl (by omega)
      exact zs
    . have : k = ls.length := by omega
      subst this
      repeat (first | refine zc ?_ | refine zv ?_)
      refine zt ?_
      rfl
theorem spec_l01FindE {ls : List (List Int)} {w : List Int} (hn : ls.length ≤ 1000) (hl : ∀ v ∈ ls, v.length ≤ 1000) (hw : w.length ≤ 1000) : ∃ r : Int, (w ∈ ls → 0 ≤ r) ∧ (w ∉ ls → r = -1) ∧ AC Tryz.prog 146 [rows ls, ints w] (.int .i64 r) := by
  by_cases h : w ∈ ls
  . obtain ⟨k, hk, hkq⟩ := List.getElem_of_mem h
    obtain ⟨k0, h1, ⟨h2, h3⟩, h4⟩ := firstEx (P := fun k => ∃ hk : k < ls.length, ls[k] = w) k ⟨hk, hkq⟩
    exact ⟨k0, fun _ => by omega, fun h' => absurd h h', spec_l01Find1 hn hl hw h2 h3 fun d hd he => h4 d hd ⟨by omega, he⟩⟩
  . exact ⟨-1, fun h' => absurd h' h, fun _ => rfl, spec_l01Find0 hn hl hw h⟩
def prL (L : PL) : List (List Int) := L.map fun p => [((p.1 / 16 : Nat) : Int), ((p.1 % 16 : Nat) : Int)]
def wdL (L : PL) : List (List Int) := L.map fun p => p.2
@[simp] theorem prL_length (L : PL) : (prL L).length = L.length := by simp [prL]
@[simp] theorem wdL_length (L : PL) : (wdL L).length = L.length := by simp [wdL]
theorem mem_prL {c : Nat} {L : PL} : [((c / 16 : Nat) : Int), ((c % 16 : Nat) : Int)] ∈ prL L ↔ c ∈ L.map (·.1) := by
  unfold prL
  constructor
  . intro h
    obtain ⟨p, hp, e⟩ := List.mem_map.1 h
    simp only [List.cons.injEq, and_true] at e
    exact List.mem_map.2 ⟨p, hp, by omega⟩
  . intro h
    obtain ⟨p, hp, e⟩ := List.mem_map.1 h
    exact List.mem_map.2 ⟨p, hp, by subst e; rfl⟩
end Go.Proofs.YtfemhnmggobhjaaGreat
namespace Go.Proofs.YtfemhnmggobhjaaGreat
open Go
attribute [local irreducible] awp awpL awpQL awpQ awpM pWalk Qt AC thenQ blockQ loopQ OpTo
set_option linter.unusedVariables false
set_option linter.unusedSimpArgs false
set_option maxHeartbeats 2000000
attribute [local irreducible] HC
section
variable {s o s' o' : Int} {nx ou nx' ou' : List (List Int)}
end
end Go.Proofs.YtfemhnmggobhjaaGreat
namespace Go.Proofs.YtfemhnmggobhjaaGreat
open Go
attribute [local irreducible] awp awpL awpQL awpQ awpM pWalk Qt AC thenQ blockQ loopQ OpTo
set_option linter.unusedVariables false
set_option linter.unusedSimpArgs false
set_option maxHeartbeats 2000000
attribute [local irreducible] HC
section
variable {s o s' o' : Int} {nx ou nx' ou' : List (List Int)}
end
end Go.Proofs.YtfemhnmggobhjaaGreat
