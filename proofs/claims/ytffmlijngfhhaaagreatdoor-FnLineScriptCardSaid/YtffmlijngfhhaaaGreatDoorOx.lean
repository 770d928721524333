/- Lines of machines: what holds of a line that began at its beginning. Plain facts, no condition. -/
import Derived.Test.YtffmlijngfhhaaaGreatDoorOm
namespace Go.Proofs.YtffmlijngfhhaaaGreatDoor
open Go
attribute [local irreducible] awp awpL awpQL awpQ awpM pWalk Qt AC thenQ blockQ loopQ OpTo
set_option linter.unusedVariables false
set_option linter.unusedSimpArgs false
set_option maxHeartbeats 2000000
attribute [local irreducible] HC
structure LnInv (s : Int) (nx : List (List Int)) (lp : List Int) (n : Ln) (hs : List Int) : Prop where
  hl : (hs.length : Int) = n.tk + 1
  hr : ∀ q ∈ hs, 0 <= q /\ q < s
  hst : hs.getD n.tk.toNat 0 = n.st
  wl : ∀ p ∈ n.wire, p.life <= n.life
  wr : ∀ p ∈ n.wire, p.rep = true -> p.life = n.life -> 0 <= p.num /\ p.num <= n.tk /\ lamp lp (hs.getD p.num.toNat 0) = p.val
  wo : ∀ p ∈ n.wire, p.rep = false -> p.life = n.life -> n.sv.life = n.life /\ 0 <= p.num /\ p.num < n.sv.ord.length /\ p.val = n.sv.ord.getD p.num.toNat 0
  dl : n.d.life <= n.life
  sl : n.sv.life <= n.d.life
  pre : n.sv.life = n.d.life -> n.sv.ord <+: n.d.ord
  ds : n.d.life = n.life -> 0 <= n.d.sure /\ n.d.sure <= n.tk /\ hs.getD n.d.sure.toNat 0 ∈ n.d.bel
  ss : n.sv.life = n.life -> 0 <= n.sv.sure /\ n.sv.sure <= n.tk /\ hs.getD n.sv.sure.toNat 0 ∈ n.sv.bel
  tk1 : n.sv.life = n.life -> n.tk <= n.sv.ord.length
  tk0 : n.sv.life < n.life -> n.tk = 0
  step : ∀ j : Nat, (j : Int) < n.tk -> hs.getD (j + 1) 0 = at2 nx (n.sv.ord.getD j 0) (hs.getD j 0)
theorem LnInv.tk {s : Int} {nx : List (List Int)} {lp : List Int} {n : Ln} {hs : List Int} (h : LnInv s nx lp n hs) : 0 <= n.tk := by
  have h1 := h.hl
  have h2 := h.hst
  by_cases e : hs = []
  . subst e
    simp at h1
    have h3 := h.tk1
    have h4 := h.tk0
    have h5 := h.sl
    have h6 := h.dl
    by_cases e : n.sv.life = n.life
    . have := (h.ss e).1
      have := (h.ss e).2.1
      omega
    . have := h4 (by omega)
      omega
  . have := List.length_pos_iff.2 e
    omega
theorem LnInv.take {s : Int} {nx : List (List Int)} {lp : List Int} {n : Ln} {hs : List Int} {p : Pk} (h : LnInv s nx lp n hs) (hp : p ∈ n.wire) (hr : p.rep = false) (h1 : p.life = n.life) (h2 : p.num = n.tk) (h3 : 0 <= at2 nx p.val n.st /\ at2 nx p.val n.st < s) :
    LnInv s nx lp { n with st := at2 nx p.val n.st, tk := n.tk + 1 } (hs ++ [at2 nx p.val n.st]) := by
  obtain ⟨w1, w2, w3, w4⟩ := h.wo p hp hr h1
  have htk := h.tk
  have hhl := h.hl
  have gl : ∀ j : Int, 0 <= j -> j <= n.tk -> (hs ++ [at2 nx p.val n.st]).getD j.toNat 0 = hs.getD j.toNat 0 := fun j a b => by
    rw [List.getD_eq_getElem?_getD, List.getD_eq_getElem?_getD, List.getElem?_append_left (by omega)]
  have ge : (hs ++ [at2 nx p.val n.st]).getD (n.tk + 1).toNat 0 = at2 nx p.val n.st := by
    rw [List.getD_eq_getElem?_getD, List.getElem?_append_right (by omega), show (n.tk + 1).toNat - hs.length = 0 by omega]
    rfl
  refine ⟨?_, ?_, ge, h.wl, fun q a b c => ?_, h.wo, h.dl, h.sl, h.pre, fun e => ?_, fun e => ?_, fun _ => by show n.tk + 1 <= (n.sv.ord.length : Int); omega, fun e => ?_, fun j hj => ?_⟩
  . show ((hs ++ [_]).length : Int) = n.tk + 1 + 1
    simp
    omega
  . intro q hq
    rcases List.mem_append.1 hq with hq | hq
    . exact h.hr q hq
    . simp at hq
      subst hq
      exact h3
  . obtain ⟨x1, x2, x3⟩ := h.wr q a b c
    refine ⟨x1, by show q.num <= n.tk + 1; omega, ?_⟩
    rw [gl _ x1 x2]
    exact x3
  . obtain ⟨x1, x2, x3⟩ := h.ds e
    refine ⟨x1, by show n.d.sure <= n.tk + 1; omega, ?_⟩
    rw [gl _ x1 x2]
    exact x3
  . obtain ⟨x1, x2, x3⟩ := h.ss e
    refine ⟨x1, by show n.sv.sure <= n.tk + 1; omega, ?_⟩
    rw [gl _ x1 x2]
    exact x3
  . have e : n.sv.life < n.life := e
    omega
  . have hj : (j : Int) < n.tk + 1 := hj
    have g1 := gl j (by omega) (by omega)
    rw [Int.toNat_natCast] at g1
    rw [g1]
    by_cases e : (j : Int) = n.tk
    . have : j + 1 = (n.tk + 1).toNat := by omega
      rw [this, ge, w4, h2]
      have hst := h.hst
      rw [show n.tk.toNat = j by omega] at hst ⊢
      rw [hst]
    . have g2 := gl (j + 1 : Nat) (by omega) (by omega)
      rw [Int.toNat_natCast] at g2
      rw [g2]
      exact h.step j (by omega)
end Go.Proofs.YtffmlijngfhhaaaGreatDoor
