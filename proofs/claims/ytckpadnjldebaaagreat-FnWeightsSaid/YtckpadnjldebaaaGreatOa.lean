/- Lines of machines: what a deed does, and what stays so: plain facts. No condition. -/
import Derived.Test.YtckpadnjldebaaaGreatSb
import Derived.Test.YtckpadnjldebaaaGreatMa
namespace Go.Proofs.YtckpadnjldebaaaGreat
open Go
attribute [local irreducible] awp awpL awpQL awpQ awpM pWalk Qt AC thenQ blockQ loopQ OpTo
set_option linter.unusedVariables false
set_option linter.unusedSimpArgs false
set_option maxHeartbeats 2000000
attribute [local irreducible] HC
structure Dsk where
  life : Int
  ord : List Int
  sure : Int
  bel : List Int
structure Pk where
  rep : Bool
  life : Int
  num : Int
  val : Int
structure Ln where
  st : Int
  life : Int
  tk : Int
  d : Dsk
  sv : Dsk
  wire : List Pk
structure DskOk (s : Int) (nx : List (List Int)) (d : Dsk) : Prop where
  life : 0 <= d.life /\ d.life <= 6
  len : d.ord.length <= 60
  ord : ∀ x ∈ d.ord, 0 <= x /\ x < nx.length
  sure : 0 <= d.sure /\ d.sure <= d.ord.length
  bel : ∀ q ∈ d.bel, 0 <= q /\ q < s
  ris : d.bel.Pairwise (· < ·)
structure PkOk (s : Int) (nx : List (List Int)) (k : Nat) (p : Pk) : Prop where
  life : 0 <= p.life /\ p.life <= 6
  num : 0 <= p.num /\ p.num <= k + 60
  vr : p.rep = true -> 0 <= p.val /\ p.val <= 3
  vo : p.rep = false -> 0 <= p.val /\ p.val < nx.length
structure LnOk (s : Int) (nx : List (List Int)) (k : Nat) (n : Ln) : Prop where
  st : 0 <= n.st /\ n.st < s
  life : 0 <= n.life /\ n.life <= 6
  tk : 0 <= n.tk /\ n.tk <= k
  d : DskOk s nx n.d
  sv : DskOk s nx n.sv
  wl : n.wire.length <= 10
  wire : ∀ p ∈ n.wire, PkOk s nx k p
theorem PkOk.mono {s : Int} {nx : List (List Int)} {k : Nat} {p : Pk} (h : PkOk s nx k p) : PkOk s nx (k + 1) p := ⟨h.life, by have := h.num; omega, h.vr, h.vo⟩
theorem LnOk.mono {s : Int} {nx : List (List Int)} {k : Nat} {n : Ln} (h : LnOk s nx k n) : LnOk s nx (k + 1) n := ⟨h.st, h.life, by have := h.tk; omega, h.d, h.sv, h.wl, fun p hp => (h.wire p hp).mono⟩
end Go.Proofs.YtckpadnjldebaaaGreat
