/- What the functions of the program read of its variables: the table of powers of ten and the two errors of strconv. No condition. -/
import Derived.WalkKit
import Derived.Lib.LaidTab
import Derived.Lib.ItoaNum
namespace Go.Proofs.YtffmlijngfhhaaaGreatDoor
open Go Go.Proofs
set_option linter.unusedVariables false

def envNames : List String := ["internal/strconv.uint64pow10", "strconv.ErrSyntax", "strconv.ErrRange"]
/-- The blocks of the variables that functions read. -/
def envBlk (P : Program) (b : Nat) : Prop := ∃ n ∈ envNames, P.globalNamed n = some b
/-- These variables hold what they are laid with. -/
def EnvAt (P : Program) (w : World) : Prop := Go.Lib.TabIs P w "internal/strconv.uint64pow10" .u64 Go.Lib.pow10Tab ∧ (∃ tp p, w.var? P "strconv.ErrSyntax" = some #[.iface tp p]) ∧ ∃ tp p, w.var? P "strconv.ErrRange" = some #[.iface tp p]
theorem var_lt {P : Program} {w : World} {n : String} {cs : Array Value} (h : w.var? P n = some cs) {b : Nat} (hb : P.globalNamed n = some b) : b < w.heap.size := by
  unfold World.var? at h
  rw [hb] at h
  simp only [Option.bind_some] at h
  rcases Nat.lt_or_ge b w.heap.size with h' | h'
  · exact h'
  · rw [Array.getElem?_eq_none h'] at h; cases h
theorem envBlk_lt {P : Program} {w : World} (h : EnvAt P w) {b : Nat} (hb : envBlk P b) : b < w.heap.size := by
  obtain ⟨h1, ⟨_, _, h2⟩, ⟨_, _, h3⟩⟩ := h
  obtain ⟨n, hn, hb⟩ := hb
  simp only [envNames, List.mem_cons, List.not_mem_nil, or_false] at hn
  rcases hn with rfl | rfl | rfl
  · exact var_lt h1 hb
  · exact var_lt h2 hb
  · exact var_lt h3 hb
theorem var_keep {P : Program} {w w' : World} (hk : ∀ b, envBlk P b → w'.heap[b]? = w.heap[b]?) {n : String} (hn : n ∈ envNames) : w'.var? P n = w.var? P n := by
  unfold World.var?
  cases hg : P.globalNamed n with
  | none => rfl
  | some b => simp only [Option.bind_some]; rw [hk b ⟨n, hn, hg⟩]
theorem envAt_keep {P : Program} {w w' : World} (h : EnvAt P w) (hk : ∀ b, envBlk P b → w'.heap[b]? = w.heap[b]?) : EnvAt P w' := by
  unfold EnvAt Go.Lib.TabIs at h ⊢
  rw [var_keep hk (n := "internal/strconv.uint64pow10") (by simp [envNames]), var_keep hk (n := "strconv.ErrSyntax") (by simp [envNames]), var_keep hk (n := "strconv.ErrRange") (by simp [envNames])]
  exact h
end Go.Proofs.YtffmlijngfhhaaaGreatDoor
