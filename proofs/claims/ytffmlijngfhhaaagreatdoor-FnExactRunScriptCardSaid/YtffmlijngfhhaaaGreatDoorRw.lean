/- Words read from texts; slices of texts in a walk. No condition but bounds. -/
import Derived.Test.YtffmlijngfhhaaaGreatDoorWa
import Derived.Test.YtffmlijngfhhaaaGreatDoorFwY
namespace Go.Proofs.YtffmlijngfhhaaaGreatDoor
open Go
attribute [local irreducible] awp awpL awpQL awpQ awpM pWalk Qt AC thenQ blockQ loopQ OpTo
set_option linter.unusedVariables false
set_option linter.unusedSimpArgs false
set_option maxHeartbeats 2000000
attribute [local irreducible] HC

section
variable {cx : Cx} {h : Heap} {s : Nat → SV} {dst : Option Nat} {ty : Nat} {pos : String} {af : Array Edge} {gd : Option (Nat × Bool)}
theorem strX {l : List UInt8} {a b : Nat} : ((⟨l.toArray⟩ : ByteArray).extract a b).data.toList = (l.drop a).take (b - a) := by
  rw [ByteArray.data_extract]
  simp [List.extract_eq_take_drop]
theorem qa_strSlice_lh {t : Nat} {x lo hi : Operand} {tr : TR} {l : List UInt8} {k k' : IntKind} {a b : Int} (hx : opv s x = .d (.str l)) (hlo : opv s lo = .d (.int k a)) (hhi : opv s hi = .d (.int k' b)) (ht : tget cx.T t = some tr) (hst : tr.isStr = true)
    (h0 : 0 ≤ a) (h1 : a ≤ b) (h2 : b ≤ l.length) : Qt cx h ⟨dst, .slice t x (some lo) (some hi) none, ty, pos, af, gd⟩ s (.d (.str ((l.drop a.toNat).take (b.toNat - a.toNat)))) :=
  qt_of fun r hr σ ac w hv _ _ => by
    have v1 := hv x
    have v2 := hv lo
    have v3 := hv hi
    rw [hr x (by simp [Op.operands]), hx] at v1
    rw [hr lo (by simp [Op.operands]), hlo] at v2
    rw [hr hi (by simp [Op.operands]), hhi] at v3
    have v1' := RepD.str_inv v1
    have v2' := RepD.int_inv v2
    have v3' := RepD.int_inv v3
    obtain ⟨d, _, hd, _, _, _, _, _, hs, _⟩ := tr_facts (tget_ok cx.tab ht)
    have := hs hst
    subst this
    refine ⟨_, w, ?_, RowKit.Below.refl _ _, .str _ ((⟨l.toArray⟩ : ByteArray).extract a.toNat b.toNat) (ByteArray.ext (by rw [← strX]))⟩
    simp only [execOp, v1', v2', v3', Option.map_some, Option.map_none]
    simp only [Sem.run_bind, Sem.run_pure]
    rw [run_sliceAt_string (h := hd), run_slice_string (h := hd)]
    · simp [Result.andThen]
    · exact h0
    · exact h1
    · rw [ByteArray.size]; simpa using h2
theorem qa_strSlice_l {t : Nat} {x lo : Operand} {tr : TR} {l : List UInt8} {k : IntKind} {a : Int} (hx : opv s x = .d (.str l)) (hlo : opv s lo = .d (.int k a)) (ht : tget cx.T t = some tr) (hst : tr.isStr = true)
    (h0 : 0 ≤ a) (h1 : a ≤ l.length) : Qt cx h ⟨dst, .slice t x (some lo) none none, ty, pos, af, gd⟩ s (.d (.str (l.drop a.toNat))) :=
  qt_of fun r hr σ ac w hv _ _ => by
    have v1 := hv x
    have v2 := hv lo
    rw [hr x (by simp [Op.operands]), hx] at v1
    rw [hr lo (by simp [Op.operands]), hlo] at v2
    have v1' := RepD.str_inv v1
    have v2' := RepD.int_inv v2
    obtain ⟨d, _, hd, _, _, _, _, _, hs, _⟩ := tr_facts (tget_ok cx.tab ht)
    have := hs hst
    subst this
    have hsz : (⟨l.toArray⟩ : ByteArray).size = l.length := by rw [ByteArray.size]; simp
    refine ⟨.string ((⟨l.toArray⟩ : ByteArray).extract a.toNat l.length), w, ?_, RowKit.Below.refl _ _, .str _ _ (ByteArray.ext (by rw [← Array.toList_inj, strX, List.take_of_length_le (by simp)]))⟩
    simp only [execOp, v1', v2', Option.map_some, Option.map_none]
    simp only [Sem.run_bind, Sem.run_pure]
    rw [run_sliceAt_string (h := hd), run_slice_string_l (ht := hd) (h0 := h0) (h1 := by rw [hsz]; exact h1), hsz]
    simp [Result.andThen]
end
end Go.Proofs.YtffmlijngfhhaaaGreatDoor
