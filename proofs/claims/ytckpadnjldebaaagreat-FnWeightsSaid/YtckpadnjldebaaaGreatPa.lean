/- Plain facts of valid machines and of the outputs of two machines for a word. No condition. -/
import Derived.Test.YtckpadnjldebaaaGreatWa
namespace Go.Proofs.YtckpadnjldebaaaGreat
open Go
attribute [local irreducible] awp awpL awpQL awpQ awpM pWalk Qt AC thenQ blockQ loopQ OpTo
set_option linter.unusedVariables false
set_option linter.unusedSimpArgs false
set_option maxHeartbeats 2000000
def at2 (xs : List (List Int)) (l q : Int) : Int := (xs.getD l.toNat []).getD q.toNat 0
def row (xs : List (List Int)) (l : Int) : List Int := xs.getD l.toNat []
theorem el_row2 {xs : List (List Int)} {l : Int} (h : 0 <= l /\ l < xs.length) : (xs.map ints)[l.toNat]? = some (ints (row xs l)) := by
  have : l.toNat < xs.length := by omega
  simp [row, List.getD_eq_getElem?_getD, this]
theorem el_int2 {ns : List Int} {q : Int} (h : 0 <= q /\ q < ns.length) : (ns.map (D.int .i64))[q.toNat]? = some (.int .i64 (ns.getD q.toNat 0)) := by
  have : q.toNat < ns.length := by omega
  simp [List.getD_eq_getElem?_getD, this]
theorem row_mem {xs : List (List Int)} {l : Int} (h : 0 <= l /\ l < xs.length) : row xs l ∈ xs := by
  have : l.toNat < xs.length := by omega
  simp [row, List.getD_eq_getElem?_getD, this]
theorem get_mem2 {ns : List Int} {q : Int} (h : 0 <= q /\ q < ns.length) : ns.getD q.toNat 0 ∈ ns := by
  have : q.toNat < ns.length := by omega
  simp [List.getD_eq_getElem?_getD, this]
def Tbl (s hi : Int) (xs : List (List Int)) : Prop := ∀ ns ∈ xs, (ns.length : Int) = s /\ ∀ n ∈ ns, 0 <= n /\ n < hi
theorem tbl_of {s hi : Int} {xs : List (List Int)} (h : xs.all (rowOk s hi) = true) : Tbl s hi xs := fun ns hn => by
  have := List.all_eq_true.1 h ns hn
  simp only [rowOk, allIn, Bool.and_eq_true, decide_eq_true_eq, List.all_eq_true, inB] at this
  exact ⟨this.1, fun n hm => by have := this.2 n hm; omega⟩
theorem tbl_row {s hi : Int} {xs : List (List Int)} (h : Tbl s hi xs) {l : Int} (hl : 0 <= l /\ l < xs.length) : ((row xs l).length : Int) = s := (h _ (row_mem hl)).1
theorem tbl_at {s hi : Int} {xs : List (List Int)} (h : Tbl s hi xs) {l q : Int} (hl : 0 <= l /\ l < xs.length) (hq : 0 <= q /\ q < s) : 0 <= at2 xs l q /\ at2 xs l q < hi := by
  have h1 := h _ (row_mem hl)
  exact h1.2 _ (get_mem2 (q := q) (by omega))
def runS (nx : List (List Int)) : Int -> List Int -> Int
  | s, [] => s
  | s, l :: w => runS nx (at2 nx l s) w
end Go.Proofs.YtckpadnjldebaaaGreat
