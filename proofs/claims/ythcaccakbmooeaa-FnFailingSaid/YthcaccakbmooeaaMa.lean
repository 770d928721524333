/- Contracts of how the laws' package marks what it was given, looks for its marks, and copies. No condition. -/
import Derived.Test.YthcaccakbmooeaaWf
namespace Go.Proofs.Ythcaccakbmooeaa
open Go
attribute [local irreducible] awp awpL awpQL awpQ awpM pWalk Qt AC thenQ blockQ loopQ OpTo
set_option linter.unusedVariables false
set_option linter.unusedSimpArgs false
set_option maxHeartbeats 2000000
attribute [local irreducible] HC

theorem likeIn_nil {h' : Heap} : likeIn [] h' := fun p hp => by cases hp
theorem likeIn_cons {h h' : Heap} {id : Nat} {c c' : Chunk} (hg : h'.get id = some c') (hl : c.like c') (hr : likeIn h h') : likeIn ((id, c) :: h) h' := fun p hp ha => by
  rcases List.mem_cons.1 hp with rfl | hp
  · exact ⟨c', hg, hl⟩
  · exact hr p hp ha

/-- k, k + 1, .. -/
def mk1 : Int → Nat → List Int
  | _, 0 => []
  | k, n + 1 => k :: mk1 (k + 1) n
theorem mk1_length : ∀ (n : Nat) (k : Int), (mk1 k n).length = n
  | 0, _ => rfl
  | n + 1, k => by simp [mk1, mk1_length n]
theorem mk1_get : ∀ (n : Nat) (k : Int) (i : Nat), i < n → (mk1 k n)[i]? = some (k + i)
  | 0, _, i, h => by omega
  | n + 1, k, 0, h => by simp [mk1]
  | n + 1, k, i + 1, h => by
    simp only [mk1, List.getElem?_cons_succ]
    rw [mk1_get n (k + 1) i (by omega)]
    congr 1
    omega
theorem mk1_snoc (k : Int) (n : Nat) : mk1 k (n + 1) = mk1 k n ++ [k + n] := by
  apply List.ext_getElem?
  intro i
  by_cases h : i < n
  · rw [mk1_get _ _ _ (by omega), List.getElem?_append_left (by rw [mk1_length]; exact h), mk1_get _ _ _ h]
  · by_cases h2 : i = n
    · subst h2
      rw [mk1_get _ _ _ (by omega), List.getElem?_append_right (by rw [mk1_length]; omega), mk1_length]
      simp
    · rw [List.getElem?_eq_none (by rw [mk1_length]; omega), List.getElem?_eq_none (by simp [mk1_length]; omega)]

theorem mk1_step {k : Int} {xs : List Int} {i : Nat} (hi : i < xs.length) : (List.map (D.int .i64) (mk1 k i ++ xs.drop i)).set (i : Int).toNat (.int .i64 (k + i)) = List.map (D.int .i64) (mk1 k (i + 1) ++ xs.drop (i + 1)) := by
  have e1 : xs.drop i = xs[i] :: xs.drop (i + 1) := List.drop_eq_getElem_cons hi
  have h : (i : Int).toNat = (List.map (D.int .i64) (mk1 k i)).length := by simp [mk1_length]
  rw [mk1_snoc, e1, h, List.map_append, List.set_append_right _ _ (Nat.le_refl _), Nat.sub_self, List.map_cons, List.set_cons_zero]
  simp

def tot : List (List Int) → Nat
  | [] => 0
  | ns :: l => ns.length + tot l
theorem tot_append (a b : List (List Int)) : tot (a ++ b) = tot a + tot b := by
  induction a with
  | nil => simp [tot]
  | cons x a ih => simp [tot, ih]; omega

/-- Rows, each of them marked on from where the one before it ends. -/
def mkR : Int → List (List Int) → List (List Int)
  | _, [] => []
  | k, ns :: l => mk1 k ns.length :: mkR (k + ns.length) l
theorem mkR_length : ∀ (l : List (List Int)) (k : Int), (mkR k l).length = l.length
  | [], _ => rfl
  | ns :: l, k => by simp [mkR, mkR_length l]
theorem mkR_lens : ∀ (l : List (List Int)) (k : Int), (mkR k l).map List.length = l.map List.length
  | [], _ => rfl
  | ns :: l, k => by simp [mkR, mkR_lens l, mk1_length]
theorem mkR_snoc : ∀ (l : List (List Int)) (k : Int) (ns : List Int), mkR k (l ++ [ns]) = mkR k l ++ [mk1 (k + tot l) ns.length]
  | [], k, ns => by simp [mkR, tot]
  | x :: l, k, ns => by
    have e : k + (x.length : Int) + (tot l : Int) = k + ((x.length + tot l : Nat) : Int) := by omega
    simp only [List.cons_append, mkR, mkR_snoc l, tot, e]
theorem tot_take {nss : List (List Int)} {i : Nat} (hi : i < nss.length) : tot (nss.take (i + 1)) = tot (nss.take i) + nss[i].length := by
  rw [List.take_succ_eq_append_getElem hi, tot_append]
  simp [tot]
theorem tot_le (nss : List (List Int)) (i : Nat) : tot (nss.take i) ≤ tot nss := by
  have := tot_append (nss.take i) (nss.drop i)
  rw [List.take_append_drop] at this
  omega

/-- Rows as the data of own rows. -/
def rws (nss : List (List Int)) : List (List D) := nss.map fun ns => ns.map (.int .i64)
theorem rws_length (nss : List (List Int)) : (rws nss).length = nss.length := by simp [rws]
theorem rws_lst (nss : List (List Int)) : (rws nss).map D.lst = nss.map ints := by
  unfold rws
  rw [List.map_map]
  rfl
theorem rws_dat (nss : List (List Int)) : D.lst ((rws nss).map D.lst) = rows nss := by rw [rws_lst]; rfl

theorem mkR_like {nss : List (List Int)} {k : Int} {e e' sz : Nat} : (Chunk.rows e e' sz (rws nss) none).like (.rows e e' sz (rws (mkR k nss)) none) := by
  refine ⟨rfl, rfl, rfl, rfl, ?_⟩
  have := mkR_lens nss k
  simp only [rws, List.map_map]
  have e : (List.length ∘ fun ns : List Int => List.map (D.int .i64) ns) = List.length := by funext ns; simp
  rw [e, this]

end Go.Proofs.Ythcaccakbmooeaa

/-! Contracts of how the laws' package looks for its marks, and of its copies as memory of one's own. No condition. -/
namespace Go.Proofs.Ythcaccakbmooeaa
open Go
attribute [local irreducible] awp awpL awpQL awpQ awpM pWalk Qt AC thenQ blockQ loopQ OpTo
set_option linter.unusedVariables false
set_option linter.unusedSimpArgs false
set_option maxHeartbeats 2000000
attribute [local irreducible] HC

end Go.Proofs.Ythcaccakbmooeaa
