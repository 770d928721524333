/- Texts of machines: the program reads what it writes. Condition: the variables of strconv are laid. -/
import Derived.Test.YtffmlijngfhhaaaGreatDoorMx
import Derived.Test.YtffmlijngfhhaaaGreatDoorMy
namespace Go.Proofs.YtffmlijngfhhaaaGreatDoor
open Go
attribute [local irreducible] awp awpL awpQL awpQ awpM pWalk Qt AC thenQ blockQ loopQ OpTo
set_option linter.unusedVariables false
set_option linter.unusedSimpArgs false
set_option maxHeartbeats 2000000
attribute [local irreducible] HC
open Go.Lib (itoa)

/-! ### Plain -/
theorem lns_nlJ : ∀ (A : List (List UInt8)) (r : List UInt8), (∀ a ∈ A, ∀ c ∈ a, c ≠ 10) → lns (nlJ A ++ r) = A ++ lns r
  | [], r, _ => rfl
  | a :: A, r, h => by
    show lns (((a ++ [10]) ++ nlJ A) ++ r) = a :: (A ++ lns r)
    rw [List.append_assoc, List.append_assoc, show ([10] : List UInt8) ++ (nlJ A ++ r) = 10 :: (nlJ A ++ r) from rfl, lns_at (h a (List.mem_cons_self ..)), lns_nlJ A r fun b hb => h b (List.mem_cons_of_mem _ hb)]
theorem bls_spT : ∀ (ws : List (List UInt8)) (w : List UInt8), (∀ c ∈ w, c ≠ 32) → (∀ x ∈ ws, ∀ c ∈ x, c ≠ 32) → bls (spT w ws) = w :: ws
  | [], w, h, _ => by
    unfold spT
    rw [List.flatMap_nil, List.append_nil, bls_no h]
  | x :: ws, w, h, h2 => by
    have ih := bls_spT ws x (h2 x (List.mem_cons_self ..)) fun y hy => h2 y (List.mem_cons_of_mem _ hy)
    unfold spT at ih ⊢
    rw [List.flatMap_cons, List.cons_append, bls_at h, ih]
theorem wbh_spT {w : List UInt8} {ws : List (List UInt8)} (h : ∀ c ∈ w, c ≠ 32) (h2 : ∀ x ∈ ws, ∀ c ∈ x, c ≠ 32) : wbh (spT w ws) = ws := by
  unfold wbh
  rw [bls_spT ws w h h2]
  rfl
theorem itoa_dig {n : Int} (h : 0 ≤ n) : ∀ c ∈ itoa n, 48 ≤ c.toNat ∧ c.toNat ≤ 57 := fun c hc => isDig_iff.1 (List.all_eq_true.1 (itoa_all h) c hc)
theorem prT_chr {p : Int × Int} (h1 : 0 ≤ p.1) (h2 : 0 ≤ p.2) : ∀ c ∈ prT p, 47 ≤ c.toNat ∧ c.toNat ≤ 57 := by
  unfold prT
  intro c hc
  rcases List.mem_append.1 hc with hc | hc
  · have := itoa_dig h1 c hc; omega
  · rcases List.mem_cons.1 hc with rfl | hc
    · decide
    · have := itoa_dig h2 c hc; omega
theorem spT_chr {w : List UInt8} {ws : List (List UInt8)} {p : UInt8 → Prop} (h1 : ∀ c ∈ w, p c) (h2 : p 32) (h3 : ∀ x ∈ ws, ∀ c ∈ x, p c) : ∀ c ∈ spT w ws, p c := by
  intro c hc
  unfold spT at hc
  rcases List.mem_append.1 hc with hc | hc
  · exact h1 c hc
  · obtain ⟨x, hx, hc⟩ := List.mem_flatMap.1 hc
    rcases List.mem_cons.1 hc with rfl | hc
    · exact h2
    · exact h3 x hx c hc
theorem ne_of {c : UInt8} {a b k : Nat} (h : a ≤ c.toNat ∧ c.toNat ≤ b) (hk : k < a ∨ b < k) (h256 : k < 256) : c ≠ UInt8.ofNat k := fun e => by
  have := congrArg UInt8.toNat e
  rw [UInt8.toNat_ofNat'] at this
  omega
theorem pint_prT {p : Int × Int} (h1 : 0 ≤ p.1 ∧ p.1 ≤ 999) (h2 : 0 ≤ p.2 ∧ p.2 ≤ 999) : pint (cutA 47 (prT p)) = p.1 ∧ pint (cutB 47 (prT p)) = p.2 := by
  have h := cut_yes (b := 47) (l := itoa p.1) (r := itoa p.2) fun c hc => ne_of (k := 47) (itoa_dig h1.1 c hc) (by omega) (by omega)
  unfold prT
  rw [h.1, h.2]
  exact ⟨pint_itoa h1.1 (by omega), pint_itoa h2.1 (by omega)⟩

section
variable {s o : Int} {nx ou : List (List Int)}
theorem zip_bnd (m : MV s o nx ou) {k : Nat} (hk : k < nx.length) {p : Int × Int} (hp : p ∈ (row nx k).zip (row ou k)) : (0 ≤ p.1 ∧ p.1 ≤ 999) ∧ 0 ≤ p.2 ∧ p.2 ≤ 999 := by
  have hs := m.s1
  have ho := m.o1
  have he := m.eq
  have h1 := (m.nx _ (row_mem (xs := nx) (l := (k : Int)) (by omega))).2 p.1 (List.of_mem_zip hp).1
  have h2 := (m.ou _ (row_mem (xs := ou) (l := (k : Int)) (by omega))).2 p.2 (List.of_mem_zip hp).2
  omega
theorem mrw_get (m : MV s o nx ou) {k : Nat} (hk : k < (mrw nx ou).length) : ∃ h : k < nx.length, (mrw nx ou)[k] = rowT (row nx k) (row ou k) := by
  have he := m.eq
  have hk2 : k < nx.length := by unfold mrw at hk; simp at hk; omega
  refine ⟨hk2, ?_⟩
  rw [row_eq hk2, row_eq (xs := ou) (by omega)]
  simp [mrw]
theorem wbh_row (m : MV s o nx ou) {k : Nat} (hk : k < nx.length) : wbh (rowT (row nx k) (row ou k)) = ((row nx k).zip (row ou k)).map prT :=
  wbh_spT (by decide) fun x hx c hc => by
    obtain ⟨p, hp, rfl⟩ := List.mem_map.1 hx
    have := zip_bnd m hk hp
    exact ne_of (k := 32) (prT_chr this.1.1 this.2.1 c hc) (by omega) (by omega)
theorem wbh_head (m : MV s o nx ou) : wbh (linT mchT [s, o, (nx.length : Int)]) = [itoa s, itoa o, itoa nx.length] :=
  wbh_spT (by decide) fun x hx c hc => by
    have hs := m.s1
    have ho := m.o1
    obtain ⟨q, hq, rfl⟩ := List.mem_map.1 hx
    have hq0 : 0 ≤ q := by
      simp only [List.mem_cons, List.not_mem_nil, or_false] at hq
      rcases hq with rfl | rfl | rfl <;> omega
    exact ne_of (k := 32) (itoa_dig hq0 c hc) (by omega) (by omega)
theorem no10_head (m : MV s o nx ou) : ∀ c ∈ linT mchT [s, o, (nx.length : Int)], c ≠ 10 :=
  spT_chr (by decide) (by decide) fun x hx c hc => by
    have hs := m.s1
    have ho := m.o1
    obtain ⟨q, hq, rfl⟩ := List.mem_map.1 hx
    have hq0 : 0 ≤ q := by
      simp only [List.mem_cons, List.not_mem_nil, or_false] at hq
      rcases hq with rfl | rfl | rfl <;> omega
    exact ne_of (k := 10) (itoa_dig hq0 c hc) (by omega) (by omega)
theorem no10_rows (m : MV s o nx ou) : ∀ a ∈ mrw nx ou, ∀ c ∈ a, c ≠ 10 := fun a ha => by
  obtain ⟨k, hk, rfl⟩ := List.getElem_of_mem ha
  obtain ⟨hk2, e⟩ := mrw_get m hk
  rw [e]
  refine spT_chr (by decide) (by decide) fun x hx c hc => ?_
  obtain ⟨p, hp, rfl⟩ := List.mem_map.1 hx
  have := zip_bnd m hk2 hp
  exact ne_of (k := 10) (prT_chr this.1.1 this.2.1 c hc) (by omega) (by omega)
theorem lns_mtx (m : MV s o nx ou) : lns (mtx s o nx ou) = linT mchT [s, o, (nx.length : Int)] :: (mrw nx ou ++ [[]]) := by
  have h := lns_nlJ (linT mchT [s, o, (nx.length : Int)] :: mrw nx ou) [] fun a ha => by
    rcases List.mem_cons.1 ha with rfl | ha
    · exact no10_head m
    · exact no10_rows m a ha
  rw [List.append_nil] at h
  exact h
theorem tlN_mtx (m : MV s o nx ou) : tlN (mtx s o nx ou) = s := by
  have hs := m.s1
  unfold tlN
  rw [lns_mtx m, List.headD_cons, wbh_head m, List.map_cons, List.headD_cons]
  exact pint_itoa (by omega) (by omega)
theorem tlR_mtx (m : MV s o nx ou) : tlR (mtx s o nx ou) = mrw nx ou := by
  unfold tlR
  rw [lns_mtx m, List.drop_one, List.tail_cons, List.filter_append, List.filter_eq_self.2 fun a ha => ?_]
  · simp
  · obtain ⟨k, hk, rfl⟩ := List.getElem_of_mem ha
    obtain ⟨hk2, e⟩ := mrw_get m hk
    rw [e]
    unfold rowT spT letT
    simp
theorem cut_mtx (m : MV s o nx ou) : cutA 10 (mtx s o nx ou) = linT mchT [s, o, (nx.length : Int)] := by
  have h := cut_yes (b := 10) (l := linT mchT [s, o, (nx.length : Int)]) (r := nlJ (mrw nx ou)) (no10_head m)
  have e : mtx s o nx ou = linT mchT [s, o, (nx.length : Int)] ++ 10 :: nlJ (mrw nx ou) := by
    unfold mtx nlJ
    rw [List.flatMap_cons, List.append_assoc]
    rfl
  rw [e]
  exact h.1
theorem nums_head (m : MV s o nx ou) : (wbh (linT mchT [s, o, (nx.length : Int)])).map pint = [s, o, (nx.length : Int)] := by
  have hs := m.s1
  have ho := m.o1
  have hn := m.n1
  rw [wbh_head m]
  simp only [List.map_cons, List.map_nil]
  rw [pint_itoa (by omega) (by omega), pint_itoa (by omega) (by omega), pint_itoa (by omega) (by omega)]
end
end Go.Proofs.YtffmlijngfhhaaaGreatDoor
