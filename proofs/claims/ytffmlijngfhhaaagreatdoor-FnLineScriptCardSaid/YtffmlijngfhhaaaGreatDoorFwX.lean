/- A row of one's own is put into the place from which a row was taken. No condition. -/
import Derived.Test.YtffmlijngfhhaaaGreatDoorFwT
import Derived.Laws.Slices
namespace Go.Proofs.YtffmlijngfhhaaaGreatDoor
open Go
open Go.RowKit (Below)
set_option linter.unusedVariables false
set_option linter.unusedSimpArgs false
section
variable {cx : Cx} {ops : Array Oper} {s : Slots} {h : Heap} {Q : Exit -> Slots -> Heap -> Prop} {dst : Option Nat} {t ty : Nat} {pos : String} {af : Array Edge} {gd : Option (Nat × Bool)}
theorem awp_permTo {cx : Cx} {c : Code} {s : Slots} {h : Heap} {Q : Exit -> Slots -> Heap -> Prop} (H0 : Heap) (hp : sortH h = sortH H0) (hn : awp cx c s H0 Q) : awp cx c s h Q := fun a w hr => hn a w (R_perm ((perm_of_sort hp).trans (perm_of_sort (rfl : sortH H0 = sortH H0)).symm) hr)
end
end Go.Proofs.YtffmlijngfhhaaaGreatDoor
namespace Go.Proofs.YtffmlijngfhhaaaGreatDoor
open Go
open Go.RowKit (Below)
set_option linter.unusedVariables false
set_option linter.unusedSimpArgs false
inductive D.Le : D -> D -> Prop
  | refl (x : D) : D.Le x x
  | tag (b e sz : Nat) (xs : List D) : D.Le (.rowb b e sz xs) (.lst xs)
  | nil : D.Le .nils (.lst [])
  | lst (xs ys : List D) : xs.length = ys.length -> (∀ (i : Nat) x y, xs[i]? = some x -> ys[i]? = some y -> D.Le x y) -> D.Le (.lst xs) (.lst ys)
theorem RepD.le {ok : Nat -> Prop} {w : World} {x y : D} (hl : D.Le x y) : ∀ {v : Value}, RepD ok w v x -> RepD ok w v y := by
  induction hl with
  | refl x => exact fun h => h
  | tag b e sz xs =>
    intro v h
    cases h with
    | rowb b cap n cells e xs vs sz h1 h2 h3 h4 h5 h5b h5c h5d h6 h7 =>
      exact .lst b 0 cap n cells e (0, 0) xs vs sz h1 h2 h3 h4 h5 (by have : cap <= maxLen := h5b; simp only [maxLen] at this; omega) h6 fun i v hv => ⟨(h7 i v hv).1, fun j hj => by rw [Nat.zero_add]; exact (h7 i v hv).2 j hj⟩
  | nil =>
    intro v h
    rw [RepD.nils_inv h]
    exact .nil0
  | lst xs ys hl _ ih =>
    intro v h
    cases h with
    | nil0 =>
      have : ys = [] := List.eq_nil_of_length_eq_zero (by simpa using hl.symm)
      subst this
      exact .nil0
    | emp a cap =>
      have : ys = [] := List.eq_nil_of_length_eq_zero (by simpa using hl.symm)
      subst this
      exact .emp a cap
    | lst b off cap n cells e fr xs vs sz h1 h2 h3 h4 h5 h5b h6 h7 =>
      refine .lst b off cap n cells e fr ys vs sz h1 h2 (h3.trans hl) (h4.trans hl) h5 h5b (fun i v y hv hy => ?_) h7
      have hi : i < ys.length := by
        rcases Nat.lt_or_ge i ys.length with h | h
        . exact h
        . simp [h] at hy
      have hx : xs[i]? = some (xs[i]'(by omega)) := List.getElem?_eq_getElem (by omega)
      exact ih i _ _ hx hy (h6 i v _ hv hx)
theorem AC.le {P : Program} {f : Nat} {xs ys : List D} {r : D} (h : AC P f ys r) (hl : xs.length = ys.length) (hle : ∀ (i : Nat) x y, xs[i]? = some x -> ys[i]? = some y -> D.Le x y) : AC P f xs r :=
  ⟨h.1, fun w ok vs he hok hr => h.2 w ok vs he hok ⟨hr.1.trans hl, fun i v y hv hy => by
    have hi : i < ys.length := by
      rcases Nat.lt_or_ge i ys.length with h | h
      . exact h
      . simp [h] at hy
    have hx : xs[i]? = some (xs[i]'(by omega)) := List.getElem?_eq_getElem (by omega)
    exact (hr.2 i v _ hv hx).le (hle i _ _ hx hy)⟩⟩
section
variable {cx : Cx} {ops : Array Oper} {s : Slots} {h : Heap} {Q : Exit -> Slots -> Heap -> Prop}
end
end Go.Proofs.YtffmlijngfhhaaaGreatDoor
namespace Go.Proofs.YtffmlijngfhhaaaGreatDoor
open Go
open Go.RowKit (Below)
set_option linter.unusedVariables false
set_option linter.unusedSimpArgs false
def partD (xs : List D) (l h : Nat) : List D := (xs.drop l).take (h - l)
theorem lst_sliced {ok : Nat -> Prop} {w : World} {v : Value} {xs : List D} {size l h : Nat} (hv : RepD ok w v (.lst xs)) (hel : ∀ y ∈ xs, y.el = true /\ y.width = size) (h1 : l <= h) (h2 : h <= xs.length) :
    ∃ a c, v = .slice a xs.length c /\ xs.length <= c /\ RepD ok w (sliced a l h c size) (.lst (partD xs l h)) := by
  cases hv with
  | nil0 =>
    simp at h2
    subst h2
    have : l = 0 := by omega
    subst this
    exact ⟨none, 0, rfl, Nat.le_refl _, RepD.nil0⟩
  | emp a cap =>
    simp at h2
    subst h2
    have : l = 0 := by omega
    subst this
    refine ⟨some a, cap, rfl, Nat.zero_le _, ?_⟩
    unfold sliced
    split
    . exact RepD.emp _ _
    . exact RepD.emp _ _
  | lst b off cap m cells e fr xs vs sz k1 k2 k3 k4 k5 k6 k7 k8 =>
    subst k4
    refine ⟨some ⟨b, off, none⟩, cap, rfl, k5, ?_⟩
    by_cases he : h = l
    . subst he
      have hp : partD xs h h = [] := by simp [partD]
      unfold sliced
      rw [hp, Nat.sub_self]
      split
      . exact RepD.emp _ _
      . exact RepD.emp _ _
    . have hlt : l < h := by omega
      have hsz : sz = size := by
        have hl : l < vs.length := by omega
        have hx : l < xs.length := by omega
        have hget : vs[l]? = some vs[l] := List.getElem?_eq_getElem hl
        have hgx : xs[l]? = some xs[l] := List.getElem?_eq_getElem hx
        obtain ⟨e1, e2⟩ := hel _ (List.getElem_mem hx)
        rw [<- (k8 _ _ hget).1, (k7 _ _ _ hget hgx).width (D.el_or e1), e2]
      subst hsz
      have hbase : sliced (some ⟨b, off, none⟩) l h cap sz = .slice (some ⟨b, off + l * sz, none⟩) (h - l) (cap - l) := by
        unfold sliced
        rw [if_neg (by omega)]
        simp only [Option.map_some, Addr.add]
        split
        . rename_i hz
          rw [hz, Nat.add_zero]
        . rfl
      rw [hbase]
      have hlen : (partD xs l h).length = h - l := by simp [partD]; omega
      refine RepD.lst b (off + l * sz) (cap - l) (h - l) cells e fr (partD xs l h) ((vs.drop l).take (h - l)) sz k1 k2 (by rw [hlen]; simp; omega) hlen.symm (by omega) (by omega) ?_ ?_
      . intro i v x hv hx
        have hv' : vs[l + i]? = some v := by
          rw [List.getElem?_take] at hv
          split at hv
          . rwa [List.getElem?_drop] at hv
          . cases hv
        have hx' : xs[l + i]? = some x := by
          unfold partD at hx
          rw [List.getElem?_take] at hx
          split at hx
          . rwa [List.getElem?_drop] at hx
          . cases hx
        exact k7 _ _ _ hv' hx'
      . intro i v hv
        have hv' : vs[l + i]? = some v := by
          rw [List.getElem?_take] at hv
          split at hv
          . rwa [List.getElem?_drop] at hv
          . cases hv
        obtain ⟨c1, c2⟩ := k8 _ _ hv'
        refine ⟨c1, fun j hj => ?_⟩
        rw [<- c2 j hj, Nat.add_mul]
        congr 1
        omega
section
variable {cx : Cx} {h : Heap} {s : Nat -> SV} {dst : Option Nat} {ty : Nat} {pos : String} {af : Array Edge} {gd : Option (Nat × Bool)}
theorem elem_is {P : Program} {t e : Nat} (h : P.underlying t = some (.slice e)) : P.elem t = e := by simp [Program.elem, h]
theorem qa_slice_lh {t : Nat} {x lo hi : Operand} {tr te : TR} {xs : List D} {k k' : IntKind} {a b : Int} (hx : opv s x = .d (.lst xs)) (hlo : opv s lo = .d (.int k a)) (hhi : opv s hi = .d (.int k' b)) (ht : tget cx.T t = some tr) (hsl : tr.isSl = true)
    (hte : tget cx.T tr.elem = some te) (hel : elsOk te.size xs = true) (h0 : 0 <= a) (h1 : a <= b) (h2 : b <= xs.length) : Qt cx h ⟨dst, .slice t x (some lo) (some hi) none, ty, pos, af, gd⟩ s (.d (.lst (partD xs a.toNat b.toNat))) :=
  qt_of fun r hr σ ac w hv _ _ => by
    have v1 := hv x
    have v2 := hv lo
    have v3 := hv hi
    rw [hr x (by simp [Op.operands]), hx] at v1
    rw [hr lo (by simp [Op.operands]), hlo] at v2
    rw [hr hi (by simp [Op.operands]), hhi] at v3
    have v2' := RepD.int_inv v2
    have v3' := RepD.int_inv v3
    obtain ⟨d, i, hd, hi', -, -, -, hs, -⟩ := tr_facts (tget_ok cx.tab ht)
    obtain ⟨d', i', hd', hi2, -, hz, -⟩ := tr_facts (tget_ok cx.tab hte)
    have := hs hsl
    subst this
    have hE := elem_is hd
    have hd2 : cx.P.underlying t = some (.slice (cx.P.elem t)) := by rw [hE]; exact hd
    obtain ⟨A, c, e1, e2, e3⟩ := lst_sliced (l := a.toNat) (h := b.toNat) v1 (elsOk_all hel) (by omega) (by omega)
    refine ⟨_, w, ?_, Below.refl _ _, e3⟩
    simp only [execOp, v2', v3', e1, Option.map_some, Option.map_none]
    simp only [Sem.run_bind, Sem.run_pure]
    rw [run_sliceAt_slice (h := hd2), run_slice_lh (ht := hd2) (h0 := h0) (h1 := h1) (h2 := by omega), hE]
    simp [sizeOf, typeInfo, hi2, hz, Result.andThen]
theorem qa_slice_h {t : Nat} {x hi : Operand} {tr te : TR} {xs : List D} {k' : IntKind} {b : Int} (hx : opv s x = .d (.lst xs)) (hhi : opv s hi = .d (.int k' b)) (ht : tget cx.T t = some tr) (hsl : tr.isSl = true)
    (hte : tget cx.T tr.elem = some te) (hel : elsOk te.size xs = true) (h0 : 0 <= b) (h2 : b <= xs.length) : Qt cx h ⟨dst, .slice t x none (some hi) none, ty, pos, af, gd⟩ s (.d (.lst (xs.take b.toNat))) :=
  qt_of fun r hr σ ac w hv _ _ => by
    have v1 := hv x
    have v3 := hv hi
    rw [hr x (by simp [Op.operands]), hx] at v1
    rw [hr hi (by simp [Op.operands]), hhi] at v3
    have v3' := RepD.int_inv v3
    obtain ⟨d, i, hd, hi', -, -, -, hs, -⟩ := tr_facts (tget_ok cx.tab ht)
    obtain ⟨d', i', hd', hi2, -, hz, -⟩ := tr_facts (tget_ok cx.tab hte)
    have := hs hsl
    subst this
    have hE := elem_is hd
    have hd2 : cx.P.underlying t = some (.slice (cx.P.elem t)) := by rw [hE]; exact hd
    obtain ⟨A, c, e1, e2, e3⟩ := lst_sliced (l := 0) (h := b.toNat) v1 (elsOk_all hel) (by omega) (by omega)
    rw [show partD xs 0 b.toNat = xs.take b.toNat by simp [partD]] at e3
    refine ⟨_, w, ?_, Below.refl _ _, e3⟩
    simp only [execOp, v3', e1, Option.map_some, Option.map_none]
    simp only [Sem.run_bind, Sem.run_pure]
    rw [run_sliceAt_slice (h := hd2), run_slice_h (ht := hd2) (h0 := h0) (h2 := by omega), hE]
    simp [sizeOf, typeInfo, hi2, hz, Result.andThen]
theorem qa_slice_l {t : Nat} {x lo : Operand} {tr te : TR} {xs : List D} {k : IntKind} {a : Int} (hx : opv s x = .d (.lst xs)) (hlo : opv s lo = .d (.int k a)) (ht : tget cx.T t = some tr) (hsl : tr.isSl = true)
    (hte : tget cx.T tr.elem = some te) (hel : elsOk te.size xs = true) (h0 : 0 <= a) (h2 : a <= xs.length) : Qt cx h ⟨dst, .slice t x (some lo) none none, ty, pos, af, gd⟩ s (.d (.lst (xs.drop a.toNat))) :=
  qt_of fun r hr σ ac w hv _ _ => by
    have v1 := hv x
    have v2 := hv lo
    rw [hr x (by simp [Op.operands]), hx] at v1
    rw [hr lo (by simp [Op.operands]), hlo] at v2
    have v2' := RepD.int_inv v2
    obtain ⟨d, i, hd, hi', -, -, -, hs, -⟩ := tr_facts (tget_ok cx.tab ht)
    obtain ⟨d', i', hd', hi2, -, hz, -⟩ := tr_facts (tget_ok cx.tab hte)
    have := hs hsl
    subst this
    have hE := elem_is hd
    have hd2 : cx.P.underlying t = some (.slice (cx.P.elem t)) := by rw [hE]; exact hd
    obtain ⟨A, c, e1, e2, e3⟩ := lst_sliced (l := a.toNat) (h := xs.length) v1 (elsOk_all hel) (by omega) (by omega)
    rw [show partD xs a.toNat xs.length = xs.drop a.toNat by unfold partD; exact List.take_of_length_le (by simp)] at e3
    refine ⟨_, w, ?_, Below.refl _ _, e3⟩
    simp only [execOp, v2', e1, Option.map_some, Option.map_none]
    simp only [Sem.run_bind, Sem.run_pure]
    rw [run_sliceAt_slice (h := hd2), run_slice_l (ht := hd2) (h0 := h0) (h1 := by omega), hE]
    simp [sizeOf, typeInfo, hi2, hz, Result.andThen]
end
end Go.Proofs.YtffmlijngfhhaaaGreatDoor
namespace Go.Proofs.YtffmlijngfhhaaaGreatDoor
open Go
open Go.RowKit (Below)
set_option linter.unusedVariables false
set_option linter.unusedSimpArgs false
section
variable {cx : Cx} {h : Heap} {dst : Option Nat} {t ty : Nat} {pos : String} {af : Array Edge} {gd : Option (Nat × Bool)}
end
theorem awpL_toG {cx : Cx} {ops : Array Oper} {rest : List Oper} {s s' : Slots} {h h' : Heap} {Q : Exit -> Slots -> Heap -> Prop} {dst : Option Nat} {op : Op} {ty : Nat} {pos : String} {af : Array Edge} {gd : Nat × Bool} (hw : wantedA ops ⟨dst, op, ty, pos, af, some gd⟩ (lk s) = some true) (ho : OpTo cx ⟨dst, op, ty, pos, af, none⟩ s h s' h') (hn : awpL cx ops rest s' h' Q) :
    awpL cx ops (⟨dst, op, ty, pos, af, some gd⟩ :: rest) s h Q := fun a w hr => by
  unfold wpList
  rw [if_pos (by obtain ⟨σ, hr⟩ := hr; exact wanted_of hr hw)]
  exact .inl (ho a w hr _ _ fun a' w' hr' => hn a' w' hr')
theorem hclG {cx : Cx} {ops : Array Oper} {rest : List Oper} {s : Slots} {h : Heap} {Q : Exit -> Slots -> Heap -> Prop} {t ty : Nat} {pos : String} {af : Array Edge} {gd : Nat × Bool} {f : Operand} {args : Array Operand} {tys : Array TypeId} {g : Nat} {cap ss : List SV} {hh : Heap} {r : SV} {hh' : Heap} (R1 R2 : List (Nat × Nat)) (hc : HC cx.P g ss hh r hh') (hn : awpL cx ops rest ((t, r.ren R2) :: mapS (SV.kill (movedIds R1 R2)) s) (renH R2 hh' ++ keepH (SV.kill (movedIds R1 R2)) (allIds R1 R2) h) Q)
    (hw : wantedA ops ⟨some t, .call { callee := .value f, args := args, argTypes := tys }, ty, pos, af, some gd⟩ (lk s) = some true := by exact rfl) (hf : fnv (opv (lk s) f) = some (g, cap) := by exact rfl) (ha : SV.rens R1 (args.toList.map (opv (lk s)) ++ cap) = ss := by exact rfl) (hp : pickH R1 h = some hh := by exact rfl) (hcall : callOk R1 R2 hh' = true := by exact rfl) (hd : Nat.blt t cx.nt = true := by exact rfl) :
    awpL cx ops (⟨some t, .call { callee := .value f, args := args, argTypes := tys }, ty, pos, af, some gd⟩ :: rest) s h Q := awpL_toG hw (op_hcall R1 R2 hf ha hp hc hcall hd) hn
end Go.Proofs.YtffmlijngfhhaaaGreatDoor
