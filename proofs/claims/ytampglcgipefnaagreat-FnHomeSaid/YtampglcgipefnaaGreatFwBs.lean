/- A struct literal with structs in it that hold memory of one's own. No condition. -/
import Derived.Test.YtampglcgipefnaaGreatFwX
namespace Go.Proofs.YtampglcgipefnaaGreat
open Go
open Go.RowKit (Below)
set_option linter.unusedVariables false
set_option linter.unusedSimpArgs false

def cellsT (h : Heap) : SV → Option (List SV)
  | .agg l => some l
  | .d (.agg xs) => some (xs.map .d)
  | x => match svOne h x with
    | true => some [x]
    | false => none
def buildT (h : Heap) (fs : List (Nat × Nat × Bool)) (r : Operand → SV) : List SV → List (Nat × Operand) → Option (List SV)
  | xs, [] => some xs
  | xs, (i, o) :: l => match fs[i]?, cellsT h (r o) with
    | some q, some ys => match Nat.beq q.2.1 ys.length && Nat.ble (q.1 + ys.length) xs.length with
      | true => buildT h fs r (putS xs q.1 ys) l
      | false => none
    | _, _ => none
theorem cellsT_rep {σ : Nat → Loc} {h : Heap} {ok : Nat → Prop} {w : World} {v : Value} {x : SV} {l : List SV} (hr : RepSV σ h ok w v x) (hc : cellsT h x = some l) :
    v.cells.size = l.length ∧ ∀ (i : Nat) u y, v.cells[i]? = some u → l[i]? = some y → RepSV σ h ok w u y ∧ u.oneCell' = true := by
  unfold cellsT at hc
  split at hc
  · rename_i l'
    cases hc
    obtain ⟨cs, rfl, hs⟩ := (by simpa only [RepSV] using hr : ∃ cs : Array Value, v = .agg cs ∧ RepSVs σ h ok w true cs.toList l)
    obtain ⟨h1, h2⟩ := hs.get
    exact ⟨by simpa [Value.cells] using h1, fun i u y hu hy => by
      have := h2 i u y (by simpa [Value.cells] using hu) hy
      exact ⟨this.1, this.2 rfl⟩⟩
  · rename_i xs
    cases hc
    have hr : RepD ok w v (.agg xs) := hr
    obtain ⟨cs, rfl, h1, h2, h3⟩ := hr.agg_inv
    exact ⟨by simpa [Value.cells] using h1, fun i u y hu hy => by
      rw [List.getElem?_map, Option.map_eq_some_iff] at hy
      obtain ⟨z, hz, rfl⟩ := hy
      have hv := h3 i u z (by simpa [Value.cells] using hu) hz
      exact ⟨hv, hv.oneCell' (h2 z (List.mem_of_getElem? hz))⟩⟩
  · split at hc
    · rename_i ho
      cases hc
      obtain ⟨k1, k2⟩ := svOne_rep hr ho
      refine ⟨by rw [k2]; rfl, fun i u y hu hy => ?_⟩
      rw [k2] at hu
      cases i with
      | zero =>
        simp at hu hy
        subst hu hy
        exact ⟨hr, k1⟩
      | succ i => simp at hu
    · cases hc

theorem fill_fieldsT {ok : Nat → Prop} {w : World} {fs : List (Nat × Nat × Bool)} {r : Operand → SV} {ρ : Operand → Value} {σ : Nat → Loc} {h : Heap} (hρ : ∀ x, RepSV σ h ok w (ρ x) (r x)) : ∀ (l : List (Nat × Operand)) (cells : Array Value) (xs ys : List SV), cells.size = xs.length →
    (∀ (i : Nat) v x, cells[i]? = some v → xs[i]? = some x → RepSV σ h ok w v x ∧ v.oneCell' = true) → buildT h fs r xs l = some ys →
    ∃ out, Instr.fill (((fs.map fun q => (q.1, q.2.1)).toArray)[·]?) cells (l.map fun (q : Nat × Operand) => (q.1, ρ q.2)) = some out ∧ out.size = ys.length ∧ ∀ (i : Nat) v x, out[i]? = some v → ys[i]? = some x → RepSV σ h ok w v x ∧ v.oneCell' = true
  | [], cells, xs, ys, h1, h3, hb => by
    simp only [buildT, Option.some.injEq] at hb
    subst hb
    exact ⟨cells, rfl, h1, h3⟩
  | (i, o) :: l, cells, xs, ys, h1, h3, hb => by
    simp only [buildT] at hb
    split at hb
    · rename_i q zs hq hy
      split at hb
      · rename_i hc
        simp only [Bool.and_eq_true] at hc
        obtain ⟨c2, c3⟩ := hc
        have c2 := Nat.eq_of_beq_eq_true c2
        have c3 := Nat.le_of_ble_eq_true c3
        obtain ⟨k1, k2⟩ := cellsT_rep (hρ o) hy
        obtain ⟨f1, f2⟩ := fold_set (ρ o).cells.toList 0 q.1 cells
        have hsz : (ρ o).cells.size = q.2.1 := by omega
        have step := fill_fieldsT hρ l (((ρ o).cells.toList.zipIdx 0).foldl (fun cs (p : Value × Nat) => cs.setIfInBounds (q.1 + p.2) p.1) cells) (putS xs q.1 zs) ys
          (by rw [f1, putS_length]; exact h1)
          (fun j v x hjv hjx => by
            rw [f2] at hjv
            rw [putS_get _ _ _ _ (by omega)] at hjx
            simp only [Array.length_toList] at hjv
            by_cases hc : q.1 ≤ j ∧ j < q.1 + zs.length
            · rw [if_pos hc] at hjx
              rw [if_pos (by omega)] at hjv
              exact k2 _ v x (by simpa using hjv) hjx
            · rw [if_neg hc] at hjx
              rw [if_neg (by omega)] at hjv
              exact h3 j v x hjv hjx) hb
        obtain ⟨out, o1, o2, o3⟩ := step
        refine ⟨out, ?_, o2, o3⟩
        rw [← o1]
        simp only [List.map_cons, Instr.fill]
        have : ((fs.map fun q => (q.1, q.2.1)).toArray)[i]? = some (q.1, q.2.1) := by simp [hq]
        rw [this]
        simp only
        rw [if_neg (by simp [hsz]; omega)]
        congr 1
        rw [← Array.foldl_toList, Array.toList_zipIdx]
      · cases hb
    · cases hb

section
variable {cx : Cx} {h : Heap} {dst : Option Nat} {t ty : Nat} {pos : String} {af : Array Edge} {gd : Option (Nat × Bool)}
theorem wa_buildT {T : Nat} {parts : Array (Nat × Operand)} {tr : TR} {f : Nat → SV} {ys : List SV} (ht : tget cx.T T = some tr) (hag : tr.agg = true) (hfi : tr.fields.isEmpty = false) (hb : buildT h tr.fields (opv f) (tr.zero.map .d) parts.toList = some ys) :
    Qt cx h ⟨dst, .build T parts, ty, pos, af, gd⟩ f (.agg ys) := by
  intro s₁ hs σ a w hr K Q hK
  have hb' : buildT h tr.fields (opv s₁) (tr.zero.map .d) parts.toList = some ys := by
    rw [← hb]
    have key : ∀ (l : List (Nat × Operand)) (xs : List SV), (∀ p ∈ l, p ∈ parts.toList) → buildT h tr.fields (opv s₁) xs l = buildT h tr.fields (opv f) xs l := by
      intro l
      induction l with
      | nil => intro xs _; rfl
      | cons p l ih =>
        intro xs hp
        obtain ⟨i, x⟩ := p
        have hx : opv s₁ x = opv f x := by
          cases x <;> first | rfl | exact hs _ (by
            simp only [Op.operands, List.mem_toArray, List.mem_map]
            exact ⟨_, hp _ (List.mem_cons_self ..), rfl⟩)
        simp only [buildT, hx]
        split
        · split
          · exact ih _ fun q hq => hp q (List.mem_cons_of_mem _ hq)
          · rfl
        · rfl
    exact key _ _ fun _ h => h
  have hok := tget_ok cx.tab ht
  obtain ⟨d, i, hd, hi, e1, e2, _, _, _, _, _, _, z, hz, hza⟩ := tr_facts hok
  have hfs : ∃ fs : Array Field, d = .struct fs ∧ fieldsAre cx.P fs.toList tr.fields = true := by
    simp only [trOk, Bool.and_eq_true] at hok
    replace hok := hok.1
    unfold trOk0 at hok
    rw [hd, hi] at hok
    simp only [Bool.and_eq_true] at hok
    have h5 := hok.1.1.2
    cases d with
    | struct fs => exact ⟨fs, rfl, h5⟩
    | _ => simp only [hfi] at h5; cases h5
  obtain ⟨fs, rfl, hfa⟩ := hfs
  obtain ⟨z1, z2⟩ := zeroAre_rep (ok := okf cx σ h) (w := w) hza
  have zs : z.cells.size = tr.zero.length := by simpa using z1
  obtain ⟨out, o1, o2, o3⟩ := fill_fieldsT (rep_eval hr) parts.toList z.cells (tr.zero.map .d) ys (by simpa using zs) (fun j v x hv hx => by
    rw [List.getElem?_map, Option.map_eq_some_iff] at hx
    obtain ⟨y, hy, rfl⟩ := hx
    have hv' := z2.2 j v y (by simpa using hv) hy
    exact ⟨hv', hv'.oneCell' (z2.1 y (List.mem_of_getElem? hy))⟩) hb'
  have e : (parts.map fun (i, x) => (i, a.eval x)).toList = parts.toList.map fun (q : Nat × Operand) => (q.1, a.eval q.2) := by simp
  have hbt : cx.P.built T (parts.map fun (i, x) => (i, a.eval x)).toList = some out := by
    rw [e]
    simp only [Program.built, hi, hd, hz, fields_places hfa]
    exact o1
  unfold Oper.wp
  rw [show (execOp a.eval ⟨dst, .build T parts, ty, pos, af, gd⟩).run cx.P w = .ok (.value (.agg out)) w from by
    simp only [execOp, Sem.run_bind, run_build w T _ out hbt, Result.andThen_ok, Sem.run_pure]]
  refine hK _ _ (Below.refl _ _) ?_
  simp only [RepSV]
  exact ⟨out, rfl, RepSVs.mk (by simpa using o2) fun j v x hv hx => by
    have := o3 j v x (by simpa using hv) hx
    exact ⟨this.1, fun _ => this.2⟩⟩
end
theorem awpL_toG {cx : Cx} {ops : Array Oper} {rest : List Oper} {s s' : Slots} {h h' : Heap} {Q : Exit → Slots → Heap → Prop} {dst : Option Nat} {op : Op} {ty : Nat} {pos : String} {af : Array Edge} {gd : Nat × Bool} (hw : wantedA ops ⟨dst, op, ty, pos, af, some gd⟩ (lk s) = some true) (ho : OpTo cx ⟨dst, op, ty, pos, af, none⟩ s h s' h') (hn : awpL cx ops rest s' h' Q) :
    awpL cx ops (⟨dst, op, ty, pos, af, some gd⟩ :: rest) s h Q := fun a w hr => by
  unfold wpList
  rw [if_pos (by obtain ⟨σ, hr⟩ := hr; exact wanted_of hr hw)]
  exact .inl (ho a w hr _ _ fun a' w' hr' => hn a' w' hr')
/-- A call that turns what is handed to it, under a guard that holds. -/
theorem hclG {cx : Cx} {ops : Array Oper} {rest : List Oper} {s : Slots} {h : Heap} {Q : Exit → Slots → Heap → Prop} {t ty : Nat} {pos : String} {af : Array Edge} {gd : Nat × Bool} {f : Operand} {args : Array Operand} {tys : Array TypeId} {g : Nat} {cap ss : List SV} {hh : Heap} {r : SV} {hh' : Heap} (R1 R2 : List (Nat × Nat)) (hc : HC cx.P g ss hh r hh') (hn : awpL cx ops rest ((t, r.ren R2) :: mapS (SV.kill (movedIds R1 R2)) s) (renH R2 hh' ++ keepH (SV.kill (movedIds R1 R2)) (allIds R1 R2) h) Q)
    (hw : wantedA ops ⟨some t, .call { callee := .value f, args := args, argTypes := tys }, ty, pos, af, some gd⟩ (lk s) = some true := by exact rfl) (hf : fnv (opv (lk s) f) = some (g, cap) := by exact rfl) (ha : SV.rens R1 (args.toList.map (opv (lk s)) ++ cap) = ss := by exact rfl) (hp : pickH R1 h = some hh := by exact rfl) (hcall : callOk R1 R2 hh' = true := by exact rfl) (hd : Nat.blt t cx.nt = true := by exact rfl) :
    awpL cx ops (⟨some t, .call { callee := .value f, args := args, argTypes := tys }, ty, pos, af, some gd⟩ :: rest) s h Q := awpL_toG hw (op_hcall R1 R2 hf ha hp hc hcall hd) hn
end Go.Proofs.YtampglcgipefnaaGreat
