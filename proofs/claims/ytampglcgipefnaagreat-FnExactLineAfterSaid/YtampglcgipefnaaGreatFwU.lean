/- A row taken out of a row of rows before a slot names it. No condition. -/
import Derived.Test.YtampglcgipefnaaGreatFwS
namespace Go.Proofs.YtampglcgipefnaaGreat
open Go
open Go.RowKit (Below)
set_option linter.unusedVariables false
set_option linter.unusedSimpArgs false
section
variable {cx : Cx} {ops : Array Oper} {s : Slots} {h : Heap} {Q : Exit → Slots → Heap → Prop} {dst : Option Nat} {t ty : Nat} {pos : String} {af : Array Edge} {gd : Option (Nat × Bool)}

end
/-- The cells of a struct literal that holds memory of one's own. -/
def buildS (h : Heap) (fs : List (Nat × Nat × Bool)) (r : Operand → SV) : List SV → List (Nat × Operand) → Option (List SV)
  | xs, [] => some xs
  | xs, (i, o) :: l => match fs[i]? with
    | some q => match svOne h (r o) && Nat.beq q.2.1 1 && Nat.blt q.1 xs.length with
      | true => buildS h fs r (xs.set q.1 (r o)) l
      | false => none
    | none => none

theorem fill_fieldsS {ok : Nat → Prop} {w : World} {fs : List (Nat × Nat × Bool)} {r : Operand → SV} {ρ : Operand → Value} {σ : Nat → Loc} {h : Heap} (hρ : ∀ x, RepSV σ h ok w (ρ x) (r x)) : ∀ (l : List (Nat × Operand)) (cells : Array Value) (xs ys : List SV), cells.size = xs.length →
    (∀ (i : Nat) v x, cells[i]? = some v → xs[i]? = some x → RepSV σ h ok w v x ∧ v.oneCell' = true) → buildS h fs r xs l = some ys →
    ∃ out, Instr.fill (((fs.map fun q => (q.1, q.2.1)).toArray)[·]?) cells (l.map fun (q : Nat × Operand) => (q.1, ρ q.2)) = some out ∧ out.size = ys.length ∧ ∀ (i : Nat) v x, out[i]? = some v → ys[i]? = some x → RepSV σ h ok w v x ∧ v.oneCell' = true
  | [], cells, xs, ys, h1, h3, hb => by
    simp only [buildS, Option.some.injEq] at hb
    subst hb
    exact ⟨cells, rfl, h1, h3⟩
  | (i, o) :: l, cells, xs, ys, h1, h3, hb => by
    simp only [buildS] at hb
    split at hb
    · rename_i q hq
      split at hb
      · rename_i hc
        simp only [Bool.and_eq_true] at hc
        obtain ⟨⟨c1, c2⟩, c3⟩ := hc
        have c2 := Nat.eq_of_beq_eq_true c2
        have c3 : q.1 < xs.length := Nat.le_of_ble_eq_true c3
        obtain ⟨k1, k2⟩ := svOne_rep (hρ o) c1
        obtain ⟨out, o1, o2, o3⟩ := fill_fieldsS hρ l (cells.setIfInBounds q.1 (ρ o)) (xs.set q.1 (r o)) ys (by simp [h1]) (fun j v x hjv hjx => by
          by_cases e : q.1 = j
          · subst e
            rw [List.getElem?_set_self c3] at hjx
            rw [Array.getElem?_setIfInBounds_self_of_lt (by omega)] at hjv
            cases hjx
            cases hjv
            exact ⟨hρ o, k1⟩
          · rw [List.getElem?_set_ne e] at hjx
            rw [Array.getElem?_setIfInBounds_ne e] at hjv
            exact h3 j v x hjv hjx) hb
        refine ⟨out, ?_, o2, o3⟩
        rw [← o1]
        simp only [List.map_cons, Instr.fill]
        have : ((fs.map fun q => (q.1, q.2.1)).toArray)[i]? = some (q.1, q.2.1) := by simp [hq]
        rw [this]
        simp only
        rw [if_neg (by rw [k2]; simp [c2]; omega)]
        rw [k2]
        simp
      · cases hb
    · cases hb

section
variable {cx : Cx} {h : Heap} {dst : Option Nat} {t ty : Nat} {pos : String} {af : Array Edge} {gd : Option (Nat × Bool)}
theorem wa_buildS {T : Nat} {parts : Array (Nat × Operand)} {tr : TR} {f : Nat → SV} {ys : List SV} (ht : tget cx.T T = some tr) (hag : tr.agg = true) (hfi : tr.fields.isEmpty = false) (hb : buildS h tr.fields (opv f) (tr.zero.map .d) parts.toList = some ys) :
    Qt cx h ⟨dst, .build T parts, ty, pos, af, gd⟩ f (.agg ys) := by
  intro s₁ hs σ a w hr K Q hK
  have hb' : buildS h tr.fields (opv s₁) (tr.zero.map .d) parts.toList = some ys := by
    rw [← hb]
    have key : ∀ (l : List (Nat × Operand)) (xs : List SV), (∀ p ∈ l, p ∈ parts.toList) → buildS h tr.fields (opv s₁) xs l = buildS h tr.fields (opv f) xs l := by
      intro l
      induction l with
      | nil => intro xs _; rfl
      | cons p l ih =>
        intro xs hp
        obtain ⟨i, x⟩ := p
        have hx : opv s₁ x = opv f x := by
          cases x <;> first | rfl | exact hs _ (by
            simp only [Op.operands, List.mem_toArray, List.mem_map]
            exact ⟨_, hp _ (List.mem_cons_self ..), rfl⟩)
        simp only [buildS, hx]
        split
        · split
          · exact ih _ fun q hq => hp q (List.mem_cons_of_mem _ hq)
          · rfl
        · rfl
    exact key _ _ fun _ h => h
  have hok := tget_ok cx.tab ht
  obtain ⟨d, i, hd, hi, e1, e2, _, _, _, _, _, _, z, hz, hza⟩ := tr_facts hok
  have hfs : ∃ fs : Array Field, d = .struct fs ∧ fieldsAre cx.P fs.toList tr.fields = true := by
    simp only [trOk, Bool.and_eq_true] at hok
    replace hok := hok.1
    unfold trOk0 at hok
    rw [hd, hi] at hok
    simp only [Bool.and_eq_true] at hok
    have h5 := hok.1.1.2
    cases d with
    | struct fs => exact ⟨fs, rfl, h5⟩
    | _ => simp only [hfi] at h5; cases h5
  obtain ⟨fs, rfl, hfa⟩ := hfs
  obtain ⟨z1, z2⟩ := zeroAre_rep (ok := okf cx σ h) (w := w) hza
  have zs : z.cells.size = tr.zero.length := by simpa using z1
  obtain ⟨out, o1, o2, o3⟩ := fill_fieldsS (rep_eval hr) parts.toList z.cells (tr.zero.map .d) ys (by simpa using zs) (fun j v x hv hx => by
    rw [List.getElem?_map, Option.map_eq_some_iff] at hx
    obtain ⟨y, hy, rfl⟩ := hx
    have hv' := z2.2 j v y (by simpa using hv) hy
    exact ⟨hv', hv'.oneCell' (z2.1 y (List.mem_of_getElem? hy))⟩) hb'
  have e : (parts.map fun (i, x) => (i, a.eval x)).toList = parts.toList.map fun (q : Nat × Operand) => (q.1, a.eval q.2) := by simp
  have hbt : cx.P.built T (parts.map fun (i, x) => (i, a.eval x)).toList = some out := by
    rw [e]
    simp only [Program.built, hi, hd, hz, fields_places hfa]
    exact o1
  unfold Oper.wp
  rw [show (execOp a.eval ⟨dst, .build T parts, ty, pos, af, gd⟩).run cx.P w = .ok (.value (.agg out)) w from by
    simp only [execOp, Sem.run_bind, run_build w T _ out hbt, Result.andThen_ok, Sem.run_pure]]
  refine hK _ _ (Below.refl _ _) ?_
  simp only [RepSV]
  exact ⟨out, rfl, RepSVs.mk (by simpa using o2) fun j v x hv hx => by
    have := o3 j v x (by simpa using hv) hx
    exact ⟨this.1, fun _ => this.2⟩⟩
end

def insH (p : Nat × Chunk) : Heap → Heap
  | [] => [p]
  | q :: h => match Nat.ble p.1 q.1 with
    | true => p :: q :: h
    | false => q :: insH p h
def sortH : Heap → Heap
  | [] => []
  | p :: h => insH p (sortH h)
theorem insH_perm (p : Nat × Chunk) : ∀ h : Heap, (insH p h).Perm (p :: h)
  | [] => List.Perm.refl _
  | q :: h => by
    unfold insH
    split
    · exact List.Perm.refl _
    · exact ((insH_perm p h).cons q).trans (List.Perm.swap ..)
theorem sortH_perm : ∀ h : Heap, h.Perm (sortH h)
  | [] => List.Perm.refl _
  | p :: h => ((sortH_perm h).cons p).trans (insH_perm p (sortH h)).symm
theorem perm_of_sort {h H0 : Heap} (e : sortH h = H0) : h.Perm H0 := by rw [← e]; exact sortH_perm h
section
variable {cx : Cx} {ops : Array Oper} {s : Slots} {h : Heap} {Q : Exit → Slots → Heap → Prop}

/-- A nil cell of one's own variable becomes an empty row of one's own. -/
theorem R_nilCell {a : Act} {w : World} {id off j e sz : Nat} {cells : List SV} (hr : R cx (lk s) h a w) (hg : Heap.get ((j, Chunk.arr e sz []) :: killH j h) id = some (.box cells)) (hc : cells[off]? = some (.d .nils)) (hsz : Nat.blt 0 sz = true) (hj : isAnc j = false) (hne : Nat.beq j id = false) :
    R cx (lk (killS j s)) (setH id (.box (cells.set off (.own j))) ((j, .arr e sz []) :: killH j h)) a w := by
  obtain ⟨σ, hr⟩ := hr
  have hne' := Nat.ne_of_beq_eq_false hne
  obtain ⟨σ', e1, hr'⟩ := hr.lay (w' := w) j hj ⟨0, 0, true, []⟩ (.arr e sz []) rfl rfl rfl (Nat.le_refl _) (fun _ _ _ => rfl) (by simp [blk]) (by simp [blk]) fun σ' ok' hok _ _ =>
    ⟨Nat.le_of_ble_eq_true hsz, [], ⟨by simp, .inl ⟨by simp [sliceAt], rfl⟩⟩, by simp, [], rfl, by simp, by simp⟩
  obtain ⟨p0, hp0, hp1, hp2⟩ := get_mem hg
  have hch := hr'.heap.rep p0 hp0
  rw [hp1, hp2] at hch
  obtain ⟨c0, cs, T', c1, c2, c3⟩ := hch
  refine ⟨σ', hr'.set (c' := .box (cells.set off (.own j))) hg (by simp [Chunk.like]) rfl rfl rfl rfl (fun _ _ => rfl) fun hok => ?_⟩
  refine ⟨c0, cs, T', c1, by simp [c2], fun i v u hv hu => ?_⟩
  by_cases e : off = i
  · subst e
    have old := c3 off v (.d .nils) hv hc
    have hlt : off < cells.length := by
      rcases Nat.lt_or_ge off cells.length with h' | h'
      · exact h'
      · simp [h'] at hc
    rw [List.getElem?_set_self hlt] at hu
    cases hu
    refine ⟨?_, old.2⟩
    have hv' := RepD.nils_inv old.1
    simp only [RepSV, get_setH_ne hne', Heap.get, if_true, e1, hv']
    simp [sliceAt]
  · rw [List.getElem?_set_ne e] at hu
    exact ⟨(c3 i v u hv hu).1.set hg (by simp [Chunk.like]) hok, (c3 i v u hv hu).2⟩

theorem awp_nilCell {c : Code} (id off j e sz : Nat) {cells : List SV} (hg : Heap.get ((j, Chunk.arr e sz []) :: killH j h) id = some (.box cells)) (hc : cells[off]? = some (.d .nils)) (hsz : Nat.blt 0 sz = true) (hj : isAnc j = false) (hne : Nat.beq j id = false)
    (hn : awp cx c (killS j s) (setH id (.box (cells.set off (.own j))) ((j, .arr e sz []) :: killH j h)) Q) : awp cx c s h Q := fun a w hr => hn a w (R_nilCell hr hg hc hsz hj hne)
theorem awpL_perm {l : List Oper} (H0 : Heap) (hp : sortH h = H0) (hn : awpL cx ops l s H0 Q) : awpL cx ops l s h Q := fun a w hr => hn a w (R_perm (perm_of_sort hp) hr)
end
section
variable {cx : Cx} {h : Heap} {dst : Option Nat} {t ty : Nat} {pos : String} {af : Array Edge} {gd : Option (Nat × Bool)}
end
end Go.Proofs.YtampglcgipefnaaGreat
