/- Struct literals, one's own variables lent and given away, regions that draw their order and end with a write. No condition. -/
import Derived.Test.YtampglcgipefnaaGreatFwJ
namespace Go.Proofs.YtampglcgipefnaaGreat
open Go
open Go.RowKit (Below)
set_option linter.unusedVariables false
set_option linter.unusedSimpArgs false

section
variable {cx : Cx} {ops : Array Oper} {rest : List Oper} {s : Slots} {h : Heap} {Q : Exit → Slots → Heap → Prop} {K : Slots → Prop} {dst : Option Nat} {t ty : Nat} {pos : String} {af : Array Edge} {gd : Option (Nat × Bool)}

/-! ### Struct literals -/

def putL : List D → Nat → List D → List D
  | l, _, [] => l
  | l, off, x :: xs => putL (l.set off x) (off + 1) xs

theorem putL_length : ∀ (xs : List D) (l : List D) (off : Nat), (putL l off xs).length = l.length
  | [], _, _ => rfl
  | x :: xs, l, off => by simp [putL, putL_length xs]

theorem putL_get : ∀ (xs : List D) (l : List D) (off j : Nat), off + xs.length ≤ l.length → (putL l off xs)[j]? = if off ≤ j ∧ j < off + xs.length then xs[j - off]? else l[j]?
  | [], l, off, j, _ => by simp [putL]; omega
  | x :: xs, l, off, j, hl => by
    simp only [List.length_cons] at hl
    rw [putL, putL_get xs _ (off + 1) j (by simp; omega)]
    by_cases h1 : j = off
    · subst h1
      rw [if_neg (by omega), if_pos (by simp), List.getElem?_set_self (by omega)]
      simp
    · by_cases h2 : off + 1 ≤ j ∧ j < off + 1 + xs.length
      · rw [if_pos h2, if_pos (by simp; omega)]
        rw [show j - off = (j - (off + 1)) + 1 by omega]
        simp
      · rw [if_neg h2, if_neg (by simp; omega), List.getElem?_set_ne (by omega)]

/-- The cells of a struct literal. -/
def buildD (fs : List (Nat × Nat × Bool)) (r : Operand → SV) : List D → List (Nat × Operand) → Option (List D)
  | xs, [] => some xs
  | xs, (i, o) :: l => match fs[i]?, r o with
    | some q, .d y => match y.el && Nat.beq y.width q.2.1 && Nat.beq y.cells.length q.2.1 && y.cells.all D.one && Nat.ble (q.1 + q.2.1) xs.length with
      | true => buildD fs r (putL xs q.1 y.cells) l
      | false => none
    | _, _ => none

theorem fields_places {P : Program} : ∀ {l : List Field} {qs : List (Nat × Nat × Bool)}, fieldsAre P l qs = true → l.mapM (fun f => (P.info? f.type).map fun i => (f.offset, i.size)) = some (qs.map fun q => (q.1, q.2.1))
  | [], [], _ => rfl
  | [], _ :: _, h => by simp [fieldsAre] at h
  | _ :: _, [], h => by simp [fieldsAre] at h
  | f :: l, q :: qs, h => by
    simp only [fieldsAre, Bool.and_eq_true] at h
    obtain ⟨h1, h2⟩ := h
    have ih := fields_places h2
    unfold fieldIs at h1
    simp only [Bool.and_eq_true, beq_iff_eq] at h1
    obtain ⟨ho, h1⟩ := h1
    split at h1
    · rename_i d i hd hi
      simp only [Bool.and_eq_true, beq_iff_eq, decide_eq_true_eq, Bool.or_eq_true] at h1
      simp [List.mapM_cons, hi, ih, ho, h1.1.1.2]
    · cases h1

/-- A value's cells are its data's. -/
theorem RepD.cellsAll {ok : Nat → Prop} {w : World} {v : Value} {x : D} (h : RepD ok w v x) (hel : x.el = true) : v.cells.size = x.cells.length ∧ ∀ (i : Nat) u y, v.cells[i]? = some u → x.cells[i]? = some y → RepD ok w u y := by
  cases h with
  | agg cs xs h1 h2 h3 => exact ⟨h1, h3⟩
  | tup => simp [D.el] at hel
  | _ =>
    refine ⟨rfl, fun i u y hu hy => ?_⟩
    simp only [D.cells, Value.cells] at hu hy
    cases i with
    | zero =>
      simp at hu hy
      subst hu hy
      first | exact .int _ _ | exact .bool _ | exact .str _ _ (by assumption) | exact .nils | exact .nil0 | exact .emp _ _ | exact .nilp | exact .nilm | (constructor <;> assumption)
    | succ i => simp at hu

theorem fill_fields {ok : Nat → Prop} {w : World} {fs : List (Nat × Nat × Bool)} {r : Operand → SV} {ρ : Operand → Value} {σ : Nat → Loc} {h : Heap} (hρ : ∀ x, RepSV σ h ok w (ρ x) (r x)) : ∀ (l : List (Nat × Operand)) (cells : Array Value) (xs ys : List D), cells.size = xs.length → (∀ x ∈ xs, x.one = true) →
    (∀ (i : Nat) v x, cells[i]? = some v → xs[i]? = some x → RepD ok w v x) → buildD fs r xs l = some ys →
    ∃ out, Instr.fill (((fs.map fun q => (q.1, q.2.1)).toArray)[·]?) cells (l.map fun (q : Nat × Operand) => (q.1, ρ q.2)) = some out ∧ RepD ok w (.agg out) (.agg ys)
  | [], cells, xs, ys, h1, h2, h3, hb => by
    simp only [buildD, Option.some.injEq] at hb
    subst hb
    exact ⟨cells, rfl, .agg _ _ h1 h2 h3⟩
  | (i, o) :: l, cells, xs, ys, h1, h2, h3, hb => by
    simp only [buildD] at hb
    split at hb
    · rename_i q y hq hy
      split at hb
      · rename_i hc
        simp only [Bool.and_eq_true] at hc
        obtain ⟨⟨⟨⟨c1, c2⟩, c3⟩, c4⟩, c5⟩ := hc
        have c3 := Nat.eq_of_beq_eq_true c3
        have c5 := Nat.le_of_ble_eq_true c5
        have hv := hρ o
        rw [hy] at hv
        have hv' : RepD ok w (ρ o) y := hv
        obtain ⟨k1, k2⟩ := hv'.cellsAll c1
        obtain ⟨f1, f2⟩ := fold_set (ρ o).cells.toList 0 q.1 cells
        have hsz : (ρ o).cells.size = q.2.1 := by omega
        have step := fill_fields hρ l (((ρ o).cells.toList.zipIdx 0).foldl (fun cs (p : Value × Nat) => cs.setIfInBounds (q.1 + p.2) p.1) cells) (putL xs q.1 y.cells) ys
          (by rw [f1, putL_length]; exact h1)
          (fun x hx => by
            obtain ⟨j, hj⟩ := List.getElem?_of_mem hx
            rw [putL_get _ _ _ _ (by omega)] at hj
            split at hj
            · exact List.all_eq_true.1 c4 x (List.mem_of_getElem? hj)
            · exact h2 x (List.mem_of_getElem? hj))
          (fun j v x hjv hjx => by
            rw [f2] at hjv
            rw [putL_get _ _ _ _ (by omega)] at hjx
            simp only [Array.length_toList] at hjv
            by_cases hc : q.1 ≤ j ∧ j < q.1 + y.cells.length
            · rw [if_pos hc] at hjx
              rw [if_pos (by omega)] at hjv
              exact k2 _ v x (by simpa using hjv) hjx
            · rw [if_neg hc] at hjx
              rw [if_neg (by omega)] at hjv
              exact h3 j v x hjv hjx) hb
        obtain ⟨out, o1, o2⟩ := step
        refine ⟨out, ?_, o2⟩
        rw [← o1]
        simp only [List.map_cons, Instr.fill]
        have : ((fs.map fun q => (q.1, q.2.1)).toArray)[i]? = some (q.1, q.2.1) := by simp [hq]
        rw [this]
        simp only
        rw [if_neg (by simp [hsz]; omega)]
        congr 1
        rw [← Array.foldl_toList, Array.toList_zipIdx]
      · cases hb
    · cases hb

theorem qa_build {T : Nat} {parts : Array (Nat × Operand)} {tr : TR} {f : Nat → SV} {ys : List D} (ht : tget cx.T T = some tr) (hag : tr.agg = true) (hfi : tr.fields.isEmpty = false) (hb : buildD tr.fields (opv f) tr.zero parts.toList = some ys) :
    Qt cx h ⟨dst, .build T parts, ty, pos, af, gd⟩ f (.d (.agg ys)) := by
  intro s₁ hs σ a w hr K Q hK
  have hb' : buildD tr.fields (opv s₁) tr.zero parts.toList = some ys := by
    rw [← hb]
    have key : ∀ (l : List (Nat × Operand)) (xs : List D), (∀ p ∈ l, p ∈ parts.toList) → buildD tr.fields (opv s₁) xs l = buildD tr.fields (opv f) xs l := by
      intro l
      induction l with
      | nil => intro xs _; rfl
      | cons p l ih =>
        intro xs hp
        obtain ⟨i, x⟩ := p
        have hx : opv s₁ x = opv f x := by
          cases x <;> first | rfl | exact hs _ (by
            simp only [Op.operands, List.mem_toArray, List.mem_map]
            exact ⟨_, hp _ (List.mem_cons_self ..), rfl⟩)
        simp only [buildD, hx]
        split
        · split
          · exact ih _ fun q hq => hp q (List.mem_cons_of_mem _ hq)
          · rfl
        · rfl
    exact key _ _ fun _ h => h
  have hok := tget_ok cx.tab ht
  obtain ⟨d, i, hd, hi, e1, e2, _, _, _, _, _, _, z, hz, hza⟩ := tr_facts hok
  have hfs : ∃ fs : Array Field, d = .struct fs ∧ fieldsAre cx.P fs.toList tr.fields = true := by
    simp only [trOk, Bool.and_eq_true] at hok
    replace hok := hok.1
    unfold trOk0 at hok
    rw [hd, hi] at hok
    simp only [Bool.and_eq_true] at hok
    have h5 := hok.1.1.2
    cases d with
    | struct fs => exact ⟨fs, rfl, h5⟩
    | _ => simp only [hfi] at h5; cases h5
  obtain ⟨fs, rfl, hfa⟩ := hfs
  obtain ⟨z1, z2⟩ := zeroAre_rep (ok := okf cx σ h) (w := w) hza
  have zs : z.cells.size = tr.zero.length := by simpa using z1
  obtain ⟨out, o1, o2⟩ := fill_fields (rep_eval hr) parts.toList z.cells tr.zero ys zs z2.1 (fun j v x hv hx => z2.2 j v x (by simpa using hv) hx) hb'
  have e : (parts.map fun (i, x) => (i, a.eval x)).toList = parts.toList.map fun (q : Nat × Operand) => (q.1, a.eval q.2) := by simp
  have hbt : cx.P.built T (parts.map fun (i, x) => (i, a.eval x)).toList = some out := by
    rw [e]
    simp only [Program.built, hi, hd, hz, fields_places hfa]
    exact o1
  unfold Oper.wp
  rw [show (execOp a.eval ⟨dst, .build T parts, ty, pos, af, gd⟩).run cx.P w = .ok (.value (.agg out)) w from by
    simp only [execOp, Sem.run_bind, run_build w T _ out hbt, Result.andThen_ok, Sem.run_pure]]
  exact hK _ _ (Below.refl _ _) o2

/-! ### One's own variables lent -/

/-- A box's data behind a pointer. -/
def ptrD (cells : List SV) : Option D := match takeD cells cells.length with
  | some [x] => some (.ptr x)
  | some xs => some (.ptr (.agg xs))
  | none => none

theorem ptrD_rep {σ : Nat → Loc} {ok ok' : Nat → Prop} {w : World} {l : Loc} {cells : List SV} {x : D} (hc : RepChunk σ h ok w l (.box cells)) (hx : ptrD cells = some x) (hk : ∀ b, ok b → ok' b) (hb : ok' l.b) : RepD ok' w (.pointer (some ⟨l.b, 0, none⟩)) x := by
  obtain ⟨_, cs, t', c1, c2, c3⟩ := hc
  have key : ∀ xs, takeD cells cells.length = some xs → cs.size = xs.length ∧ (∀ x ∈ xs, x.one = true) ∧ ∀ (i : Nat) v x, cs[i]? = some v → xs[i]? = some x → RepD ok' w v x := fun xs hxs => by
    obtain ⟨h1, h2⟩ := takeD_get hxs
    have hd : ∀ (i : Nat) v x, cs[i]? = some v → xs[i]? = some x → RepD ok w v x ∧ v.oneCell' = true := fun i v x hv hx => c3 i v _ hv (h2 i x hx)
    refine ⟨by omega, fun x hx => ?_, fun i v x hv hx => (hd i v x hv hx).1.mono fun b h _ => ⟨hk b h, rfl⟩⟩
    obtain ⟨j, hj⟩ := List.getElem?_of_mem hx
    have hjl : j < xs.length := by
      rcases Nat.lt_or_ge j xs.length with hh | hh
      · exact hh
      · simp [hh] at hj
    obtain ⟨g1, g2⟩ := hd j _ x (Array.getElem?_eq_getElem (show j < cs.size by omega)) hj
    generalize cs[j]'(show j < cs.size by omega) = u at g1 g2
    cases x <;> first | rfl | (cases g1 <;> simp [Value.oneCell'] at g2)
  unfold ptrD at hx
  split at hx
  · rename_i y hy
    simp only [Option.some.injEq] at hx
    subst hx
    obtain ⟨k1, k2, k3⟩ := key _ hy
    have h0 : 0 < cs.size := by rw [k1]; simp
    have hcs : cs[0]? = some cs[0] := Array.getElem?_eq_getElem h0
    have hr := k3 0 _ y hcs rfl
    have hone := hr.oneCell (k2 y (by simp))
    refine RepD.ptr l.b 0 cs[0] y cs t' (0, 0) hb c1 (fun j hj => ?_) hr
    rw [hone] at hj ⊢
    have : j = 0 := by simpa using hj
    subst this
    simp [hcs]
  · rename_i xs hxs hy
    simp only [Option.some.injEq] at hx
    subst hx
    obtain ⟨k1, k2, k3⟩ := key _ hy
    exact RepD.ptr l.b 0 (.agg cs) _ cs t' (0, 0) hb c1 (fun j hj => by simp [Value.cells]) (.agg _ _ k1 k2 k3)
  · cases hx

/-- As slotD; a pointer to a variable of one's own is a pointer to its data. -/
def slotE (h : Heap) (v : SV) : Option D := match v with
  | .ref id 0 => match h.get id with
    | some (.box cells) => ptrD cells
    | _ => none
  | v => slotD h v

theorem slotE_rep {σ : Nat → Loc} {f : Nat → SV} {a : Act} {w : World} (hr : RW cx σ f h a w) {v : Value} {sv : SV} {x : D} (hv : RepSV σ h (okf cx σ h) w v sv) (hs : slotE h sv = some x) : RepD (fun b => b < w.heap.size) w v x := by
  unfold slotE at hs
  split at hs
  · rename_i id
    split at hs
    · rename_i cells hg
      have hv' : v = .pointer (some ⟨(σ id).b, 0, none⟩) := hv
      subst hv'
      obtain ⟨p, hp, rfl, hp2⟩ := get_mem hg
      have hc := hr.heap.rep p hp
      rw [hp2] at hc
      exact (ptrD_rep (ok' := fun b => okf cx σ h b ∨ b = (σ p.1).b) hc hs (fun b hb => .inl hb) (.inr rfl)).mono fun b _ h2 => ⟨h2, rfl⟩
    · cases hs
  · exact slotB_rep hr hv hs

def allE (h : Heap) : List SV → Option (List D)
  | [] => some []
  | v :: l => match slotE h v with
    | some x => match allE h l with
      | some xs => some (x :: xs)
      | none => none
    | none => none

/-- A call to which one's own rows and variables are lent: what it returns leads to no memory. -/
theorem qa_lendE {f : Operand} {args : Array Operand} {tys : Array TypeId} {g : Nat} {cap xs : List D} {r : D} {fs : Nat → SV} (hf : opv fs f = .d (.fn g cap)) (ha : allE h (args.toList.map (opv fs)) = some xs) (hac : AC cx.P g (xs ++ cap) r) (hr0 : r.scal2 = true) :
    Qt cx h ⟨dst, .call { callee := .value f, args := args, argTypes := tys }, ty, pos, af, gd⟩ fs (.d r) := by
  intro s₁ hs σ a w hr K Q hK
  have agree : ∀ x ∈ (Op.call { callee := .value f, args := args, argTypes := tys }).operands, opv s₁ x = opv fs x := fun x hx => by cases x <;> first | rfl | exact hs _ hx
  have hfr := rep_eval hr f
  rw [agree f (by simp [Op.operands, Call.operands]), hf] at hfr
  have hfr' : RepD (okf cx σ h) w (a.eval f) (.fn g cap) := hfr
  generalize hu : a.eval f = u at hfr'
  cases hfr' with
  | fn _ vs _ hc1 hc2 =>
    have key : ∀ (l : List Operand) (xs : List D), (∀ x ∈ l, x ∈ args.toList) → allE h (l.map (opv fs)) = some xs → l.length = xs.length ∧ ∀ (i : Nat) o x, l[i]? = some o → xs[i]? = some x → RepD (fun b => b < w.heap.size) w (a.eval o) x := by
      intro l
      induction l with
      | nil => intro xs _ hh; simp only [List.map_nil, allE, Option.some.injEq] at hh; subst hh; exact ⟨rfl, by simp⟩
      | cons o l ih =>
        intro xs hl hh
        simp only [List.map_cons, allE] at hh
        split at hh
        · rename_i x hx
          split at hh
          · rename_i ys hy
            simp only [Option.some.injEq] at hh
            subst hh
            obtain ⟨h1, h2⟩ := ih ys (fun q hq => hl q (List.mem_cons_of_mem _ hq)) hy
            refine ⟨by simp [h1], fun i o' x' ho hx' => ?_⟩
            cases i with
            | zero =>
              simp only [List.getElem?_cons_zero, Option.some.injEq] at ho hx'
              subst ho hx'
              have := rep_eval hr o
              rw [agree o (by
                simp [Op.operands, Call.operands]
                exact .inr (by simpa using hl o (List.mem_cons_self ..)))] at this
              exact slotE_rep hr this hx
            | succ i => exact h2 i o' x' (by simpa using ho) (by simpa using hx')
          · cases hh
        · cases hh
    obtain ⟨k1, k2⟩ := key args.toList xs (fun _ h => h) ha
    unfold Oper.wp
    rw [exec_call rfl hu hac.1]
    rw [Oper.upon_enter]
    refine (hac.2 w (fun b => b < w.heap.size) _ (fun b hb => hb) ?_).mono ?_
    · refine ⟨by simp at k1 ⊢; omega, fun i v x hv hx => ?_⟩
      simp only [Array.empty_append] at hv
      rw [Array.getElem?_append] at hv
      rw [List.getElem?_append] at hx
      simp only [Array.size_map] at hv
      simp only [Array.length_toList] at k1
      split at hv
      · rename_i hlt
        rw [if_pos (by omega)] at hx
        rw [Array.getElem?_map, Option.map_eq_some_iff] at hv
        obtain ⟨o, ho, rfl⟩ := hv
        exact k2 i o x (by simpa using ho) hx
      · rename_i hlt
        rw [if_neg (by omega)] at hx
        rw [k1] at hv
        exact (hc2 _ v x hv hx).mono fun b _ h2 => ⟨h2, rfl⟩
    · rintro e w' ⟨v, rfl, hv, hb⟩
      exact hK v w' hb (hv.scal2 hr0)

/-! ### One's own variables given away -/

mutual
def SV.frzB (id : Nat) (x : D) : SV → SV
  | .ref i n => match Nat.beq i id with
    | true => match n with
      | 0 => .d x
      | _ => .junk
    | false => .ref i n
  | .own i => match Nat.beq i id with
    | true => .junk
    | false => .own i
  | .sub i n => match Nat.beq i id with
    | true => .junk
    | false => .sub i n
  | .elt i n => match Nat.beq i id with
    | true => .junk
    | false => .elt i n
  | .agg l => .agg (SV.frzBL id x l)
  | .tup l => .tup (SV.frzBL id x l)
  | .fn f l => .fn f (SV.frzBL id x l)
  | .junk => .junk
  | .und => .und
  | .d y => .d y
def SV.frzBL (id : Nat) (x : D) : List SV → List SV
  | [] => []
  | y :: l => SV.frzB id x y :: SV.frzBL id x l
end

mutual
theorem RepSV.frzB {σ : Nat → Loc} {h h' : Heap} {ok ok' : Nat → Prop} {w : World} {id : Nat} {x : D} (hx : RepD ok' w (.pointer (some ⟨(σ id).b, 0, none⟩)) x) (hk : ∀ b, ok b → b < w.heap.size → ok' b ∧ w.heap[b]? = w.heap[b]?)
    (hg' : ∀ j, memB j [id] = false → simO (h.get j) (h'.get j)) : ∀ {y : SV} {v : Value}, RepSV σ h ok w v y → RepSV σ h' ok' w v (y.frzB id x)
  | .junk, _, _ => by unfold SV.frzB RepSV; trivial
  | .und, _, hr => hr
  | .d y, _, hr => RepD.mono hr hk
  | .ref i n, v, hr => by
    unfold SV.frzB
    split
    · rename_i e
      have e := Nat.eq_of_beq_eq_true e
      subst e
      split
      · simp only [RepSV] at hr ⊢
        rw [hr]; exact hx
      · unfold RepSV; trivial
    · exact hr
  | .elt i n, v, hr => by
    unfold SV.frzB
    split
    · unfold RepSV; trivial
    · rename_i e
      have := RepSV.kill (K := [id]) (σ' := σ) hk (fun _ _ => rfl) hg' hr
      unfold SV.kill at this
      rw [memB_oneF.2 (Nat.ne_of_beq_eq_false e)] at this
      exact this
  | .own i, v, hr => by
    unfold SV.frzB
    split
    · unfold RepSV; trivial
    · rename_i e
      have := RepSV.kill (K := [id]) (σ' := σ) hk (fun _ _ => rfl) hg' hr
      unfold SV.kill at this
      rw [memB_oneF.2 (Nat.ne_of_beq_eq_false e)] at this
      exact this
  | .sub i n, v, hr => by
    unfold SV.frzB
    split
    · unfold RepSV; trivial
    · rename_i e
      have := RepSV.kill (K := [id]) (σ' := σ) hk (fun _ _ => rfl) hg' hr
      unfold SV.kill at this
      rw [memB_oneF.2 (Nat.ne_of_beq_eq_false e)] at this
      exact this
  | .agg l, v, hr => by
    unfold SV.frzB
    simp only [RepSV] at hr ⊢
    obtain ⟨cs, e, hl⟩ := hr
    exact ⟨cs, e, RepSVs.frzB hx hk hg' hl⟩
  | .tup l, v, hr => by
    unfold SV.frzB
    simp only [RepSV] at hr ⊢
    obtain ⟨cs, e, hl⟩ := hr
    exact ⟨cs, e, RepSVs.frzB hx hk hg' hl⟩
  | .fn f l, v, hr => by
    unfold SV.frzB
    simp only [RepSV] at hr ⊢
    obtain ⟨cs, e, hl⟩ := hr
    exact ⟨cs, e, RepSVs.frzB hx hk hg' hl⟩
theorem RepSVs.frzB {σ : Nat → Loc} {h h' : Heap} {ok ok' : Nat → Prop} {w : World} {id : Nat} {x : D} (hx : RepD ok' w (.pointer (some ⟨(σ id).b, 0, none⟩)) x) (hk : ∀ b, ok b → b < w.heap.size → ok' b ∧ w.heap[b]? = w.heap[b]?)
    (hg' : ∀ j, memB j [id] = false → simO (h.get j) (h'.get j)) : ∀ {l : List SV} {one : Bool} {vs : List Value}, RepSVs σ h ok w one vs l → RepSVs σ h' ok' w one vs (SV.frzBL id x l)
  | [], _, _, hr => by unfold SV.frzBL; exact hr
  | y :: l, _, _, hr => by
    unfold SV.frzBL
    simp only [RepSVs] at hr ⊢
    obtain ⟨v, vs', e, h1, h2, h3⟩ := hr
    exact ⟨v, vs', e, RepSV.frzB hx hk hg' h1, h2, RepSVs.frzB hx hk hg' h3⟩
end

def frzBS (id : Nat) (x : D) (s : Slots) : Slots := mapS (SV.frzB id x) s
def frzBH (id : Nat) (x : D) (h : Heap) : Heap := keepH (SV.frzB id x) [id] h

/-- A variable of one's own is given away: from here on it is data. -/
theorem R_freezeB {a : Act} {w : World} {id : Nat} {cells : List SV} {x : D} (hr : R cx (lk s) h a w) (hnw : cx.nw = cx.w0.heap.size) (hid : Nat.blt id 10000 = true) (hg : h.get id = some (.box cells)) (hd : ptrD cells = some x) : R cx (lk (frzBS id x s)) (frzBH id x h) a w := by
  obtain ⟨σ, hr⟩ := hr
  obtain ⟨p0, hp0, rfl, hp2⟩ := get_mem hg
  have hid' : p0.1 < 10000 := Nat.le_of_ble_eq_true hid
  have hb : okf cx σ (keepH (SV.frzB p0.1 x) [p0.1] h) (σ p0.1).b := by
    have hb : (σ p0.1).b ∈ blk (σ p0.1) p0.2 := by rw [hp2]; simp [blk]
    refine ⟨.inr (by rw [hnw]; exact (hr.heap.mine p0 hp0 _ hb).2.1 hid'), fun p hp hbb => ?_⟩
    obtain ⟨h1, c', h2, h3⟩ := mem_keepH hp
    rw [h3, blk_mapc] at hbb
    exact memB_oneF.1 h1 (hr.heap.inj (p.1, c') h2 p0 hp0 _ hbb hb)
  have hk1 : ∀ b, okf cx σ h b → okf cx σ (keepH (SV.frzB p0.1 x) [p0.1] h) b := fun b hb => ⟨hb.1, fun p hp => by
    obtain ⟨h1, c', h2, h3⟩ := mem_keepH hp
    rw [h3, blk_mapc]
    exact hb.2 _ h2⟩
  have hc := hr.heap.rep p0 hp0
  rw [hp2] at hc
  have := hr.upd (σ' := σ) (w' := w) [p0.1] [] (SV.frzB p0.1 x) (by simp) (by simp) (fun _ _ => rfl) rfl rfl rfl (Nat.le_refl _) (fun _ _ _ => rfl) (by simp) (by simp) (by simp) (by simp)
    (fun hok v sv hv => RepSV.frzB (ptrD_rep hc hd hk1 hb) (fun b h1 _ => ⟨hk1 b h1, rfl⟩) (simO_keep (N := []) (by simp)) hv) (by simp)
  refine ⟨σ, ?_⟩
  have e : lk (frzBS p0.1 x s) = fun t => SV.frzB p0.1 x (lk s t) := funext fun t => lk_mapS rfl s t
  rw [e]
  exact this

theorem awp_freezeB {cd : Code} (id : Nat) {cells : List SV} {x : D} (hg : h.get id = some (.box cells)) (hid : Nat.blt id 10000 = true) (hd : ptrD cells = some x) (hn : awp cx cd (frzBS id x s) (frzBH id x h) Q) (hnw : cx.nw = cx.w0.heap.size := by exact rfl) : awp cx cd s h Q := fun a w hr => hn a w (R_freezeB hr hnw hid hg hd)

/-- The first operation of a region that writes. -/
def tailN (l : List Oper) : Nat := l.findIdx fun o => match o.op with
  | .store .. => true
  | .call c => match c.callee with
    | .builtin .append => true
    | _ => false
  | _ => false
def lastSt (l : List Oper) : Bool := Nat.blt (tailN l) l.length

/-- A region that draws its order and ends with operations that wait for all others. -/
theorem awp_drawT {id : Nat} {l : List Oper} (hl : lastSt l = true) (hm : cx.P.follows .mixedOrders = true) (hB : Region.lexTailB .any l.toArray (tailN l) = true) (hdst : (l.all fun o => dstOk cx.nt o.dst) = true)
    (hq : awpQL cx l.toArray h (fun s' => awpL cx l.toArray (l.drop (tailN l)) s' h Q) (l.take (tailN l)) s) : awp cx (.region id l.toArray true) s h Q := awp_draw_tail _ hm hB hdst hq
end
end Go.Proofs.YtampglcgipefnaaGreat
