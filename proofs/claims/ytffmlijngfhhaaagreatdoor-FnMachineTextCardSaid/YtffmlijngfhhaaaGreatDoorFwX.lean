/- A row of one's own is put into the place from which a row was taken. No condition. -/
import Derived.Test.YtffmlijngfhhaaaGreatDoorFwT
import Derived.Laws.Slices
namespace Go.Proofs.YtffmlijngfhhaaaGreatDoor
open Go
open Go.RowKit (Below)
set_option linter.unusedVariables false
set_option linter.unusedSimpArgs false
section
variable {cx : Cx} {ops : Array Oper} {s : Slots} {h : Heap} {Q : Exit → Slots → Heap → Prop} {dst : Option Nat} {t ty : Nat} {pos : String} {af : Array Edge} {gd : Option (Nat × Bool)}

theorem wo_storeHole {T : Nat} {x y : Operand} {tr : TR} {id i j e e' sz e2 sz2 : Nat} {xss : List (List D)} {xs : List D} {sv0 : SV} (hx : opv (lk s) x = .elt id i) (hg : h.get id = some (.rows e e' sz xss (some (i, sv0)))) (hy : opv (lk s) y = .own j) (hgj : h.get j = some (.arr e2 sz2 xs)) (ht : tget cx.T T = some tr)
    (hts : Nat.beq tr.size 1 = true) (he : Nat.beq e2 e' = true) (hsz : Nat.beq sz2 sz = true) (hne : Nat.beq j id = false) (hia : isAnc id = false) (hj : Nat.blt j 10000 = true) (hi : i < xss.length) :
    OpTo cx ⟨none, .store T x y, ty, pos, af, none⟩ s h (mapS (SV.lm (gPut id i j)) s) ((id, .rows e e' sz (xss.set i xs) none) :: keepH (SV.lm (gPut id i j)) [id, j] h) := by
  rintro a w ⟨σ, hr⟩ Kk Qq hK
  have he' := Nat.eq_of_beq_eq_true he
  have hsz' := Nat.eq_of_beq_eq_true hsz
  subst he' hsz'
  have hj' : j < 10000 := Nat.le_of_ble_eq_true hj
  obtain ⟨⟨p0, hp0, hp1, hp2⟩, hnd, hrep⟩ := chunk_rows hr hg
  obtain ⟨k0, k1, ⟨cl, k2, k3⟩, k4, _⟩ := And.intro trivial hrep |>.2
  obtain ⟨pj, hpj, hpj1, hpj2⟩ := get_mem hgj
  have hcj := hr.heap.rep pj hpj
  rw [hpj1, hpj2] at hcj
  have hcj' : RepArr (okf cx σ h) w (σ j) e2 sz2 xs := hcj
  have hne' := Nat.ne_of_beq_eq_false hne
  have hnil : (σ id).nil = false := by
    cases hn : (σ id).nil with
    | false => rfl
    | true => have := rows_nil k2 hn; omega
  have hu := rep_eval hr x
  rw [hx] at hu
  simp only [RepSV, hg] at hu
  have hv := rep_eval hr y
  rw [hy] at hv
  simp only [RepSV, hgj] at hv
  obtain ⟨d, ii, hdd, hii, _, hisz, _⟩ := tr_facts (tget_ok cx.tab ht)
  have hts' := Nat.eq_of_beq_eq_true hts
  let q : Nat × Nat × Bool := ((σ j).b, (σ j).cap, (σ j).nil)
  let l' : Loc := ⟨(σ id).b, (σ id).cap, (σ id).nil, (σ id).kids.set i q⟩
  have hkq : ∀ n, sliceAt (kidLoc q) n = sliceAt (σ j) n := fun n => rfl
  obtain ⟨o1, o2⟩ := k2
  rcases o2 with ⟨_, o2⟩ | ⟨g, cap, cur, q1, _, q3, q4, q5, q6, q7⟩
  · omega
  have hgb : g = (σ id).b ∧ cap = (σ id).cap := by
    unfold sliceAt at q1
    rw [if_neg (by simp [hnil])] at q1
    cases q1
    exact ⟨rfl, rfl⟩
  obtain ⟨rfl, rfl⟩ := hgb
  have hic : i < cur.size := by omega
  have run : (execOp a.eval ⟨none, .store T x y, ty, pos, af, none⟩).run cx.P w = .ok .skip (w.setCell ⟨(σ id).b, i, none⟩ (a.eval y)) := by
    have hs : (storeVar T ⟨(σ id).b, i, none⟩ (a.eval y)).run cx.P w = .ok () (w.setCell ⟨(σ id).b, i, none⟩ (a.eval y)) := by
      unfold storeVar
      rw [hv, (slice_one _ _).2]
      have hcell : w.cell? ⟨(σ id).b, i, none⟩ = some cur[i] := by rw [cell_at q3, Array.getElem?_eq_getElem hic]
      have hfr : w.frozen? ⟨(σ id).b, i, none⟩ = false := by simp [World.frozen?, q3]
      simp [sizeOf, typeInfo, hii, hisz, hts', storeCells, add_block, run_store _ _ _ _ _ (slice_one _ _).1, hcell, hfr]
    simp [execOp, Instr.storeAt, Instr.sureAddr, hu, hs]
  unfold Oper.wp
  rw [run]
  refine hK _ _ ?_
  have hb0 : ∀ b, b ∉ blk (σ id) (.rows e e2 sz2 xss (some (i, sv0))) → (w.setCell ⟨(σ id).b, i, none⟩ (a.eval y)).heap[b]? = w.heap[b]? := fun b hb =>
    Below.heap_setCell w _ _ b (fun e1 => hb (by simp only [blk, hnil]; rw [e1]; exact List.mem_cons_self ..))
  have hmemb : ∀ b, b ∈ blk l' (.rows e e2 sz2 (xss.set i xs) none) → b ∈ blk (σ id) (.rows e e2 sz2 xss (some (i, sv0))) ∨ b ∈ blk (σ j) (.arr e2 sz2 xs) := fun b hb => by
    simp only [blk, l', hnil, hat] at hb
    rcases List.mem_cons.1 hb with hb | hb
    · left; simp only [blk, hnil, hat]; rw [hb]; exact List.mem_cons_self ..
    · obtain ⟨m, p, m1, m2, m3, m4⟩ := mem_kidBlk.1 hb
      by_cases hm : m = i
      · right
        subst hm
        rw [List.getElem?_set_self (by omega)] at m1
        cases m1
        simp only [q] at m2 m4
        simp [blk, m2, m4]
      · left
        rw [List.getElem?_set_ne (Ne.symm hm)] at m1
        simp only [blk, hnil, hat]
        exact List.mem_cons_of_mem _ (mem_kidBlk.2 ⟨m, p, m1, m2, by simp; omega, m4⟩)
  have hdis : ∀ b, b ∈ blk (σ id) (.rows e e2 sz2 xss (some (i, sv0))) → b ∈ blk (σ j) (.arr e2 sz2 xs) → False := fun b hb hb' => by
    have := hr.heap.inj p0 hp0 pj hpj b (by rw [hp1, hp2]; exact hb) (by rw [hpj1, hpj2]; exact hb')
    rw [hp1, hpj1] at this
    exact hne' this.symm
  have hkid : ∀ m p, ((σ id).kids.set i q)[m]? = some p → p.2.2 = false → (m ≠ i → (σ id).kids[m]? = some p ∧ p.1 ∈ blk (σ id) (.rows e e2 sz2 xss (some (i, sv0)))) ∧ (m = i → p.1 ∈ blk (σ j) (.arr e2 sz2 xs)) := fun m p m1 m2 => by
    refine ⟨fun hm => ?_, fun hm => ?_⟩
    · rw [List.getElem?_set_ne (Ne.symm hm)] at m1
      exact ⟨m1, kid_blk hnil m1 m2 (by simp [hat]; omega)⟩
    · subst hm
      rw [List.getElem?_set_self (by omega)] at m1
      cases m1
      simp only [q] at m2
      simp [blk, m2, q]
  refine ⟨setσ σ id l', ?_⟩
  rw [lk_lm rfl]
  let N : Heap := [(id, .rows e e2 sz2 (xss.set i xs) none)]
  have gid : ((N ++ keepH (SV.lm (gPut id i j)) [id, j] h : Heap)).get id = some (.rows e e2 sz2 (xss.set i xs) none) := by simp [N, Heap.get]
  have hlens : (xss.set i xs).length = xss.length := by simp
  refine hr.upd (σ' := setσ σ id l') (w' := w.setCell ⟨(σ id).b, i, none⟩ (a.eval y)) [id, j] N (SV.lm (gPut id i j)) (fun p hp => by simp [N] at hp; subst hp; simp [memB]) (by simp [N]) (fun m hm => setσ_ne (memB_twoF.1 hm).1) rfl rfl rfl (by simp)
    (fun b _ hno => hb0 b (by have := hno p0 hp0 (by rw [hp1]; simp [memB]); rwa [hp1, hp2] at this))
    (fun p hp => ?_) (fun p hp p' hp' b hb hb' => by simp [N] at hp hp'; subst hp hp'; rfl) (fun p hp b hb => ?_) (fun p hp ha => by simp [N] at hp; subst hp; rw [hia] at ha; cases ha) (fun hok v sv hv => RepSV.lm (leaf_upd (K := [id, j]) hok (fun m hm => setσ_ne (memB_twoF.1 hm).1) (simO_keep (fun p hp => by simp [N] at hp; subst hp; simp [memB])) (fun x hl hx => ?_) (fun x v m hl hm hK hv => ?_)) hv) (fun hok p hp => ?_)
  · simp [N] at hp; subst hp
    simp only [setσ_self, blk, l', hnil, hat, List.nodup_cons] at hnd ⊢
    refine ⟨fun hm => ?_, ?_⟩
    · obtain ⟨m, p, m1, m2, m3, m4⟩ := mem_kidBlk.1 hm
      obtain ⟨h1, h2⟩ := hkid m p m1 m2
      by_cases hmi : m = i
      · refine hdis (σ id).b (by simp only [blk, hnil, hat]; exact List.mem_cons_self ..) ?_
        rw [← m4]; exact h2 hmi
      · exact hnd.1 (mem_kidBlk.2 ⟨m, p, (h1 hmi).1, m2, by simp; omega, m4⟩)
    · refine kidBlk_nodup.2 fun m n p p' m1 n1 m2 n2 _ _ me => ?_
      by_cases hmi : m = i <;> by_cases hni : n = i
      · omega
      · exact (hdis _ ((hkid n p' n1 n2).1 hni).2 (by rw [← me]; exact (hkid m p m1 m2).2 hmi)).elim
      · exact (hdis _ ((hkid m p m1 m2).1 hmi).2 (by rw [me]; exact (hkid n p' n1 n2).2 hni)).elim
      · exact kidBlk_nodup.1 hnd.2 m n p p' ((hkid m p m1 m2).1 hmi).1 ((hkid n p' n1 n2).1 hni).1 m2 n2 (by simp; omega) (by simp; omega) me
  · simp [N] at hp; subst hp
    simp only [setσ_self] at hb
    have hsz0 : (w.setCell ⟨(σ p0.1).b, i, none⟩ (a.eval y)).heap.size = w.heap.size := by simp
    rw [hp1] at hsz0
    rcases hmemb b hb with hb | hb
    · have hb' : b ∈ blk (σ p0.1) p0.2 := by rw [hp1, hp2]; exact hb
      exact ⟨by rw [hsz0]; exact (hr.heap.mine p0 hp0 b hb').2.2, .inr ⟨p0, hp0, by rw [hp1]; simp [memB], hb', .inr (.inl hp1)⟩⟩
    · have hb' : b ∈ blk (σ pj.1) pj.2 := by rw [hpj1, hpj2]; exact hb
      exact ⟨by rw [hsz0]; exact (hr.heap.mine pj hpj b hb').2.2, .inr ⟨pj, hpj, by rw [hpj1]; exact memB_iff.2 (by simp), hb', .inl (by rw [hpj1]; exact hj')⟩⟩
  · refine leaf_ids (K := [id, j]) hl rfl rfl (fun _ => rfl) (fun i o hi => ?_) (fun i hi => ?_) (fun i o hi => ?_) (fun i o hi => ?_) hx
    all_goals
      obtain ⟨e1, e2⟩ := memB_twoF.1 hi
      simp only [gPut, beqF e2, beqF e1]
  · by_cases hmj : m = j
    · subst hmj
      cases x <;> simp only [SV.idOf, Option.some.injEq, reduceCtorEq] at hm <;> (replace hm := hm.symm; subst hm)
      case own =>
        simp only [gPut, Nat.beq_refl, RepSV, hgj, gid, setσ_self] at hv ⊢
        exact ⟨q, xs, List.getElem?_set_self (by omega), List.getElem?_set_self hi, by rw [hv, hkq]⟩
      all_goals simp only [gPut, Nat.beq_refl, RepSV]
    · have hmi : m = id := by rcases memB_two.1 hK with h | h <;> first | exact h | exact absurd h hmj
      subst hmi
      cases x <;> simp only [SV.idOf, Option.some.injEq, reduceCtorEq] at hm <;> (replace hm := hm.symm; subst hm)
      case ref o =>
        simp only [gPut, beqF hmj, RepSV, setσ_self] at hv ⊢
        exact hv
      case own =>
        simp only [gPut, beqF hmj, RepSV, hg, gid, hlens, setσ_self] at hv ⊢
        exact hv
      case elt o =>
        simp only [gPut, beqF hmj, RepSV, hg, gid, setσ_self] at hv ⊢
        exact hv
      case sub o => simp only [gPut, beqF hmj, Nat.beq_refl, RepSV]
  · simp [N] at hp; subst hp
    simp only [setσ_self]
    have hcl : cl.length = xss.length := by simpa using o1
    refine ⟨k0, by simp only [l']; rw [List.length_set, List.length_set]; exact k1, ⟨cl.set i (a.eval y), ⟨by simpa using o1, .inr ⟨(σ id).b, (σ id).cap, cur.setIfInBounds i (a.eval y), by simp [sliceAt, l', hnil], Nat.zero_le _, ?_, by simpa using q4, q5, by simpa using q6, ?_⟩⟩, fun m q' zs h1 h2 => ?_⟩, fun m q' zs h1 h2 _ => ?_, by simp⟩
    · simp [World.setCell, Array.getElem?_modify, q3]
    · rw [← q7]
      apply List.ext_getElem?
      intro m
      rw [List.getElem?_take, List.getElem?_set]
      simp only [List.length_set, Nat.mul_one, Array.getElem?_toList, List.length_take, Array.length_toList]
      by_cases hm : i = m
      · subst hm
        rw [if_pos hi, Array.getElem?_setIfInBounds_self_of_lt hic, if_pos rfl, if_pos (by omega)]
      · rw [if_neg hm, List.getElem?_take, Array.getElem?_setIfInBounds_ne hm]
        simp
    · simp only [l'] at h1
      by_cases e1 : i = m
      · subst e1
        rw [List.getElem?_set_self (by omega)] at h1
        rw [List.getElem?_set_self hi] at h2
        cases h1
        cases h2
        rw [List.getElem?_set_self (by omega), hv, hkq]
        refine ⟨rfl, fun hn => ?_⟩
        obtain ⟨_, cl', ho', _⟩ := hcj'
        rcases ho'.2 with ⟨_, h⟩ | ⟨_, _, _, h, _⟩
        · exact List.eq_nil_of_length_eq_zero h
        · simp only [q] at hn
          simp [sliceAt, hn] at h
      · rw [List.getElem?_set_ne e1] at h1 h2 ⊢
        exact k3 m q' zs h1 h2
    · simp only [l'] at h1
      by_cases e1 : i = m
      · subst e1
        rw [List.getElem?_set_self (by omega)] at h1
        rw [List.getElem?_set_self hi] at h2
        cases h1
        cases h2
        exact hcj'.mono hok fun hn => hb0 _ fun hb => hdis _ hb (by have hn' : (σ j).nil = false := hn; show (σ j).b ∈ _; simp [blk, hn'])
      · rw [List.getElem?_set_ne e1] at h1 h2
        exact (k4 m q' zs h1 h2 (by simp [hat]; omega)).mono hok fun hn => by
          refine Below.heap_setCell w _ _ _ fun e2 => ?_
          simp only [blk, hnil, hat, List.nodup_cons] at hnd
          exact hnd.1 (mem_kidBlk.2 ⟨m, q', h1, hn, by simp; omega, e2⟩)

/-- An operation that is wanted is walked as one without a guard. -/
theorem awpL_ung {op : Op} {rest : List Oper} {g : Nat × Bool} (hn : awpL cx ops (⟨dst, op, ty, pos, af, none⟩ :: rest) s h Q) (hw : wantedA ops ⟨dst, op, ty, pos, af, some g⟩ (lk s) = some true := by exact rfl) :
    awpL cx ops (⟨dst, op, ty, pos, af, some g⟩ :: rest) s h Q := fun a w hr => by
  have := hn a w hr
  unfold wpList at this ⊢
  rw [if_pos (by simp [Region.wanted])] at this
  rw [if_pos (by obtain ⟨σ, hr⟩ := hr; exact wanted_of hr hw)]
  exact this

/-- The heap in another order. -/
theorem awp_permTo {cx : Cx} {c : Code} {s : Slots} {h : Heap} {Q : Exit → Slots → Heap → Prop} (H0 : Heap) (hp : sortH h = sortH H0) (hn : awp cx c s H0 Q) : awp cx c s h Q := fun a w hr => hn a w (R_perm ((perm_of_sort hp).trans (perm_of_sort (rfl : sortH H0 = sortH H0)).symm) hr)

end
end Go.Proofs.YtffmlijngfhhaaaGreatDoor

/-! Rows with tags: a row of rows of one's own is read as data whose rows bear the number of their blocks; at the end what bears numbers may be one's own again. No condition. -/
namespace Go.Proofs.YtffmlijngfhhaaaGreatDoor
open Go
open Go.RowKit (Below)
set_option linter.unusedVariables false
set_option linter.unusedSimpArgs false

/-! ### Tags may be forgotten -/
/-! ### Tags -/
section
variable {cx : Cx} {ops : Array Oper} {s : Slots} {h : Heap} {Q : Exit → Slots → Heap → Prop}

/-! ### At the end -/
/-! ### One row gets a tag -/
end
end Go.Proofs.YtffmlijngfhhaaaGreatDoor

/-! Parts of a list that is only read. No condition. -/
namespace Go.Proofs.YtffmlijngfhhaaaGreatDoor
open Go
open Go.RowKit (Below)
set_option linter.unusedVariables false
set_option linter.unusedSimpArgs false

def partD (xs : List D) (l h : Nat) : List D := (xs.drop l).take (h - l)

theorem lst_sliced {ok : Nat → Prop} {w : World} {v : Value} {xs : List D} {size l h : Nat} (hv : RepD ok w v (.lst xs)) (hel : ∀ y ∈ xs, y.el = true ∧ y.width = size) (h1 : l ≤ h) (h2 : h ≤ xs.length) :
    ∃ a c, v = .slice a xs.length c ∧ xs.length ≤ c ∧ RepD ok w (sliced a l h c size) (.lst (partD xs l h)) := by
  cases hv with
  | nil0 =>
    simp at h2
    subst h2
    have : l = 0 := by omega
    subst this
    exact ⟨none, 0, rfl, Nat.le_refl _, RepD.nil0⟩
  | emp a cap =>
    simp at h2
    subst h2
    have : l = 0 := by omega
    subst this
    refine ⟨some a, cap, rfl, Nat.zero_le _, ?_⟩
    unfold sliced
    split
    · exact RepD.emp _ _
    · exact RepD.emp _ _
  | lst b off cap m cells e fr xs vs sz k1 k2 k3 k4 k5 k6 k7 k8 =>
    subst k4
    refine ⟨some ⟨b, off, none⟩, cap, rfl, k5, ?_⟩
    by_cases he : h = l
    · subst he
      have hp : partD xs h h = [] := by simp [partD]
      unfold sliced
      rw [hp, Nat.sub_self]
      split
      · exact RepD.emp _ _
      · exact RepD.emp _ _
    · have hlt : l < h := by omega
      have hsz : sz = size := by
        have hl : l < vs.length := by omega
        have hx : l < xs.length := by omega
        have hget : vs[l]? = some vs[l] := List.getElem?_eq_getElem hl
        have hgx : xs[l]? = some xs[l] := List.getElem?_eq_getElem hx
        obtain ⟨e1, e2⟩ := hel _ (List.getElem_mem hx)
        rw [← (k8 _ _ hget).1, (k7 _ _ _ hget hgx).width (D.el_or e1), e2]
      subst hsz
      have hbase : sliced (some ⟨b, off, none⟩) l h cap sz = .slice (some ⟨b, off + l * sz, none⟩) (h - l) (cap - l) := by
        unfold sliced
        rw [if_neg (by omega)]
        simp only [Option.map_some, Addr.add]
        split
        · rename_i hz
          rw [hz, Nat.add_zero]
        · rfl
      rw [hbase]
      have hlen : (partD xs l h).length = h - l := by simp [partD]; omega
      refine RepD.lst b (off + l * sz) (cap - l) (h - l) cells e fr (partD xs l h) ((vs.drop l).take (h - l)) sz k1 k2 (by rw [hlen]; simp; omega) hlen.symm (by omega) (by omega) ?_ ?_
      · intro i v x hv hx
        have hv' : vs[l + i]? = some v := by
          rw [List.getElem?_take] at hv
          split at hv
          · rwa [List.getElem?_drop] at hv
          · cases hv
        have hx' : xs[l + i]? = some x := by
          unfold partD at hx
          rw [List.getElem?_take] at hx
          split at hx
          · rwa [List.getElem?_drop] at hx
          · cases hx
        exact k7 _ _ _ hv' hx'
      · intro i v hv
        have hv' : vs[l + i]? = some v := by
          rw [List.getElem?_take] at hv
          split at hv
          · rwa [List.getElem?_drop] at hv
          · cases hv
        obtain ⟨c1, c2⟩ := k8 _ _ hv'
        refine ⟨c1, fun j hj => ?_⟩
        rw [← c2 j hj, Nat.add_mul]
        congr 1
        omega

section
variable {cx : Cx} {h : Heap} {s : Nat → SV} {dst : Option Nat} {ty : Nat} {pos : String} {af : Array Edge} {gd : Option (Nat × Bool)}

theorem elem_is {P : Program} {t e : Nat} (h : P.underlying t = some (.slice e)) : P.elem t = e := by simp [Program.elem, h]

theorem qa_slice_h {t : Nat} {x hi : Operand} {tr te : TR} {xs : List D} {k' : IntKind} {b : Int} (hx : opv s x = .d (.lst xs)) (hhi : opv s hi = .d (.int k' b)) (ht : tget cx.T t = some tr) (hsl : tr.isSl = true)
    (hte : tget cx.T tr.elem = some te) (hel : elsOk te.size xs = true) (h0 : 0 ≤ b) (h2 : b ≤ xs.length) : Qt cx h ⟨dst, .slice t x none (some hi) none, ty, pos, af, gd⟩ s (.d (.lst (xs.take b.toNat))) :=
  qt_of fun r hr σ ac w hv _ _ => by
    have v1 := hv x
    have v3 := hv hi
    rw [hr x (by simp [Op.operands]), hx] at v1
    rw [hr hi (by simp [Op.operands]), hhi] at v3
    have v3' := RepD.int_inv v3
    obtain ⟨d, i, hd, hi', -, -, -, hs, -⟩ := tr_facts (tget_ok cx.tab ht)
    obtain ⟨d', i', hd', hi2, -, hz, -⟩ := tr_facts (tget_ok cx.tab hte)
    have := hs hsl
    subst this
    have hE := elem_is hd
    have hd2 : cx.P.underlying t = some (.slice (cx.P.elem t)) := by rw [hE]; exact hd
    obtain ⟨A, c, e1, e2, e3⟩ := lst_sliced (l := 0) (h := b.toNat) v1 (elsOk_all hel) (by omega) (by omega)
    rw [show partD xs 0 b.toNat = xs.take b.toNat by simp [partD]] at e3
    refine ⟨_, w, ?_, Below.refl _ _, e3⟩
    simp only [execOp, v3', e1, Option.map_some, Option.map_none]
    simp only [Sem.run_bind, Sem.run_pure]
    rw [run_sliceAt_slice (h := hd2), run_slice_h (ht := hd2) (h0 := h0) (h2 := by omega), hE]
    simp [sizeOf, typeInfo, hi2, hz, Result.andThen]
theorem qa_slice_l {t : Nat} {x lo : Operand} {tr te : TR} {xs : List D} {k : IntKind} {a : Int} (hx : opv s x = .d (.lst xs)) (hlo : opv s lo = .d (.int k a)) (ht : tget cx.T t = some tr) (hsl : tr.isSl = true)
    (hte : tget cx.T tr.elem = some te) (hel : elsOk te.size xs = true) (h0 : 0 ≤ a) (h2 : a ≤ xs.length) : Qt cx h ⟨dst, .slice t x (some lo) none none, ty, pos, af, gd⟩ s (.d (.lst (xs.drop a.toNat))) :=
  qt_of fun r hr σ ac w hv _ _ => by
    have v1 := hv x
    have v2 := hv lo
    rw [hr x (by simp [Op.operands]), hx] at v1
    rw [hr lo (by simp [Op.operands]), hlo] at v2
    have v2' := RepD.int_inv v2
    obtain ⟨d, i, hd, hi', -, -, -, hs, -⟩ := tr_facts (tget_ok cx.tab ht)
    obtain ⟨d', i', hd', hi2, -, hz, -⟩ := tr_facts (tget_ok cx.tab hte)
    have := hs hsl
    subst this
    have hE := elem_is hd
    have hd2 : cx.P.underlying t = some (.slice (cx.P.elem t)) := by rw [hE]; exact hd
    obtain ⟨A, c, e1, e2, e3⟩ := lst_sliced (l := a.toNat) (h := xs.length) v1 (elsOk_all hel) (by omega) (by omega)
    rw [show partD xs a.toNat xs.length = xs.drop a.toNat by unfold partD; exact List.take_of_length_le (by simp)] at e3
    refine ⟨_, w, ?_, Below.refl _ _, e3⟩
    simp only [execOp, v2', e1, Option.map_some, Option.map_none]
    simp only [Sem.run_bind, Sem.run_pure]
    rw [run_sliceAt_slice (h := hd2), run_slice_l (ht := hd2) (h0 := h0) (h1 := by omega), hE]
    simp [sizeOf, typeInfo, hi2, hz, Result.andThen]
end
end Go.Proofs.YtffmlijngfhhaaaGreatDoor

/-! A struct literal with structs in it that hold memory of one's own. No condition. -/
namespace Go.Proofs.YtffmlijngfhhaaaGreatDoor
open Go
open Go.RowKit (Below)
set_option linter.unusedVariables false
set_option linter.unusedSimpArgs false

section
variable {cx : Cx} {h : Heap} {dst : Option Nat} {t ty : Nat} {pos : String} {af : Array Edge} {gd : Option (Nat × Bool)}
end
theorem awpL_toG {cx : Cx} {ops : Array Oper} {rest : List Oper} {s s' : Slots} {h h' : Heap} {Q : Exit → Slots → Heap → Prop} {dst : Option Nat} {op : Op} {ty : Nat} {pos : String} {af : Array Edge} {gd : Nat × Bool} (hw : wantedA ops ⟨dst, op, ty, pos, af, some gd⟩ (lk s) = some true) (ho : OpTo cx ⟨dst, op, ty, pos, af, none⟩ s h s' h') (hn : awpL cx ops rest s' h' Q) :
    awpL cx ops (⟨dst, op, ty, pos, af, some gd⟩ :: rest) s h Q := fun a w hr => by
  unfold wpList
  rw [if_pos (by obtain ⟨σ, hr⟩ := hr; exact wanted_of hr hw)]
  exact .inl (ho a w hr _ _ fun a' w' hr' => hn a' w' hr')
end Go.Proofs.YtffmlijngfhhaaaGreatDoor
