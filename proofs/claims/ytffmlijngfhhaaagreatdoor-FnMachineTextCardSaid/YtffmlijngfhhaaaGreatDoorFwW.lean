/- Rows of one's own that are made shorter, cleared behind a place, or grown by zeros. No condition. -/
import Derived.Test.YtffmlijngfhhaaaGreatDoorFwX
import Derived.Laws.Slices
namespace Go.Proofs.YtffmlijngfhhaaaGreatDoor
open Go
open Go.RowKit (Below)
set_option linter.unusedVariables false
set_option linter.unusedSimpArgs false

theorem RepCells.take {ok : Nat → Prop} {w : World} {sz : Nat} {cl : List Value} {xs : List D} (h : RepCells ok w sz cl xs) {k : Nat} (hk : k ≤ xs.length) : RepCells ok w sz (cl.take (k * sz)) (xs.take k) := by
  obtain ⟨h1, vs, h2, h3, h4⟩ := h
  have hle : k * sz ≤ xs.length * sz := Nat.mul_le_mul_right _ hk
  refine ⟨by rw [List.length_take, List.length_take, h1]; rw [Nat.min_eq_left hk, Nat.min_eq_left hle], vs.take k, by simp [h2], fun i v x hv hx => ?_, fun i v hv => ?_⟩
  · rw [List.getElem?_take] at hv hx
    split at hv
    · rename_i hi
      rw [if_pos hi] at hx
      exact h3 i v x hv hx
    · cases hv
  · rw [List.getElem?_take] at hv
    split at hv
    · rename_i hi
      obtain ⟨c1, c2⟩ := h4 i v hv
      refine ⟨c1, fun j hj => ?_⟩
      have : (i + 1) * sz ≤ k * sz := Nat.mul_le_mul_right _ hi
      rw [Nat.add_mul] at this
      rw [List.getElem?_take, if_pos (by omega)]
      exact c2 j hj
    · cases hv

theorem RepCells.one {ok : Nat → Prop} {w : World} {sz : Nat} {cl : List Value} {xs : List D} (h : RepCells ok w sz cl xs) (h0 : 0 < sz) (hel : ∀ x ∈ xs, x.el = true) : ∀ u ∈ cl, u.oneCell' = true := fun u hu => by
  obtain ⟨h1, vs, h2, h3, h4⟩ := h
  obtain ⟨m, hm, e⟩ := List.getElem_of_mem hu
  have hd : m / sz < xs.length := Nat.div_lt_of_lt_mul (by rw [Nat.mul_comm, ← h1]; exact hm)
  have hv : vs[m / sz]? = some (vs[m / sz]'(by omega)) := List.getElem?_eq_getElem (by omega)
  have hx : xs[m / sz]? = some (xs[m / sz]'hd) := List.getElem?_eq_getElem hd
  obtain ⟨c1, c2⟩ := h4 _ _ hv
  have hc := c2 (m % sz) (Nat.mod_lt _ h0)
  rw [show m / sz * sz + m % sz = m by rw [Nat.mul_comm]; exact Nat.div_add_mod m sz, List.getElem?_eq_getElem hm, e] at hc
  refine (h3 _ _ _ hv hx).cellOne (hel _ (List.getElem_mem hd)) u ?_
  have hlt := Nat.mod_lt m h0
  rw [Array.getElem?_eq_getElem (by omega)] at hc
  rw [Option.some.inj hc]
  exact Array.getElem_mem_toList _

section
variable {cx : Cx} {ops : Array Oper} {rest : List Oper} {s : Slots} {h : Heap} {Q : Exit → Slots → Heap → Prop} {dst : Option Nat} {t ty : Nat} {pos : String} {af : Array Edge} {gd : Option (Nat × Bool)}

/-- A row of one's own is cut. -/
theorem wo_cut {T : Nat} {x hi : Operand} {ts te : TR} {id e sz : Nat} {xs : List D} {k : IntKind} {n : Int} (hx : opv (lk s) x = .own id) (hg : h.get id = some (.arr e sz xs)) (hh : opv (lk s) hi = .d (.int k n))
    (ht : tget cx.T T = some ts) (hsl : ts.isSl = true) (hte : tget cx.T ts.elem = some te) (hd : Nat.blt t cx.nt = true) (hid : isAnc id = false) (h0 : 0 ≤ n) (hn : n ≤ xs.length) :
    OpTo cx ⟨some t, .slice T x none (some hi) none, ty, pos, af, none⟩ s h ((t, .own id) :: killS id s) ((id, .arr e sz (xs.take n.toNat)) :: killH id h) := by
  rintro a w ⟨σ, hr⟩ K Q hK
  have h1 := rep_eval hr x
  rw [hx] at h1
  simp only [RepSV, hg] at h1
  have h2 := rep_eval hr hi
  rw [hh] at h2
  have h2' := RepD.int_inv h2
  obtain ⟨hex, hs0, hlt, cl, ho, hc⟩ := chunk_own hr hg
  obtain ⟨d, i, hdd, hi', -, -, -, hs, -⟩ := tr_facts (tget_ok cx.tab ht)
  obtain ⟨d', i', hdd', hi2, -, hz, -⟩ := tr_facts (tget_ok cx.tab hte)
  have := hs hsl
  subst this
  have hE : cx.P.elem T = ts.elem := by simp [Program.elem, hdd]
  have hd2 : cx.P.underlying T = some (.slice (cx.P.elem T)) := by rw [hE]; exact hdd
  have hin : (σ id).nil = false → w.heap.size ≤ (σ id).b ∨ ∃ q ∈ h, q.1 = id ∧ (σ id).b ∈ blk (σ q.1) q.2 := fun hn => by
    obtain ⟨p, hp, hp1, hp2⟩ := hex
    exact .inr ⟨p, hp, hp1, by rw [hp1, hp2]; simp [blk, hn]⟩
  have hlen : (xs.take n.toNat).length = n.toNat := by simp; omega
  have hform : ∃ A c, sliceAt (σ id) xs.length = .slice A xs.length c ∧ xs.length ≤ c ∧ sliceAt (σ id) n.toNat = .slice A n.toNat c ∧ w.ownsRow 0 e sz (sliceAt (σ id) n.toNat) n.toNat (cl.take (n.toNat * sz)) := by
    obtain ⟨o1, o2⟩ := ho
    have hm : n.toNat * sz ≤ xs.length * sz := Nat.mul_le_mul_right _ (by omega)
    rcases o2 with ⟨q1, q2⟩ | ⟨g, cap, cur, q1, q2, q3, q4, q5, q6, q7⟩
    · have hn0 : n.toNat = 0 := by omega
      have hnil : (σ id).nil = true := by
        unfold sliceAt at q1
        split at q1
        · assumption
        · cases q1
      have e0 : ∀ m, sliceAt (σ id) m = .slice none 0 0 := fun m => by simp [sliceAt, hnil]
      rw [e0, e0, q2, hn0]
      exact ⟨none, 0, rfl, Nat.le_refl _, rfl, by simp, .inl ⟨rfl, rfl⟩⟩
    · have hnil : (σ id).nil = false := by
        unfold sliceAt at q1
        split at q1
        · cases q1
        · rename_i hq; simpa using hq
      have e0 : ∀ m, sliceAt (σ id) m = .slice (some ⟨(σ id).b, 0, none⟩) m (σ id).cap := fun m => by simp [sliceAt, hnil]
      rw [e0] at q1
      have q1' := Value.slice.inj q1
      obtain ⟨qa, qb, qc⟩ := q1'
      cases qa
      rw [e0, e0]
      refine ⟨_, _, rfl, by omega, rfl, by rw [List.length_take, o1, Nat.min_eq_left hm], .inr ⟨(σ id).b, cap, cur, by rw [qc], q2, q3, by omega, q5, q6, ?_⟩⟩
      rw [← q7, List.take_take, Nat.min_eq_left hm]
  obtain ⟨A, c, e1, e2, e3, e4⟩ := hform
  have run : (execOp a.eval ⟨some t, .slice T x none (some hi) none, ty, pos, af, none⟩).run cx.P w = .ok (.value (sliceAt (σ id) n.toNat)) w := by
    simp only [execOp, h1, h2', e1, Option.map_some, Option.map_none]
    simp only [Sem.run_bind, Sem.run_pure]
    rw [run_sliceAt_slice (h := hd2), run_slice_h (ht := hd2) (h0 := h0) (h2 := by omega), hE]
    rw [e3]
    simp [sizeOf, typeInfo, hi2, hz, Result.andThen, sliced]
    try (intro _; cases A with
    | none => rfl
    | some ad => simp [Addr.add])
  unfold Oper.wp
  rw [run]
  have := lay_arr (w' := w) hr hd id hid (σ id) e sz (xs.take n.toNat) rfl rfl rfl (Nat.le_refl _) (fun _ _ _ => rfl) hin hs0 (cl.take (n.toNat * sz)) (by rw [hlen]; exact e4) (hc.take (by omega))
  rw [hlen] at this
  exact hK _ _ this

/-- What lies behind a place of one's own row is cleared. -/
theorem awpL_clear {T ty2 : Nat} {pos2 : String} {af2 : Array Edge} {x lo : Operand} {ts te : TR} {id e sz : Nat} {xs : List D} {k : IntKind} {n : Int}
    (hn : awpL cx ops rest ((t, .junk) :: s) (setH id (.arr e sz (xs.take n.toNat ++ List.replicate (xs.length - n.toNat) (zeroEl te))) h) Q)
    (hx : opv (lk s) x = .own id) (hg : h.get id = some (.arr e sz xs)) (hl : opv (lk s) lo = .d (.int k n)) (ht : tget cx.T T = some ts) (hsl : ts.isSl = true) (hel : Nat.beq ts.elem e = true) (hte : tget cx.T e = some te) (hsz : Nat.beq sz te.size = true) (hd : Nat.blt t cx.nt = true)
    (hz1 : (te.agg || Nat.beq te.zero.length 1) = true) (hz2 : Nat.beq te.zero.length te.size = true) (hz3 : Nat.ble 1 te.size = true) (hze : (zeroEl te).el = true) (h0 : 0 ≤ n) (hle : n ≤ xs.length) :
    awpL cx ops (⟨some t, .slice T x (some lo) none none, ty, pos, af, none⟩ :: ⟨none, .call { callee := .builtin .clear, args := #[.tmp t], argTypes := #[T] }, ty2, pos2, af2, none⟩ :: rest) s h Q := by
  rintro a w ⟨σ, hr⟩
  have h1 := rep_eval hr x
  rw [hx] at h1
  simp only [RepSV, hg] at h1
  have h2 := rep_eval hr lo
  rw [hl] at h2
  have h2' := RepD.int_inv h2
  have hsz' := Nat.eq_of_beq_eq_true hsz
  subst hsz'
  have hel' := Nat.eq_of_beq_eq_true hel
  subst hel'
  obtain ⟨hex, hs0, hlt, cl, ho, hc⟩ := chunk_own hr hg
  obtain ⟨d, i', hdd, hi', -, -, -, hs, -⟩ := tr_facts (tget_ok cx.tab ht)
  have := hs hsl
  subst this
  have hE : cx.P.elem T = ts.elem := by simp [Program.elem, hdd]
  have hd2 : cx.P.underlying T = some (.slice (cx.P.elem T)) := by rw [hE]; exact hdd
  obtain ⟨m, rfl⟩ : ∃ m : Nat, n = m := ⟨n.toNat, by omega⟩
  rw [Int.toNat_natCast] at hn
  obtain ⟨i, z, hi, hz, hisz, hiby, hcs, hrep⟩ := zero_cells (tget_ok cx.tab hte) hz1 hz2 hz3 (ok := okf cx σ h) (w := w) (xs.length - m)
  have htl := anc_slot hd
  have htt : t < cx.nt := Nat.le_of_ble_eq_true hd
  have hev : ∀ v : Value, (a.put (some t) v).eval (.tmp t) = v := fun v => by
    have hlt' : t < a.tmps.size := by rw [hr.size]; exact htt
    simp [Act.eval, Act.put, hlt']
  have step : ∀ (v : Value) (w' : World), (execOp a.eval ⟨some t, .slice T x (some lo) none none, ty, pos, af, none⟩).run cx.P w = .ok (.value v) w → (Builtin.clear_ #[T] ty2 #[v]).run cx.P w = .ok (.tuple #[]) w' →
      RW cx σ (lk s) (setH id (.arr ts.elem te.size (xs.take m ++ List.replicate (xs.length - m) (zeroEl te))) h) a w' →
      wpList cx.P ops (lift cx Q) (⟨some t, .slice T x (some lo) none none, ty, pos, af, none⟩ :: ⟨none, .call { callee := .builtin .clear, args := #[.tmp t], argTypes := #[T] }, ty2, pos2, af2, none⟩ :: rest) a w := by
    intro v w' r1 r2 hr'
    unfold wpList
    rw [if_pos (by simp [Region.wanted])]
    refine .inl ?_
    unfold Oper.wp
    rw [r1]
    show wpList cx.P ops (lift cx Q) _ (a.put (some t) v) w
    unfold wpList
    rw [if_pos (by simp [Region.wanted])]
    refine .inl ?_
    unfold Oper.wp execOp
    simp only [resolve, invoke, builtin, Sem.run_bind, Sem.run_pure, Result.andThen_ok, List.map_toArray, List.map_cons, List.map_nil, hev, r2]
    have := hr'.put (dst := some t) (v := v) (sv := .junk) (fun u hu => by cases hu; exact htt) trivial
    exact hn _ _ ⟨σ, this⟩
  have hsl1 : ∀ A c, sliceAt (σ id) xs.length = .slice A xs.length c → (execOp a.eval ⟨some t, .slice T x (some lo) none none, ty, pos, af, none⟩).run cx.P w = .ok (.value (sliced A m xs.length c te.size)) w := fun A c e1 => by
    simp only [execOp, h1, h2', e1, Option.map_some, Option.map_none]
    simp only [Sem.run_bind, Sem.run_pure]
    rw [run_sliceAt_slice (h := hd2), run_slice_l (ht := hd2) (h0 := h0) (h1 := by omega), hE]
    simp [sizeOf, typeInfo, hi, hisz, Result.andThen]
  have hlen : (xs.take m ++ List.replicate (xs.length - m) (zeroEl te)).length = xs.length := by simp; omega
  by_cases hm : m = xs.length
  · have hsame : xs.take m ++ List.replicate (xs.length - m) (zeroEl te) = xs := by rw [hm]; simp
    have hform : ∃ A c, sliceAt (σ id) xs.length = .slice A xs.length c := by
      unfold sliceAt
      split
      · rename_i hnl
        have : xs.length = 0 := by
          rcases ho.2 with ⟨_, q⟩ | ⟨_, _, _, q, _⟩
          · exact q
          · simp [sliceAt, hnl] at q
        rw [this]; exact ⟨_, _, rfl⟩
      · exact ⟨_, _, rfl⟩
    obtain ⟨A, c, e1⟩ := hform
    refine step _ w (hsl1 A c e1) ?_ ?_
    · unfold sliced
      rw [hm, Nat.sub_self]
      generalize (if c = xs.length then A else A.map (·.add (xs.length * te.size))) = B
      cases B <;> simp [Builtin.clear_, run_underlying hdd]
    · rw [hsame]
      exact hr.set (w' := w) (c' := .arr ts.elem te.size xs) hg (by simp [Chunk.like]) rfl rfl rfl rfl (fun _ _ => rfl) fun hok => ⟨hs0, cl, ho, hc.mono hok⟩
  · have hml : m < xs.length := by omega
    have ho' := ho
    obtain ⟨o1, o2⟩ := ho
    rcases o2 with ⟨q1, q2⟩ | ⟨g, cap, cur, q1, q2, q3, q4, q5, q6, q7⟩
    · omega
    have hnil : (σ id).nil = false := by
      unfold sliceAt at q1
      split at q1
      · cases q1
      · rename_i hq; simpa using hq
    have e0 : ∀ j, sliceAt (σ id) j = .slice (some ⟨(σ id).b, 0, none⟩) j (σ id).cap := fun j => by simp [sliceAt, hnil]
    rw [e0] at q1
    obtain ⟨qa, qb, qc⟩ := Value.slice.inj q1
    cases qa
    have hcm : ¬ cap = m := by omega
    have hmul : m * te.size + (xs.length - m) * te.size = xs.length * te.size := by rw [← Nat.add_mul]; congr 1; omega
    have hlc : xs.length * te.size ≤ cap * te.size := Nat.mul_le_mul_right _ q4
    have hzl : (madeCells z.cells ((xs.length - m) * te.size)).toList.length = (xs.length - m) * te.size := by simp [size_madeCells]
    have hzc : Builtin.zeroCells z.cells (xs.length - m) = madeCells z.cells ((xs.length - m) * te.size) := by simp [Builtin.zeroCells, madeCells, hcs]
    have hone := hrep.one hs0 (fun x hx => by rw [List.eq_of_mem_replicate hx]; exact hze)
    have hst := run_storeCells_at cx.P (σ id).b (m * te.size) ts.elem (madeCells z.cells ((xs.length - m) * te.size)).toList 0 cur w q3 (by rw [hzl, q6]; omega) hone
    simp only [Nat.add_zero, hzl] at hst
    rw [hmul] at hst
    refine step _ (w.setRow (σ id).b (cur.toList.take (m * te.size) ++ (madeCells z.cells ((xs.length - m) * te.size)).toList ++ cur.toList.drop (xs.length * te.size)).toArray) (hsl1 _ cap (by rw [e0, qc])) ?_ ?_
    · unfold sliced
      rw [if_neg hcm]
      obtain ⟨q, hq⟩ : ∃ q, xs.length - m = q + 1 := ⟨xs.length - m - 1, by omega⟩
      rw [hq] at hst hzc ⊢
      simp only [Option.map_some, add_block, Nat.zero_add]
      have hzv : (zeroValue ts.elem).run cx.P w = .ok z w := by simp [zeroValue, typeInfo, hi, hz]
      simp only [Builtin.clear_, Sem.run_bind, run_underlying hdd, Result.andThen_ok, hzv, hzc, hst, Sem.run_pure]
      simp [run_underlying hdd, hzv, hzc, hst]
    · have hct : cur.toList.take (m * te.size) = cl.take (m * te.size) := by
        rw [← q7, List.take_take, Nat.min_eq_left (by omega)]
      have hctl : (cl.take (m * te.size)).length = m * te.size := by rw [List.length_take, o1]; omega
      rw [hct]
      have hrsz : (cl.take (m * te.size) ++ (madeCells z.cells ((xs.length - m) * te.size)).toList ++ cur.toList.drop (xs.length * te.size)).length = cap * te.size := by
        have hcl2 : cur.toList.length = cap * te.size := by rw [← q6]; simp
        rw [List.length_append, List.length_append, hctl, hzl, List.length_drop, hcl2]; omega
      refine hr.set (c' := .arr ts.elem te.size (xs.take m ++ List.replicate (xs.length - m) (zeroEl te))) hg (by simp only [Chunk.like, hlen, true_and]) rfl rfl rfl (by simp) (fun b hb => setRow_other w _ b _ (by simpa [blk, hnil] using hb)) fun hok => ?_
      refine ⟨hs0, cl.take (m * te.size) ++ (madeCells z.cells ((xs.length - m) * te.size)).toList, ?_, RepCells.append ((hc.take (by omega)).mono hok) (hrep.mono hok)⟩
      rw [hlen, e0]
      refine ⟨by rw [List.length_append, hctl, hzl, hmul], .inr ⟨(σ id).b, cap, _, by rw [qc], Nat.zero_le _, setRow_heap w _ cur _ ts.elem (0, 0) q3, q4, q5, by rw [List.size_toArray, hrsz], ?_⟩⟩
      rw [List.append_assoc, ← List.append_assoc, List.take_left' (by rw [List.length_append, hctl, hzl, hmul])]
end
end Go.Proofs.YtffmlijngfhhaaaGreatDoor

/-! A part of one's own row from a place on: slicing, length, elements. No condition. -/
namespace Go.Proofs.YtffmlijngfhhaaaGreatDoor
open Go
open Go.RowKit (Below)
set_option linter.unusedVariables false
set_option linter.unusedSimpArgs false

section
variable {cx : Cx} {ops : Array Oper} {rest : List Oper} {s : Slots} {h : Heap} {Q : Exit → Slots → Heap → Prop} {dst : Option Nat} {t ty : Nat} {pos : String} {af : Array Edge} {gd : Option (Nat × Bool)}

/-- One's own row from a place on. -/
theorem wv_view {T : Nat} {x lo : Operand} {ts te : TR} {f : Nat → SV} {id e sz : Nat} {xs : List D} {k : IntKind} {n : Int} (hx : opv f x = .own id) (hg : h.get id = some (.arr e sz xs)) (hl : opv f lo = .d (.int k n))
    (ht : tget cx.T T = some ts) (hsl : ts.isSl = true) (hte : tget cx.T ts.elem = some te) (hsz : Nat.beq sz te.size = true) (h0 : 0 ≤ n) (hn : n ≤ xs.length) :
    Qt cx h ⟨dst, .slice T x (some lo) none none, ty, pos, af, gd⟩ f (.sub id (2 * n.toNat)) := by
  intro s₁ hs σ a w hr K Q hK
  have h1 := rep_eval hr x
  have h2 := rep_eval hr lo
  rw [show opv s₁ x = opv f x from by cases x <;> first | rfl | exact hs _ (by simp [Op.operands]), hx] at h1
  rw [show opv s₁ lo = opv f lo from by cases lo <;> first | rfl | exact hs _ (by simp [Op.operands]), hl] at h2
  have h2' := RepD.int_inv h2
  simp only [RepSV, hg] at h1
  obtain ⟨d, i, hdd, hi', -, -, -, hs', -⟩ := tr_facts (tget_ok cx.tab ht)
  obtain ⟨d', i', hdd', hi2, -, hz, -⟩ := tr_facts (tget_ok cx.tab hte)
  have := hs' hsl
  subst this
  have hsz' := Nat.eq_of_beq_eq_true hsz
  have hE : cx.P.elem T = ts.elem := by simp [Program.elem, hdd]
  have hd2 : cx.P.underlying T = some (.slice (cx.P.elem T)) := by rw [hE]; exact hdd
  obtain ⟨_, _, _, cl, ⟨_, ho⟩, _⟩ := chunk_own hr hg
  have run : (execOp a.eval ⟨dst, .slice T x (some lo) none none, ty, pos, af, gd⟩).run cx.P w = .ok (.value (viewAt (σ id) (2 * n.toNat) sz xs.length)) w := by
    unfold sliceAt at h1
    split at h1
    · rename_i hnil
      have hx0 : xs.length = 0 := by
        rcases ho with ⟨_, q⟩ | ⟨_, _, _, q, _⟩
        · exact q
        · simp [sliceAt, hnil] at q
      have hn0 : n = 0 := by omega
      subst hn0
      rw [show viewAt (σ id) (2 * (0 : Int).toNat) sz xs.length = .slice none 0 0 by unfold viewAt; rw [if_pos hnil]]
      simp only [execOp, h1, h2', Option.map_some, Option.map_none]
      simp only [Sem.run_bind, Sem.run_pure]
      rw [run_sliceAt_slice (h := hd2), run_slice_l (ht := hd2) (h0 := by omega) (h1 := by simp), hE]
      simp [sizeOf, typeInfo, hi2, hz, Result.andThen, sliced]
    · rename_i hnil
      rw [view_from (by simpa using hnil)]
      simp only [execOp, h1, h2', Option.map_some, Option.map_none]
      simp only [Sem.run_bind, Sem.run_pure]
      rw [run_sliceAt_slice (h := hd2), run_slice_l (ht := hd2) (h0 := h0) (h1 := by omega), hE]
      by_cases hc : (σ id).cap = n.toNat
      · simp [sizeOf, typeInfo, hi2, hz, Result.andThen, sliced, hc]
      · simp [sizeOf, typeInfo, hi2, hz, Result.andThen, sliced, hc, add_block, hsz']
  unfold Oper.wp
  rw [run]
  exact hK _ _ (Below.refl _ _) (by simp only [RepSV, hg])

/-- An element of it. -/
theorem wv_index {T : Nat} {x i : Operand} {ts te : TR} {f : Nat → SV} {id e sz m : Nat} {xs : List D} {k : IntKind} {n : Int} (hx : opv f x = .sub id (2 * m)) (hi : opv f i = .d (.int k n)) (hg : h.get id = some (.arr e sz xs))
    (ht : tget cx.T T = some ts) (hsl : ts.isSl = true) (hte : tget cx.T ts.elem = some te) (hsz : Nat.beq sz te.size = true) (h0 : 0 ≤ n) (hlt : (m : Int) + n < xs.length) :
    Qt cx h ⟨dst, .indexAddr T x i, ty, pos, af, gd⟩ f (.elt id (m + n.toNat)) := by
  intro s₁ hs σ a w hr K Q hK
  have h1 := rep_eval hr x
  have h2 := rep_eval hr i
  rw [show opv s₁ x = opv f x from by cases x <;> first | rfl | exact hs _ (by simp [Op.operands]), hx] at h1
  rw [show opv s₁ i = opv f i from by cases i <;> first | rfl | exact hs _ (by simp [Op.operands]), hi] at h2
  have h2' := RepD.int_inv h2
  simp only [RepSV, hg] at h1
  obtain ⟨d, i', hdd, hi', _, _, _, hs', _⟩ := tr_facts (tget_ok cx.tab ht)
  have := hs' hsl
  subst this
  obtain ⟨_, ie, _, hie, _, hies, _⟩ := tr_facts (tget_ok cx.tab hte)
  have hsz' := Nat.eq_of_beq_eq_true hsz
  obtain ⟨_, _, _, cl, ⟨_, ho⟩, _⟩ := chunk_own hr hg
  have hcap : (σ id).nil = false ∧ xs.length ≤ (σ id).cap := by
    rcases ho with ⟨_, q⟩ | ⟨g, cap, cur, q, _, _, q4, _⟩
    · omega
    · unfold sliceAt at q
      split at q
      · cases q
      · rename_i hn
        obtain ⟨_, _, q3⟩ := Value.slice.inj q
        exact ⟨by simpa using hn, by omega⟩
  have hv : viewAt (σ id) (2 * m) sz xs.length = .slice (some ⟨(σ id).b, m * sz, none⟩) (xs.length - m) ((σ id).cap - m) := by
    rw [view_from hcap.1, if_neg (by omega)]
  rw [hv] at h1
  unfold Oper.wp
  have run : (execOp a.eval ⟨dst, .indexAddr T x i, ty, pos, af, gd⟩).run cx.P w = .ok (.value (.pointer (some ⟨(σ id).b, (m + n.toNat) * sz, none⟩))) w := by
    simp only [execOp, h1, h2', Instr.indexAt, asIntOf, Sem.run_bind, Sem.run_pure, Result.andThen_ok, run_underlying hdd]
    rw [if_pos ⟨h0, by omega⟩]
    simp [sizeOf, typeInfo, hie, hies, add_block, hsz', Nat.add_mul]
  rw [run]
  exact hK _ _ (Below.refl _ _) (by simp only [RepSV, hg])

/-- How many elements it has. -/
theorem wv_len {T : Nat} {x : Operand} {tr : TR} {f : Nat → SV} {id e sz m : Nat} {xs : List D} (hx : opv f x = .sub id (2 * m)) (hg : h.get id = some (.arr e sz xs)) (ht : tget cx.T T = some tr) (hsl : tr.isSl = true) :
    Qt cx h ⟨dst, .call { callee := .builtin .len, args := #[x], argTypes := #[T] }, ty, pos, af, gd⟩ f (.d (.int .i64 ((xs.length - m : Nat) : Int))) := by
  intro s₁ hs σ a w hr K Q hK
  have h1 := rep_eval hr x
  rw [show opv s₁ x = opv f x from by cases x <;> first | rfl | exact hs _ (by simp [Op.operands, Call.operands]), hx] at h1
  simp only [RepSV, hg] at h1
  obtain ⟨d, i, hd, hi', -, -, -, hs', -⟩ := tr_facts (tget_ok cx.tab ht)
  have := hs' hsl
  subst this
  obtain ⟨_, _, _, cl, ⟨_, ho⟩, _⟩ := chunk_own hr hg
  have hv : ∃ A c, viewAt (σ id) (2 * m) sz xs.length = .slice A (xs.length - m) c := by
    cases hnil : (σ id).nil with
    | true =>
      have hx0 : xs.length = 0 := by
        rcases ho with ⟨_, q⟩ | ⟨_, _, _, q, _⟩
        · exact q
        · simp [sliceAt, hnil] at q
      rw [hx0, Nat.zero_sub]
      unfold viewAt
      rw [if_pos hnil]
      exact ⟨_, _, rfl⟩
    | false =>
      rw [view_from hnil]
      exact ⟨_, _, rfl⟩
  obtain ⟨A, c, hv⟩ := hv
  rw [hv] at h1
  unfold Oper.wp
  have run : (execOp a.eval ⟨dst, .call { callee := .builtin .len, args := #[x], argTypes := #[T] }, ty, pos, af, gd⟩).run cx.P w = .ok (.value (.int .i64 ((xs.length - m : Nat) : Int))) w := by
    simp [execOp, resolve, invoke, builtin, h1, Builtin.len_, run_underlying hd]
    try rfl
  rw [run]
  exact hK _ _ (Below.refl _ _) (RepD.int _ _)

/-! ### A slice without room -/
end

/-! ### Guards that are known -/
section
variable {cx : Cx} {ops : Array Oper} {rest : List Oper} {s : Slots} {h : Heap} {Q : Exit → Slots → Heap → Prop} {K : Slots → Prop}
theorem u_glt {o : Oper} {j t : Nat} {want b : Bool} (h1 : awpL cx ops (o :: rest) ((t, .d (.bool true)) :: s) h Q) (hg : o.guard = some (j, want) := by exact rfl) (hj : (ops[j]?).bind (·.dst) = some t := by exact rfl) (hb : lk s t = .d (.bool b) := by exact rfl) (hv : b = true := by ((fail_if_success (exact rfl)); first | assumption | (simp; omega) | (simp; done) | fail)) : awpL cx ops (o :: rest) s h Q := awpL_split hg hj hb (fun e => by first | exact h1 | (rw [hv] at e; cases e)) (fun e => by first | exact h1 | (rw [hv] at e; cases e))
theorem u_gqt {o : Oper} {j t : Nat} {want b : Bool} (h1 : awpQL cx ops h K (o :: rest) ((t, .d (.bool true)) :: s)) (hg : o.guard = some (j, want) := by exact rfl) (hj : (ops[j]?).bind (·.dst) = some t := by exact rfl) (hb : lk s t = .d (.bool b) := by exact rfl) (hv : b = true := by ((fail_if_success (exact rfl)); first | assumption | (simp; omega) | (simp; done) | fail)) : awpQL cx ops h K (o :: rest) s := awpQL_split hg hj hb (fun e => by first | exact h1 | (rw [hv] at e; cases e)) (fun e => by first | exact h1 | (rw [hv] at e; cases e))
theorem u_glf {o : Oper} {j t : Nat} {want b : Bool} (h1 : awpL cx ops (o :: rest) ((t, .d (.bool false)) :: s) h Q) (hg : o.guard = some (j, want) := by exact rfl) (hj : (ops[j]?).bind (·.dst) = some t := by exact rfl) (hb : lk s t = .d (.bool b) := by exact rfl) (hv : b = false := by ((fail_if_success (exact rfl)); first | assumption | (simp; omega) | (simp; done) | fail)) : awpL cx ops (o :: rest) s h Q := awpL_split hg hj hb (fun e => by first | exact h1 | (rw [hv] at e; cases e)) (fun e => by first | exact h1 | (rw [hv] at e; cases e))
theorem u_gqf {o : Oper} {j t : Nat} {want b : Bool} (h1 : awpQL cx ops h K (o :: rest) ((t, .d (.bool false)) :: s)) (hg : o.guard = some (j, want) := by exact rfl) (hj : (ops[j]?).bind (·.dst) = some t := by exact rfl) (hb : lk s t = .d (.bool b) := by exact rfl) (hv : b = false := by ((fail_if_success (exact rfl)); first | assumption | (simp; omega) | (simp; done) | fail)) : awpQL cx ops h K (o :: rest) s := awpQL_split hg hj hb (fun e => by first | exact h1 | (rw [hv] at e; cases e)) (fun e => by first | exact h1 | (rw [hv] at e; cases e))
end
end Go.Proofs.YtffmlijngfhhaaaGreatDoor

/-! A row of one's own from which something is taken out in place: the first elements of it, what stands behind them appended, the rest cleared. No condition. -/
namespace Go.Proofs.YtffmlijngfhhaaaGreatDoor
open Go
open Go.RowKit (Below)
set_option linter.unusedVariables false
set_option linter.unusedSimpArgs false

theorem RepCells.drop {ok : Nat → Prop} {w : World} {sz : Nat} {cl : List Value} {xs : List D} (h : RepCells ok w sz cl xs) {k : Nat} (hk : k ≤ xs.length) : RepCells ok w sz (cl.drop (k * sz)) (xs.drop k) := by
  obtain ⟨h1, vs, h2, h3, h4⟩ := h
  refine ⟨by rw [List.length_drop, List.length_drop, h1, Nat.sub_mul], vs.drop k, by simp [h2], fun i v x hv hx => ?_, fun i v hv => ?_⟩
  · rw [List.getElem?_drop] at hv hx
    exact h3 _ v x hv hx
  · rw [List.getElem?_drop] at hv
    obtain ⟨c1, c2⟩ := h4 _ v hv
    refine ⟨c1, fun j hj => ?_⟩
    rw [List.getElem?_drop, ← c2 j hj]
    congr 1
    rw [Nat.add_mul]
    omega

section
variable {cx : Cx} {ops : Array Oper} {rest : List Oper} {s : Slots} {h : Heap} {Q : Exit → Slots → Heap → Prop} {dst : Option Nat} {t ty : Nat} {pos : String} {af : Array Edge} {gd : Option (Nat × Bool)}

end
end Go.Proofs.YtffmlijngfhhaaaGreatDoor

/-! A variable's cell that says less. No condition. -/
namespace Go.Proofs.YtffmlijngfhhaaaGreatDoor
open Go
open Go.RowKit (Below)
set_option linter.unusedVariables false
set_option linter.unusedSimpArgs false
section
variable {cx : Cx} {ops : Array Oper} {s : Slots} {h : Heap} {Q : Exit → Slots → Heap → Prop}

end
end Go.Proofs.YtffmlijngfhhaaaGreatDoor

/-! A field of a struct in a row of one's own. No condition. -/
namespace Go.Proofs.YtffmlijngfhhaaaGreatDoor
open Go
open Go.RowKit (Below)
set_option linter.unusedVariables false
set_option linter.unusedSimpArgs false
section
variable {cx : Cx} {ops : Array Oper} {s : Slots} {h : Heap} {Q : Exit → Slots → Heap → Prop} {dst : Option Nat} {t ty : Nat} {pos : String} {af : Array Edge} {gd : Option (Nat × Bool)}

end
end Go.Proofs.YtffmlijngfhhaaaGreatDoor
