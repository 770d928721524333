/- Rows of one's own that are made shorter, cleared behind a place, or grown by zeros. No condition. -/
import Derived.Test.YtckpadnjldebaaaGreatFwX
import Derived.Laws.Slices
namespace Go.Proofs.YtckpadnjldebaaaGreat
open Go
open Go.RowKit (Below)
set_option linter.unusedVariables false
set_option linter.unusedSimpArgs false
theorem RepCells.take {ok : Nat -> Prop} {w : World} {sz : Nat} {cl : List Value} {xs : List D} (h : RepCells ok w sz cl xs) {k : Nat} (hk : k <= xs.length) : RepCells ok w sz (cl.take (k * sz)) (xs.take k) := by
  obtain ⟨h1, vs, h2, h3, h4⟩ := h
  have hle : k * sz <= xs.length * sz := Nat.mul_le_mul_right _ hk
  refine ⟨by rw [List.length_take, List.length_take, h1]; rw [Nat.min_eq_left hk, Nat.min_eq_left hle], vs.take k, by simp [h2], fun i v x hv hx => ?_, fun i v hv => ?_⟩
  . rw [List.getElem?_take] at hv hx
    split at hv
    . rename_i hi
      rw [if_pos hi] at hx
      exact h3 i v x hv hx
    . cases hv
  . rw [List.getElem?_take] at hv
    split at hv
    . rename_i hi
      obtain ⟨c1, c2⟩ := h4 i v hv
      refine ⟨c1, fun j hj => ?_⟩
      have : (i + 1) * sz <= k * sz := Nat.mul_le_mul_right _ hi
      rw [Nat.add_mul] at this
      rw [List.getElem?_take, if_pos (by omega)]
      exact c2 j hj
    . cases hv
theorem RepCells.one {ok : Nat -> Prop} {w : World} {sz : Nat} {cl : List Value} {xs : List D} (h : RepCells ok w sz cl xs) (h0 : 0 < sz) (hel : ∀ x ∈ xs, x.el = true) : ∀ u ∈ cl, u.oneCell' = true := fun u hu => by
  obtain ⟨h1, vs, h2, h3, h4⟩ := h
  obtain ⟨m, hm, e⟩ := List.getElem_of_mem hu
  have hd : m / sz < xs.length := Nat.div_lt_of_lt_mul (by rw [Nat.mul_comm, <- h1]; exact hm)
  have hv : vs[m / sz]? = some (vs[m / sz]'(by omega)) := List.getElem?_eq_getElem (by omega)
  have hx : xs[m / sz]? = some (xs[m / sz]'hd) := List.getElem?_eq_getElem hd
  obtain ⟨c1, c2⟩ := h4 _ _ hv
  have hc := c2 (m % sz) (Nat.mod_lt _ h0)
  rw [show m / sz * sz + m % sz = m by rw [Nat.mul_comm]; exact Nat.div_add_mod m sz, List.getElem?_eq_getElem hm, e] at hc
  refine (h3 _ _ _ hv hx).cellOne (hel _ (List.getElem_mem hd)) u ?_
  have hlt := Nat.mod_lt m h0
  rw [Array.getElem?_eq_getElem (by omega)] at hc
  rw [Option.some.inj hc]
  exact Array.getElem_mem_toList _
section
variable {cx : Cx} {ops : Array Oper} {rest : List Oper} {s : Slots} {h : Heap} {Q : Exit -> Slots -> Heap -> Prop} {dst : Option Nat} {t ty : Nat} {pos : String} {af : Array Edge} {gd : Option (Nat × Bool)}
theorem wo_cut {T : Nat} {x hi : Operand} {ts te : TR} {id e sz : Nat} {xs : List D} {k : IntKind} {n : Int} (hx : opv (lk s) x = .own id) (hg : h.get id = some (.arr e sz xs)) (hh : opv (lk s) hi = .d (.int k n))
    (ht : tget cx.T T = some ts) (hsl : ts.isSl = true) (hte : tget cx.T ts.elem = some te) (hd : Nat.blt t cx.nt = true) (hid : isAnc id = false) (h0 : 0 <= n) (hn : n <= xs.length) :
    OpTo cx ⟨some t, .slice T x none (some hi) none, ty, pos, af, none⟩ s h ((t, .own id) :: killS id s) ((id, .arr e sz (xs.take n.toNat)) :: killH id h) := by
  rintro a w ⟨σ, hr⟩ K Q hK
  have h1 := rep_eval hr x
  rw [hx] at h1
  simp only [RepSV, hg] at h1
  have h2 := rep_eval hr hi
  rw [hh] at h2
  have h2' := RepD.int_inv h2
  obtain ⟨hex, hs0, hlt, cl, ho, hc⟩ := chunk_own hr hg
  obtain ⟨d, i, hdd, hi', -, -, -, hs, -⟩ := tr_facts (tget_ok cx.tab ht)
  obtain ⟨d', i', hdd', hi2, -, hz, -⟩ := tr_facts (tget_ok cx.tab hte)
  have := hs hsl
  subst this
  have hE : cx.P.elem T = ts.elem := by simp [Program.elem, hdd]
  have hd2 : cx.P.underlying T = some (.slice (cx.P.elem T)) := by rw [hE]; exact hdd
  have hin : (σ id).nil = false -> w.heap.size <= (σ id).b \/ ∃ q ∈ h, q.1 = id /\ (σ id).b ∈ blk (σ q.1) q.2 := fun hn => by
    obtain ⟨p, hp, hp1, hp2⟩ := hex
    exact .inr ⟨p, hp, hp1, by rw [hp1, hp2]; simp [blk, hn]⟩
  have hlen : (xs.take n.toNat).length = n.toNat := by simp; omega
  have hform : ∃ A c, sliceAt (σ id) xs.length = .slice A xs.length c /\ xs.length <= c /\ sliceAt (σ id) n.toNat = .slice A n.toNat c /\ w.ownsRow 0 e sz (sliceAt (σ id) n.toNat) n.toNat (cl.take (n.toNat * sz)) := by
    obtain ⟨o1, o2⟩ := ho
    have hm : n.toNat * sz <= xs.length * sz := Nat.mul_le_mul_right _ (by omega)
    rcases o2 with ⟨q1, q2⟩ | ⟨g, cap, cur, q1, q2, q3, q4, q5, q6, q7⟩
    . have hn0 : n.toNat = 0 := by omega
      have hnil : (σ id).nil = true := by
        unfold sliceAt at q1
        split at q1
        . assumption
        . cases q1
      have e0 : ∀ m, sliceAt (σ id) m = .slice none 0 0 := fun m => by simp [sliceAt, hnil]
      rw [e0, e0, q2, hn0]
      exact ⟨none, 0, rfl, Nat.le_refl _, rfl, by simp, .inl ⟨rfl, rfl⟩⟩
    . have hnil : (σ id).nil = false := by
        unfold sliceAt at q1
        split at q1
        . cases q1
        . rename_i hq; simpa using hq
      have e0 : ∀ m, sliceAt (σ id) m = .slice (some ⟨(σ id).b, 0, none⟩) m (σ id).cap := fun m => by simp [sliceAt, hnil]
      rw [e0] at q1
      have q1' := Value.slice.inj q1
      obtain ⟨qa, qb, qc⟩ := q1'
      cases qa
      rw [e0, e0]
      refine ⟨_, _, rfl, by omega, rfl, by rw [List.length_take, o1, Nat.min_eq_left hm], .inr ⟨(σ id).b, cap, cur, by rw [qc], q2, q3, by omega, q5, q6, ?_⟩⟩
      rw [<- q7, List.take_take, Nat.min_eq_left hm]
  obtain ⟨A, c, e1, e2, e3, e4⟩ := hform
  have run : (execOp a.eval ⟨some t, .slice T x none (some hi) none, ty, pos, af, none⟩).run cx.P w = .ok (.value (sliceAt (σ id) n.toNat)) w := by
    simp only [execOp, h1, h2', e1, Option.map_some, Option.map_none]
    simp only [Sem.run_bind, Sem.run_pure]
    rw [run_sliceAt_slice (h := hd2), run_slice_h (ht := hd2) (h0 := h0) (h2 := by omega), hE]
    rw [e3]
    simp [sizeOf, typeInfo, hi2, hz, Result.andThen, sliced]
    try (intro _; cases A with
    | none => rfl
    | some ad => simp [Addr.add])
  unfold Oper.wp
  rw [run]
  have := lay_arr (w' := w) hr hd id hid (σ id) e sz (xs.take n.toNat) rfl rfl rfl (Nat.le_refl _) (fun _ _ _ => rfl) hin hs0 (cl.take (n.toNat * sz)) (by rw [hlen]; exact e4) (hc.take (by omega))
  rw [hlen] at this
  exact hK _ _ this
theorem awpL_clear {T ty2 : Nat} {pos2 : String} {af2 : Array Edge} {x lo : Operand} {ts te : TR} {id e sz : Nat} {xs : List D} {k : IntKind} {n : Int}
    (hn : awpL cx ops rest ((t, .junk) :: s) (setH id (.arr e sz (xs.take n.toNat ++ List.replicate (xs.length - n.toNat) (zeroEl te))) h) Q)
    (hx : opv (lk s) x = .own id) (hg : h.get id = some (.arr e sz xs)) (hl : opv (lk s) lo = .d (.int k n)) (ht : tget cx.T T = some ts) (hsl : ts.isSl = true) (hel : Nat.beq ts.elem e = true) (hte : tget cx.T e = some te) (hsz : Nat.beq sz te.size = true) (hd : Nat.blt t cx.nt = true)
    (hz1 : (te.agg || Nat.beq te.zero.length 1) = true) (hz2 : Nat.beq te.zero.length te.size = true) (hz3 : Nat.ble 1 te.size = true) (hze : (zeroEl te).el = true) (h0 : 0 <= n) (hle : n <= xs.length) :
    awpL cx ops (⟨some t, .slice T x (some lo) none none, ty, pos, af, none⟩ :: ⟨none, .call { callee := .builtin .clear, args := #[.tmp t], argTypes := #[T] }, ty2, pos2, af2, none⟩ :: rest) s h Q := by
  rintro a w ⟨σ, hr⟩
  have h1 := rep_eval hr x
  rw [hx] at h1
  simp only [RepSV, hg] at h1
  have h2 := rep_eval hr lo
  rw [hl] at h2
  have h2' := RepD.int_inv h2
  have hsz' := Nat.eq_of_beq_eq_true hsz
  subst hsz'
  have hel' := Nat.eq_of_beq_eq_true hel
  subst hel'
  obtain ⟨hex, hs0, hlt, cl, ho, hc⟩ := chunk_own hr hg
  obtain ⟨d, i', hdd, hi', -, -, -, hs, -⟩ := tr_facts (tget_ok cx.tab ht)
  have := hs hsl
  subst this
  have hE : cx.P.elem T = ts.elem := by simp [Program.elem, hdd]
  have hd2 : cx.P.underlying T = some (.slice (cx.P.elem T)) := by rw [hE]; exact hdd
  obtain ⟨m, rfl⟩ : ∃ m : Nat, n = m := ⟨n.toNat, by omega⟩
  rw [Int.toNat_natCast] at hn
  obtain ⟨i, z, hi, hz, hisz, hiby, hcs, hrep⟩ := zero_cells (tget_ok cx.tab hte) hz1 hz2 hz3 (ok := okf cx σ h) (w := w) (xs.length - m)
  have htl := anc_slot hd
  have htt : t < cx.nt := Nat.le_of_ble_eq_true hd
  have hev : ∀ v : Value, (a.put (some t) v).eval (.tmp t) = v := fun v => by
    have hlt' : t < a.tmps.size := by rw [hr.size]; exact htt
    simp [Act.eval, Act.put, hlt']
  have step : ∀ (v : Value) (w' : World), (execOp a.eval ⟨some t, .slice T x (some lo) none none, ty, pos, af, none⟩).run cx.P w = .ok (.value v) w -> (Builtin.clear_ #[T] ty2 #[v]).run cx.P w = .ok (.tuple #[]) w' ->
      RW cx σ (lk s) (setH id (.arr ts.elem te.size (xs.take m ++ List.replicate (xs.length - m) (zeroEl te))) h) a w' ->
      wpList cx.P ops (lift cx Q) (⟨some t, .slice T x (some lo) none none, ty, pos, af, none⟩ :: ⟨none, .call { callee := .builtin .clear, args := #[.tmp t], argTypes := #[T] }, ty2, pos2, af2, none⟩ :: rest) a w := by
    intro v w' r1 r2 hr'
    unfold wpList
    rw [if_pos (by simp [Region.wanted])]
    refine .inl ?_
    unfold Oper.wp
    rw [r1]
    show wpList cx.P ops (lift cx Q) _ (a.put (some t) v) w
    unfold wpList
    rw [if_pos (by simp [Region.wanted])]
    refine .inl ?_
    unfold Oper.wp execOp
    simp only [resolve, invoke, builtin, Sem.run_bind, Sem.run_pure, Result.andThen_ok, List.map_toArray, List.map_cons, List.map_nil, hev, r2]
    have := hr'.put (dst := some t) (v := v) (sv := .junk) (fun u hu => by cases hu; exact htt) trivial
    exact hn _ _ ⟨σ, this⟩
  have hsl1 : ∀ A c, sliceAt (σ id) xs.length = .slice A xs.length c -> (execOp a.eval ⟨some t, .slice T x (some lo) none none, ty, pos, af, none⟩).run cx.P w = .ok (.value (sliced A m xs.length c te.size)) w := fun A c e1 => by
    simp only [execOp, h1, h2', e1, Option.map_some, Option.map_none]
    simp only [Sem.run_bind, Sem.run_pure]
    rw [run_sliceAt_slice (h := hd2), run_slice_l (ht := hd2) (h0 := h0) (h1 := by omega), hE]
    simp [sizeOf, typeInfo, hi, hisz, Result.andThen]
  have hlen : (xs.take m ++ List.replicate (xs.length - m) (zeroEl te)).length = xs.length := by simp; omega
  by_cases hm : m = xs.length
  . have hsame : xs.take m ++ List.replicate (xs.length - m) (zeroEl te) = xs := by rw [hm]; simp
    have hform : ∃ A c, sliceAt (σ id) xs.length = .slice A xs.length c := by
      unfold sliceAt
      split
      . rename_i hnl
        have : xs.length = 0 := by
          rcases ho.2 with ⟨_, q⟩ | ⟨_, _, _, q, _⟩
          . exact q
          . simp [sliceAt, hnl] at q
        rw [this]; exact ⟨_, _, rfl⟩
      . exact ⟨_, _, rfl⟩
    obtain ⟨A, c, e1⟩ := hform
    refine step _ w (hsl1 A c e1) ?_ ?_
    . unfold sliced
      rw [hm, Nat.sub_self]
      generalize (if c = xs.length then A else A.map (·.add (xs.length * te.size))) = B
      cases B <;> simp [Builtin.clear_, run_underlying hdd]
    . rw [hsame]
      exact hr.set (w' := w) (c' := .arr ts.elem te.size xs) hg (by simp [Chunk.like]) rfl rfl rfl rfl (fun _ _ => rfl) fun hok => ⟨hs0, cl, ho, hc.mono hok⟩
  . have hml : m < xs.length := by omega
    have ho' := ho
    obtain ⟨o1, o2⟩ := ho
    rcases o2 with ⟨q1, q2⟩ | ⟨g, cap, cur, q1, q2, q3, q4, q5, q6, q7⟩
    . omega
    have hnil : (σ id).nil = false := by
      unfold sliceAt at q1
      split at q1
      . cases q1
      . rename_i hq; simpa using hq
    have e0 : ∀ j, sliceAt (σ id) j = .slice (some ⟨(σ id).b, 0, none⟩) j (σ id).cap := fun j => by simp [sliceAt, hnil]
    rw [e0] at q1
    obtain ⟨qa, qb, qc⟩ := Value.slice.inj q1
    cases qa
    have hcm : ¬ cap = m := by omega
    have hmul : m * te.size + (xs.length - m) * te.size = xs.length * te.size := by rw [<- Nat.add_mul]; congr 1; omega
    have hlc : xs.length * te.size <= cap * te.size := Nat.mul_le_mul_right _ q4
    have hzl : (madeCells z.cells ((xs.length - m) * te.size)).toList.length = (xs.length - m) * te.size := by simp [size_madeCells]
    have hzc : Builtin.zeroCells z.cells (xs.length - m) = madeCells z.cells ((xs.length - m) * te.size) := by simp [Builtin.zeroCells, madeCells, hcs]
    have hone := hrep.one hs0 (fun x hx => by rw [List.eq_of_mem_replicate hx]; exact hze)
    have hst := run_storeCells_at cx.P (σ id).b (m * te.size) ts.elem (madeCells z.cells ((xs.length - m) * te.size)).toList 0 cur w q3 (by rw [hzl, q6]; omega) hone
    simp only [Nat.add_zero, hzl] at hst
    rw [hmul] at hst
    refine step _ (w.setRow (σ id).b (cur.toList.take (m * te.size) ++ (madeCells z.cells ((xs.length - m) * te.size)).toList ++ cur.toList.drop (xs.length * te.size)).toArray) (hsl1 _ cap (by rw [e0, qc])) ?_ ?_
    . unfold sliced
      rw [if_neg hcm]
      obtain ⟨q, hq⟩ : ∃ q, xs.length - m = q + 1 := ⟨xs.length - m - 1, by omega⟩
      rw [hq] at hst hzc ⊢
      simp only [Option.map_some, add_block, Nat.zero_add]
      have hzv : (zeroValue ts.elem).run cx.P w = .ok z w := by simp [zeroValue, typeInfo, hi, hz]
      simp only [Builtin.clear_, Sem.run_bind, run_underlying hdd, Result.andThen_ok, hzv, hzc, hst, Sem.run_pure]
      simp [run_underlying hdd, hzv, hzc, hst]
    . have hct : cur.toList.take (m * te.size) = cl.take (m * te.size) := by
        rw [<- q7, List.take_take, Nat.min_eq_left (by omega)]
      have hctl : (cl.take (m * te.size)).length = m * te.size := by rw [List.length_take, o1]; omega
      rw [hct]
      have hrsz : (cl.take (m * te.size) ++ (madeCells z.cells ((xs.length - m) * te.size)).toList ++ cur.toList.drop (xs.length * te.size)).length = cap * te.size := by
        have hcl2 : cur.toList.length = cap * te.size := by rw [<- q6]; simp
        rw [List.length_append, List.length_append, hctl, hzl, List.length_drop, hcl2]; omega
      refine hr.set (c' := .arr ts.elem te.size (xs.take m ++ List.replicate (xs.length - m) (zeroEl te))) hg (by simp only [Chunk.like, hlen, true_and]) rfl rfl rfl (by simp) (fun b hb => setRow_other w _ b _ (by simpa [blk, hnil] using hb)) fun hok => ?_
      refine ⟨hs0, cl.take (m * te.size) ++ (madeCells z.cells ((xs.length - m) * te.size)).toList, ?_, RepCells.append ((hc.take (by omega)).mono hok) (hrep.mono hok)⟩
      rw [hlen, e0]
      refine ⟨by rw [List.length_append, hctl, hzl, hmul], .inr ⟨(σ id).b, cap, _, by rw [qc], Nat.zero_le _, setRow_heap w _ cur _ ts.elem (0, 0) q3, q4, q5, by rw [List.size_toArray, hrsz], ?_⟩⟩
      rw [List.append_assoc, <- List.append_assoc, List.take_left' (by rw [List.length_append, hctl, hzl, hmul])]
end
end Go.Proofs.YtckpadnjldebaaaGreat
namespace Go.Proofs.YtckpadnjldebaaaGreat
open Go
open Go.RowKit (Below)
set_option linter.unusedVariables false
set_option linter.unusedSimpArgs false
section
variable {cx : Cx} {ops : Array Oper} {rest : List Oper} {s : Slots} {h : Heap} {Q : Exit -> Slots -> Heap -> Prop} {dst : Option Nat} {t ty : Nat} {pos : String} {af : Array Edge} {gd : Option (Nat × Bool)}
theorem wv_view {T : Nat} {x lo : Operand} {ts te : TR} {f : Nat -> SV} {id e sz : Nat} {xs : List D} {k : IntKind} {n : Int} (hx : opv f x = .own id) (hg : h.get id = some (.arr e sz xs)) (hl : opv f lo = .d (.int k n))
    (ht : tget cx.T T = some ts) (hsl : ts.isSl = true) (hte : tget cx.T ts.elem = some te) (hsz : Nat.beq sz te.size = true) (h0 : 0 <= n) (hn : n <= xs.length) :
    Qt cx h ⟨dst, .slice T x (some lo) none none, ty, pos, af, gd⟩ f (.sub id (2 * n.toNat)) := by
  intro s₁ hs σ a w hr K Q hK
  have h1 := rep_eval hr x
  have h2 := rep_eval hr lo
  rw [show opv s₁ x = opv f x from by cases x <;> first | rfl | exact hs _ (by simp [Op.operands]), hx] at h1
  rw [show opv s₁ lo = opv f lo from by cases lo <;> first | rfl | exact hs _ (by simp [Op.operands]), hl] at h2
  have h2' := RepD.int_inv h2
  simp only [RepSV, hg] at h1
  obtain ⟨d, i, hdd, hi', -, -, -, hs', -⟩ := tr_facts (tget_ok cx.tab ht)
  obtain ⟨d', i', hdd', hi2, -, hz, -⟩ := tr_facts (tget_ok cx.tab hte)
  have := hs' hsl
  subst this
  have hsz' := Nat.eq_of_beq_eq_true hsz
  have hE : cx.P.elem T = ts.elem := by simp [Program.elem, hdd]
  have hd2 : cx.P.underlying T = some (.slice (cx.P.elem T)) := by rw [hE]; exact hdd
  obtain ⟨_, _, _, cl, ⟨_, ho⟩, _⟩ := chunk_own hr hg
  have run : (execOp a.eval ⟨dst, .slice T x (some lo) none none, ty, pos, af, gd⟩).run cx.P w = .ok (.value (viewAt (σ id) (2 * n.toNat) sz xs.length)) w := by
    unfold sliceAt at h1
    split at h1
    . rename_i hnil
      have hx0 : xs.length = 0 := by
        rcases ho with ⟨_, q⟩ | ⟨_, _, _, q, _⟩
        . exact q
        . simp [sliceAt, hnil] at q
      have hn0 : n = 0 := by omega
      subst hn0
      rw [show viewAt (σ id) (2 * (0 : Int).toNat) sz xs.length = .slice none 0 0 by unfold viewAt; rw [if_pos hnil]]
      simp only [execOp, h1, h2', Option.map_some, Option.map_none]
      simp only [Sem.run_bind, Sem.run_pure]
      rw [run_sliceAt_slice (h := hd2), run_slice_l (ht := hd2) (h0 := by omega) (h1 := by simp), hE]
      simp [sizeOf, typeInfo, hi2, hz, Result.andThen, sliced]
    . rename_i hnil
      rw [view_from (by simpa using hnil)]
      simp only [execOp, h1, h2', Option.map_some, Option.map_none]
      simp only [Sem.run_bind, Sem.run_pure]
      rw [run_sliceAt_slice (h := hd2), run_slice_l (ht := hd2) (h0 := h0) (h1 := by omega), hE]
      by_cases hc : (σ id).cap = n.toNat
      . simp [sizeOf, typeInfo, hi2, hz, Result.andThen, sliced, hc]
      . simp [sizeOf, typeInfo, hi2, hz, Result.andThen, sliced, hc, add_block, hsz']
  unfold Oper.wp
  rw [run]
  exact hK _ _ (Below.refl _ _) (by simp only [RepSV, hg]; exact .inl rfl)
theorem wv_index {T : Nat} {x i : Operand} {ts te : TR} {f : Nat -> SV} {id e sz m : Nat} {xs : List D} {k : IntKind} {n : Int} (hx : opv f x = .sub id (2 * m)) (hi : opv f i = .d (.int k n)) (hg : h.get id = some (.arr e sz xs))
    (ht : tget cx.T T = some ts) (hsl : ts.isSl = true) (hte : tget cx.T ts.elem = some te) (hsz : Nat.beq sz te.size = true) (h0 : 0 <= n) (hlt : (m : Int) + n < xs.length) :
    Qt cx h ⟨dst, .indexAddr T x i, ty, pos, af, gd⟩ f (.elt id (m + n.toNat)) := by
  intro s₁ hs σ a w hr K Q hK
  have h1 := rep_eval hr x
  have h2 := rep_eval hr i
  rw [show opv s₁ x = opv f x from by cases x <;> first | rfl | exact hs _ (by simp [Op.operands]), hx] at h1
  rw [show opv s₁ i = opv f i from by cases i <;> first | rfl | exact hs _ (by simp [Op.operands]), hi] at h2
  have h2' := RepD.int_inv h2
  simp only [RepSV, hg] at h1
  obtain ⟨d, i', hdd, hi', _, _, _, hs', _⟩ := tr_facts (tget_ok cx.tab ht)
  have := hs' hsl
  subst this
  obtain ⟨_, ie, _, hie, _, hies, _⟩ := tr_facts (tget_ok cx.tab hte)
  have hsz' := Nat.eq_of_beq_eq_true hsz
  obtain ⟨_, _, _, cl, ⟨_, ho⟩, _⟩ := chunk_own hr hg
  have hcap : (σ id).nil = false /\ xs.length <= (σ id).cap := by
    rcases ho with ⟨_, q⟩ | ⟨g, cap, cur, q, _, _, q4, _⟩
    . omega
    . unfold sliceAt at q
      split at q
      . cases q
      . rename_i hn
        obtain ⟨_, _, q3⟩ := Value.slice.inj q
        exact ⟨by simpa using hn, by omega⟩
  have hv : viewAt (σ id) (2 * m) sz xs.length = .slice (some ⟨(σ id).b, m * sz, none⟩) (xs.length - m) ((σ id).cap - m) := by
    rw [view_from hcap.1, if_neg (by omega)]
  have h1 := h1.lt (by omega)
  rw [hv] at h1
  unfold Oper.wp
  have run : (execOp a.eval ⟨dst, .indexAddr T x i, ty, pos, af, gd⟩).run cx.P w = .ok (.value (.pointer (some ⟨(σ id).b, (m + n.toNat) * sz, none⟩))) w := by
    simp only [execOp, h1, h2', Instr.indexAt, asIntOf, Sem.run_bind, Sem.run_pure, Result.andThen_ok, run_underlying hdd]
    rw [if_pos ⟨h0, by omega⟩]
    simp [sizeOf, typeInfo, hie, hies, add_block, hsz', Nat.add_mul]
  rw [run]
  exact hK _ _ (Below.refl _ _) (by simp only [RepSV, hg])
theorem wv_len {T : Nat} {x : Operand} {tr : TR} {f : Nat -> SV} {id e sz m : Nat} {xs : List D} (hx : opv f x = .sub id (2 * m)) (hg : h.get id = some (.arr e sz xs)) (ht : tget cx.T T = some tr) (hsl : tr.isSl = true) :
    Qt cx h ⟨dst, .call { callee := .builtin .len, args := #[x], argTypes := #[T] }, ty, pos, af, gd⟩ f (.d (.int .i64 ((xs.length - m : Nat) : Int))) := by
  intro s₁ hs σ a w hr K Q hK
  have h1 := rep_eval hr x
  rw [show opv s₁ x = opv f x from by cases x <;> first | rfl | exact hs _ (by simp [Op.operands, Call.operands]), hx] at h1
  simp only [RepSV, hg] at h1
  obtain ⟨d, i, hd, hi', -, -, -, hs', -⟩ := tr_facts (tget_ok cx.tab ht)
  have := hs' hsl
  subst this
  obtain ⟨_, _, _, cl, ⟨_, ho⟩, _⟩ := chunk_own hr hg
  have hv : ∃ A c, a.eval x = .slice A (xs.length - m) c := by
    cases hnil : (σ id).nil with
    | true =>
      have h1 := h1.resolve_right fun h => by rw [hnil] at h; cases h.1
      rw [h1]
      have hx0 : xs.length = 0 := by
        rcases ho with ⟨_, q⟩ | ⟨_, _, _, q, _⟩
        . exact q
        . simp [sliceAt, hnil] at q
      rw [hx0, Nat.zero_sub]
      unfold viewAt
      rw [if_pos hnil]
      exact ⟨_, _, rfl⟩
    | false =>
      obtain ⟨o, h1, -⟩ := h1.ex hnil
      exact ⟨_, _, h1⟩
  obtain ⟨A, c, h1⟩ := hv
  unfold Oper.wp
  have run : (execOp a.eval ⟨dst, .call { callee := .builtin .len, args := #[x], argTypes := #[T] }, ty, pos, af, gd⟩).run cx.P w = .ok (.value (.int .i64 ((xs.length - m : Nat) : Int))) w := by
    simp [execOp, resolve, invoke, builtin, h1, Builtin.len_, run_underlying hd]
    try rfl
  rw [run]
  exact hK _ _ (Below.refl _ _) (RepD.int _ _)
theorem full_inv {ok : Nat -> Prop} {w : World} {v : Value} {xs : List D} (h : RepD ok w v (.full xs)) : RepD ok w v (.lst xs) /\ ((v = .slice none 0 0 /\ xs = []) \/ ∃ a, v = .slice (some a) xs.length xs.length) := by
  cases h with
  | fullN => exact ⟨.nil0, .inl ⟨rfl, rfl⟩⟩
  | fullE a => exact ⟨.emp a 0, .inr ⟨a, rfl⟩⟩
  | full b off n cells e fr xs vs sz h1 h2 h3 h4 h5b h6 h7 =>
    subst h4
    exact ⟨.lst b off _ _ cells e fr xs vs sz h1 h2 h3 rfl (Nat.le_refl _) h5b h6 h7, .inr ⟨_, rfl⟩⟩
theorem qv_append {T rt : Nat} {x y : Operand} {ts te : TR} {f : Nat -> SV} {xs ys : List D} (hx : opv f x = .d (.full xs)) (hy : opv f y = .d (.lst ys)) (ht : tget cx.T T = some ts) (hsl : ts.isSl = true) (hte : tget cx.T ts.elem = some te)
    (hz1 : (te.agg || Nat.beq te.zero.length 1) = true) (hz2 : Nat.beq te.zero.length te.size = true) (hz3 : Nat.ble 1 te.size = true) (hby : Nat.ble te.bytes 64 = true)
    (hw1 : ∀ z ∈ xs, z.el = true /\ z.width = te.size) (hw2 : elsOk te.size ys = true) (hpos : 0 < ys.length) (hlen : xs.length + ys.length <= 1099511627776) :
    Qt cx h ⟨dst, .call { callee := .builtin .append, args := #[x, y], argTypes := #[T, T] }, rt, pos, af, gd⟩ f (.d (.lst (xs ++ ys))) := by
  intro s₁ hs σ a w hr K Q hK
  have h1 := rep_eval hr x
  have h2 := rep_eval hr y
  rw [show opv s₁ x = opv f x from by cases x <;> first | rfl | exact hs _ (by simp [Op.operands, Call.operands]), hx] at h1
  rw [show opv s₁ y = opv f y from by cases y <;> first | rfl | exact hs _ (by simp [Op.operands, Call.operands]), hy] at h2
  obtain ⟨h1l, h1c⟩ := full_inv h1
  have hw2' := elsOk_all hw2
  have s1 := src_cells h1l hw1
  have s2 := src_cells h2 hw2'
  have h0 := Nat.le_of_ble_eq_true hz3
  have hby' := Nat.le_of_ble_eq_true hby
  obtain ⟨d, i0, hdd, hi0, _, _, _, hs', _⟩ := tr_facts (tget_ok cx.tab ht)
  have := hs' hsl
  subst this
  obtain ⟨i, z, hi, hz, hisz, hiby, hcs, _⟩ := zero_cells (tget_ok cx.tab hte) hz1 hz2 hz3 (ok := okf cx σ h) (w := w) 0
  rcases s2 with ⟨_, rfl⟩ | ⟨ad, c, news, hyv, hnc, hcells, hone⟩
  . simp at hpos
  have hcl : ∃ cl, RepCells (okf cx σ h) w te.size cl xs /\ ∃ cap, (xs.length + ys.length <= cap /\ cap <= maxLen) /\ ∃ cur : Array Value, cur.size = cap * te.size /\ cur.toList.take ((xs.length + ys.length) * te.size) = cl ++ news /\ (Builtin.append_ #[T, T] rt #[a.eval x, a.eval y]).run cx.P w = .ok (.slice (some ⟨w.heap.size, 0, none⟩) (xs.length + ys.length) cap) (w.drew.alloc (.cells cur ts.elem)) := by
    have hmul : (xs.length + ys.length) * te.bytes <= 1099511627776 * 64 := Nat.mul_le_mul hlen hby'
    have hzs : ∀ m, (Builtin.zeroCells z.cells m).size = m * te.size := fun m => by simp [Builtin.zeroCells, hcs]
    have hnl : news.length = ys.length * te.size := hnc.1
    rcases h1c with ⟨hv, rfl⟩ | ⟨ax, hv⟩
    . refine ⟨[], ⟨by simp, [], by simp, by simp, by simp⟩, grownCap w ys.length 0 ts.elem, ⟨by simpa using grownCap_ge w ys.length 0 ts.elem, grownCap_le_maxLen w ys.length 0 ts.elem (by simp only [maxLen]; simp at hlen; omega)⟩, news.toArray ++ Builtin.zeroCells z.cells (grownCap w ys.length 0 ts.elem - ys.length), ?_, ?_, ?_⟩
      rotate_left 2
      . rw [hv, hyv]
        have := run_append_nil (P := cx.P) w T rt ts.elem i z hdd hi hz ad ys.length c news (by rw [hisz]; exact hnl) hcells hpos (by simp at hlen; omega) (by rw [hiby]; simp at hmul; omega)
        simpa using this
      . have := grownCap_ge w ys.length 0 ts.elem
        rw [Array.size_append, hzs, List.size_toArray, hnl, <- Nat.add_mul]
        congr 1
        omega
      . rw [Array.toList_append]
        simp only [List.length_nil, Nat.zero_add, List.nil_append]
        rw [List.take_left' (by rw [hnl])]
    . rcases s1 with ⟨hv', _⟩ | ⟨ax', c', olds, hv', hoc, hocells, hoone⟩
      . rw [hv] at hv'; cases hv'
      . rw [hv] at hv'
        cases hv'
        have hol : olds.length = xs.length * te.size := hoc.1
        refine ⟨olds, hoc, grownCap w (xs.length + ys.length) xs.length ts.elem, ⟨grownCap_ge w _ _ ts.elem, grownCap_le_maxLen w _ _ ts.elem (by simp only [maxLen]; omega)⟩, olds.toArray ++ news.toArray ++ Builtin.zeroCells z.cells (grownCap w (xs.length + ys.length) xs.length ts.elem - (xs.length + ys.length)), ?_, ?_, ?_⟩
        rotate_left 2
        . rw [hv, hyv]
          exact run_append_grow (P := cx.P) w T rt ts.elem i z hdd hi hz ax xs.length xs.length olds (by rw [hisz]; exact hol) hocells ad ys.length c news (by rw [hisz]; exact hnl) hcells (by omega) (by omega) (growslice_fits (by omega) (by rw [hiby]; omega))
        . have := grownCap_ge w (xs.length + ys.length) xs.length ts.elem
          rw [Array.size_append, Array.size_append, hzs, List.size_toArray, List.size_toArray, hol, hnl, <- Nat.add_mul, <- Nat.add_mul]
          congr 1
          omega
        . rw [Array.toList_append, Array.toList_append]
          rw [List.take_left' (by simp [hol, hnl, Nat.add_mul])]
  obtain ⟨cl, hcl, cap, ⟨hc1, hc2⟩, cur, q1, q2, hrun⟩ := hcl
  have hlen2 : (xs ++ ys).length = xs.length + ys.length := by simp
  have hbel : Below w.heap.size w (w.drew.alloc (.cells cur ts.elem)) := ⟨rfl, rfl, rfl, by generalize Obj.cells _ _ = ob; show w.heap.size <= _; simp, fun b hb => Below.heap_alloc w.drew _ b hb⟩
  have hrc := hcl.append hnc
  unfold Oper.wp execOp
  simp only [resolve, invoke, builtin, Sem.run_bind, Sem.run_pure, Result.andThen_ok, List.map_toArray, List.map_cons, List.map_nil, hrun]
  refine hK _ _ hbel ?_
  have hrep : RepArr (okf cx σ h) (w.drew.alloc (.cells cur ts.elem)) ⟨w.heap.size, cap, false, []⟩ ts.elem te.size (xs ++ ys) := by
    refine ⟨h0, cl ++ news, ⟨by rw [hrc.1], .inr ⟨w.heap.size, cap, cur, by simp [sliceAt], Nat.zero_le _, heap_alloc_new w.drew _, by rw [hlen2]; exact hc1, hc2, q1, by rw [hlen2]; exact q2⟩⟩, hrc.mono fun b hb hlt => ⟨hb, Below.heap_alloc w.drew _ b hlt⟩⟩
  have := own_rep (ok' := okf cx σ h) hrep (fun b hb => hb) (fun _ => ⟨.inr hr.evo.size, fun p hp hb => by have := (hr.heap.mine p hp _ hb).2.2; simp at this⟩)
  simp only [sliceAt, hlen2] at this
  exact this
end
section
variable {cx : Cx} {ops : Array Oper} {rest : List Oper} {s : Slots} {h : Heap} {Q : Exit -> Slots -> Heap -> Prop} {K : Slots -> Prop}
theorem u_glt {o : Oper} {j t : Nat} {want b : Bool} (h1 : awpL cx ops (o :: rest) ((t, .d (.bool true)) :: s) h Q) (hg : o.guard = some (j, want) := by exact rfl) (hj : (ops[j]?).bind (·.dst) = some t := by exact rfl) (hb : lk s t = .d (.bool b) := by exact rfl) (hv : b = true := by ((fail_if_success (exact rfl)); first | assumption | (simp; omega) | (simp; done) | fail)) : awpL cx ops (o :: rest) s h Q := awpL_split hg hj hb (fun e => by first | exact h1 | (rw [hv] at e; cases e)) (fun e => by first | exact h1 | (rw [hv] at e; cases e))
theorem u_gqt {o : Oper} {j t : Nat} {want b : Bool} (h1 : awpQL cx ops h K (o :: rest) ((t, .d (.bool true)) :: s)) (hg : o.guard = some (j, want) := by exact rfl) (hj : (ops[j]?).bind (·.dst) = some t := by exact rfl) (hb : lk s t = .d (.bool b) := by exact rfl) (hv : b = true := by ((fail_if_success (exact rfl)); first | assumption | (simp; omega) | (simp; done) | fail)) : awpQL cx ops h K (o :: rest) s := awpQL_split hg hj hb (fun e => by first | exact h1 | (rw [hv] at e; cases e)) (fun e => by first | exact h1 | (rw [hv] at e; cases e))
theorem u_glf {o : Oper} {j t : Nat} {want b : Bool} (h1 : awpL cx ops (o :: rest) ((t, .d (.bool false)) :: s) h Q) (hg : o.guard = some (j, want) := by exact rfl) (hj : (ops[j]?).bind (·.dst) = some t := by exact rfl) (hb : lk s t = .d (.bool b) := by exact rfl) (hv : b = false := by ((fail_if_success (exact rfl)); first | assumption | (simp; omega) | (simp; done) | fail)) : awpL cx ops (o :: rest) s h Q := awpL_split hg hj hb (fun e => by first | exact h1 | (rw [hv] at e; cases e)) (fun e => by first | exact h1 | (rw [hv] at e; cases e))
theorem u_gqf {o : Oper} {j t : Nat} {want b : Bool} (h1 : awpQL cx ops h K (o :: rest) ((t, .d (.bool false)) :: s)) (hg : o.guard = some (j, want) := by exact rfl) (hj : (ops[j]?).bind (·.dst) = some t := by exact rfl) (hb : lk s t = .d (.bool b) := by exact rfl) (hv : b = false := by ((fail_if_success (exact rfl)); first | assumption | (simp; omega) | (simp; done) | fail)) : awpQL cx ops h K (o :: rest) s := awpQL_split hg hj hb (fun e => by first | exact h1 | (rw [hv] at e; cases e)) (fun e => by first | exact h1 | (rw [hv] at e; cases e))
end
end Go.Proofs.YtckpadnjldebaaaGreat
namespace Go.Proofs.YtckpadnjldebaaaGreat
open Go
open Go.RowKit (Below)
set_option linter.unusedVariables false
set_option linter.unusedSimpArgs false
theorem RepCells.drop {ok : Nat -> Prop} {w : World} {sz : Nat} {cl : List Value} {xs : List D} (h : RepCells ok w sz cl xs) {k : Nat} (hk : k <= xs.length) : RepCells ok w sz (cl.drop (k * sz)) (xs.drop k) := by
  obtain ⟨h1, vs, h2, h3, h4⟩ := h
  refine ⟨by rw [List.length_drop, List.length_drop, h1, Nat.sub_mul], vs.drop k, by simp [h2], fun i v x hv hx => ?_, fun i v hv => ?_⟩
  . rw [List.getElem?_drop] at hv hx
    exact h3 _ v x hv hx
  . rw [List.getElem?_drop] at hv
    obtain ⟨c1, c2⟩ := h4 _ v hv
    refine ⟨c1, fun j hj => ?_⟩
    rw [List.getElem?_drop, <- c2 j hj]
    congr 1
    rw [Nat.add_mul]
    omega
section
variable {cx : Cx} {ops : Array Oper} {rest : List Oper} {s : Slots} {h : Heap} {Q : Exit -> Slots -> Heap -> Prop} {dst : Option Nat} {t ty : Nat} {pos : String} {af : Array Edge} {gd : Option (Nat × Bool)}
theorem own_form {σ : Nat -> Loc} {w : World} {id e sz : Nat} {xs : List D} {cl : List Value} (ho : w.ownsRow 0 e sz (sliceAt (σ id) xs.length) xs.length cl) (hpos : 0 < xs.length) :
    (σ id).nil = false /\ ∃ cur : Array Value, w.heap[(σ id).b]? = some (.cells cur e (0, 0)) /\ xs.length <= (σ id).cap /\ (σ id).cap <= maxLen /\ cur.size = (σ id).cap * sz /\ cur.toList.take (xs.length * sz) = cl := by
  obtain ⟨o1, o2⟩ := ho
  rcases o2 with ⟨_, q⟩ | ⟨g, cap, cur, q1, q2, q3, q4, q5, q6, q7⟩
  . omega
  . unfold sliceAt at q1
    split at q1
    . cases q1
    . rename_i hn
      cases q1
      exact ⟨by simpa using hn, cur, q3, q4, q5, q6, q7⟩
theorem wv_first {T : Nat} {x hi : Operand} {ts te : TR} {f : Nat -> SV} {id e sz : Nat} {xs : List D} {k : IntKind} {n : Int} (hx : opv f x = .own id) (hg : h.get id = some (.arr e sz xs)) (hl : opv f hi = .d (.int k n))
    (ht : tget cx.T T = some ts) (hsl : ts.isSl = true) (hte : tget cx.T ts.elem = some te) (h0 : 0 <= n) (hn : n < xs.length) :
    Qt cx h ⟨dst, .slice T x none (some hi) none, ty, pos, af, gd⟩ f (.sub id (2 * n.toNat + 1)) := by
  intro s₁ hs σ a w hr K Q hK
  have h1 := rep_eval hr x
  have h2 := rep_eval hr hi
  rw [show opv s₁ x = opv f x from by cases x <;> first | rfl | exact hs _ (by simp [Op.operands]), hx] at h1
  rw [show opv s₁ hi = opv f hi from by cases hi <;> first | rfl | exact hs _ (by simp [Op.operands]), hl] at h2
  have h2' := RepD.int_inv h2
  simp only [RepSV, hg] at h1
  obtain ⟨d, i, hdd, hi', -, -, -, hs', -⟩ := tr_facts (tget_ok cx.tab ht)
  obtain ⟨d', i', hdd', hi2, -, hz, -⟩ := tr_facts (tget_ok cx.tab hte)
  have := hs' hsl
  subst this
  have hE : cx.P.elem T = ts.elem := by simp [Program.elem, hdd]
  have hd2 : cx.P.underlying T = some (.slice (cx.P.elem T)) := by rw [hE]; exact hdd
  obtain ⟨_, _, _, cl, ho, _⟩ := chunk_own hr hg
  obtain ⟨hnil, cur, c1, c2, _⟩ := own_form ho (by omega)
  have run : (execOp a.eval ⟨dst, .slice T x none (some hi) none, ty, pos, af, gd⟩).run cx.P w = .ok (.value (viewAt (σ id) (2 * n.toNat + 1) sz xs.length)) w := by
    rw [view_to hnil]
    simp only [sliceAt, hnil, Bool.false_eq_true, if_false] at h1
    simp only [execOp, h1, h2', Option.map_some, Option.map_none]
    simp only [Sem.run_bind, Sem.run_pure]
    rw [run_sliceAt_slice (h := hd2), run_slice_h (ht := hd2) (h0 := h0) (h2 := by omega), hE]
    simp [sizeOf, typeInfo, hi2, hz, Result.andThen, sliced, Addr.add]
  unfold Oper.wp
  rw [run]
  exact hK _ _ (Below.refl _ _) (by simp only [RepSV, hg]; exact .inl rfl)
theorem wv_lenFirst {T : Nat} {x : Operand} {tr : TR} {f : Nat -> SV} {id e sz m : Nat} {xs : List D} (hx : opv f x = .sub id (2 * m + 1)) (hg : h.get id = some (.arr e sz xs)) (ht : tget cx.T T = some tr) (hsl : tr.isSl = true) (hpos : 0 < xs.length) :
    Qt cx h ⟨dst, .call { callee := .builtin .len, args := #[x], argTypes := #[T] }, ty, pos, af, gd⟩ f (.d (.int .i64 (m : Int))) := by
  intro s₁ hs σ a w hr K Q hK
  have h1 := rep_eval hr x
  rw [show opv s₁ x = opv f x from by cases x <;> first | rfl | exact hs _ (by simp [Op.operands, Call.operands]), hx] at h1
  simp only [RepSV, hg] at h1
  obtain ⟨d, i, hd, hi', -, -, -, hs', -⟩ := tr_facts (tget_ok cx.tab ht)
  have := hs' hsl
  subst this
  obtain ⟨_, _, _, cl, ho, _⟩ := chunk_own hr hg
  obtain ⟨hnil, _⟩ := own_form ho hpos
  have h1 := h1.odd
  rw [view_to hnil] at h1
  unfold Oper.wp
  have run : (execOp a.eval ⟨dst, .call { callee := .builtin .len, args := #[x], argTypes := #[T] }, ty, pos, af, gd⟩).run cx.P w = .ok (.value (.int .i64 (m : Int))) w := by
    simp [execOp, resolve, invoke, builtin, h1, Builtin.len_, run_underlying hd]
    try rfl
  rw [run]
  exact hK _ _ (Below.refl _ _) (RepD.int _ _)
theorem wv_look {T : Nat} {x lo hi mx : Operand} {ts te : TR} {f : Nat -> SV} {id e sz : Nat} {xs : List D} {k k' k'' : IntKind} {a b : Int} (hx : opv f x = .own id) (hg : h.get id = some (.arr e sz xs)) (hlo : opv f lo = .d (.int k a)) (hhi : opv f hi = .d (.int k' b)) (hmx : opv f mx = .d (.int k'' xs.length))
    (ht : tget cx.T T = some ts) (hsl : ts.isSl = true) (hte : tget cx.T ts.elem = some te) (h0 : 0 <= a) (h1 : a <= b) (h2 : b <= xs.length) (hpos : 0 < xs.length) :
    Qt cx h ⟨dst, .slice T x (some lo) (some hi) (some mx), ty, pos, af, gd⟩ f .junk := by
  intro s₁ hs σ ac w hr K Q hK
  have e1 := rep_eval hr x
  have e2 := rep_eval hr lo
  have e3 := rep_eval hr hi
  have e4 := rep_eval hr mx
  rw [show opv s₁ x = opv f x from by cases x <;> first | rfl | exact hs _ (by simp [Op.operands]), hx] at e1
  rw [show opv s₁ lo = opv f lo from by cases lo <;> first | rfl | exact hs _ (by simp [Op.operands]), hlo] at e2
  rw [show opv s₁ hi = opv f hi from by cases hi <;> first | rfl | exact hs _ (by simp [Op.operands]), hhi] at e3
  rw [show opv s₁ mx = opv f mx from by cases mx <;> first | rfl | exact hs _ (by simp [Op.operands]), hmx] at e4
  have e2' := RepD.int_inv e2
  have e3' := RepD.int_inv e3
  have e4' := RepD.int_inv e4
  simp only [RepSV, hg] at e1
  obtain ⟨d, i, hdd, hi', -, -, -, hs', -⟩ := tr_facts (tget_ok cx.tab ht)
  obtain ⟨d', i', hdd', hi2, -, hz, -⟩ := tr_facts (tget_ok cx.tab hte)
  have := hs' hsl
  subst this
  have hE : cx.P.elem T = ts.elem := by simp [Program.elem, hdd]
  have hd2 : cx.P.underlying T = some (.slice (cx.P.elem T)) := by rw [hE]; exact hdd
  obtain ⟨_, _, _, cl, ho, _⟩ := chunk_own hr hg
  obtain ⟨hnil, cur, c1, c2, _⟩ := own_form ho hpos
  simp only [sliceAt, hnil, Bool.false_eq_true, if_false] at e1
  have run : ∃ v, (execOp ac.eval ⟨dst, .slice T x (some lo) (some hi) (some mx), ty, pos, af, gd⟩).run cx.P w = .ok (.value v) w := by
    simp only [execOp, e1, e2', e3', e4', Option.map_some, Option.map_none]
    simp only [Sem.run_bind, Sem.run_pure]
    rw [run_sliceAt_slice (h := hd2), run_slice_lhm (ht := hd2) (h0 := h0) (h1 := h1) (h2 := h2) (h3 := by omega), hE]
    simp only [sizeOf, typeInfo, Sem.run_bind, run_program, Result.andThen_ok, hi2, Sem.run_pure]
    exact ⟨_, rfl⟩
  obtain ⟨v, run⟩ := run
  unfold Oper.wp
  rw [run]
  exact hK _ _ (Below.refl _ _) trivial
theorem wv_close {T rt : Nat} {x y : Operand} {ts te : TR} {id e sz p q : Nat} {xs : List D} (hx : opv (lk s) x = .sub id (2 * p + 1)) (hy : opv (lk s) y = .sub id (2 * q)) (hg : h.get id = some (.arr e sz xs))
    (ht : tget cx.T T = some ts) (hsl : ts.isSl = true) (hel : Nat.beq ts.elem e = true) (hte : tget cx.T e = some te) (hsz : Nat.beq sz te.size = true) (hd : Nat.blt t cx.nt = true) (hpq : p <= q) (hq : q <= xs.length) (hpos : 0 < xs.length) (hall : ∀ x ∈ xs, x.el = true) :
    OpTo cx ⟨some t, .call { callee := .builtin .append, args := #[x, y], argTypes := #[T, T] }, rt, pos, af, none⟩ s h ((t, .sub id (2 * (p + (xs.length - q)) + 1)) :: s) (setH id (.arr e sz (xs.take p ++ xs.drop q ++ xs.drop (p + (xs.length - q)))) h) := by
  rintro a w ⟨σ, hr⟩ K Q hK
  have h1 := rep_eval hr x
  have h2 := rep_eval hr y
  rw [hx] at h1
  rw [hy] at h2
  simp only [RepSV, hg] at h1 h2
  have hsz' := Nat.eq_of_beq_eq_true hsz
  subst hsz'
  have hel' := Nat.eq_of_beq_eq_true hel
  subst hel'
  obtain ⟨d, i0, hdd, hi0, -, -, -, hs', -⟩ := tr_facts (tget_ok cx.tab ht)
  have := hs' hsl
  subst this
  obtain ⟨_, i, _, hi, _, hisz, _⟩ := tr_facts (tget_ok cx.tab hte)
  obtain ⟨hex, h0, hlt, cl, ho, hc⟩ := chunk_own hr hg
  obtain ⟨hnil, cur, c1, c2, c3, c4, c5⟩ := own_form ho hpos
  have h1 := h1.odd
  rw [view_to hnil] at h1
  obtain ⟨o, h2, ho2⟩ := h2.ex hnil
  have hcl : cl.length = xs.length * te.size := hc.1
  have hone := hc.one h0 hall
  have hmul : ∀ m, m <= xs.length -> m * te.size <= xs.length * te.size := fun m hm => Nat.mul_le_mul_right _ hm
  have hcapm : xs.length * te.size <= (σ id).cap * te.size := Nat.mul_le_mul_right _ c2
  have hnl : (cl.drop (q * te.size)).length = (xs.length - q) * te.size := by rw [List.length_drop, hcl, Nat.sub_mul]
  have hpm : p * te.size + (xs.length - q) * te.size = (p + (xs.length - q)) * te.size := by rw [Nat.add_mul]
  have hpm2 : (p + (xs.length - q)) * te.size <= xs.length * te.size := hmul _ (by omega)
  have hqm := hmul q hq
  have hcells : ∀ (j : Nat) u, (cl.drop (q * te.size))[j]? = some u -> w.cell? ((⟨(σ id).b, o, none⟩ : Addr).add j) = some u := fun j u hu => by
    have hj : j < (cl.drop (q * te.size)).length := by
      rcases Nat.lt_or_ge j (cl.drop (q * te.size)).length with hh | hh
      . exact hh
      . rw [List.getElem?_eq_none hh] at hu; cases hu
    rw [hnl] at hj
    have hne : ¬ (σ id).cap = q := fun e => by
      rw [show xs.length - q = 0 by omega] at hj
      omega
    rw [ho2 hne, add_block, cell_at c1]
    rw [List.getElem?_drop, <- c5, List.getElem?_take] at hu
    split at hu
    . simpa using hu
    . cases hu
  have hfit : p * i.size + (cl.drop (q * te.size)).length <= cur.size := by rw [hisz, hnl, c4]; omega
  have run := run_append_room (P := cx.P) w T rt ts.elem i hdd hi (σ id).b p (σ id).cap cur c1 ⟨(σ id).b, o, none⟩ (xs.length - q) ((σ id).cap - q) (cl.drop (q * te.size)) (by rw [hisz]; exact hnl) hcells (fun u hu => hone u (List.mem_of_mem_drop hu)) (by omega) hfit
  rw [<- h1, <- h2] at run
  simp only [hisz, hnl, hpm] at run
  let row : Array Value := (cur.toList.take (p * te.size) ++ cl.drop (q * te.size) ++ cur.toList.drop ((p + (xs.length - q)) * te.size)).toArray
  have hlen : (xs.take p ++ xs.drop q ++ xs.drop (p + (xs.length - q))).length = xs.length := by simp; omega
  have hct : cur.toList.take (p * te.size) = cl.take (p * te.size) := by
    rw [<- c5, List.take_take, Nat.min_eq_left (hmul p (by omega))]
  have hrl : row.toList.length = (σ id).cap * te.size := by
    simp only [row, List.toList_toArray, List.length_append, List.length_take, List.length_drop, hnl, hcl, Array.length_toList, c4]
    have := hmul p (by omega)
    omega
  have htk : row.toList.take (xs.length * te.size) = cl.take (p * te.size) ++ cl.drop (q * te.size) ++ cl.drop ((p + (xs.length - q)) * te.size) := by
    have e1 : (cl.take (p * te.size) ++ cl.drop (q * te.size)).length = (p + (xs.length - q)) * te.size := by
      rw [List.length_append, List.length_take, hnl, hcl, Nat.min_eq_left (hmul p (by omega)), hpm]
    simp only [row, List.toList_toArray, hct]
    rw [List.take_append, e1]
    congr 1
    . exact List.take_of_length_le (by rw [e1]; exact hpm2)
    . rw [<- c5, List.drop_take]
  have hr' := hr.set (w' := w.setRow (σ id).b row) (c' := .arr ts.elem te.size (xs.take p ++ xs.drop q ++ xs.drop (p + (xs.length - q)))) hg (by simp only [Chunk.like, hlen, true_and]) rfl rfl rfl (by simp) (fun b hb => setRow_other w _ b _ (by simpa [blk, hnil] using hb)) fun hok => by
    refine ⟨h0, row.toList.take (xs.length * te.size), ⟨by rw [List.length_take, hrl, hlen, Nat.min_eq_left hcapm], .inr ⟨(σ id).b, (σ id).cap, row, by rw [hlen]; simp [sliceAt, hnil], Nat.zero_le _, setRow_heap w _ cur _ ts.elem (0, 0) c1, by rw [hlen]; exact c2, c3, by rw [<- Array.length_toList, hrl], by rw [hlen]⟩⟩, ?_⟩
    rw [htk]
    exact (((hc.take (by omega)).append (hc.drop hq)).append (hc.drop (by omega))).mono hok
  unfold Oper.wp execOp
  simp only [resolve, invoke, builtin, Sem.run_bind, Sem.run_pure, Result.andThen_ok, List.map_toArray, List.map_cons, List.map_nil, run]
  refine hK _ _ ⟨σ, ?_⟩
  have := hr'.put (dst := some t) (v := .slice (some ⟨(σ id).b, 0, none⟩) (p + (xs.length - q)) (σ id).cap) (sv := .sub id (2 * (p + (xs.length - q)) + 1)) (fun u hu => by cases hu; exact Nat.le_of_ble_eq_true hd) (by
    have hgg : (setH id (.arr ts.elem te.size (xs.take p ++ xs.drop q ++ xs.drop (p + (xs.length - q)))) h).get id = some (.arr ts.elem te.size (xs.take p ++ xs.drop q ++ xs.drop (p + (xs.length - q)))) := get_setH hg
    simp only [RepSV, hgg]
    exact .inl (by rw [view_to hnil]))
  exact this
theorem awpL_clearF {T ty2 : Nat} {pos2 : String} {af2 : Array Edge} {x lo hi : Operand} {ts te : TR} {id e sz : Nat} {xs : List D} {k k' : IntKind} {n n' : Int} {p : Nat}
    (hn : awpL cx ops rest ((t, .junk) :: s) (setH id (.arr e sz (xs.take n.toNat ++ List.replicate (xs.length - n.toNat) (zeroEl te))) h) Q)
    (hx : opv (lk s) x = .sub id (2 * p + 1)) (hg : h.get id = some (.arr e sz xs)) (hl : opv (lk s) lo = .d (.int k n)) (hh : opv (lk s) hi = .d (.int k' n')) (ht : tget cx.T T = some ts) (hsl : ts.isSl = true) (hel : Nat.beq ts.elem e = true) (hte : tget cx.T e = some te) (hsz : Nat.beq sz te.size = true) (hd : Nat.blt t cx.nt = true)
    (hz1 : (te.agg || Nat.beq te.zero.length 1) = true) (hz2 : Nat.beq te.zero.length te.size = true) (hz3 : Nat.ble 1 te.size = true) (hze : (zeroEl te).el = true) (hpn : n = p) (hnn : n' = xs.length) (hle : n < xs.length) :
    awpL cx ops (⟨some t, .slice T x (some lo) (some hi) none, ty, pos, af, none⟩ :: ⟨none, .call { callee := .builtin .clear, args := #[.tmp t], argTypes := #[T] }, ty2, pos2, af2, none⟩ :: rest) s h Q := by
  rintro a w ⟨σ, hr⟩
  have h1 := rep_eval hr x
  rw [hx] at h1
  simp only [RepSV, hg] at h1
  have h2 := rep_eval hr lo
  rw [hl] at h2
  have h2' := RepD.int_inv h2
  have h3 := rep_eval hr hi
  rw [hh] at h3
  have h3' := RepD.int_inv h3
  have h0 : 0 <= n := by omega
  have hsz' := Nat.eq_of_beq_eq_true hsz
  subst hsz'
  have hel' := Nat.eq_of_beq_eq_true hel
  subst hel'
  obtain ⟨hex, hs0, hlt, cl, ho, hc⟩ := chunk_own hr hg
  obtain ⟨hnil, cur, q3, q4, q5, q6, q7⟩ := own_form ho (by omega)
  have h1 := h1.odd
  rw [view_to hnil] at h1
  subst hnn
  obtain ⟨d, i', hdd, hi', -, -, -, hs, -⟩ := tr_facts (tget_ok cx.tab ht)
  have := hs hsl
  subst this
  have hE : cx.P.elem T = ts.elem := by simp [Program.elem, hdd]
  have hd2 : cx.P.underlying T = some (.slice (cx.P.elem T)) := by rw [hE]; exact hdd
  obtain ⟨m, rfl⟩ : ∃ m : Nat, n = m := ⟨n.toNat, by omega⟩
  rw [Int.toNat_natCast] at hn
  obtain ⟨i, z, hii, hz, hisz, hiby, hcs, hrep⟩ := zero_cells (tget_ok cx.tab hte) hz1 hz2 hz3 (ok := okf cx σ h) (w := w) (xs.length - m)
  have htl := anc_slot hd
  have htt : t < cx.nt := Nat.le_of_ble_eq_true hd
  have hev : ∀ v : Value, (a.put (some t) v).eval (.tmp t) = v := fun v => by
    have hlt' : t < a.tmps.size := by rw [hr.size]; exact htt
    simp [Act.eval, Act.put, hlt']
  have step : ∀ (v : Value) (w' : World), (execOp a.eval ⟨some t, .slice T x (some lo) (some hi) none, ty, pos, af, none⟩).run cx.P w = .ok (.value v) w -> (Builtin.clear_ #[T] ty2 #[v]).run cx.P w = .ok (.tuple #[]) w' ->
      RW cx σ (lk s) (setH id (.arr ts.elem te.size (xs.take m ++ List.replicate (xs.length - m) (zeroEl te))) h) a w' ->
      wpList cx.P ops (lift cx Q) (⟨some t, .slice T x (some lo) (some hi) none, ty, pos, af, none⟩ :: ⟨none, .call { callee := .builtin .clear, args := #[.tmp t], argTypes := #[T] }, ty2, pos2, af2, none⟩ :: rest) a w := by
    intro v w' r1 r2 hr'
    unfold wpList
    rw [if_pos (by simp [Region.wanted])]
    refine .inl ?_
    unfold Oper.wp
    rw [r1]
    show wpList cx.P ops (lift cx Q) _ (a.put (some t) v) w
    unfold wpList
    rw [if_pos (by simp [Region.wanted])]
    refine .inl ?_
    unfold Oper.wp execOp
    simp only [resolve, invoke, builtin, Sem.run_bind, Sem.run_pure, Result.andThen_ok, List.map_toArray, List.map_cons, List.map_nil, hev, r2]
    have := hr'.put (dst := some t) (v := v) (sv := .junk) (fun u hu => by cases hu; exact htt) trivial
    exact hn _ _ ⟨σ, this⟩
  have hsl1 : (execOp a.eval ⟨some t, .slice T x (some lo) (some hi) none, ty, pos, af, none⟩).run cx.P w = .ok (.value (sliced (some ⟨(σ id).b, 0, none⟩) m xs.length (σ id).cap te.size)) w := by
    simp only [execOp, h1, h2', h3', Option.map_some, Option.map_none]
    simp only [Sem.run_bind, Sem.run_pure]
    rw [run_sliceAt_slice (h := hd2), run_slice_lh (ht := hd2) (h0 := h0) (h1 := by omega) (h2 := by omega), hE]
    simp [sizeOf, typeInfo, hii, hisz, Result.andThen]
  have hlen : (xs.take m ++ List.replicate (xs.length - m) (zeroEl te)).length = xs.length := by simp; omega
  . have hml : m < xs.length := by omega
    have ho' := ho
    obtain ⟨o1, o2⟩ := ho
    have e0 : ∀ j, sliceAt (σ id) j = .slice (some ⟨(σ id).b, 0, none⟩) j (σ id).cap := fun j => by simp [sliceAt, hnil]
    have hzi : i.zero = some z := hz
    have hcm : ¬ (σ id).cap = m := by omega
    have hmul : m * te.size + (xs.length - m) * te.size = xs.length * te.size := by rw [<- Nat.add_mul]; congr 1; omega
    have hlc : xs.length * te.size <= (σ id).cap * te.size := Nat.mul_le_mul_right _ q4
    have hzl : (madeCells z.cells ((xs.length - m) * te.size)).toList.length = (xs.length - m) * te.size := by simp [size_madeCells]
    have hzc : Builtin.zeroCells z.cells (xs.length - m) = madeCells z.cells ((xs.length - m) * te.size) := by simp [Builtin.zeroCells, madeCells, hcs]
    have hone := hrep.one hs0 (fun x hx => by rw [List.eq_of_mem_replicate hx]; exact hze)
    have hst := run_storeCells_at cx.P (σ id).b (m * te.size) ts.elem (madeCells z.cells ((xs.length - m) * te.size)).toList 0 cur w q3 (by rw [hzl, q6]; omega) hone
    simp only [Nat.add_zero, hzl] at hst
    rw [hmul] at hst
    refine step _ (w.setRow (σ id).b (cur.toList.take (m * te.size) ++ (madeCells z.cells ((xs.length - m) * te.size)).toList ++ cur.toList.drop (xs.length * te.size)).toArray) hsl1 ?_ ?_
    . unfold sliced
      rw [if_neg hcm]
      obtain ⟨q, hq⟩ : ∃ q, xs.length - m = q + 1 := ⟨xs.length - m - 1, by omega⟩
      rw [hq] at hst hzc ⊢
      simp only [Option.map_some, add_block, Nat.zero_add]
      have hzv : (zeroValue ts.elem).run cx.P w = .ok z w := by simp [zeroValue, typeInfo, hii, hz]
      simp only [Builtin.clear_, Sem.run_bind, run_underlying hdd, Result.andThen_ok, hzv, hzc, hst, Sem.run_pure]
      simp [run_underlying hdd, hzv, hzc, hst]
    . have hct : cur.toList.take (m * te.size) = cl.take (m * te.size) := by
        rw [<- q7, List.take_take, Nat.min_eq_left (by omega)]
      have hctl : (cl.take (m * te.size)).length = m * te.size := by rw [List.length_take, o1]; omega
      rw [hct]
      have hrsz : (cl.take (m * te.size) ++ (madeCells z.cells ((xs.length - m) * te.size)).toList ++ cur.toList.drop (xs.length * te.size)).length = (σ id).cap * te.size := by
        have hcl2 : cur.toList.length = (σ id).cap * te.size := by rw [<- q6]; simp
        rw [List.length_append, List.length_append, hctl, hzl, List.length_drop, hcl2]; omega
      refine hr.set (c' := .arr ts.elem te.size (xs.take m ++ List.replicate (xs.length - m) (zeroEl te))) hg (by simp only [Chunk.like, hlen, true_and]) rfl rfl rfl (by simp) (fun b hb => setRow_other w _ b _ (by simpa [blk, hnil] using hb)) fun hok => ?_
      refine ⟨hs0, cl.take (m * te.size) ++ (madeCells z.cells ((xs.length - m) * te.size)).toList, ?_, RepCells.append ((hc.take (by omega)).mono hok) (hrep.mono hok)⟩
      rw [hlen, e0]
      refine ⟨by rw [List.length_append, hctl, hzl, hmul], .inr ⟨(σ id).b, (σ id).cap, _, rfl, Nat.zero_le _, setRow_heap w _ cur _ ts.elem (0, 0) q3, q4, q5, by rw [List.size_toArray, hrsz], ?_⟩⟩
      rw [List.append_assoc, <- List.append_assoc, List.take_left' (by rw [List.length_append, hctl, hzl, hmul])]
theorem wv_cut {x : Operand} {id e sz p : Nat} {xs : List D} (hx : opv (lk s) x = .sub id (2 * p + 1)) (hg : h.get id = some (.arr e sz xs)) (hd : Nat.blt t cx.nt = true) (hid : isAnc id = false) (hp : p <= xs.length) (hpos : 0 < xs.length) :
    OpTo cx ⟨some t, .move x, ty, pos, af, none⟩ s h ((t, .own id) :: killS id s) ((id, .arr e sz (xs.take p)) :: killH id h) := by
  rintro a w ⟨σ, hr⟩ K Q hK
  have h1 := rep_eval hr x
  rw [hx] at h1
  simp only [RepSV, hg] at h1
  obtain ⟨hex, hs0, hlt, cl, ho, hc⟩ := chunk_own hr hg
  obtain ⟨hnil, cur, c1, c2, c3, c4, c5⟩ := own_form ho hpos
  have h1 := h1.odd
  rw [view_to hnil] at h1
  have hin : (σ id).nil = false -> w.heap.size <= (σ id).b \/ ∃ q ∈ h, q.1 = id /\ (σ id).b ∈ blk (σ q.1) q.2 := fun hn => by
    obtain ⟨p, hp, hp1, hp2⟩ := hex
    exact .inr ⟨p, hp, hp1, by rw [hp1, hp2]; simp [blk, hn]⟩
  have hlen : (xs.take p).length = p := by simp; omega
  have hm : p * sz <= xs.length * sz := Nat.mul_le_mul_right _ hp
  have hown : w.ownsRow 0 e sz (sliceAt (σ id) p) p (cl.take (p * sz)) := ⟨by rw [List.length_take, hc.1, Nat.min_eq_left hm], .inr ⟨(σ id).b, (σ id).cap, cur, by simp [sliceAt, hnil], Nat.zero_le _, c1, by omega, c3, c4, by rw [<- c5, List.take_take, Nat.min_eq_left hm]⟩⟩
  have run : (execOp a.eval ⟨some t, .move x, ty, pos, af, none⟩).run cx.P w = .ok (.value (sliceAt (σ id) p)) w := by
    simp only [execOp, h1, sliceAt, hnil]
    rfl
  unfold Oper.wp
  rw [run]
  have := lay_arr (w' := w) hr hd id hid (σ id) e sz (xs.take p) rfl rfl rfl (Nat.le_refl _) (fun _ _ _ => rfl) hin hs0 (cl.take (p * sz)) (by rw [hlen]; exact hown) (hc.take hp)
  rw [hlen] at this
  exact hK _ _ this
end
end Go.Proofs.YtckpadnjldebaaaGreat
namespace Go.Proofs.YtckpadnjldebaaaGreat
open Go
open Go.RowKit (Below)
set_option linter.unusedVariables false
set_option linter.unusedSimpArgs false
section
variable {cx : Cx} {ops : Array Oper} {s : Slots} {h : Heap} {Q : Exit -> Slots -> Heap -> Prop}
end
end Go.Proofs.YtckpadnjldebaaaGreat
namespace Go.Proofs.YtckpadnjldebaaaGreat
open Go
open Go.RowKit (Below)
set_option linter.unusedVariables false
set_option linter.unusedSimpArgs false
section
variable {cx : Cx} {ops : Array Oper} {s : Slots} {h : Heap} {Q : Exit -> Slots -> Heap -> Prop} {dst : Option Nat} {t ty : Nat} {pos : String} {af : Array Edge} {gd : Option (Nat × Bool)}
end
end Go.Proofs.YtckpadnjldebaaaGreat
