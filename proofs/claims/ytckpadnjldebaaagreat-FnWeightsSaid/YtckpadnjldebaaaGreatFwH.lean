/- Made slices, elements of one's own rows, appends, whole structs, literals, bytes as text, what is given away or lent. No condition. -/
import Derived.Test.YtckpadnjldebaaaGreatFwE
namespace Go.Proofs.YtckpadnjldebaaaGreat
open Go
open Go.RowKit (Below)
set_option linter.unusedVariables false
set_option linter.unusedSimpArgs false
section
variable {cx : Cx} {ops : Array Oper} {rest : List Oper} {s : Slots} {h : Heap} {Q : Exit -> Slots -> Heap -> Prop} {dst : Option Nat} {t ty : Nat} {pos : String} {af : Array Edge} {gd : Option (Nat × Bool)}
def zeroEl (te : TR) : D :=
  match te.agg with
  | true => .agg te.zero
  | false => match te.zero with
    | [z] => z
    | _ => .nils
theorem zero_cells {P : Program} {e : Nat} {te : TR} (ht : trOk P e te = true) (hz1 : (te.agg || Nat.beq te.zero.length 1) = true) (hz2 : Nat.beq te.zero.length te.size = true) (hz3 : Nat.ble 1 te.size = true) {ok : Nat -> Prop} {w : World} (n : Nat) :
    ∃ i z, P.info? e = some i /\ i.zero = some z /\ i.size = te.size /\ i.bytes = te.bytes /\ z.cells.size = te.size /\ RepCells ok w te.size (madeCells z.cells (n * te.size)).toList (List.replicate n (zeroEl te)) := by
  obtain ⟨d, i, hdd, hi, _, hisz, hiby, _, _, _, _, _, z, hz, hzz⟩ := tr_facts ht
  obtain ⟨z1, z2, z3⟩ := zeroAre_rep (ok := ok) (w := w) hzz
  have z2' := Nat.eq_of_beq_eq_true hz2
  have z3' := Nat.le_of_ble_eq_true hz3
  have hcs : z.cells.size = te.size := by rw [<- Array.length_toList, z1, z2']
  refine ⟨i, z, hi, hz, hisz, hiby, hcs, ?_, List.replicate n (if te.agg then .agg z.cells else z.cells.getD 0 undef), by simp, fun k v x hv hx => ?_, fun k v hv => ?_⟩
  . simp [madeCells]
  . rw [List.getElem?_replicate] at hv hx
    split at hv
    . rename_i hk
      rw [if_pos hk] at hx
      cases hv
      cases hx
      unfold zeroEl
      cases ha : te.agg with
      | true => exact .agg z.cells te.zero (by rw [<- Array.length_toList, z1]) z2 fun i v x hv hx => z3 i v x (by simpa using hv) hx
      | false =>
        rw [ha] at hz1
        have hl := Nat.eq_of_beq_eq_true (by simpa using hz1 : Nat.beq te.zero.length 1 = true)
        obtain ⟨q, hq⟩ := List.length_eq_one_iff.1 hl
        simp only [hq, Bool.false_eq_true, if_false]
        have h0 : 0 < z.cells.size := by omega
        exact z3 0 _ q (by simp [h0]) (by rw [hq]; rfl)
    . cases hv
  . rw [List.getElem?_replicate] at hv
    split at hv
    . rename_i hk
      cases hv
      have cell : ∀ j, j < te.size -> (madeCells z.cells (n * te.size)).toList[k * te.size + j]? = z.cells[j]? := fun j hj => by
        have hm : k * te.size + te.size <= n * te.size := by
          have := Nat.mul_le_mul_right te.size (show k + 1 <= n from hk)
          rw [Nat.add_mul] at this
          omega
        have hlt : k * te.size + j < n * te.size := by omega
        simp only [madeCells, Array.getElem?_toList, Array.getElem?_map]
        rw [Array.getElem?_range]
        simp only [hlt, if_true, Option.map_some]
        rw [hcs, show (k * te.size + j) % te.size = j by rw [Nat.add_comm, Nat.add_mul_mod_self_right]; exact Nat.mod_eq_of_lt hj]
        have hjz : j < z.cells.size := by omega
        simp [hjz]
      cases ha : te.agg with
      | true => exact ⟨hcs, fun j hj => cell j hj⟩
      | false =>
        rw [ha] at hz1
        have hl := Nat.eq_of_beq_eq_true (by simpa using hz1 : Nat.beq te.zero.length 1 = true)
        have h1 : te.size = 1 := by omega
        obtain ⟨q, hq⟩ := List.length_eq_one_iff.1 hl
        have h0 : 0 < z.cells.size := by omega
        have hr : RepD ok w z.cells[0] q := z3 0 _ q (by simp [h0]) (by rw [hq]; rfl)
        have hget : z.cells.getD 0 undef = z.cells[0] := by simp [h0]
        simp only [Bool.false_eq_true, if_false, hget]
        rw [hr.oneCell (z2 q (by rw [hq]; simp))]
        refine ⟨by simp [h1], fun j hj => ?_⟩
        have : j = 0 := by omega
        subst this
        rw [cell 0 (by omega)]
        simp [h0]
    . cases hv
theorem lay_arr {σ : Nat -> Loc} {a : Act} {w w' : World} (hr : RW cx σ (lk s) h a w) (hd : Nat.blt t cx.nt = true) (id : Nat) (hid : isAnc id = false) (l : Loc) (e sz : Nat) (xs : List D)
    (hos : w'.os = w.os) (htape : w'.tape = w.tape) (hout : w'.output = w.output) (hsize : w.heap.size <= w'.heap.size)
    (hblock : ∀ b, b < w.heap.size -> (∀ p ∈ h, p.1 = id -> b ∉ blk (σ p.1) p.2) -> w'.heap[b]? = w.heap[b]?)
    (hlb : l.nil = false -> w.heap.size <= l.b \/ ∃ q ∈ h, q.1 = id /\ l.b ∈ blk (σ q.1) q.2) (hsz : 0 < sz)
    (cl : List Value) (ho : w'.ownsRow 0 e sz (sliceAt l xs.length) xs.length cl) (hc : RepCells (okf cx σ h) w sz cl xs) :
    R cx (lk ((t, .own id) :: killS id s)) ((id, .arr e sz xs) :: killH id h) (a.put (some t) (sliceAt l xs.length)) w' := by
  obtain ⟨σ', e1, hr'⟩ := hr.lay id hid l (.arr e sz xs) hos htape hout hsize hblock (by cases hn : l.nil <;> simp [blk, hn]) (fun b hb => by
    cases hn : l.nil with
    | true => simp [blk, hn] at hb
    | false =>
      simp [blk, hn] at hb
      subst hb
      exact ⟨ownsRow_lt ho hn, hlb hn⟩) fun σ' ok' hok _ _ => ⟨hsz, cl, ho, hc.mono hok⟩
  exact put_lay hr' hd (by simp only [RepSV, Heap.get, if_true, e1])
theorem op_make {T : Nat} {x y : Operand} {ts te : TR} {k k' : IntKind} {n : Int} (ht : tget cx.T T = some ts) (hsl : ts.isSl = true) (hte : tget cx.T ts.elem = some te)
    (hx : opv (lk s) x = .d (.int k n)) (hy : opv (lk s) y = .d (.int k' n)) (hd : Nat.blt t cx.nt = true)
    (hz1 : (te.agg || Nat.beq te.zero.length 1) = true) (hz2 : Nat.beq te.zero.length te.size = true) (hz3 : Nat.ble 1 te.size = true) (h0 : 0 <= n) (hb : (te.bytes : Int) * n <= 281474976710656) (h63 : n <= 9223372036854775807) :
    OpTo cx ⟨some t, .makeSlice T x y, ty, pos, af, none⟩ s h ((t, .own t) :: killS t s) ((t, .arr ts.elem te.size (List.replicate n.toNat (zeroEl te))) :: killH t h) := by
  rintro a w ⟨σ, hr⟩ K Q hK
  have hu := rep_eval hr x
  have hv := rep_eval hr y
  rw [hx] at hu
  rw [hy] at hv
  have hu' := RepD.int_inv hu
  have hv' := RepD.int_inv hv
  obtain ⟨d, i', hdd, hi', _, _, _, hs, _⟩ := tr_facts (tget_ok cx.tab ht)
  have := hs hsl
  subst this
  obtain ⟨i, z, hi, hz, hisz, hiby, hcs, hrep⟩ := zero_cells (tget_ok cx.tab hte) hz1 hz2 hz3 (ok := okf cx σ h) (w := w) n.toNat
  have hrun := run_make (P := cx.P) w T ts.elem i z hdd hi hz k k' n n h0 (Int.le_refl _) (by rw [hiby]; exact hb) h63
  have run : (execOp a.eval ⟨some t, .makeSlice T x y, ty, pos, af, none⟩).run cx.P w = .ok (.value (.slice (some ⟨w.heap.size, 0, none⟩) n.toNat n.toNat)) (w.alloc (.cells (madeCells z.cells (n.toNat * te.size)) ts.elem)) := by
    rw [hisz] at hrun
    simp [execOp, hu', hv', hrun]
  unfold Oper.wp
  rw [run]
  have hlen : (List.replicate n.toNat (zeroEl te)).length = n.toNat := by simp
  have := lay_arr (w' := w.alloc (.cells (madeCells z.cells (n.toNat * te.size)) ts.elem)) hr hd t (anc_slot hd).1 ⟨w.heap.size, n.toNat, false, []⟩ ts.elem te.size (List.replicate n.toNat (zeroEl te)) rfl rfl rfl (by simp) (fun b hb _ => Below.heap_alloc w _ b hb) (fun _ => .inl (Nat.le_refl _)) (Nat.le_of_ble_eq_true hz3)
    (madeCells z.cells (n.toNat * te.size)).toList ⟨by simp [size_madeCells], .inr ⟨w.heap.size, n.toNat, madeCells z.cells (n.toNat * te.size), by simp [sliceAt], Nat.zero_le _, heap_alloc_new w _, by simp, by simp [maxLen]; omega, size_madeCells _ _, by
      rw [hlen, List.take_of_length_le (by simp [size_madeCells])]⟩⟩ hrep
  simp only [sliceAt, hlen] at this
  exact hK _ _ this
theorem chunk_own {σ : Nat -> Loc} {a : Act} {w : World} {f : Nat -> SV} (hr : RW cx σ f h a w) {id e sz : Nat} {xs : List D} (hg : h.get id = some (.arr e sz xs)) :
    (∃ p ∈ h, p.1 = id /\ p.2 = .arr e sz xs) /\ 0 < sz /\ ((σ id).nil = false -> (σ id).b < w.heap.size) /\ ∃ cl, w.ownsRow 0 e sz (sliceAt (σ id) xs.length) xs.length cl /\ RepCells (okf cx σ h) w sz cl xs := by
  obtain ⟨p, hp, rfl, hp2⟩ := get_mem hg
  have := hr.heap.rep p hp
  rw [hp2] at this
  obtain ⟨h0, cl, h1, h2⟩ := this
  exact ⟨⟨p, hp, rfl, hp2⟩, h0, ownsRow_lt h1, cl, h1, h2⟩
theorem qa_indexOwn {T : Nat} {x i : Operand} {ts te : TR} {f : Nat -> SV} {id e sz : Nat} {xs : List D} {k : IntKind} {n : Int} (hx : opv f x = .own id) (hi : opv f i = .d (.int k n)) (hg : h.get id = some (.arr e sz xs)) (h0 : 0 <= n) (hlt : n < xs.length)
    (ht : tget cx.T T = some ts) (hsl : ts.isSl = true) (hte : tget cx.T ts.elem = some te) (hsz : Nat.beq sz te.size = true) :
    Qt cx h ⟨dst, .indexAddr T x i, ty, pos, af, gd⟩ f (.elt id n.toNat) := by
  intro s₁ hs σ a w hr K Q hK
  have h1 := rep_eval hr x
  have h2 := rep_eval hr i
  rw [show opv s₁ x = opv f x from by cases x <;> first | rfl | exact hs _ (by simp [Op.operands]), hx] at h1
  rw [show opv s₁ i = opv f i from by cases i <;> first | rfl | exact hs _ (by simp [Op.operands]), hi] at h2
  have h2' := RepD.int_inv h2
  simp only [RepSV, hg] at h1
  obtain ⟨d, i', hdd, hi', _, _, _, hs', _⟩ := tr_facts (tget_ok cx.tab ht)
  have := hs' hsl
  subst this
  obtain ⟨_, ie, _, hie, _, hies, _⟩ := tr_facts (tget_ok cx.tab hte)
  have hsz' := Nat.eq_of_beq_eq_true hsz
  obtain ⟨_, _, _, cl, ⟨_, ho⟩, _⟩ := chunk_own hr hg
  have hnil : (σ id).nil = false := by
    cases hn : (σ id).nil with
    | false => rfl
    | true =>
      simp only [sliceAt, hn, if_true] at ho
      rcases ho with ⟨_, ho⟩ | ⟨g, cap, cur, ho, _⟩
      . omega
      . cases ho
  simp only [sliceAt, hnil, Bool.false_eq_true, if_false] at h1
  unfold Oper.wp
  have run : (execOp a.eval ⟨dst, .indexAddr T x i, ty, pos, af, gd⟩).run cx.P w = .ok (.value (.pointer (some ⟨(σ id).b, n.toNat * sz, none⟩))) w := by
    simp only [execOp, h1, h2', Instr.indexAt, asIntOf, Sem.run_bind, Sem.run_pure, Result.andThen_ok, run_underlying hdd]
    rw [if_pos ⟨h0, hlt⟩]
    simp [sizeOf, typeInfo, hie, hies, add_block, hsz']
  rw [run]
  exact hK _ _ (Below.refl _ _) (by simp only [RepSV, hg])
theorem arr_cell {σ : Nat -> Loc} {a : Act} {w : World} {f : Nat -> SV} (hr : RW cx σ f h a w) {id e sz i : Nat} {xs : List D} (hg : h.get id = some (.arr e sz xs)) {y : D} (hy : xs[i]? = some y) :
    ∃ cur cap v, w.heap[(σ id).b]? = some (.cells cur e (0, 0)) /\ (σ id).nil = false /\ xs.length <= cap /\ cap <= maxLen /\ cur.size = cap * sz /\ RepD (okf cx σ h) w v y /\ v.cells.size = sz /\ ∀ j, j < sz -> cur[i * sz + j]? = v.cells[j]? := by
  obtain ⟨_, h0, hlt, cl, ⟨_, ho⟩, r1, vs, r2, r3, r4⟩ := chunk_own hr hg
  have hi : i < xs.length := by
    rcases Nat.lt_or_ge i xs.length with hh | hh
    . exact hh
    . simp [hh] at hy
  rcases ho with ⟨_, ho⟩ | ⟨g, cap, cur, o2, o3, o4, o5, o6, o7, o8⟩
  . omega
  . have hnil : (σ id).nil = false /\ g = (σ id).b := by
      unfold sliceAt at o2
      split at o2
      . cases o2
      . rename_i hn
        cases o2
        exact ⟨by simpa using hn, rfl⟩
    obtain ⟨hnil, rfl⟩ := hnil
    have hiv : i < vs.length := by omega
    have hget : vs[i]? = some vs[i] := List.getElem?_eq_getElem hiv
    refine ⟨cur, cap, vs[i], o4, hnil, o5, o6, o7, r3 i _ y hget hy, (r4 i _ hget).1, fun j hj => ?_⟩
    rw [<- (r4 i _ hget).2 j hj, <- o8, List.getElem?_take, if_pos]
    . simp
    . have hm : i * sz + sz <= xs.length * sz := by
        have := Nat.mul_le_mul_right sz (show i + 1 <= xs.length from hi)
        rw [Nat.add_mul] at this
        omega
      omega
theorem qa_loadElt {T : Nat} {x : Operand} {tr : TR} {f : Nat -> SV} {id i e sz : Nat} {xs : List D} {y : D} (hx : opv f x = .elt id i) (hg : h.get id = some (.arr e sz xs)) (hy : xs[i]? = some y)
    (ht : tget cx.T T = some tr) (hk : (tr.agg = false /\ y.one = true) \/ (tr.agg = true /\ ∃ zs, y = .agg zs /\ zs.length = tr.size)) :
    Qt cx h ⟨dst, .load T x, ty, pos, af, gd⟩ f (.d y) := by
  intro s₁ hs σ a w hr K Q hK
  have h1 := rep_eval hr x
  rw [show opv s₁ x = opv f x from by cases x <;> first | rfl | exact hs _ (by simp [Op.operands]), hx] at h1
  simp only [RepSV, hg] at h1
  obtain ⟨cur, cap, v, c1, _, _, _, _, c6, c7, c8⟩ := arr_cell hr hg hy
  obtain ⟨z, z1, z2⟩ := load_ptr (P := cx.P) (ok := fun b => okf cx σ h b \/ b = (σ id).b) (w := w) (tget_ok cx.tab ht) (RepD.ptr (σ id).b (i * sz) v y cur e (0, 0) (.inr rfl) c1 (fun j hj => c8 j (by omega)) (c6.mono fun b hb _ => ⟨.inl hb, rfl⟩)) hk
  have hz : z = v := by
    rcases hk with ⟨ka, kb⟩ | ⟨ka, zs, rfl, kc⟩
    . obtain ⟨d, ii, hdd, hii, e1, e2, _⟩ := tr_facts (tget_ok cx.tab ht)
      have hc := c6.oneCell kb
      have h0 := c8 0 (by rw [<- c7, hc]; simp)
      rw [hc] at h0
      simp only [Nat.add_zero] at h0
      have hl : (Instr.loadAt T (.pointer (some ⟨(σ id).b, i * sz, none⟩))).run cx.P w = .ok v w := by
        simp only [Instr.loadAt, Instr.sureAddr, Sem.run_bind, Sem.run_pure, Result.andThen_ok, loadVar, run_isAgg hdd, e1, ka, Bool.false_eq_true, if_false, run_load, cell_at c1, h0]
        simp
      rw [hl] at z1
      cases z1; rfl
    . obtain ⟨cs, rfl, k1, k2, k3⟩ := RepD.agg_inv c6
      obtain ⟨d, ii, hdd, hii, e1, e2, _⟩ := tr_facts (tget_ok cx.tab ht)
      have hl' : (loadCells ⟨(σ id).b, i * sz, none⟩ cs.toList.length).run cx.P w = .ok cs.toList.toArray w :=
        run_loadCells_list (P := cx.P) w ⟨(σ id).b, i * sz, none⟩ cs.toList (fun j v hv => by
          rw [add_block, cell_at c1]
          have hj : j < cs.size := by
            rcases Nat.lt_or_ge j cs.size with h | h
            . exact h
            . simp [h] at hv
          rw [c8 j (by rw [<- c7]; exact hj)]
          show cs[j]? = some v
          simpa using hv)
      have hsz : ii.size = cs.toList.length := by rw [e2, <- kc, <- k1]; simp
      have hl : (Instr.loadAt T (.pointer (some ⟨(σ id).b, i * sz, none⟩))).run cx.P w = .ok (.agg cs) w := by
        simp only [Instr.loadAt, Instr.sureAddr, Sem.run_bind, Sem.run_pure, Result.andThen_ok, loadVar, run_isAgg hdd, e1, ka, if_true, sizeOf, typeInfo, run_program, hii, hsz, hl']
      rw [hl] at z1
      cases z1; rfl
  subst hz
  unfold Oper.wp
  rw [show (execOp a.eval ⟨dst, .load T x, ty, pos, af, gd⟩).run cx.P w = .ok (.value z) w from by simp [execOp, h1, z1]]
  exact hK _ _ (Below.refl _ _) c6
theorem op_storeElt {T : Nat} {x y : Operand} {tr : TR} {id i e sz : Nat} {xs : List D} {u : D} (hx : opv (lk s) x = .elt id i) (hg : h.get id = some (.arr e sz xs)) (hy : opv (lk s) y = .d u) (ht : tget cx.T T = some tr)
    (hel : u.el = true) (hw1 : u.width = sz) (hw2 : Nat.beq sz tr.size = true) (hi : i < xs.length) :
    OpTo cx ⟨none, .store T x y, ty, pos, af, none⟩ s h s (setH id (.arr e sz (xs.set i u)) h) := by
  rintro a w ⟨σ, hr⟩ K Q hK
  have h1 := rep_eval hr x
  rw [hx] at h1
  simp only [RepSV, hg] at h1
  have h2 : RepD (okf cx σ h) w (a.eval y) u := by
    have := rep_eval hr y
    rw [hy] at this
    exact this
  have hsz' := Nat.eq_of_beq_eq_true hw2
  obtain ⟨d, ii, hdd, hii, e1, e2, _⟩ := tr_facts (tget_ok cx.tab ht)
  obtain ⟨cur, cap, v, c1, c2, c3, c4, c5, c6, c7, c8⟩ := arr_cell hr hg (List.getElem?_eq_getElem hi)
  have hvs : (a.eval y).cells.size = sz := by rw [h2.width (D.el_or hel), hw1]
  have hone := h2.cellOne hel
  have hm : i * sz + sz <= xs.length * sz := by
    have := Nat.mul_le_mul_right sz (show i + 1 <= xs.length from hi)
    rw [Nat.add_mul] at this
    omega
  have hmc : xs.length * sz <= cap * sz := Nat.mul_le_mul_right sz c3
  have hst := run_storeCells_at cx.P (σ id).b (i * sz) e (a.eval y).cells.toList 0 cur w c1 (by simp [hvs]; omega) hone
  simp only [Nat.add_zero] at hst
  let row : Array Value := (cur.toList.take (i * sz) ++ (a.eval y).cells.toList ++ cur.toList.drop (i * sz + (a.eval y).cells.toList.length)).toArray
  have run : (execOp a.eval ⟨none, .store T x y, ty, pos, af, none⟩).run cx.P w = .ok .skip (w.setRow (σ id).b row) := by
    have hs : (storeVar T ⟨(σ id).b, i * sz, none⟩ (a.eval y)).run cx.P w = .ok () (w.setRow (σ id).b row) := by
      unfold storeVar
      have hne : ¬ ((a.eval y).cells.size ≠ ii.size) := by rw [hvs, e2, hsz']; simp
      simp only [sizeOf, typeInfo, Sem.run_bind, run_program, Result.andThen_ok, hii, Sem.run_pure]
      rw [if_neg hne]
      exact hst
    simp [execOp, Instr.storeAt, Instr.sureAddr, h1, hs]
  have rowget : ∀ m, row[m]? = if i * sz <= m /\ m < i * sz + sz then (a.eval y).cells[m - i * sz]? else cur[m]? := fun m => by
    have e0 : row[m]? = (cur.toList.take (i * sz) ++ ((a.eval y).cells.toList ++ cur.toList.drop (i * sz + sz)))[m]? := by
      simp only [row, List.append_assoc, Array.length_toList, hvs]
      rw [List.getElem?_toArray]
    rw [e0]
    have hl : (cur.toList.take (i * sz)).length = i * sz := by simp; omega
    by_cases g1 : m < i * sz
    . rw [List.getElem?_append_left (by rw [hl]; exact g1), List.getElem?_take, if_pos g1, if_neg (by omega)]
      simp
    . rw [List.getElem?_append_right (by rw [hl]; omega), hl]
      by_cases g2 : m < i * sz + sz
      . rw [List.getElem?_append_left (by simp [hvs]; omega), if_pos ⟨by omega, g2⟩]
        simp
      . rw [List.getElem?_append_right (by simp [hvs]; omega), if_neg (by omega), List.getElem?_drop]
        simp only [Array.length_toList, hvs, Array.getElem?_toList]
        congr 1
        omega
  have rowsize : row.size = cur.size := by
    simp only [row, List.size_toArray, List.length_append, List.length_take, List.length_drop, Array.length_toList, hvs]
    omega
  have hrl : row.toList.length = cap * sz := by rw [Array.length_toList, rowsize, c5]
  have hr' := hr.set (w' := w.setRow (σ id).b row) (c' := .arr e sz (xs.set i u)) hg (by simp [Chunk.like]) rfl rfl rfl (by simp) (fun b hb => setRow_other w _ b _ (by simpa [blk, c2] using hb)) fun hok => by
    obtain ⟨_, h0, hlt, cl, ⟨o0, ho⟩, r1, vs, r2, r3, r4⟩ := chunk_own hr hg
    refine ⟨h0, row.toList.take (xs.length * sz), ⟨?_, .inr ⟨(σ id).b, cap, row, ?_, Nat.zero_le _, setRow_heap w _ cur _ e (0, 0) c1, ?_, c4, by rw [rowsize, c5], by simp⟩⟩, ?_⟩
    . rw [List.length_take, hrl, List.length_set, Nat.min_eq_left hmc]
    . have hnil := c2
      unfold sliceAt
      rw [if_neg (by simp [hnil])]
      have : cap = (σ id).cap := by
        rcases ho with ⟨_, ho⟩ | ⟨g, cap', cur', p2, p3, p4, p5, p6, p7, p8⟩
        . omega
        . unfold sliceAt at p2
          rw [if_neg (by simp [hnil])] at p2
          cases p2
          rw [c1] at p4
          cases p4
          exact Nat.eq_of_mul_eq_mul_right h0 (c5.symm.trans p7)
      rw [this]
    . simpa using c3
    . refine ⟨by rw [List.length_take, hrl, List.length_set, Nat.min_eq_left hmc], vs.set i (a.eval y), by simp [r2], fun j v x hv hx => ?_, fun j v hv => ?_⟩
      . by_cases g : i = j
        . subst g
          rw [List.getElem?_set_self (by omega)] at hv hx
          cases hv
          cases hx
          exact h2.mono hok
        . rw [List.getElem?_set_ne g] at hv hx
          exact (r3 j v x hv hx).mono hok
      . have hjl : j < xs.length := by
          rcases Nat.lt_or_ge j vs.length with hh | hh
          . omega
          . simp [hh] at hv
        have hmj : j * sz + sz <= xs.length * sz := by
          have := Nat.mul_le_mul_right sz (show j + 1 <= xs.length from hjl)
          rw [Nat.add_mul] at this
          omega
        by_cases g : i = j
        . subst g
          rw [List.getElem?_set_self (by omega)] at hv
          cases hv
          refine ⟨hvs, fun q hq => ?_⟩
          rw [List.getElem?_take, if_pos (by omega), Array.getElem?_toList, rowget, if_pos ⟨by omega, by omega⟩]
          congr 1
          omega
        . rw [List.getElem?_set_ne g] at hv
          refine ⟨(r4 j v hv).1, fun q hq => ?_⟩
          have hold := (r4 j v hv).2 q hq
          have hcl : cl[j * sz + q]? = cur[j * sz + q]? := by
            rcases ho with ⟨_, ho⟩ | ⟨g', cap', cur', p2, p3, p4, p5, p6, p7, p8⟩
            . omega
            . unfold sliceAt at p2
              rw [if_neg (by simp [c2])] at p2
              cases p2
              rw [c1] at p4
              cases p4
              rw [<- p8, List.getElem?_take, if_pos (by omega)]
              simp
          rw [List.getElem?_take, if_pos (by omega), Array.getElem?_toList, rowget, if_neg, <- hcl, hold]
          rintro ⟨g1, g2⟩
          rcases Nat.lt_or_gt_of_ne g with g3 | g3
          . have := Nat.mul_le_mul_right sz (show i + 1 <= j from g3)
            rw [Nat.add_mul] at this
            omega
          . have := Nat.mul_le_mul_right sz (show j + 1 <= i from g3)
            rw [Nat.add_mul] at this
            omega
  unfold Oper.wp
  rw [run]
  exact hK _ _ ⟨σ, hr'⟩
def srcOf (h : Heap) (id : Nat) : SV -> Option (List D)
  | .d (.lst ys) => some ys
  | .d .nils => some []
  | .own j => match Nat.beq j id with
    | true => none
    | false => match h.get j with
      | some (.arr _ _ ys) => some ys
      | _ => none
  | _ => none
theorem srcOf_rep {σ : Nat -> Loc} {a : Act} {w : World} {f : Nat -> SV} (hr : RW cx σ f h a w) {id : Nat} {v : Value} {sv : SV} (hv : RepSV σ h (okf cx σ h) w v sv) {ys : List D} (hs : srcOf h id sv = some ys) {size : Nat} (hy : ∀ y ∈ ys, y.el = true /\ y.width = size) :
    (v = .slice none 0 0 /\ ys = []) \/ ∃ a c cl, v = .slice (some a) ys.length c /\ RepCells (okf cx σ h) w size cl ys /\ (∀ (j : Nat) u, cl[j]? = some u -> w.cell? (a.add j) = some u) /\ ∀ u ∈ cl, u.oneCell' = true := by
  unfold srcOf at hs
  split at hs
  . simp only [Option.some.injEq] at hs; subst hs; exact src_cells hv hy
  . simp only [Option.some.injEq] at hs; subst hs; exact .inl ⟨RepD.nils_inv hv, rfl⟩
  . rename_i j
    split at hs
    . cases hs
    . split at hs
      . rename_i e sz ys' hg
        simp only [Option.some.injEq] at hs
        subst hs
        simp only [RepSV, hg] at hv
        subst hv
        obtain ⟨p, hp, rfl, hp2⟩ := get_mem hg
        have hc := hr.heap.rep p hp
        rw [hp2] at hc
        have hrep : RepD (fun b => okf cx σ h b \/ b = (σ p.1).b) w (sliceAt (σ p.1) ys'.length) (.lst ys') := own_rep hc (fun b hb => .inl hb) (fun _ => .inr rfl)
        rcases src_cells hrep hy with h1 | ⟨ad, c, cl, q1, q2, q3, q4⟩
        . exact .inl h1
        . refine .inr ⟨ad, c, cl, q1, ⟨q2.1, ?_⟩, q3, q4⟩
          obtain ⟨_, cl', ho, r1, vs, r2, r3, r4⟩ := hc
          have q2' := q2
          obtain ⟨_, us, u2, u3, u4⟩ := q2'
          refine ⟨us, u2, fun i v x hv hx => ?_, u4⟩
          have hil : i < ys'.length := by
            rcases Nat.lt_or_ge i ys'.length with hh | hh
            . exact hh
            . simp [hh] at hx
          obtain ⟨cur, cap, v', c1, c2, c3, c4, c5, c6, c7, c8⟩ := arr_cell hr hg hx
          obtain ⟨e1, e2⟩ := hy x (List.mem_of_getElem? hx)
          have hvv : v' = v := by
            have hsz : sz = size := by rw [<- c7, c6.width (D.el_or e1), e2]
            subst hsz
            have hcell : ∀ j, j < sz -> v'.cells[j]? = v.cells[j]? := fun j hj => by
              rw [<- (u4 i v hv).2 j hj, <- c8 j hj]
              have hm : i * sz + sz <= ys'.length * sz := by
                have := Nat.mul_le_mul_right sz (show i + 1 <= ys'.length from hil)
                rw [Nat.add_mul] at this
                omega
              have hlc : i * sz + j < cl.length := by rw [q2.1]; omega
              have := q3 (i * sz + j) _ (List.getElem?_eq_getElem hlc)
              unfold sliceAt at q1
              rw [if_neg (by simp [c2])] at q1
              cases q1
              rw [add_block, cell_at c1, Nat.zero_add] at this
              rw [this, List.getElem?_eq_getElem hlc]
            have hceq : v'.cells = v.cells := Array.ext' (List.ext_getElem? fun j => by
              by_cases hj : j < sz
              . simpa using hcell j hj
              . have e1 : v'.cells[j]? = none := by simp [c7]; omega
                have e2 : v.cells[j]? = none := by simp [(u4 i v hv).1]; omega
                simp only [Array.getElem?_toList, e1, e2])
            rcases D.el_or e1 with ho1 | ⟨zs, rfl⟩
            . have k1 := c6.oneCell ho1
              have k2 := (u3 i v x hv hx).oneCell ho1
              rw [k1, k2] at hceq
              simpa using hceq
            . obtain ⟨cs1, rfl, _⟩ := RepD.agg_inv c6
              obtain ⟨cs2, rfl, _⟩ := RepD.agg_inv (u3 i v _ hv hx)
              simp only [Value.cells] at hceq
              rw [hceq]
          rw [<- hvv]
          exact c6
      . cases hs
  . cases hs
theorem run_append_none {P : Program} {w : World} {T e : Nat} {i : TypeInfo} (ht : P.underlying T = some (.slice e)) (hi : P.info? e = some i) (b : Option Addr) (n c : Nat) (hn : n <= c) (rt : Nat) :
    (Builtin.append_ #[T, T] rt #[.slice b n c, .slice none 0 0]).run P w = .ok (.slice b n c) w := by
  cases b <;> simp [Builtin.append_, run_underlying ht, sizeOf, typeInfo, hi, Builtin.lenOf, Builtin.firstCells, loadCells, loadCellsFrom, storeCells, hn]
theorem op_appendG {T rt : Nat} {x y : Operand} {ts te : TR} {id e sz : Nat} {xs ys : List D} (hx : opv (lk s) x = .own id) (hg : h.get id = some (.arr e sz xs)) 
    (hsrc : ∀ σ a w, RW cx σ (lk s) h a w -> (a.eval y = .slice none 0 0 /\ ys = []) \/ ∃ ad c cl, a.eval y = .slice (some ad) ys.length c /\ RepCells (okf cx σ h) w te.size cl ys /\ (∀ (j : Nat) u, cl[j]? = some u -> w.cell? (ad.add j) = some u) /\ ∀ u ∈ cl, u.oneCell' = true)
    (ht : tget cx.T T = some ts) (hsl : ts.isSl = true) (hel : Nat.beq ts.elem e = true) (hte : tget cx.T e = some te) (hd : Nat.blt t cx.nt = true) (hid : isAnc id = false)
    (hsz : Nat.beq sz te.size = true) (hz1 : (te.agg || Nat.beq te.zero.length 1) = true) (hz2 : Nat.beq te.zero.length te.size = true) (hz3 : Nat.ble 1 te.size = true)
    (hb : (xs.length + ys.length) * te.bytes <= 140737488355328) (h63 : xs.length + ys.length <= 9223372036854775807) :
    OpTo cx ⟨some t, .call { callee := .builtin .append, args := #[x, y], argTypes := #[T, T] }, rt, pos, af, none⟩ s h ((t, .own id) :: killS id s) ((id, .arr e sz (xs ++ ys)) :: killH id h) := by
  rintro a w ⟨σ, hr⟩ K Q hK
  have h1 := rep_eval hr x
  rw [hx] at h1
  simp only [RepSV, hg] at h1
  have h2 := hsrc σ a w hr
  have hsz' := Nat.eq_of_beq_eq_true hsz
  subst hsz'
  have hel' := Nat.eq_of_beq_eq_true hel
  subst hel'
  obtain ⟨hex, h0, hlt, cl, ho, hc⟩ := chunk_own hr hg
  obtain ⟨d, i', hdd, hi', _, _, _, hs', _⟩ := tr_facts (tget_ok cx.tab ht)
  have := hs' hsl
  subst this
  obtain ⟨i, z, hi, hz, hisz, hiby, hcs, _⟩ := zero_cells (tget_ok cx.tab hte) hz1 hz2 hz3 (ok := okf cx σ h) (w := w) 0
  have hin : (σ id).nil = false -> ∃ q ∈ h, q.1 = id /\ (σ id).b ∈ blk (σ q.1) q.2 := fun hn => by
    obtain ⟨p, hp, hp1, hp2⟩ := hex
    exact ⟨p, hp, hp1, by rw [hp1, hp2]; simp [blk, hn]⟩
  have fin : ∀ v' w', (Builtin.append_ #[T, T] rt #[a.eval x, a.eval y]).run cx.P w = .ok v' w' -> (∃ l, v' = sliceAt l (xs ++ ys).length /\ (l.nil = false -> w.heap.size <= l.b \/ ∃ q ∈ h, q.1 = id /\ l.b ∈ blk (σ q.1) q.2) /\ ∃ cl', w'.ownsRow 0 ts.elem te.size v' (xs ++ ys).length cl' /\ RepCells (okf cx σ h) w te.size cl' (xs ++ ys)) ->
      w'.os = w.os -> w'.tape = w.tape -> w'.output = w.output -> w.heap.size <= w'.heap.size -> (∀ b, b < w.heap.size -> b ∉ blk (σ id) (.arr ts.elem te.size xs) -> w'.heap[b]? = w.heap[b]?) ->
      Oper.wp cx.P ⟨some t, .call { callee := .builtin .append, args := #[x, y], argTypes := #[T, T] }, rt, pos, af, none⟩ a w K Q := by
    rintro v' w' hrun ⟨l, rfl, hl1, cl', ho', hc'⟩ e1 e2 e3 e4 e5
    unfold Oper.wp execOp
    simp only [resolve, invoke, builtin, Sem.run_bind, Sem.run_pure, Result.andThen_ok, List.map_toArray, List.map_cons, List.map_nil, hrun]
    exact hK _ _ (lay_arr hr hd id hid l ts.elem te.size (xs ++ ys) e1 e2 e3 e4 (fun b hb hne => e5 b hb (by
      obtain ⟨p, hp, hp1, hp2⟩ := hex
      have := hne p hp hp1
      rwa [hp1, hp2] at this)) hl1 h0 cl' ho' hc')
  rcases h2 with ⟨hyv, rfl⟩ | ⟨ad, c, news, hyv, hnc, hcells, hone⟩
  . have hsl' : ∃ b n' c', sliceAt (σ id) xs.length = .slice b n' c' /\ n' <= c' := by
      obtain ⟨_, ho2⟩ := ho
      rcases ho2 with ⟨q, _⟩ | ⟨g, cap, cur, q, _, _, q5, _⟩
      . exact ⟨none, 0, 0, q, Nat.le_refl _⟩
      . exact ⟨_, _, _, q, q5⟩
    obtain ⟨b, n', c', q1, q2⟩ := hsl'
    refine fin (sliceAt (σ id) xs.length) w ?_ ⟨σ id, by simp, fun hn => .inr (hin hn), cl, by simpa using ho, by simpa using hc⟩ rfl rfl rfl (Nat.le_refl _) (fun _ _ _ => rfl)
    rw [h1, hyv, q1]
    exact run_append_none hdd hi b n' c' q2 rt
  . obtain ⟨v', w', r1, r2, r3, r4⟩ := run_append_own (P := cx.P) w 0 T rt ts.elem i z te.size te.bytes hdd hi hz hisz hiby hcs h0 (sliceAt (σ id) xs.length) xs.length cl ho ad ys.length c news hnc.1 hcells hone (by simp only [maxLen]; omega) hb (Nat.zero_le _)
    have hlen : (xs ++ ys).length = xs.length + ys.length := by simp
    have hown : ∀ b, b ∉ blk (σ id) (.arr ts.elem te.size xs) -> some b ≠ (sliceAt (σ id) xs.length).ownBlock := fun b hb e => by
      unfold sliceAt at e
      split at e
      . cases e
      . rename_i hn
        cases e
        exact hb (by simp [blk, hn])
    have hloc : ∃ l, v' = sliceAt l (xs ++ ys).length /\ (l.nil = false -> w.heap.size <= l.b \/ ∃ q ∈ h, q.1 = id /\ l.b ∈ blk (σ q.1) q.2) := by
      rcases r2.2 with ⟨q1, q2⟩ | ⟨g, cap, cur, q1, _, q3, _⟩
      . exact ⟨⟨0, 0, true, []⟩, by simp [sliceAt, q1], fun h => by cases h⟩
      . by_cases hg1 : w.heap.size <= g
        . exact ⟨⟨g, cap, false, []⟩, by simp [sliceAt, q1], fun _ => .inl hg1⟩
        . have hroom : ∀ a', sliceAt (σ id) xs.length = .slice (some a') xs.length (σ id).cap -> xs.length + ys.length <= (σ id).cap -> v' = .slice (some a') (xs.length + ys.length) (σ id).cap := fun a' e1 e2 => by
            obtain ⟨_, ho2⟩ := ho
            rcases ho2 with ⟨p1, _⟩ | ⟨g0, cap0, cur0, p1, _, p3, p4, p5, p6, p7⟩
            . rw [p1] at e1; cases e1
            . rw [p1] at e1
              cases e1
              have hfit : xs.length * i.size + news.length <= cur0.size := by
                rw [hnc.1, hisz, p6, <- Nat.add_mul]; exact Nat.mul_le_mul_right _ e2
              have hr := run_append_room (P := cx.P) w T rt ts.elem i hdd hi g0 xs.length (σ id).cap cur0 p3 ad ys.length c news (by rw [hisz]; exact hnc.1) hcells hone e2 hfit
              rw [p1] at r1
              rw [hr] at r1
              cases r1
              rfl
          cases hnil : (σ id).nil with
          | true =>
            have e0 : sliceAt (σ id) xs.length = .slice none 0 0 := by simp [sliceAt, hnil]
            have hx0 : xs = [] := by
              rcases ho.2 with ⟨_, p2⟩ | ⟨_, _, _, p1, _⟩
              . exact List.eq_nil_of_length_eq_zero p2
              . rw [e0] at p1; cases p1
            subst hx0
            by_cases hy0 : ys.length = 0
            . have := r4.2 ⟨e0, hy0⟩
              rw [q1] at this
              cases this
            . have hr := run_append_nil (P := cx.P) w T rt ts.elem i z hdd hi hz ad ys.length c news (by rw [hisz]; exact hnc.1) hcells (by omega) (by simp at h63; omega) (by rw [hiby]; simp at hb; omega)
              rw [e0, hr] at r1
              have e1 := (Result.ok.inj r1).1
              rw [q1] at e1
              simp at e1
              all_goals omega
          | false =>
            have e0 : sliceAt (σ id) xs.length = .slice (some ⟨(σ id).b, 0, none⟩) xs.length (σ id).cap := by simp [sliceAt, hnil]
            by_cases hrm : xs.length + ys.length <= (σ id).cap
            . exact ⟨⟨(σ id).b, (σ id).cap, false, []⟩, by rw [hroom _ e0 hrm]; simp [sliceAt], fun _ => .inr (hin hnil)⟩
            . have hr := run_append_grow (P := cx.P) w T rt ts.elem i z hdd hi hz ⟨(σ id).b, 0, none⟩ xs.length (σ id).cap cl (by rw [hisz]; exact ho.1) (ho.cells (g := (σ id).b) (by rw [e0]; rfl)) ad ys.length c news (by rw [hisz]; exact hnc.1) hcells (by omega) (by omega) (growslice_fits (by omega) (by rw [hiby]; exact hb))
              rw [e0, hr] at r1
              have e1 := (Result.ok.inj r1).1
              rw [q1] at e1
              simp at e1
              all_goals omega
    refine fin v' w' (by rw [h1, hyv]; exact r1) ?_ r3.os r3.tape r3.output r3.size (fun b hb hne => r3.block b hb (hown b hne))
    obtain ⟨l, l1, l2⟩ := hloc
    exact ⟨l, l1, l2, cl ++ news, by rw [hlen]; exact r2, hc.append hnc⟩
theorem op_append {T rt : Nat} {x y : Operand} {ts te : TR} {id e sz : Nat} {xs ys : List D} (hx : opv (lk s) x = .own id) (hg : h.get id = some (.arr e sz xs)) (hy : srcOf h id (opv (lk s) y) = some ys)
    (ht : tget cx.T T = some ts) (hsl : ts.isSl = true) (hel : Nat.beq ts.elem e = true) (hte : tget cx.T e = some te) (hd : Nat.blt t cx.nt = true) (hid : isAnc id = false)
    (hsz : Nat.beq sz te.size = true) (hz1 : (te.agg || Nat.beq te.zero.length 1) = true) (hz2 : Nat.beq te.zero.length te.size = true) (hz3 : Nat.ble 1 te.size = true)
    (hw : ∀ y ∈ ys, y.el = true /\ y.width = te.size) (hb : (xs.length + ys.length) * te.bytes <= 140737488355328) (h63 : xs.length + ys.length <= 9223372036854775807) :
    OpTo cx ⟨some t, .call { callee := .builtin .append, args := #[x, y], argTypes := #[T, T] }, rt, pos, af, none⟩ s h ((t, .own id) :: killS id s) ((id, .arr e sz (xs ++ ys)) :: killH id h) :=
  op_appendG hx hg (fun σ a w hr => srcOf_rep hr (rep_eval hr y) hy hw) ht hsl hel hte hd hid hsz hz1 hz2 hz3 hb h63
end
end Go.Proofs.YtckpadnjldebaaaGreat
namespace Go.Proofs.YtckpadnjldebaaaGreat
open Go
open Go.RowKit (Below)
set_option linter.unusedVariables false
set_option linter.unusedSimpArgs false
section
variable {cx : Cx} {ops : Array Oper} {rest : List Oper} {s : Slots} {h : Heap} {Q : Exit -> Slots -> Heap -> Prop} {dst : Option Nat} {t ty : Nat} {pos : String} {af : Array Edge} {gd : Option (Nat × Bool)}
def takeD : List SV -> Nat -> Option (List D)
  | _, 0 => some []
  | .d x :: l, n + 1 => match takeD l n with
    | some xs => some (x :: xs)
    | none => none
  | _, _ + 1 => none
theorem takeD_get : ∀ {l : List SV} {n : Nat} {xs : List D}, takeD l n = some xs -> xs.length = n /\ ∀ (i : Nat) x, xs[i]? = some x -> l[i]? = some (.d x)
  | _, 0, xs, hh => by simp only [takeD, Option.some.injEq] at hh; subst hh; exact ⟨rfl, by simp⟩
  | [], n + 1, xs, hh => by simp [takeD] at hh
  | v :: l, n + 1, xs, hh => by
    cases v with
    | d y =>
      simp only [takeD] at hh
      cases ht : takeD l n with
      | none => rw [ht] at hh; cases hh
      | some ys =>
        rw [ht] at hh
        simp only [Option.some.injEq] at hh
        subst hh
        obtain ⟨h1, h2⟩ := takeD_get ht
        refine ⟨by simp [h1], fun i x hx => ?_⟩
        cases i with
        | zero => simp at hx; subst hx; rfl
        | succ i => simpa using h2 i x (by simpa using hx)
    | _ => simp [takeD] at hh
theorem load_box {P : Program} {σ : Nat -> Loc} {ok : Nat -> Prop} {w : World} {T : Nat} {tr : TR} (ht : trOk P T tr = true) (ha : tr.agg = true) {l : Loc} {cells : List SV} {off : Nat} {xs : List D}
    (hc : RepChunk σ h ok w l (.box cells)) (hx : takeD (cells.drop off) tr.size = some xs) :
    ∃ cs, (loadVar T ⟨l.b, off, none⟩).run P w = .ok (.agg cs) w /\ RepD ok w (.agg cs) (.agg xs) := by
  obtain ⟨_, cs, t', c1, c2, c3⟩ := hc
  obtain ⟨hl, hget⟩ := takeD_get hx
  obtain ⟨d, i, hdd, hi, e1, e2, _⟩ := tr_facts ht
  have each : ∀ (j : Nat) x, xs[j]? = some x -> ∃ v, cs[off + j]? = some v /\ RepD ok w v x /\ v.oneCell' = true := fun j x hj => by
    have := hget j x hj
    rw [List.getElem?_drop] at this
    have hlt : off + j < cs.size := by
      rw [c2]
      rcases Nat.lt_or_ge (off + j) cells.length with hh | hh
      . exact hh
      . simp [hh] at this
    exact ⟨cs[off + j], Array.getElem?_eq_getElem hlt, (c3 _ _ _ (Array.getElem?_eq_getElem hlt) this).1, (c3 _ _ _ (Array.getElem?_eq_getElem hlt) this).2⟩
  let vs : List Value := (List.range tr.size).map fun j => cs.getD (off + j) undef
  have hvs : vs.length = tr.size := by simp [vs]
  have vget : ∀ (j : Nat) v, vs[j]? = some v -> cs[off + j]? = some v := fun j v hj => by
    simp only [vs, List.getElem?_map, Option.map_eq_some_iff] at hj
    obtain ⟨j', hj', rfl⟩ := hj
    have hjl : j < tr.size := by
      rcases Nat.lt_or_ge j tr.size with hh | hh
      . exact hh
      . simp [hh] at hj'
    rw [List.getElem?_range hjl] at hj'
    cases hj'
    obtain ⟨v, h1, _⟩ := each j xs[j] (List.getElem?_eq_getElem (by omega))
    simp [h1]
  have hload : (loadCells ⟨l.b, off, none⟩ vs.length).run P w = .ok vs.toArray w :=
    run_loadCells_list (P := P) w ⟨l.b, off, none⟩ vs (fun j v hv => by rw [add_block, cell_at c1]; exact vget j v hv)
  refine ⟨vs.toArray, ?_, .agg _ _ (by simp [hvs, hl]) (fun x hx => ?_) fun j v x hv hx => ?_⟩
  . simp only [loadVar, Sem.run_bind, run_isAgg hdd, e1, ha, Result.andThen_ok, if_true, sizeOf, typeInfo, run_program, hi, Sem.run_pure, e2]
    rw [<- hvs, hload]
    simp
  . obtain ⟨j, hj⟩ := List.getElem?_of_mem hx
    obtain ⟨v, h1, h2, h3⟩ := each j x hj
    cases x <;> first | rfl | (cases h2 <;> simp [Value.oneCell'] at h3)
  . obtain ⟨v', h1, h2, _⟩ := each j x hx
    have := vget j v (by simpa using hv)
    rw [h1] at this
    cases this
    exact h2
theorem qa_loadBox {T : Nat} {x : Operand} {tr : TR} {f : Nat -> SV} {id off : Nat} {cells : List SV} {xs : List D} (hx : opv f x = .ref id off) (hg : h.get id = some (.box cells)) (ht : tget cx.T T = some tr) (ha : tr.agg = true)
    (hxs : takeD (cells.drop off) tr.size = some xs) : Qt cx h ⟨dst, .load T x, ty, pos, af, gd⟩ f (.d (.agg xs)) := by
  intro s₁ hs σ a w hr K Q hK
  have h1 := rep_eval hr x
  rw [show opv s₁ x = opv f x from by cases x <;> first | rfl | exact hs _ (by simp [Op.operands]), hx] at h1
  have h1' : a.eval x = .pointer (some ⟨(σ id).b, off, none⟩) := h1
  obtain ⟨p, hp, rfl, hp2⟩ := get_mem hg
  have hc := hr.heap.rep p hp
  rw [hp2] at hc
  obtain ⟨cs, z1, z2⟩ := load_box (P := cx.P) (tget_ok cx.tab ht) ha hc hxs
  unfold Oper.wp
  rw [show (execOp a.eval ⟨dst, .load T x, ty, pos, af, gd⟩).run cx.P w = .ok (.value (.agg cs)) w from by simp [execOp, h1', Instr.loadAt, Instr.sureAddr, z1]]
  exact hK _ _ (Below.refl _ _) z2
def putD : List SV -> Nat -> List D -> List SV
  | l, _, [] => l
  | l, off, x :: xs => putD (l.set off (.d x)) (off + 1) xs
theorem putD_length : ∀ (xs : List D) (l : List SV) (off : Nat), (putD l off xs).length = l.length
  | [], _, _ => rfl
  | x :: xs, l, off => by simp [putD, putD_length xs]
theorem putD_get : ∀ (xs : List D) (l : List SV) (off j : Nat), off + xs.length <= l.length -> (putD l off xs)[j]? = if off <= j /\ j < off + xs.length then (xs[j - off]?).map .d else l[j]?
  | [], l, off, j, _ => by simp [putD]; omega
  | x :: xs, l, off, j, hl => by
    simp only [List.length_cons] at hl
    rw [putD, putD_get xs _ (off + 1) j (by simp; omega)]
    by_cases h1 : j = off
    . subst h1
      rw [if_neg (by omega), if_pos (by simp), List.getElem?_set_self (by omega)]
      simp
    . by_cases h2 : off + 1 <= j /\ j < off + 1 + xs.length
      . rw [if_pos h2, if_pos (by simp; omega)]
        rw [show j - off = (j - (off + 1)) + 1 by omega]
        simp
      . rw [if_neg h2, if_neg (by simp; omega), List.getElem?_set_ne (by omega)]
theorem op_storeAgg {T : Nat} {tr : TR} {x y : Operand} {id off : Nat} {cells : List SV} {ys : List D} (ht : tget cx.T T = some tr) (hx : opv (lk s) x = .ref id off) (hg : h.get id = some (.box cells)) (hy : opv (lk s) y = .d (.agg ys))
    (hsz : Nat.beq ys.length tr.size = true) (hoff : Nat.ble (off + ys.length) cells.length = true) :
    OpTo cx ⟨none, .store T x y, ty, pos, af, none⟩ s h s (setH id (.box (putD cells off ys)) h) := by
  rintro a w ⟨σ, hr⟩ K Q hK
  have hu' : a.eval x = .pointer (some ⟨(σ id).b, off, none⟩) := by
    have hu := rep_eval hr x
    rw [hx] at hu
    exact hu
  have hv' : RepD (okf cx σ h) w (a.eval y) (.agg ys) := by
    have hv := rep_eval hr y
    rw [hy] at hv
    exact hv
  obtain ⟨us, eu, u1, u2, u3⟩ := RepD.agg_inv hv'
  obtain ⟨d, i, hdd, hi, _, hisz, _⟩ := tr_facts (tget_ok cx.tab ht)
  have hsz' := Nat.eq_of_beq_eq_true hsz
  have hoff' := Nat.le_of_ble_eq_true hoff
  obtain ⟨p0, hp0, rfl, hp2⟩ := get_mem hg
  have hc := hr.heap.rep p0 hp0
  rw [hp2] at hc
  obtain ⟨c0, cs, T', c1, c2, c3⟩ := hc
  have hone : ∀ u ∈ us.toList, u.oneCell' = true := by
    have := hv'.cellOne rfl
    rw [eu] at this
    exact this
  have hst := run_storeCells_at cx.P (σ p0.1).b off T' us.toList 0 cs w c1 (by simp [u1]; omega) hone
  simp only [Nat.add_zero] at hst
  let row : Array Value := (cs.toList.take off ++ us.toList ++ cs.toList.drop (off + us.toList.length)).toArray
  have run : (execOp a.eval ⟨none, .store T x y, ty, pos, af, none⟩).run cx.P w = .ok .skip (w.setRow (σ p0.1).b row) := by
    have hs : (storeVar T ⟨(σ p0.1).b, off, none⟩ (a.eval y)).run cx.P w = .ok () (w.setRow (σ p0.1).b row) := by
      unfold storeVar
      have hne : ¬ ((a.eval y).cells.size ≠ i.size) := by rw [eu, hisz, <- hsz', <- u1]; simp [Value.cells]
      simp only [sizeOf, typeInfo, Sem.run_bind, run_program, Result.andThen_ok, hi, Sem.run_pure]
      rw [if_neg hne, eu]
      exact hst
    simp [execOp, Instr.storeAt, Instr.sureAddr, hu', hs]
  have rowget : ∀ m, row[m]? = if off <= m /\ m < off + ys.length then us[m - off]? else cs[m]? := fun m => by
    have e0 : row[m]? = (cs.toList.take off ++ (us.toList ++ cs.toList.drop (off + ys.length)))[m]? := by
      simp only [row, List.append_assoc, Array.length_toList, u1]
      rw [List.getElem?_toArray]
    rw [e0]
    have hl : (cs.toList.take off).length = off := by simp; omega
    by_cases g1 : m < off
    . rw [List.getElem?_append_left (by rw [hl]; exact g1), List.getElem?_take, if_pos g1, if_neg (by omega)]
      simp
    . rw [List.getElem?_append_right (by rw [hl]; omega), hl]
      by_cases g2 : m < off + ys.length
      . rw [List.getElem?_append_left (by simp [u1]; omega), if_pos ⟨by omega, g2⟩]
        simp
      . rw [List.getElem?_append_right (by simp [u1]; omega), if_neg (by omega), List.getElem?_drop]
        simp only [Array.length_toList, u1, Array.getElem?_toList]
        congr 1
        omega
  have rowsize : row.size = cs.size := by
    simp only [row, List.size_toArray, List.length_append, List.length_take, List.length_drop, Array.length_toList, u1]
    omega
  have hlike : (Chunk.box cells).like (.box (putD cells off ys)) := (putD_length ys cells off).symm
  have hr' := hr.set (w' := w.setRow (σ p0.1).b row) (c' := .box (putD cells off ys)) hg hlike rfl rfl rfl (by simp) (fun b hb => setRow_other w _ b _ (by simpa [blk] using hb)) fun hok => by
    refine ⟨c0, row, T', setRow_heap w _ cs _ T' (0, 0) c1, by rw [rowsize, c2, putD_length], fun j v u hv hu => ?_⟩
    rw [rowget] at hv
    rw [putD_get ys cells off j hoff'] at hu
    split at hv
    . rename_i hj
      rw [if_pos hj] at hu
      simp only [Option.map_eq_some_iff] at hu
      obtain ⟨z, hz, rfl⟩ := hu
      have hrz := u3 _ v z hv hz
      exact ⟨hrz.mono hok, hrz.oneCell' (u2 z (List.mem_of_getElem? hz))⟩
    . rename_i hj
      rw [if_neg hj] at hu
      exact ⟨(c3 j v u hv hu).1.set hg hlike hok, (c3 j v u hv hu).2⟩
  unfold Oper.wp
  rw [run]
  exact hK _ _ ⟨σ, hr'⟩
theorem fold_set : ∀ (vs : List Value) (k off : Nat) (cells : Array Value), ((vs.zipIdx k).foldl (fun cs (p : Value × Nat) => cs.setIfInBounds (off + p.2) p.1) cells).size = cells.size /\
    ∀ m : Nat, ((vs.zipIdx k).foldl (fun cs (p : Value × Nat) => cs.setIfInBounds (off + p.2) p.1) cells)[m]? = if off + k <= m /\ m < off + k + vs.length /\ m < cells.size then vs[m - (off + k)]? else cells[m]?
  | [], k, off, cells => ⟨rfl, fun m => by simp; omega⟩
  | v :: vs, k, off, cells => by
    obtain ⟨h1, h2⟩ := fold_set vs (k + 1) off (cells.setIfInBounds (off + k) v)
    simp only [List.zipIdx_cons, List.foldl_cons]
    refine ⟨by rw [h1]; simp, fun m => ?_⟩
    rw [h2 m]
    simp only [Array.size_setIfInBounds, List.length_cons]
    by_cases g1 : m = off + k
    . subst g1
      rw [if_neg (by omega)]
      by_cases g2 : off + k < cells.size
      . rw [if_pos ⟨by omega, by omega, g2⟩]; simp [g2]
      . rw [if_neg (by omega), Array.getElem?_eq_none (by simp; omega), Array.getElem?_eq_none (by omega)]
    . by_cases g2 : off + (k + 1) <= m /\ m < off + (k + 1) + vs.length /\ m < cells.size
      . rw [if_pos g2, if_pos (by omega), show m - (off + k) = (m - (off + (k + 1))) + 1 by omega]
        simp
      . rw [if_neg g2, if_neg (by omega), Array.getElem?_setIfInBounds_ne (by omega)]
theorem fill_rows {size n : Nat} : ∀ (parts : List (Nat × Value)) (cells : Array Value), cells.size = n * size -> (∀ p ∈ parts, p.1 < n /\ p.2.cells.size = size) -> (parts.map (·.1)).Nodup ->
    ∃ out, Instr.fill (fun i => some (i * size, size)) cells parts = some out /\ out.size = n * size /\ (∀ p ∈ parts, ∀ j, j < size -> out[p.1 * size + j]? = p.2.cells[j]?) /\
      ∀ m, (∀ p ∈ parts, ¬ (p.1 * size <= m /\ m < p.1 * size + size)) -> out[m]? = cells[m]?
  | [], cells, hs, _, _ => ⟨cells, rfl, hs, by simp, fun _ _ => rfl⟩
  | (i, v) :: parts, cells, hs, hp, hn => by
    have hi := hp (i, v) (List.mem_cons_self ..)
    simp only at hi
    have hm : i * size + size <= n * size := by
      have := Nat.mul_le_mul_right size (show i + 1 <= n from hi.1)
      rw [Nat.add_mul] at this
      omega
    obtain ⟨f1, f2⟩ := fold_set v.cells.toList 0 (i * size) cells
    simp only [List.map_cons, List.nodup_cons] at hn
    obtain ⟨out, o1, o2, o3, o4⟩ := fill_rows parts _ (f1.trans hs) (fun p hq => hp p (List.mem_cons_of_mem _ hq)) hn.2
    have apart : ∀ p ∈ parts, p.1 ≠ i := fun p hq e => hn.1 (e ▸ List.mem_map.2 ⟨p, hq, rfl⟩)
    refine ⟨out, ?_, o2, fun p hq j hj => ?_, fun m hmm => ?_⟩
    . rw [<- o1]
      simp only [Instr.fill]
      rw [if_neg (by simp [hi.2, hs]; omega)]
      congr 1
      rw [<- Array.foldl_toList, Array.toList_zipIdx]
    . rcases List.mem_cons.1 hq with rfl | hq
      . rw [o4 (i * size + j) fun q hq hh => ?_, f2, if_pos (by simp [hi.2]; omega)]
        . simp
        . rcases Nat.lt_or_gt_of_ne (apart q hq) with g | g
          . have := Nat.mul_le_mul_right size (show q.1 + 1 <= i from g)
            rw [Nat.add_mul] at this
            omega
          . have := Nat.mul_le_mul_right size (show i + 1 <= q.1 from g)
            rw [Nat.add_mul] at this
            omega
      . exact o3 p hq j hj
    . rw [o4 m fun p hq => hmm p (List.mem_cons_of_mem _ hq), f2]
      have := hmm (i, v) (List.mem_cons_self ..)
      simp only at this
      rw [if_neg]
      simp [hi.2]
      omega
def litD (r : Operand -> SV) : Nat -> List (Nat × Operand) -> Option (List D)
  | _, [] => some []
  | k, (i, x) :: l => match Nat.beq i k with
    | true => match r x with
      | .d y => match litD r (k + 1) l with
        | some ys => some (y :: ys)
        | none => none
      | _ => none
    | false => none
theorem litD_get {r : Operand -> SV} : ∀ {l : List (Nat × Operand)} {k : Nat} {ys : List D}, litD r k l = some ys -> ys.length = l.length /\ ∀ (j : Nat) p, l[j]? = some p -> p.1 = k + j /\ ∃ y, ys[j]? = some y /\ r p.2 = .d y
  | [], k, ys, hh => by simp only [litD, Option.some.injEq] at hh; subst hh; exact ⟨rfl, by simp⟩
  | (i, x) :: l, k, ys, hh => by
    simp only [litD] at hh
    split at hh
    . rename_i hi
      split at hh
      . rename_i y hy
        split at hh
        . rename_i zs hz
          simp only [Option.some.injEq] at hh
          subst hh
          obtain ⟨h1, h2⟩ := litD_get hz
          refine ⟨by simp [h1], fun j p hp => ?_⟩
          cases j with
          | zero => simp at hp; subst hp; exact ⟨Nat.eq_of_beq_eq_true hi, y, rfl, hy⟩
          | succ j =>
            obtain ⟨e1, z, e2, e3⟩ := h2 j p (by simpa using hp)
            exact ⟨by omega, z, by simpa using e2, e3⟩
        . cases hh
      . cases hh
    . cases hh
def elsOk (size : Nat) : List D -> Bool
  | [] => true
  | y :: ys => y.el && Nat.beq y.width size && elsOk size ys
theorem elsOk_all {size : Nat} : ∀ {ys : List D}, elsOk size ys = true -> ∀ y ∈ ys, y.el = true /\ y.width = size
  | [], _ => by simp
  | y :: ys, hh => by
    simp only [elsOk, Bool.and_eq_true] at hh
    intro z hz
    rcases List.mem_cons.1 hz with rfl | hz
    . exact ⟨hh.1.1, Nat.eq_of_beq_eq_true hh.1.2⟩
    . exact elsOk_all hh.2 z hz
theorem lit_run {P : Program} {T : Nat} {ts te : TR} (ht : trOk P T ts = true) (hsl : ts.isSl = true) (hte : trOk P ts.elem te = true) (hz1 : (te.agg || Nat.beq te.zero.length 1) = true) (hz2 : Nat.beq te.zero.length te.size = true) (hz3 : Nat.ble 1 te.size = true)
    {ok : Nat -> Prop} {w : World} {n : Nat} {parts : List (Nat × Value)} {ys : List D} (hn : ys.length = n) (hpn : parts.length = n) (hp : ∀ (j : Nat) p, parts[j]? = some p -> p.1 = j /\ ∃ y, ys[j]? = some y /\ RepD ok w p.2 y) (hel : ∀ y ∈ ys, y.el = true /\ y.width = te.size)
    (hlim : n * te.size <= 16777216) :
    ∃ out, (Instr.buildSlice T n parts.toArray).run P w = .ok (.slice (some ⟨w.heap.size, 0, none⟩) n n) (w.alloc (.cells out ts.elem)) /\ out.size = n * te.size /\ RepCells ok w te.size out.toList ys /\ ∀ (j : Nat) p, parts[j]? = some p -> ∀ q, q < te.size -> out[j * te.size + q]? = p.2.cells[q]? := by
  obtain ⟨d, i', hdd, hi', _, _, _, hs, _⟩ := tr_facts ht
  have := hs hsl
  subst this
  obtain ⟨i, z, hi, hz, hisz, _, hcs, _⟩ := zero_cells hte hz1 hz2 hz3 (ok := ok) (w := w) 0
  have hgood : ∀ p ∈ parts, p.1 < n /\ p.2.cells.size = te.size := fun p hpm => by
    obtain ⟨j, hj⟩ := List.getElem?_of_mem hpm
    obtain ⟨e1, y, e2, e3⟩ := hp j p hj
    obtain ⟨q1, q2⟩ := hel y (List.mem_of_getElem? e2)
    refine ⟨?_, by rw [e3.width (D.el_or q1), q2]⟩
    rw [e1, <- hpn]
    rcases Nat.lt_or_ge j parts.length with hh | hh
    . exact hh
    . simp [hh] at hj
  have hnd : (parts.map (·.1)).Nodup := by
    have : parts.map (·.1) = List.range n := by
      apply List.ext_getElem?
      intro j
      rw [List.getElem?_map]
      cases hj : parts[j]? with
      | none =>
        have : n <= j := by
          rcases Nat.lt_or_ge j parts.length with hh | hh
          . rw [List.getElem?_eq_getElem hh] at hj; cases hj
          . omega
        simp [this]
      | some p =>
        have hjl : j < n := by
          rcases Nat.lt_or_ge j parts.length with hh | hh
          . omega
          . simp [hh] at hj
        rw [List.getElem?_range hjl]
        simp [(hp j p hj).1]
    rw [this]; exact List.nodup_range
  have hsz0 : (madeCells z.cells (n * te.size)).size = n * te.size := size_madeCells _ _
  obtain ⟨out, o1, o2, o3, o4⟩ := fill_rows (size := te.size) (n := n) parts (madeCells z.cells (n * te.size)) hsz0 hgood hnd
  refine ⟨out, ?_, o2, ⟨by simp [o2, hn], parts.map (·.2), by simp [hpn, hn], fun j v x hv hx => ?_, fun j v hv => ?_⟩, fun j p hpj q hq => by rw [<- o3 p (List.mem_of_getElem? hpj) q hq, (hp j p hpj).1]⟩
  . have hl : ¬ (n * te.size > 2 ^ 24) := by simp; omega
    by_cases h0 : n * te.size = 0
    . have hm : madeCells z.cells (n * te.size) = #[] := by simp [madeCells, h0, Array.range_zero']
      rw [hm] at o1
      simp only [Instr.buildSlice, Sem.run_bind, run_underlying hdd, Result.andThen_ok, sizeOf, typeInfo, run_program, hi, Sem.run_pure, hisz]
      simp [hl, h0, o1, newRow, Array.range_zero']
    . simp only [Instr.buildSlice, Sem.run_bind, run_underlying hdd, Result.andThen_ok, sizeOf, typeInfo, run_program, hi, Sem.run_pure, hisz]
      unfold madeCells at o1
      simp [hl, h0, zeroValue, typeInfo, hi, hz, o1, newRow]
  . rw [List.getElem?_map] at hv
    simp only [Option.map_eq_some_iff] at hv
    obtain ⟨p, hpj, rfl⟩ := hv
    obtain ⟨_, y, e2, e3⟩ := hp j p hpj
    rw [e2] at hx
    cases hx
    exact e3
  . rw [List.getElem?_map] at hv
    simp only [Option.map_eq_some_iff] at hv
    obtain ⟨p, hpj, rfl⟩ := hv
    have hpm := List.mem_of_getElem? hpj
    refine ⟨(hgood p hpm).2, fun q hq => ?_⟩
    have := o3 p hpm q hq
    rw [(hp j p hpj).1] at this
    simpa using this
end
end Go.Proofs.YtckpadnjldebaaaGreat
