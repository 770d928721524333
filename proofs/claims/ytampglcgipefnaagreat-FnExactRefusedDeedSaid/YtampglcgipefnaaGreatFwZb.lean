/- A part of one's own row from a place on: slicing, length, elements. No condition. -/
import Derived.Test.YtampglcgipefnaaGreatFwW
import Derived.Laws.Slices
namespace Go.Proofs.YtampglcgipefnaaGreat
open Go
open Go.RowKit (Below)
set_option linter.unusedVariables false
set_option linter.unusedSimpArgs false

section
variable {cx : Cx} {ops : Array Oper} {rest : List Oper} {s : Slots} {h : Heap} {Q : Exit → Slots → Heap → Prop} {dst : Option Nat} {t ty : Nat} {pos : String} {af : Array Edge} {gd : Option (Nat × Bool)}

/-- One's own row from a place on. -/
theorem wv_view {T : Nat} {x lo : Operand} {ts te : TR} {f : Nat → SV} {id e sz : Nat} {xs : List D} {k : IntKind} {n : Int} (hx : opv f x = .own id) (hg : h.get id = some (.arr e sz xs)) (hl : opv f lo = .d (.int k n))
    (ht : tget cx.T T = some ts) (hsl : ts.isSl = true) (hte : tget cx.T ts.elem = some te) (hsz : Nat.beq sz te.size = true) (h0 : 0 ≤ n) (hn : n ≤ xs.length) :
    Qt cx h ⟨dst, .slice T x (some lo) none none, ty, pos, af, gd⟩ f (.sub id (2 * n.toNat)) := by
  intro s₁ hs σ a w hr K Q hK
  have h1 := rep_eval hr x
  have h2 := rep_eval hr lo
  rw [show opv s₁ x = opv f x from by cases x <;> first | rfl | exact hs _ (by simp [Op.operands]), hx] at h1
  rw [show opv s₁ lo = opv f lo from by cases lo <;> first | rfl | exact hs _ (by simp [Op.operands]), hl] at h2
  have h2' := RepD.int_inv h2
  simp only [RepSV, hg] at h1
  obtain ⟨d, i, hdd, hi', -, -, -, hs', -⟩ := tr_facts (tget_ok cx.tab ht)
  obtain ⟨d', i', hdd', hi2, -, hz, -⟩ := tr_facts (tget_ok cx.tab hte)
  have := hs' hsl
  subst this
  have hsz' := Nat.eq_of_beq_eq_true hsz
  have hE : cx.P.elem T = ts.elem := by simp [Program.elem, hdd]
  have hd2 : cx.P.underlying T = some (.slice (cx.P.elem T)) := by rw [hE]; exact hdd
  obtain ⟨_, _, _, cl, ⟨_, ho⟩, _⟩ := chunk_own hr hg
  have run : (execOp a.eval ⟨dst, .slice T x (some lo) none none, ty, pos, af, gd⟩).run cx.P w = .ok (.value (viewAt (σ id) (2 * n.toNat) sz xs.length)) w := by
    unfold sliceAt at h1
    split at h1
    · rename_i hnil
      have hx0 : xs.length = 0 := by
        rcases ho with ⟨_, q⟩ | ⟨_, _, _, q, _⟩
        · exact q
        · simp [sliceAt, hnil] at q
      have hn0 : n = 0 := by omega
      subst hn0
      rw [show viewAt (σ id) (2 * (0 : Int).toNat) sz xs.length = .slice none 0 0 by unfold viewAt; rw [if_pos hnil]]
      simp only [execOp, h1, h2', Option.map_some, Option.map_none]
      simp only [Sem.run_bind, Sem.run_pure]
      rw [run_sliceAt_slice (h := hd2), run_slice_l (ht := hd2) (h0 := by omega) (h1 := by simp), hE]
      simp [sizeOf, typeInfo, hi2, hz, Result.andThen, sliced]
    · rename_i hnil
      rw [view_from (by simpa using hnil)]
      simp only [execOp, h1, h2', Option.map_some, Option.map_none]
      simp only [Sem.run_bind, Sem.run_pure]
      rw [run_sliceAt_slice (h := hd2), run_slice_l (ht := hd2) (h0 := h0) (h1 := by omega), hE]
      by_cases hc : (σ id).cap = n.toNat
      · simp [sizeOf, typeInfo, hi2, hz, Result.andThen, sliced, hc]
      · simp [sizeOf, typeInfo, hi2, hz, Result.andThen, sliced, hc, add_block, hsz']
  unfold Oper.wp
  rw [run]
  exact hK _ _ (Below.refl _ _) (by simp only [RepSV, hg])

/-- An element of it. -/
theorem wv_index {T : Nat} {x i : Operand} {ts te : TR} {f : Nat → SV} {id e sz m : Nat} {xs : List D} {k : IntKind} {n : Int} (hx : opv f x = .sub id (2 * m)) (hi : opv f i = .d (.int k n)) (hg : h.get id = some (.arr e sz xs))
    (ht : tget cx.T T = some ts) (hsl : ts.isSl = true) (hte : tget cx.T ts.elem = some te) (hsz : Nat.beq sz te.size = true) (h0 : 0 ≤ n) (hlt : (m : Int) + n < xs.length) :
    Qt cx h ⟨dst, .indexAddr T x i, ty, pos, af, gd⟩ f (.elt id (m + n.toNat)) := by
  intro s₁ hs σ a w hr K Q hK
  have h1 := rep_eval hr x
  have h2 := rep_eval hr i
  rw [show opv s₁ x = opv f x from by cases x <;> first | rfl | exact hs _ (by simp [Op.operands]), hx] at h1
  rw [show opv s₁ i = opv f i from by cases i <;> first | rfl | exact hs _ (by simp [Op.operands]), hi] at h2
  have h2' := RepD.int_inv h2
  simp only [RepSV, hg] at h1
  obtain ⟨d, i', hdd, hi', _, _, _, hs', _⟩ := tr_facts (tget_ok cx.tab ht)
  have := hs' hsl
  subst this
  obtain ⟨_, ie, _, hie, _, hies, _⟩ := tr_facts (tget_ok cx.tab hte)
  have hsz' := Nat.eq_of_beq_eq_true hsz
  obtain ⟨_, _, _, cl, ⟨_, ho⟩, _⟩ := chunk_own hr hg
  have hcap : (σ id).nil = false ∧ xs.length ≤ (σ id).cap := by
    rcases ho with ⟨_, q⟩ | ⟨g, cap, cur, q, _, _, q4, _⟩
    · omega
    · unfold sliceAt at q
      split at q
      · cases q
      · rename_i hn
        obtain ⟨_, _, q3⟩ := Value.slice.inj q
        exact ⟨by simpa using hn, by omega⟩
  have hv : viewAt (σ id) (2 * m) sz xs.length = .slice (some ⟨(σ id).b, m * sz, none⟩) (xs.length - m) ((σ id).cap - m) := by
    rw [view_from hcap.1, if_neg (by omega)]
  rw [hv] at h1
  unfold Oper.wp
  have run : (execOp a.eval ⟨dst, .indexAddr T x i, ty, pos, af, gd⟩).run cx.P w = .ok (.value (.pointer (some ⟨(σ id).b, (m + n.toNat) * sz, none⟩))) w := by
    simp only [execOp, h1, h2', Instr.indexAt, asIntOf, Sem.run_bind, Sem.run_pure, Result.andThen_ok, run_underlying hdd]
    rw [if_pos ⟨h0, by omega⟩]
    simp [sizeOf, typeInfo, hie, hies, add_block, hsz', Nat.add_mul]
  rw [run]
  exact hK _ _ (Below.refl _ _) (by simp only [RepSV, hg])

/-- How many elements it has. -/
theorem wv_len {T : Nat} {x : Operand} {tr : TR} {f : Nat → SV} {id e sz m : Nat} {xs : List D} (hx : opv f x = .sub id (2 * m)) (hg : h.get id = some (.arr e sz xs)) (ht : tget cx.T T = some tr) (hsl : tr.isSl = true) :
    Qt cx h ⟨dst, .call { callee := .builtin .len, args := #[x], argTypes := #[T] }, ty, pos, af, gd⟩ f (.d (.int .i64 ((xs.length - m : Nat) : Int))) := by
  intro s₁ hs σ a w hr K Q hK
  have h1 := rep_eval hr x
  rw [show opv s₁ x = opv f x from by cases x <;> first | rfl | exact hs _ (by simp [Op.operands, Call.operands]), hx] at h1
  simp only [RepSV, hg] at h1
  obtain ⟨d, i, hd, hi', -, -, -, hs', -⟩ := tr_facts (tget_ok cx.tab ht)
  have := hs' hsl
  subst this
  obtain ⟨_, _, _, cl, ⟨_, ho⟩, _⟩ := chunk_own hr hg
  have hv : ∃ A c, viewAt (σ id) (2 * m) sz xs.length = .slice A (xs.length - m) c := by
    cases hnil : (σ id).nil with
    | true =>
      have hx0 : xs.length = 0 := by
        rcases ho with ⟨_, q⟩ | ⟨_, _, _, q, _⟩
        · exact q
        · simp [sliceAt, hnil] at q
      rw [hx0, Nat.zero_sub]
      unfold viewAt
      rw [if_pos hnil]
      exact ⟨_, _, rfl⟩
    | false =>
      rw [view_from hnil]
      exact ⟨_, _, rfl⟩
  obtain ⟨A, c, hv⟩ := hv
  rw [hv] at h1
  unfold Oper.wp
  have run : (execOp a.eval ⟨dst, .call { callee := .builtin .len, args := #[x], argTypes := #[T] }, ty, pos, af, gd⟩).run cx.P w = .ok (.value (.int .i64 ((xs.length - m : Nat) : Int))) w := by
    simp [execOp, resolve, invoke, builtin, h1, Builtin.len_, run_underlying hd]
    try rfl
  rw [run]
  exact hK _ _ (Below.refl _ _) (RepD.int _ _)

/-! ### A slice without room -/
theorem full_inv {ok : Nat → Prop} {w : World} {v : Value} {xs : List D} (h : RepD ok w v (.full xs)) : RepD ok w v (.lst xs) ∧ ((v = .slice none 0 0 ∧ xs = []) ∨ ∃ a, v = .slice (some a) xs.length xs.length) := by
  cases h with
  | fullN => exact ⟨.nil0, .inl ⟨rfl, rfl⟩⟩
  | fullE a => exact ⟨.emp a 0, .inr ⟨a, rfl⟩⟩
  | full b off n cells e fr xs vs sz h1 h2 h3 h4 h5b h6 h7 =>
    subst h4
    exact ⟨.lst b off _ _ cells e fr xs vs sz h1 h2 h3 rfl (Nat.le_refl _) h5b h6 h7, .inr ⟨_, rfl⟩⟩

/-- All of a slice, and no room behind it. -/
theorem qv_clip {T : Nat} {x hi mx : Operand} {ts te : TR} {f : Nat → SV} {xs : List D} {k k' : IntKind} (hx : opv f x = .d (.lst xs)) (hh : opv f hi = .d (.int k xs.length)) (hm : opv f mx = .d (.int k' xs.length))
    (ht : tget cx.T T = some ts) (hsl : ts.isSl = true) (hte : tget cx.T ts.elem = some te) :
    Qt cx h ⟨dst, .slice T x none (some hi) (some mx), ty, pos, af, gd⟩ f (.d (.full xs)) := by
  intro s₁ hs σ a w hr K Q hK
  have h1 := rep_eval hr x
  have h2 := rep_eval hr hi
  have h3 := rep_eval hr mx
  rw [show opv s₁ x = opv f x from by cases x <;> first | rfl | exact hs _ (by simp [Op.operands]), hx] at h1
  rw [show opv s₁ hi = opv f hi from by cases hi <;> first | rfl | exact hs _ (by simp [Op.operands]), hh] at h2
  rw [show opv s₁ mx = opv f mx from by cases mx <;> first | rfl | exact hs _ (by simp [Op.operands]), hm] at h3
  have h2' := RepD.int_inv h2
  have h3' := RepD.int_inv h3
  obtain ⟨d, i, hdd, hi', -, -, -, hs', -⟩ := tr_facts (tget_ok cx.tab ht)
  obtain ⟨d', i', hdd', hi2, -, hz, -⟩ := tr_facts (tget_ok cx.tab hte)
  have := hs' hsl
  subst this
  have hE : cx.P.elem T = ts.elem := by simp [Program.elem, hdd]
  have hd2 : cx.P.underlying T = some (.slice (cx.P.elem T)) := by rw [hE]; exact hdd
  have run : ∀ A c, a.eval x = .slice A xs.length c → xs.length ≤ c → (execOp a.eval ⟨dst, .slice T x none (some hi) (some mx), ty, pos, af, gd⟩).run cx.P w = .ok (.value (.slice A xs.length xs.length)) w := fun A c e1 hc => by
    simp only [execOp, e1, h2', h3', Option.map_some, Option.map_none]
    simp only [Sem.run_bind, Sem.run_pure]
    rw [run_sliceAt_slice (h := hd2), run_slice_hm (ht := hd2) (h0 := by omega) (h2 := by omega) (h3 := by omega), hE]
    simp [sizeOf, typeInfo, hi2, hz, Result.andThen, sliced]
    try (intro _; cases A with
    | none => rfl
    | some ad => simp [Addr.add])
  unfold Oper.wp
  revert h1
  intro h1
  have h1 : RepD (okf cx σ h) w (a.eval x) (.lst xs) := h1
  generalize hv : a.eval x = v at *
  cases h1 with
  | nil0 =>
    rw [run none 0 rfl (Nat.le_refl _)]
    exact hK _ _ (Below.refl _ _) (show RepD _ _ _ _ from .fullN)
  | emp ad cap =>
    rw [run (some ad) cap rfl (Nat.zero_le _)]
    exact hK _ _ (Below.refl _ _) (show RepD _ _ _ _ from .fullE ad)
  | lst b off cap n cells e fr xs vs sz k1 k2 k3 k4 k5 k5b k6 k7 =>
    subst k4
    rw [run _ cap rfl k5]
    exact hK _ _ (Below.refl _ _) (show RepD _ _ _ _ from .full b off _ cells e fr xs vs sz k1 k2 k3 rfl k5b k6 k7)

/-- Something is appended to a slice without room. -/
theorem qv_append {T rt : Nat} {x y : Operand} {ts te : TR} {f : Nat → SV} {xs ys : List D} (hx : opv f x = .d (.full xs)) (hy : opv f y = .d (.lst ys)) (ht : tget cx.T T = some ts) (hsl : ts.isSl = true) (hte : tget cx.T ts.elem = some te)
    (hz1 : (te.agg || Nat.beq te.zero.length 1) = true) (hz2 : Nat.beq te.zero.length te.size = true) (hz3 : Nat.ble 1 te.size = true) (hby : Nat.ble te.bytes 64 = true)
    (hw1 : ∀ z ∈ xs, z.el = true ∧ z.width = te.size) (hw2 : elsOk te.size ys = true) (hpos : 0 < ys.length) (hlen : xs.length + ys.length ≤ 1099511627776) :
    Qt cx h ⟨dst, .call { callee := .builtin .append, args := #[x, y], argTypes := #[T, T] }, rt, pos, af, gd⟩ f (.d (.lst (xs ++ ys))) := by
  intro s₁ hs σ a w hr K Q hK
  have h1 := rep_eval hr x
  have h2 := rep_eval hr y
  rw [show opv s₁ x = opv f x from by cases x <;> first | rfl | exact hs _ (by simp [Op.operands, Call.operands]), hx] at h1
  rw [show opv s₁ y = opv f y from by cases y <;> first | rfl | exact hs _ (by simp [Op.operands, Call.operands]), hy] at h2
  obtain ⟨h1l, h1c⟩ := full_inv h1
  have hw2' := elsOk_all hw2
  have s1 := src_cells h1l hw1
  have s2 := src_cells h2 hw2'
  have h0 := Nat.le_of_ble_eq_true hz3
  have hby' := Nat.le_of_ble_eq_true hby
  obtain ⟨d, i0, hdd, hi0, _, _, _, hs', _⟩ := tr_facts (tget_ok cx.tab ht)
  have := hs' hsl
  subst this
  obtain ⟨i, z, hi, hz, hisz, hiby, hcs, _⟩ := zero_cells (tget_ok cx.tab hte) hz1 hz2 hz3 (ok := okf cx σ h) (w := w) 0
  rcases s2 with ⟨_, rfl⟩ | ⟨ad, c, news, hyv, hnc, hcells, hone⟩
  · simp at hpos
  have hcl : ∃ cl, RepCells (okf cx σ h) w te.size cl xs ∧ ∃ cap, (xs.length + ys.length ≤ cap ∧ cap ≤ maxLen) ∧ ∃ cur : Array Value, cur.size = cap * te.size ∧ cur.toList.take ((xs.length + ys.length) * te.size) = cl ++ news ∧ (Builtin.append_ #[T, T] rt #[a.eval x, a.eval y]).run cx.P w = .ok (.slice (some ⟨w.heap.size, 0, none⟩) (xs.length + ys.length) cap) (w.drew.alloc (.cells cur ts.elem)) := by
    have hmul : (xs.length + ys.length) * te.bytes ≤ 1099511627776 * 64 := Nat.mul_le_mul hlen hby'
    have hzs : ∀ m, (Builtin.zeroCells z.cells m).size = m * te.size := fun m => by simp [Builtin.zeroCells, hcs]
    have hnl : news.length = ys.length * te.size := hnc.1
    rcases h1c with ⟨hv, rfl⟩ | ⟨ax, hv⟩
    · refine ⟨[], ⟨by simp, [], by simp, by simp, by simp⟩, grownCap w ys.length 0 ts.elem, ⟨by simpa using grownCap_ge w ys.length 0 ts.elem, grownCap_le_maxLen w ys.length 0 ts.elem (by simp only [maxLen]; simp at hlen; omega)⟩, news.toArray ++ Builtin.zeroCells z.cells (grownCap w ys.length 0 ts.elem - ys.length), ?_, ?_, ?_⟩
      rotate_left 2
      · rw [hv, hyv]
        have := run_append_nil (P := cx.P) w T rt ts.elem i z hdd hi hz ad ys.length c news (by rw [hisz]; exact hnl) hcells hpos (by simp at hlen; omega) (by rw [hiby]; simp at hmul; omega)
        simpa using this
      · have := grownCap_ge w ys.length 0 ts.elem
        rw [Array.size_append, hzs, List.size_toArray, hnl, ← Nat.add_mul]
        congr 1
        omega
      · rw [Array.toList_append]
        simp only [List.length_nil, Nat.zero_add, List.nil_append]
        rw [List.take_left' (by rw [hnl])]
    · rcases s1 with ⟨hv', _⟩ | ⟨ax', c', olds, hv', hoc, hocells, hoone⟩
      · rw [hv] at hv'; cases hv'
      · rw [hv] at hv'
        cases hv'
        have hol : olds.length = xs.length * te.size := hoc.1
        refine ⟨olds, hoc, grownCap w (xs.length + ys.length) xs.length ts.elem, ⟨grownCap_ge w _ _ ts.elem, grownCap_le_maxLen w _ _ ts.elem (by simp only [maxLen]; omega)⟩, olds.toArray ++ news.toArray ++ Builtin.zeroCells z.cells (grownCap w (xs.length + ys.length) xs.length ts.elem - (xs.length + ys.length)), ?_, ?_, ?_⟩
        rotate_left 2
        · rw [hv, hyv]
          exact run_append_grow (P := cx.P) w T rt ts.elem i z hdd hi hz ax xs.length xs.length olds (by rw [hisz]; exact hol) hocells ad ys.length c news (by rw [hisz]; exact hnl) hcells (by omega) (by omega) (growslice_fits (by omega) (by rw [hiby]; omega))
        · have := grownCap_ge w (xs.length + ys.length) xs.length ts.elem
          rw [Array.size_append, Array.size_append, hzs, List.size_toArray, List.size_toArray, hol, hnl, ← Nat.add_mul, ← Nat.add_mul]
          congr 1
          omega
        · rw [Array.toList_append, Array.toList_append]
          rw [List.take_left' (by simp [hol, hnl, Nat.add_mul])]
  obtain ⟨cl, hcl, cap, ⟨hc1, hc2⟩, cur, q1, q2, hrun⟩ := hcl
  have hlen2 : (xs ++ ys).length = xs.length + ys.length := by simp
  have hbel : Below w.heap.size w (w.drew.alloc (.cells cur ts.elem)) := ⟨rfl, rfl, rfl, by generalize Obj.cells _ _ = ob; show w.heap.size ≤ _; simp, fun b hb => Below.heap_alloc w.drew _ b hb⟩
  have hrc := hcl.append hnc
  unfold Oper.wp execOp
  simp only [resolve, invoke, builtin, Sem.run_bind, Sem.run_pure, Result.andThen_ok, List.map_toArray, List.map_cons, List.map_nil, hrun]
  refine hK _ _ hbel ?_
  have hrep : RepArr (okf cx σ h) (w.drew.alloc (.cells cur ts.elem)) ⟨w.heap.size, cap, false, []⟩ ts.elem te.size (xs ++ ys) := by
    refine ⟨h0, cl ++ news, ⟨by rw [hrc.1], .inr ⟨w.heap.size, cap, cur, by simp [sliceAt], Nat.zero_le _, heap_alloc_new w.drew _, by rw [hlen2]; exact hc1, hc2, q1, by rw [hlen2]; exact q2⟩⟩, hrc.mono fun b hb hlt => ⟨hb, Below.heap_alloc w.drew _ b hlt⟩⟩
  have := own_rep (ok' := okf cx σ h) hrep (fun b hb => hb) (fun _ => ⟨.inr hr.evo.size, fun p hp hb => by have := (hr.heap.mine p hp _ hb).2.2; simp at this⟩)
  simp only [sliceAt, hlen2] at this
  exact this
end

/-! ### Guards that are known -/
section
variable {cx : Cx} {ops : Array Oper} {rest : List Oper} {s : Slots} {h : Heap} {Q : Exit → Slots → Heap → Prop} {K : Slots → Prop}
theorem u_glt {o : Oper} {j t : Nat} {want b : Bool} (h1 : awpL cx ops (o :: rest) ((t, .d (.bool true)) :: s) h Q) (hg : o.guard = some (j, want) := by exact rfl) (hj : (ops[j]?).bind (·.dst) = some t := by exact rfl) (hb : lk s t = .d (.bool b) := by exact rfl) (hv : b = true := by ((fail_if_success (exact rfl)); first | assumption | (simp; omega) | (simp; done) | fail)) : awpL cx ops (o :: rest) s h Q := awpL_split hg hj hb (fun e => by first | exact h1 | (rw [hv] at e; cases e)) (fun e => by first | exact h1 | (rw [hv] at e; cases e))
theorem u_gqt {o : Oper} {j t : Nat} {want b : Bool} (h1 : awpQL cx ops h K (o :: rest) ((t, .d (.bool true)) :: s)) (hg : o.guard = some (j, want) := by exact rfl) (hj : (ops[j]?).bind (·.dst) = some t := by exact rfl) (hb : lk s t = .d (.bool b) := by exact rfl) (hv : b = true := by ((fail_if_success (exact rfl)); first | assumption | (simp; omega) | (simp; done) | fail)) : awpQL cx ops h K (o :: rest) s := awpQL_split hg hj hb (fun e => by first | exact h1 | (rw [hv] at e; cases e)) (fun e => by first | exact h1 | (rw [hv] at e; cases e))
theorem u_glf {o : Oper} {j t : Nat} {want b : Bool} (h1 : awpL cx ops (o :: rest) ((t, .d (.bool false)) :: s) h Q) (hg : o.guard = some (j, want) := by exact rfl) (hj : (ops[j]?).bind (·.dst) = some t := by exact rfl) (hb : lk s t = .d (.bool b) := by exact rfl) (hv : b = false := by ((fail_if_success (exact rfl)); first | assumption | (simp; omega) | (simp; done) | fail)) : awpL cx ops (o :: rest) s h Q := awpL_split hg hj hb (fun e => by first | exact h1 | (rw [hv] at e; cases e)) (fun e => by first | exact h1 | (rw [hv] at e; cases e))
theorem u_gqf {o : Oper} {j t : Nat} {want b : Bool} (h1 : awpQL cx ops h K (o :: rest) ((t, .d (.bool false)) :: s)) (hg : o.guard = some (j, want) := by exact rfl) (hj : (ops[j]?).bind (·.dst) = some t := by exact rfl) (hb : lk s t = .d (.bool b) := by exact rfl) (hv : b = false := by ((fail_if_success (exact rfl)); first | assumption | (simp; omega) | (simp; done) | fail)) : awpQL cx ops h K (o :: rest) s := awpQL_split hg hj hb (fun e => by first | exact h1 | (rw [hv] at e; cases e)) (fun e => by first | exact h1 | (rw [hv] at e; cases e))
end
end Go.Proofs.YtampglcgipefnaaGreat
