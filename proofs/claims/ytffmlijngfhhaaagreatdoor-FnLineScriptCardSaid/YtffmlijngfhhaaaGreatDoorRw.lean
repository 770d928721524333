/- Words read from texts; slices of texts in a walk. No condition but bounds. -/
import Derived.Test.YtffmlijngfhhaaaGreatDoorWa
import Derived.Test.YtffmlijngfhhaaaGreatDoorFwX
namespace Go.Proofs.YtffmlijngfhhaaaGreatDoor
open Go
attribute [local irreducible] awp awpL awpQL awpQ awpM pWalk Qt AC thenQ blockQ loopQ OpTo
set_option linter.unusedVariables false
set_option linter.unusedSimpArgs false
set_option maxHeartbeats 2000000
attribute [local irreducible] HC
section
variable {cx : Cx} {h : Heap} {s : Nat -> SV} {dst : Option Nat} {ty : Nat} {pos : String} {af : Array Edge} {gd : Option (Nat × Bool)}
theorem strX {l : List UInt8} {a b : Nat} : ((⟨l.toArray⟩ : ByteArray).extract a b).data.toList = (l.drop a).take (b - a) := by
  rw [ByteArray.data_extract]
  simp [List.extract_eq_take_drop]
theorem qa_strSlice_lh {t : Nat} {x lo hi : Operand} {tr : TR} {l : List UInt8} {k k' : IntKind} {a b : Int} (hx : opv s x = .d (.str l)) (hlo : opv s lo = .d (.int k a)) (hhi : opv s hi = .d (.int k' b)) (ht : tget cx.T t = some tr) (hst : tr.isStr = true)
    (h0 : 0 <= a) (h1 : a <= b) (h2 : b <= l.length) : Qt cx h ⟨dst, .slice t x (some lo) (some hi) none, ty, pos, af, gd⟩ s (.d (.str ((l.drop a.toNat).take (b.toNat - a.toNat)))) :=
  qt_of fun r hr σ ac w hv _ _ => by
    have v1 := hv x
    have v2 := hv lo
    have v3 := hv hi
    rw [hr x (by simp [Op.operands]), hx] at v1
    rw [hr lo (by simp [Op.operands]), hlo] at v2
    rw [hr hi (by simp [Op.operands]), hhi] at v3
    have v1' := RepD.str_inv v1
    have v2' := RepD.int_inv v2
    have v3' := RepD.int_inv v3
    obtain ⟨d, _, hd, _, _, _, _, _, hs, _⟩ := tr_facts (tget_ok cx.tab ht)
    have := hs hst
    subst this
    refine ⟨_, w, ?_, RowKit.Below.refl _ _, .str _ ((⟨l.toArray⟩ : ByteArray).extract a.toNat b.toNat) (ByteArray.ext (by rw [<- strX]))⟩
    simp only [execOp, v1', v2', v3', Option.map_some, Option.map_none]
    simp only [Sem.run_bind, Sem.run_pure]
    rw [run_sliceAt_string (h := hd), run_slice_string (h := hd)]
    . simp [Result.andThen]
    . exact h0
    . exact h1
    . rw [ByteArray.size]; simpa using h2
theorem qa_strSlice_l {t : Nat} {x lo : Operand} {tr : TR} {l : List UInt8} {k : IntKind} {a : Int} (hx : opv s x = .d (.str l)) (hlo : opv s lo = .d (.int k a)) (ht : tget cx.T t = some tr) (hst : tr.isStr = true)
    (h0 : 0 <= a) (h1 : a <= l.length) : Qt cx h ⟨dst, .slice t x (some lo) none none, ty, pos, af, gd⟩ s (.d (.str (l.drop a.toNat))) :=
  qt_of fun r hr σ ac w hv _ _ => by
    have v1 := hv x
    have v2 := hv lo
    rw [hr x (by simp [Op.operands]), hx] at v1
    rw [hr lo (by simp [Op.operands]), hlo] at v2
    have v1' := RepD.str_inv v1
    have v2' := RepD.int_inv v2
    obtain ⟨d, _, hd, _, _, _, _, _, hs, _⟩ := tr_facts (tget_ok cx.tab ht)
    have := hs hst
    subst this
    have hsz : (⟨l.toArray⟩ : ByteArray).size = l.length := by rw [ByteArray.size]; simp
    refine ⟨.string ((⟨l.toArray⟩ : ByteArray).extract a.toNat l.length), w, ?_, RowKit.Below.refl _ _, .str _ _ (ByteArray.ext (by rw [<- Array.toList_inj, strX, List.take_of_length_le (by simp)]))⟩
    simp only [execOp, v1', v2', Option.map_some, Option.map_none]
    simp only [Sem.run_bind, Sem.run_pure]
    rw [run_sliceAt_string (h := hd), run_slice_string_l (ht := hd) (h0 := h0) (h1 := by rw [hsz]; exact h1), hsz]
    simp [Result.andThen]
end
end Go.Proofs.YtffmlijngfhhaaaGreatDoor
namespace Go.Proofs.YtffmlijngfhhaaaGreatDoor
open Go
attribute [local irreducible] awp awpL awpQL awpQ awpM pWalk Qt AC thenQ blockQ loopQ OpTo
set_option linter.unusedVariables false
set_option linter.unusedSimpArgs false
set_option maxHeartbeats 2000000
attribute [local irreducible] HC
def bls : List UInt8 -> List (List UInt8)
  | [] => [[]]
  | c :: r => if c = 32 then [] :: bls r else match bls r with
    | [] => [[c]]
    | h :: t => (c :: h) :: t
theorem bls_ne (l : List UInt8) : bls l ≠ [] := by
  cases l with
  | nil => simp [bls]
  | cons c r =>
    unfold bls
    split
    . simp
    . split <;> simp
theorem bls_no {l : List UInt8} (h : ∀ c ∈ l, c ≠ 32) : bls l = [l] := by
  induction l with
  | nil => rfl
  | cons c r ih =>
    rw [bls, if_neg (h c (by simp)), ih fun x hx => h x (by simp [hx])]
theorem bls_at {a b : List UInt8} (h : ∀ c ∈ a, c ≠ 32) : bls (a ++ 32 :: b) = a :: bls b := by
  induction a with
  | nil => simp [bls]
  | cons c r ih =>
    rw [List.cons_append, bls, if_neg (h c (by simp)), ih fun x hx => h x (by simp [hx])]
theorem bls_join (l : List UInt8) : ∀ init last, bls l = init ++ [last] -> (init.flatMap fun p => p ++ [32]) ++ last = l := by
  induction l with
  | nil =>
    intro init last h
    cases init with
    | nil => simp [bls] at h; simp [h]
    | cons p q => cases q <;> simp [bls] at h
  | cons c r ih =>
    intro init last h
    rw [bls] at h
    by_cases hc : c = 32
    . rw [if_pos hc] at h
      cases init with
      | nil =>
        simp only [List.nil_append, List.cons.injEq] at h
        exact absurd h.2 (bls_ne r)
      | cons p q =>
        simp only [List.cons_append, List.cons.injEq] at h
        have := ih q last h.2
        rw [<- h.1]
        simp only [List.flatMap_cons, List.nil_append, List.cons_append, List.append_assoc]
        rw [this, hc]
    . rw [if_neg hc] at h
      cases hr : bls r with
      | nil => exact absurd hr (bls_ne r)
      | cons p q =>
        rw [hr] at h
        simp only at h
        cases init with
        | nil =>
          simp only [List.nil_append, List.cons.injEq] at h
          have := ih [] p (by rw [hr, h.2]; rfl)
          rw [<- h.1]
          simpa using this
        | cons x y =>
          simp only [List.cons_append, List.cons.injEq] at h
          have := ih (p :: y) last (by rw [hr, h.2]; rfl)
          rw [<- h.1]
          simp only [List.flatMap_cons, List.cons_append, List.append_assoc] at this ⊢
          rw [this]
theorem bls_len (l : List UInt8) : (bls l).length <= l.length + 1 := by
  induction l with
  | nil => simp [bls]
  | cons c r ih =>
    rw [bls]
    split
    . simp; exact ih
    . split
      . simp
      . rename_i h t e
        rw [e] at ih
        simp at ih ⊢
        omega
theorem cut_atB {l : List UInt8} {f i : Nat} (hf : f <= i) (hi : i < l.length) : l.drop f = (l.drop f).take (i - f) ++ l[i] :: l.drop (i + 1) := by
  have h1 : (l.drop f).drop (i - f) = l[i] :: l.drop (i + 1) := by
    rw [List.drop_drop, show f + (i - f) = i by omega]
    exact List.drop_eq_getElem_cons hi
  rw [<- h1, List.take_append_drop]
theorem take_dropB {l : List UInt8} {f i : Nat} : (l.drop f).take (i - f) = (l.take i).drop f := by
  rw [List.drop_take]
theorem spec_l01SplitB {l : List UInt8} (hl : l.length <= 1048576) : AC Tryz.prog 85 [.str l, .int .u8 32] (.lst ((bls l).map .str)) := by
  refine ac_intro tabIs _ Tryz.func85 rfl rfl Tryz.ntmps85 rfl rfl fun w0 ok0 he0 => ?_
  repeat (first | refine v_w (t := 8) ?_ | refine zc ?_ | refine u_w (t := 8) ?_ | refine zv ?_)
  refine awp_loop (fun p : Nat × Nat × List (List UInt8) => p.2.1 <= p.1 /\ p.1 <= l.length /\ (∀ c ∈ (l.drop p.2.1).take (p.1 - p.2.1), c ≠ 32) /\ bls l = p.2.2 ++ bls (l.drop p.2.1) /\ p.2.2.length <= p.1) (fun p => [(0, .d (.str l)), (1, .d (.int .u8 32)), (5, .own 8), (6, .d (.int .i64 p.2.1)), (7, .d (.int .i64 p.1))]) (fun p => [(8, .arr 9 1 (p.2.2.map .str))]) (fun p => l.length - p.1) (0, 0, []) ⟨by simp, by simp, by simp, by simp, by simp⟩ ?_ rfl ?_
  . exact zs
  . rintro ⟨i, f, d⟩ ⟨hf, hi, hno, heq, hdl⟩
    simp only at hf hi hno heq hdl ⊢
    by_cases hlt : i < l.length
    . have hc : l[((i : Nat) : Int).toNat]? = some l[i] := by simp [hlt]
      by_cases h10 : l[i] = 32
      . have hd : decide (((l[i].toNat : Nat) : Int) = 32) = true := by rw [h10]; rfl
        have hcut : bls (l.drop f) = ((l.drop f).take (i - f)) :: bls (l.drop (i + 1)) := by
          conv => lhs; rw [cut_atB hf hlt, h10]
          exact bls_at hno
        generalize l[i] = c at *
        repeat (first | refine zc ?_ | ((first | apply x_l | apply x_q | apply x_lr | apply x_qr); (focus (first | (apply qa_strIndex; (iterate 6 (focus (first | exact rfl | (first | assumption | omega | (simp; omega) | (simp; done) | rfl))))) | (apply qa_strSlice_lh; (iterate 8 (focus (first | exact rfl | (first | assumption | omega | (simp; omega) | (simp; done) | rfl))))))); exact rfl) | (apply v_x; (iterate 2 exact rfl); (focus (intro ok0 nw hle; (first | (apply qa_strIndex; (iterate 6 (focus (first | exact rfl | (first | assumption | omega | (simp; omega) | (simp; done) | rfl))))) | (apply qa_strSlice_lh; (iterate 8 (focus (first | exact rfl | (first | assumption | omega | (simp; omega) | (simp; done) | rfl)))))))); (iterate 2 exact rfl)) | refine zv ?_)
        refine loop_n ((i + 1, i + 1, d ++ [(l.drop f).take (i - f)]) : Nat × Nat × List (List UInt8)) ⟨Nat.le_refl _, hlt, by simp, by show bls l = (d ++ [(l.drop f).take (i - f)]) ++ bls (l.drop (i + 1)); rw [heq, hcut]; simp, by simp; omega⟩ ?_ ?_ (by simp; omega)
        . exact zs
        . exact congrArg (fun x => [(8, Chunk.arr 9 1 x)]) (List.map_append (f := D.str) (l₁ := d) (l₂ := [(l.drop f).take (i - f)]))
      . have hd : decide (((l[i].toNat : Nat) : Int) = 32) = false := decide_eq_false fun e => h10 (UInt8.toNat_inj.1 (show l[i].toNat = 32 by omega))
        have hno' : ∀ c ∈ (l.drop f).take (i + 1 - f), c ≠ 32 := by
          intro c hc'
          rw [take_dropB, List.take_succ_eq_append_getElem hlt, List.drop_append_of_le_length (by simp; omega), <- take_dropB, List.mem_append] at hc'
          rcases hc' with h | h
          . exact hno c h
          . simp at h; rw [h]; exact h10
        generalize l[i] = c at *
        repeat (first | refine zc ?_ | ((first | apply x_l | apply x_q | apply x_lr | apply x_qr); (focus (first | (apply qa_strIndex; (iterate 6 (focus (first | exact rfl | (first | assumption | omega | (simp; omega) | (simp; done) | rfl))))))); exact rfl) | (apply v_x; (iterate 2 exact rfl); (focus (intro ok0 nw hle; (first | (apply qa_strIndex; (iterate 6 (focus (first | exact rfl | (first | assumption | omega | (simp; omega) | (simp; done) | rfl)))))))); (iterate 2 exact rfl)) | refine zv ?_)
        refine loop_n ((i + 1, f, d) : Nat × Nat × List (List UInt8)) ⟨Nat.le_succ_of_le hf, hlt, hno', heq, Nat.le_succ_of_le hdl⟩ ?_ rfl (by simp; omega)
        exact zs
    . have hie : i = l.length := by omega
      subst hie
      rw [List.take_of_length_le (by simp)] at hno
      rw [heq, bls_no hno]
      repeat (first | refine zc ?_ | ((first | apply x_l | apply x_q | apply x_lr | apply x_qr); (focus (first | (apply qa_strSlice_l; (iterate 6 (focus (first | exact rfl | (first | assumption | omega | (simp; omega) | (simp; done) | rfl))))))); exact rfl) | (apply v_x; (iterate 2 exact rfl); (focus (intro ok0 nw hle; (first | (apply qa_strSlice_l; (iterate 6 (focus (first | exact rfl | (first | assumption | omega | (simp; omega) | (simp; done) | rfl)))))))); (iterate 2 exact rfl)) | refine zv ?_)
      refine zt ?_
      simp
end Go.Proofs.YtffmlijngfhhaaaGreatDoor
