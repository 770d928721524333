/- Regions that draw their order and have a tail that waits for all: the head by a plan, the tail one behind the other. No condition. -/
import Derived.Test.YtfemhnmggobhjaaFwZ
namespace Go.Proofs.Ytfemhnmggobhjaa
open Go
open Go.RowKit (Below)
set_option linter.unusedVariables false
set_option linter.unusedSimpArgs false

section
variable {cx : Cx} {ops : Array Oper}

/-- Operation z waits for all others ahead of it. -/
def zAllB (ops : Array Oper) (z : Nat) : Bool := (List.range z).all fun i => match ops[z]? with
  | some o => o.after.any fun e => Region.binds .any e && Nat.beq e.on i
  | none => false
theorem zAll_not {z i : Nat} (h : zAllB ops z = true) (hi : i < z) {listed : Array Bool} (hl : listed.getD i true = false) : z ∉ Region.ready .any ops listed := fun hr => by
  obtain ⟨_, o, ho, hall⟩ := mem_ready.1 hr
  have := List.all_eq_true.1 h i (List.mem_range.2 hi)
  rw [ho] at this
  obtain ⟨e, he, hb⟩ := Array.any_eq_true'.1 this
  simp only [Bool.and_eq_true] at hb
  have h1 := hall e he hb.1
  rw [Nat.eq_of_beq_eq_true hb.2, getD_both hl] at h1
  cases h1
theorem seqB_only {g z : Nat} {listed : Array Bool} (hg : 0 < g) (h : Region.seqB .any ops g z listed = true) : ∀ j ∈ Region.ready .any ops listed, j = z := fun j hj => by
  cases g with
  | zero => omega
  | succ g =>
    simp only [Region.seqB, Bool.and_eq_true, decide_eq_true_eq] at h
    rw [h.1] at hj
    simpa using hj

def planTB (ops : Array Oper) (ms : List Nat) (ann : Ann) (g z : Nat) : Plan → Nat → Array Bool → Bool
  | .done, n, listed => Nat.beq n 0 && Region.seqB .any ops g z listed
  | .take i K p, n, listed => Nat.blt 0 n && Nat.blt i z && takeB ops ms ann listed i K && planTB ops ms ann g z p (n - 1) (listed.setIfInBounds i true)
  | .fork i j p q, n, listed => Nat.blt 0 n && (Region.ready .any ops listed).all (fun k => Nat.beq k i || Nat.beq k j) && !(Region.ready .any ops listed).isEmpty && isT ann i && isT ann j && planTB ops ms ann g z p (n - 1) (listed.setIfInBounds i true) && planTB ops ms ann g z q (n - 1) (listed.setIfInBounds j true)
  | .fork3 i j k p q r, n, listed => Nat.blt 0 n && (Region.ready .any ops listed).all (fun u => Nat.beq u i || Nat.beq u j || Nat.beq u k) && !(Region.ready .any ops listed).isEmpty && isT ann i && isT ann j && isT ann k && planTB ops ms ann g z p (n - 1) (listed.setIfInBounds i true) && planTB ops ms ann g z q (n - 1) (listed.setIfInBounds j true) && planTB ops ms ann g z r (n - 1) (listed.setIfInBounds k true)

theorem mAny_firstT {ms : List Nat} {ann : Ann} {i n : Nat} {oi : Oper} {L : Array Bool → (Nat → SV) → Heap → Prop} (hm : msOk ops ms = true) (hi : ops[i]? = some oi) (hin : ops.size ≤ n)
    (z : Nat) (hdone : ∀ listed f h, L listed f h → ∀ j ∈ Region.ready .any ops listed, j = z) (hz : ∀ listed, listed.getD i true = false → z ∉ Region.ready .any ops listed) :
    ∀ (fu : Nat) (listed : Array Bool) (f : Nat → SV) (h : Heap) (f₁ : Nat → SV) (h₁ : Heap), HeadInv .any ops n listed →
      (∀ j oj, ops[j]? = some oj → j ≠ i → listed.getD j true = false → (∀ e ∈ oj.after, Region.binds .any e = true → e.on ≠ i) → oi.apart ops oj = true) →
      (isT ann i = true → ∀ j, isT ann j = true → j ≠ i → listed.getD j true = false → waitsB ms i j = true) →
      i ∈ Region.ready .any ops listed → Step cx ops ms ann i oi f h f₁ h₁ →
      mAny cx ops ms ann L fu (listed.setIfInBounds i true) f₁ h₁ → mAny cx ops ms ann L (fu + 1) listed f h := by
  intro fu
  have his : i < ops.size := (Array.getElem?_eq_some_iff.1 hi).1
  induction fu with
  | zero =>
    intro listed f h f₁ h₁ inv _ _ hr hy H
    refine ⟨fun h => (by rw [h] at hr; cases hr), fun j hj => ?_⟩
    by_cases hji : j = i
    · subst hji; unfold mOp; simp only [hi]; exact ⟨f₁, h₁, hy, H⟩
    · have h1 := hdone _ _ _ H j (ready_mono hj hji)
      subst h1
      exact absurd hj (hz listed (mem_ready.1 hr).1)
  | succ fu ih =>
    intro listed f h f₁ h₁ inv hfree hTT hr hy H
    obtain ⟨hun, oi', hoi', halli⟩ := mem_ready.1 hr
    have : oi' = oi := Option.some.inj (hoi'.symm.trans hi)
    subst this
    refine ⟨fun h => (by rw [h] at hr; cases hr), fun j hj => ?_⟩
    by_cases hji : j = i
    · subst hji; unfold mOp; simp only [hi]; exact ⟨f₁, h₁, hy, H⟩
    · have h1 := H.2 j (ready_mono hj hji)
      obtain ⟨hjun, oj, hoj, hall⟩ := mem_ready.1 hj
      have hjs : j < ops.size := (Array.getElem?_eq_some_iff.1 hoj).1
      have hnot : ∀ e ∈ oj.after, Region.binds .any e = true → e.on ≠ i := fun e he hb heq => by
        have h1 := hall e he hb
        rw [heq, getD_both hun] at h1
        cases h1
      have w1 : waitsB ms i j = false := by
        cases e : waitsB ms i j with
        | false => rfl
        | true =>
          have := waits_listed hm his inv _ j oj (Nat.le_refl _) hoj e hall
          rw [getD_both hun] at this
          cases this
      have w2 : waitsB ms j i = false := by
        cases e : waitsB ms j i with
        | false => rfl
        | true =>
          have := waits_listed hm hjs inv _ i oi' (Nat.le_refl _) hi e halli
          rw [getD_both hjun] at this
          cases this
      have hnT : isT ann i = true → isT ann j = true → False := fun hi' hj' => by
        rw [hTT hi' j hj' hji hjun] at w1
        cases w1
      have hfree' : ∀ k ok, ops[k]? = some ok → k ≠ i → (listed.setIfInBounds j true).getD k true = false →
          (∀ e ∈ ok.after, Region.binds .any e = true → e.on ≠ i) → oi'.apart ops ok = true := fun k ok hk hki hun hno => by
        refine hfree k ok hk hki ?_ hno
        by_cases hjk : j = k
        · subst hjk; exact hjun
        · rw [getD_set_ne true hjk] at hun; exact hun
      have hTT' : isT ann i = true → ∀ k, isT ann k = true → k ≠ i → (listed.setIfInBounds j true).getD k true = false → waitsB ms i k = true := fun hi' k hk hki hun => by
        refine hTT hi' k hk hki ?_
        by_cases hjk : j = k
        · subst hjk; exact hjun
        · rw [getD_set_ne true hjk] at hun; exact hun
      unfold mOp at h1 ⊢
      simp only [hoj] at h1 ⊢
      obtain ⟨f2, h2, hst, hrest⟩ := h1
      obtain ⟨f3, h3, s1, s2⟩ := Step.swap hji w1 w2 (hfree j oj hoj hji hjun hnot) hnT hy hst
      refine ⟨f3, h3, s1, ih _ f3 h3 f2 h2 (inv.set hj (Nat.lt_of_lt_of_le hjs hin)) hfree' hTT' (ready_mono hr (Ne.symm hji)) s2 ?_⟩
      rw [Array.setIfInBounds_comm _ _ hji]
      exact hrest

theorem wpAny_of_mAnyG {g : Nat} {ms : List Nat} {ann : Ann} {L : Array Bool → (Nat → SV) → Heap → Prop} {Q' : Exit → Act → World → Prop} (hdst : ∀ o ∈ ops, dstOk cx.nt o.dst = true)
    (hL : ∀ listed s h a w, L listed (lk s) h → R cx (lk s) h a w → wpAny cx.P .any ops Q' g listed a w) :
    ∀ (n : Nat) (listed : Array Bool) (s : Slots) (h : Heap) (a : Act) (w : World), mAny cx ops ms ann L n listed (lk s) h → R cx (lk s) h a w → wpAny cx.P .any ops Q' (g + n) listed a w
  | 0, listed, s, h, a, w, hh, hr => hL _ _ _ _ _ hh hr
  | n + 1, listed, s, h, a, w, hh, hr => by
    refine ⟨fun h0 => absurd h0 hh.1, fun i hi => ?_⟩
    have h1 := hh.2 i hi
    unfold mOp at h1
    unfold wpOp
    split
    · rename_i e
      simp only [e] at h1
      exact wpAny_of_mAnyG hdst hL n _ _ _ _ _ h1 hr
    · rename_i o e
      simp only [e] at h1
      obtain ⟨f', h', hst, h2⟩ := h1
      have hd := dstOk_lt (hdst o (Array.mem_of_getElem? e))
      cases hst with
      | still K sv _ w1 q1 k1 o1 =>
        obtain ⟨σ, hr⟩ := hr
        rw [if_pos (wanted_of hr w1)]
        refine .inl (QtA.lift rfl q1 k1 (fun t ht => o1 t (looks_op ht)) (lk s) (fun _ _ => rfl) σ a w hr _ _ fun v w' hb hv => ?_)
        refine wpAny_of_mAnyG hdst hL n _ (put s o.dst sv) h _ _ (by rw [lk_put]; exact h2) ⟨σ, ?_⟩
        rw [lk_put]
        exact (hr.ext hb).put hd hv
      | skip w1 =>
        obtain ⟨σ, hr⟩ := hr
        rw [if_neg (by rw [wanted_of hr w1]; simp)]
        refine wpAny_of_mAnyG hdst hL n _ (put s o.dst .und) h _ _ (by rw [lk_put]; exact h2) ⟨σ, ?_⟩
        rw [lk_put]
        exact hr.put hd rfl
      | turn X g sv h'' t1 w1 m1 x1 e1 =>
        rw [if_pos (by obtain ⟨σ, hr⟩ := hr; exact wanted_of hr w1)]
        have hl : lk (put (mapS g s) o.dst sv) = fput (fun t => g (lk s t)) o.dst sv := by
          rw [lk_put]
          congr 1
          funext t
          exact lk_mapS x1.junk s t
        refine .inl (m1 s (fun _ _ => rfl) a w hr _ _ fun a' w' hr' => ?_)
        exact wpAny_of_mAnyG hdst hL n _ (put (mapS g s) o.dst sv) h' _ _ (by rw [hl]; exact h2) (by rw [hl]; exact hr')

theorem mAny_planT {l : List Oper} {ms : List Nat} {ann : Ann} {n : Nat} {Lq : (Nat → SV) → Heap → Prop} {g z : Nat} (hm : msOk l.toArray ms = true) (hn : l.length ≤ n) (hg : 0 < g) (hzz : zAllB l.toArray z = true) : ∀ (p : Plan) (m : Nat) (listed : Array Bool) (f : Nat → SV) (h : Heap), HeadInv .any l.toArray n listed →
    planTB l.toArray ms ann g z p m listed = true → pWalk cx l ann Lq p f h → mAny cx l.toArray ms ann (fun listed' f' h' => Region.seqB .any l.toArray g z listed' = true ∧ Lq f' h') m listed f h
  | .done, m, listed, f, h, inv, hB, hh => by
    simp only [planTB, Bool.and_eq_true] at hB
    have := Nat.eq_of_beq_eq_true hB.1
    subst this
    exact ⟨hB.2, hh⟩
  | .take i K p, m, listed, f, h, inv, hB, hh => by
    simp only [planTB, takeB, Bool.and_eq_true] at hB
    obtain ⟨⟨⟨h0, hzi⟩, ⟨⟨⟨hr, hf⟩, hk⟩, ht⟩⟩, hB'⟩ := hB
    have hr' : i ∈ Region.ready .any l.toArray listed := by simpa using hr
    obtain ⟨o, f', h', ho, hst, hrest⟩ := hh
    have hi : l.toArray[i]? = some o := by rw [getO_eq] at ho; simpa using ho
    have hin : i < n := by have := (Array.getElem?_eq_some_iff.1 hi).1; simp at this; omega
    obtain ⟨m', rfl⟩ : ∃ m', m = m' + 1 := ⟨m - 1, by have := Nat.le_of_ble_eq_true h0; omega⟩
    refine mAny_firstT hm hi (n := n) (by simpa using hn) z (fun listed' f' h' hL => seqB_only hg hL.1) (fun listed' hl => zAll_not hzz (Nat.le_of_ble_eq_true hzi) hl) m' listed f h f' h' inv (Region.free_spec hi hf) (fun hT j hj hji hun => ?_) hr' (hst.step (by simpa using hk)) (mAny_planT hm hn hg hzz p m' _ f' h' (inv.set hr' hin) hB' hrest)
    simp only [hT, Bool.not_true, Bool.false_or] at ht
    obtain ⟨q, hq, hqj⟩ := List.any_eq_true.1 hj
    have hqj' := Nat.eq_of_beq_eq_true hqj
    have := List.all_eq_true.1 ht q hq
    rw [hqj'] at this
    simp only [Bool.or_eq_true] at this
    rcases this with (h1 | h1) | h1
    · exact absurd (Nat.eq_of_beq_eq_true h1) hji
    · rw [hun] at h1; cases h1
    · exact h1
  | .fork i j p q, m, listed, f, h, inv, hB, hh => by
    simp only [planTB, Bool.and_eq_true] at hB
    obtain ⟨⟨⟨⟨⟨⟨h0, hr⟩, hne⟩, ti⟩, tj⟩, hBp⟩, hBq⟩ := hB
    obtain ⟨m', rfl⟩ : ∃ m', m = m' + 1 := ⟨m - 1, by have := Nat.le_of_ble_eq_true h0; omega⟩
    refine ⟨fun e => (by rw [e] at hne; simp at hne), fun k hk => ?_⟩
    have hkk := List.all_eq_true.1 hr k hk
    simp only [Bool.or_eq_true] at hkk
    have hkn : k < n := by obtain ⟨_, o, ho, _⟩ := mem_ready.1 hk; have := (Array.getElem?_eq_some_iff.1 ho).1; simp at this; omega
    have key : ∀ (i : Nat) (p : Plan), isT ann i = true → k = i → planTB l.toArray ms ann g z p m' (listed.setIfInBounds i true) = true → (∃ o f' h', getO l i = some o ∧ StepP cx l.toArray ann i [] o f h f' h' ∧ pWalk cx l ann Lq p f' h') → (∀ f' h', pWalk cx l ann Lq p f' h' → mAny cx l.toArray ms ann (fun listed' f' h' => Region.seqB .any l.toArray g z listed' = true ∧ Lq f' h') m' (listed.setIfInBounds i true) f' h') → mOp cx l.toArray ms ann k (mAny cx l.toArray ms ann (fun listed' f' h' => Region.seqB .any l.toArray g z listed' = true ∧ Lq f' h') m' (listed.setIfInBounds k true)) f h := fun i p hT e hB hex hrec => by
      subst e
      obtain ⟨o, f', h', ho, hst, hrest⟩ := hex
      have hi : l.toArray[k]? = some o := by rw [getO_eq] at ho; simpa using ho
      unfold mOp
      simp only [hi]
      exact ⟨f', h', hst.step (.inl hT), hrec f' h' hrest⟩
    rcases hkk with e | e
    · exact key i p ti (Nat.eq_of_beq_eq_true e) hBp hh.1 fun f' h' hw => mAny_planT hm hn hg hzz p m' _ f' h' (by rw [← Nat.eq_of_beq_eq_true e]; exact inv.set hk hkn) hBp hw
    · exact key j q tj (Nat.eq_of_beq_eq_true e) hBq hh.2 fun f' h' hw => mAny_planT hm hn hg hzz q m' _ f' h' (by rw [← Nat.eq_of_beq_eq_true e]; exact inv.set hk hkn) hBq hw
  | .fork3 i j u p q r, m, listed, f, h, inv, hB, hh => by
    simp only [planTB, Bool.and_eq_true] at hB
    obtain ⟨⟨⟨⟨⟨⟨⟨⟨h0, hr⟩, hne⟩, ti⟩, tj⟩, tu⟩, hBp⟩, hBq⟩, hBr⟩ := hB
    obtain ⟨m', rfl⟩ : ∃ m', m = m' + 1 := ⟨m - 1, by have := Nat.le_of_ble_eq_true h0; omega⟩
    refine ⟨fun e => (by rw [e] at hne; simp at hne), fun k hk => ?_⟩
    have hkk := List.all_eq_true.1 hr k hk
    simp only [Bool.or_eq_true] at hkk
    have hkn : k < n := by obtain ⟨_, o, ho, _⟩ := mem_ready.1 hk; have := (Array.getElem?_eq_some_iff.1 ho).1; simp at this; omega
    have key : ∀ (i : Nat) (p : Plan), isT ann i = true → k = i → planTB l.toArray ms ann g z p m' (listed.setIfInBounds i true) = true → (∃ o f' h', getO l i = some o ∧ StepP cx l.toArray ann i [] o f h f' h' ∧ pWalk cx l ann Lq p f' h') → (∀ f' h', pWalk cx l ann Lq p f' h' → mAny cx l.toArray ms ann (fun listed' f' h' => Region.seqB .any l.toArray g z listed' = true ∧ Lq f' h') m' (listed.setIfInBounds i true) f' h') → mOp cx l.toArray ms ann k (mAny cx l.toArray ms ann (fun listed' f' h' => Region.seqB .any l.toArray g z listed' = true ∧ Lq f' h') m' (listed.setIfInBounds k true)) f h := fun i p hT e hB hex hrec => by
      subst e
      obtain ⟨o, f', h', ho, hst, hrest⟩ := hex
      have hi : l.toArray[k]? = some o := by rw [getO_eq] at ho; simpa using ho
      unfold mOp
      simp only [hi]
      exact ⟨f', h', hst.step (.inl hT), hrec f' h' hrest⟩
    rcases hkk with (e | e) | e
    · exact key i p ti (Nat.eq_of_beq_eq_true e) hBp hh.1 fun f' h' hw => mAny_planT hm hn hg hzz p m' _ f' h' (by rw [← Nat.eq_of_beq_eq_true e]; exact inv.set hk hkn) hBp hw
    · exact key j q tj (Nat.eq_of_beq_eq_true e) hBq hh.2.1 fun f' h' hw => mAny_planT hm hn hg hzz q m' _ f' h' (by rw [← Nat.eq_of_beq_eq_true e]; exact inv.set hk hkn) hBq hw
    · exact key u r tu (Nat.eq_of_beq_eq_true e) hBr hh.2.2 fun f' h' hw => mAny_planT hm hn hg hzz r m' _ f' h' (by rw [← Nat.eq_of_beq_eq_true e]; exact inv.set hk hkn) hBr hw

/-- A region that draws its order: the first n operations by a plan, the others, which wait for all of them, one behind the other. -/
theorem awp_planT {id : Nat} {l : List Oper} {s : Slots} {h : Heap} {Q : Exit → Slots → Heap → Prop} (n : Nat) (ann : Ann) (p : Plan) (hm : cx.P.follows .mixedOrders = true) (hB : (msOk l.toArray (masksOf l) && (zAllB l.toArray n && (Nat.blt n l.length && planTB l.toArray (masksOf l) ann (l.length - n) n p n (Array.replicate l.length false)))) = true) (hdst : (l.all fun o => dstOk cx.nt o.dst) = true)
    (hq : awpM cx l ann (fun s' h' => awpL cx l.toArray (l.drop n) s' h' Q) p s h) : awp cx (.region id l.toArray true) s h Q := fun a w hr => by
  simp only [Bool.and_eq_true] at hB
  obtain ⟨b1, b2, b3, b4⟩ := hB
  have hn := Nat.le_of_ble_eq_true b3
  have hn' : n < l.length := hn
  have inv0 : HeadInv .any l.toArray l.length (Array.replicate l.length false) :=
    ⟨by simp, fun j oj _ hl => (by rw [getD_replicate_false] at hl; cases hl), fun t ht ht' => by simp at ht'; omega⟩
  have H := mAny_planT (cx := cx) (n := l.length) b1 (Nat.le_refl _) (by omega) b2 p n _ (lk s) h inv0 b4 hq
  refine wp_region_any hm ?_
  have := wpAny_of_mAnyG (cx := cx) (g := l.length - n) (Q' := lift cx Q) (fun o ho => by simpa using List.all_eq_true.1 hdst o (by simpa using ho)) (fun listed s0 h' a' w' hL hr' => by
    obtain ⟨hL1, s', hL3, hL2⟩ := hL
    have hdl : (l.drop n).length = l.length - n := by simp
    have := wpAny_of_seq (md := .any) (Q' := lift cx Q) (l.drop n) n listed a' w' (fun j => by simp [List.getElem?_drop]) (by rw [hdl]; exact hL1) (hL2 a' w' (by rw [hL3]; exact hr'))
    rwa [hdl] at this) _ _ s h a { w with drawn := w.drawn + 1 } H (R_drew hr)
  simpa [show l.length - n + n = l.length by omega] using this
end

/-- What a function answers data it answers the same data with tags. -/
theorem HC.le1 {P : Program} {f : Nat} {x y : D} {r : SV} {h' : Heap} (hc : HC P f [.d y] [] r h') (hl : D.Le x y) : HC P f [.d x] [] r h' :=
  ⟨hc.1, hc.2.1, fun w ok σ vs hok hown hvs => hc.2.2 w ok σ vs hok hown (by
    simp only [RepSVs] at hvs ⊢
    obtain ⟨v, vs', e, h1, h2, h3⟩ := hvs
    refine ⟨v, vs', e, ?_, h2, h3⟩
    simp only [RepSV] at h1 ⊢
    exact h1.le hl)⟩

/-- What a map holds at a key. -/
structure MGt (n : Int) (kvs : List (D × D)) (r : Option D) : Prop where
  h : mget n kvs = r
theorem wa_gt {cx : Cx} {h : Heap} {dst : Option Nat} {ty : Nat} {pos : String} {af : Array Edge} {gd : Option (Nat × Bool)} {T : Nat} {x i : Operand} {tr tk te : TR} {kt et : Nat} {f : Nat → SV} {kvs : List (D × D)} {kd : IntKind} {n : Int} {okc : Bool} {r : Option D} (hx : mapOf h (opv f x) = some kvs) (hi : opv f i = .d (.int kd n)) (ht : tget cx.T T = some tr) (hm : tr.mp = some (kt, et))
    (htk : tget cx.T kt = some tk) (hkk : tk.kind = some kd) (hte : tget cx.T et = some te) (ha : te.agg = false) (hz : Nat.beq te.zero.length 1 = true) (hk : keysI kd kvs = true) (hr : MGt n kvs r) :
    Qt cx h ⟨dst, .lookup T x i okc, ty, pos, af, gd⟩ f (.d (mans te okc r)) := by
  have := wa_lookup (cx := cx) (h := h) (dst := dst) (ty := ty) (pos := pos) (af := af) (gd := gd) (okc := okc) hx hi ht hm htk hkk hte ha hz hk
  rwa [hr.h] at this

/-! ### Maps with tagged rows -/
def kvC (e : Nat) (bs : List (Option Nat)) (L : List (Nat × List Int)) : List (D × D) := List.zipWith (fun b p => (D.int .i64 ((p.1 : Nat) : Int), tagD e 1 b (p.2.map (.int .i64)))) bs L
theorem kvC_keys {e : Nat} : ∀ (bs : List (Option Nat)) (L : List (Nat × List Int)), keysI .i64 (kvC e bs L) = true
  | [], _ => by simp [kvC, keysI]
  | _ :: _, [] => by simp [kvC, keysI]
  | b :: bs, p :: L => by
    show keysI .i64 ((D.int .i64 ((p.1 : Nat) : Int), _) :: kvC e bs L) = true
    simp only [keysI, Bool.and_eq_true]
    exact ⟨rfl, kvC_keys bs L⟩
theorem kvC_none {e c : Nat} : ∀ (bs : List (Option Nat)) (L : List (Nat × List Int)), c ∉ L.map (·.1) → mget ((c : Nat) : Int) (kvC e bs L) = none
  | [], _, _ => by simp [kvC, mget]
  | _ :: _, [], _ => by simp [kvC, mget]
  | b :: bs, p :: L, h => by
    simp only [List.map_cons, List.mem_cons, not_or] at h
    show mget _ ((D.int .i64 ((p.1 : Nat) : Int), _) :: kvC e bs L) = none
    simp only [mget]
    rw [if_neg (by omega)]
    exact kvC_none bs L h.2
theorem kvC_get {e : Nat} : ∀ (bs : List (Option Nat)) (L : List (Nat × List Int)) (i : Nat) (b : Option Nat) (p : Nat × List Int), (L.map (·.1)).Nodup → bs[i]? = some b → L[i]? = some p → mget ((p.1 : Nat) : Int) (kvC e bs L) = some (tagD e 1 b (p.2.map (.int .i64)))
  | [], _, i, b, p, _, hb, _ => by simp at hb
  | _ :: _, [], i, b, p, _, _, hp => by simp at hp
  | b' :: bs, p' :: L, 0, b, p, hn, hb, hp => by
    simp at hb hp; subst hb hp
    show mget _ ((D.int .i64 ((p'.1 : Nat) : Int), _) :: kvC e bs L) = _
    simp [mget]
  | b' :: bs, p' :: L, i + 1, b, p, hn, hb, hp => by
    have hp' : L[i]? = some p := by simpa using hp
    simp only [List.map_cons, List.nodup_cons] at hn
    have hne : p.1 ≠ p'.1 := fun e => hn.1 (e ▸ List.mem_map_of_mem (List.mem_of_getElem? hp'))
    show mget _ ((D.int .i64 ((p'.1 : Nat) : Int), _) :: kvC e bs L) = _
    simp only [mget]
    rw [if_neg (by omega)]
    exact kvC_get bs L i b p hn.2 (by simpa using hb) hp'
theorem kvC_put {e c : Nat} {ob : Option Nat} {w : List Int} : ∀ (bs : List (Option Nat)) (L : List (Nat × List Int)), bs.length = L.length → c ∉ L.map (·.1) → mput .i64 ((c : Nat) : Int) (tagD e 1 ob (w.map (.int .i64))) (kvC e bs L) = kvC e (bs ++ [ob]) (L ++ [(c, w)])
  | [], [], _, _ => rfl
  | [], _ :: _, h, _ => by simp at h
  | _ :: _, [], h, _ => by simp at h
  | b :: bs, p :: L, hl, h => by
    simp only [List.map_cons, List.mem_cons, not_or] at h
    have ih := kvC_put (e := e) (ob := ob) (w := w) bs L (by simpa using hl) h.2
    show mput .i64 _ _ ((D.int .i64 ((p.1 : Nat) : Int), tagD e 1 b (p.2.map (.int .i64))) :: kvC e bs L) = (D.int .i64 ((p.1 : Nat) : Int), tagD e 1 b (p.2.map (.int .i64))) :: kvC e (bs ++ [ob]) (L ++ [(c, w)])
    simp only [mput]
    rw [if_neg (by omega), ih]
theorem kvC_tags {e : Nat} : ∀ (bs : List (Option Nat)) (L : List (Nat × List Int)), bs.length = L.length → ∀ b, some b ∈ bs → ∃ kv ∈ kvC e bs L, ∃ e' sz' zs, kv.2 = .rowb b e' sz' zs
  | [], _, _, b, h => by cases h
  | _ :: _, [], hl, _, _ => by simp at hl
  | b' :: bs, p :: L, hl, b, h => by
    show ∃ kv ∈ (D.int .i64 ((p.1 : Nat) : Int), tagD e 1 b' (p.2.map (.int .i64))) :: kvC e bs L, _
    rcases List.mem_cons.1 h with h | h
    · subst h
      exact ⟨_, List.mem_cons_self .., e, 1, _, rfl⟩
    · obtain ⟨kv, h1, h2⟩ := kvC_tags (e := e) bs L (by simpa using hl) b h
      exact ⟨kv, List.mem_cons_of_mem _ h1, h2⟩
end Go.Proofs.Ytfemhnmggobhjaa
