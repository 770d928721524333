/- Calls to which one's own memory is lent and which make memory of their own. No condition. -/
import Derived.Test.YtampglcgipefnaaGreatFwO
namespace Go.Proofs.YtampglcgipefnaaGreat
open Go
open Go.RowKit (Below)
set_option linter.unusedVariables false
set_option linter.unusedSimpArgs false

/-- Data that lead to no memory, a struct of such data too. -/
def D.clo : D → Bool
  | .agg xs => xs.all D.scal
  | x => x.scal

theorem RepD.clo {ok ok' : Nat → Prop} {w w' : World} {v : Value} {x : D} (hv : RepD ok w v x) (hs : x.clo = true) : RepD ok' w' v x := by
  cases x with
  | agg xs =>
    cases hv with
    | agg cs _ h1 h2 h3 =>
      exact .agg cs xs h1 h2 fun i v x hv hx => (h3 i v x hv hx).scal (List.all_eq_true.1 hs x (List.mem_of_getElem? hx))
  | _ => exact hv.scal hs

def Chunk.clo : Chunk → Prop
  | .arr _ _ xs => ∀ x ∈ xs, x.clo = true
  | .rows _ _ _ xss none => ∀ xs ∈ xss, ∀ x ∈ xs, x.clo = true
  | _ => False

mutual
def SV.clo : SV → Prop
  | .d x => (x.clo || x.scal2) = true
  | .agg l => SV.clos l
  | .tup l => SV.clos l
  | .fn _ l => SV.clos l
  | _ => True
def SV.clos : List SV → Prop
  | [] => True
  | x :: l => SV.clo x ∧ SV.clos l
end

mutual
theorem RepSV.clo {σ : Nat → Loc} {h : Heap} {ok ok' : Nat → Prop} {w : World} : ∀ {x : SV} {v : Value}, RepSV σ h ok w v x → x.clo → RepSV σ h ok' w v x
  | .junk, _, hr, _ => hr
  | .und, _, hr, _ => hr
  | .d x, _, hr, hc => by
    simp only [SV.clo, Bool.or_eq_true] at hc
    rcases hc with hc | hc
    · exact RepD.clo hr hc
    · exact RepD.scal2 hr hc
  | .ref i o, _, hr, _ => hr
  | .own i, _, hr, _ => hr
  | .elt i o, _, hr, _ => hr
  | .sub i o, _, hr, _ => hr
  | .agg l, v, hr, hc => by
    simp only [RepSV] at hr ⊢
    obtain ⟨cs, e, hl⟩ := hr
    exact ⟨cs, e, RepSVs.clo hl hc⟩
  | .tup l, v, hr, hc => by
    simp only [RepSV] at hr ⊢
    obtain ⟨cs, e, hl⟩ := hr
    exact ⟨cs, e, RepSVs.clo hl hc⟩
  | .fn f l, v, hr, hc => by
    simp only [RepSV] at hr ⊢
    obtain ⟨cs, e, hl⟩ := hr
    exact ⟨cs, e, RepSVs.clo hl hc⟩
theorem RepSVs.clo {σ : Nat → Loc} {h : Heap} {ok ok' : Nat → Prop} {w : World} : ∀ {l : List SV} {one : Bool} {vs : List Value}, RepSVs σ h ok w one vs l → SV.clos l → RepSVs σ h ok' w one vs l
  | [], _, _, hr, _ => by simp only [RepSVs] at hr ⊢; exact hr
  | x :: l, _, _, hr, hc => by
    simp only [RepSVs] at hr ⊢
    obtain ⟨v, vs', e, h1, h2, h3⟩ := hr
    exact ⟨v, vs', e, RepSV.clo h1 hc.1, h2, RepSVs.clo h3 hc.2⟩
end

theorem RepArr.clo {ok ok' : Nat → Prop} {w : World} {l : Loc} {e sz : Nat} {xs : List D} (h : RepArr ok w l e sz xs) (hc : ∀ x ∈ xs, x.clo = true) : RepArr ok' w l e sz xs := by
  obtain ⟨h0, cl, h1, h2, vs, h3, h4, h5⟩ := h
  exact ⟨h0, cl, h1, h2, vs, h3, fun i v x hv hx => (h4 i v x hv hx).clo (hc x (List.mem_of_getElem? hx)), h5⟩

theorem RepChunk.clo {σ : Nat → Loc} {h : Heap} {ok ok' : Nat → Prop} {w : World} {l : Loc} {c : Chunk} (hr : RepChunk σ h ok w l c) (hc : c.clo) : RepChunk σ h ok' w l c := by
  cases c with
  | box _ => cases hc
  | map _ => cases hc
  | arr e sz xs => exact RepArr.clo hr hc
  | rows e e' sz xss hole =>
    cases hole with
    | some _ => cases hc
    | none =>
      obtain ⟨h0, h1, h2, h3, _⟩ := hr
      exact ⟨h0, h1, h2, fun i q xs hq hx hh => (h3 i q xs hq hx hh).clo (hc xs (List.mem_of_getElem? hx)), by simp⟩

def closedH (h : Heap) : Prop := ∀ p ∈ h, p.2.clo

section
variable {cx : Cx} {ops : Array Oper} {rest : List Oper} {s : Slots} {H : Heap} {Q : Exit → Slots → Heap → Prop} {t ty : Nat} {pos : String} {af : Array Edge}

/-- A call to which one's own rows and variables are lent; what it returns is memory of one's own. -/
theorem op_hlend {f : Operand} {args : Array Operand} {tys : Array TypeId} {g : Nat} {cap xs : List D} {r : SV} {h' : Heap} (R2 : List (Nat × Nat))
    (hf : opv (lk s) f = .d (.fn g cap)) (ha : allE H (args.toList.map (opv (lk s))) = some xs) (hc : HC cx.P g ((xs ++ cap).map .d) [] r h') (hcl : closedH h') (hrc : r.clo) (hcall : callOk [] R2 h' = true) (hd : Nat.blt t cx.nt = true) :
    OpTo cx ⟨some t, .call { callee := .value f, args := args, argTypes := tys }, ty, pos, af, none⟩ s H ((t, r.ren R2) :: mapS (SV.kill (movedIds [] R2)) s) (renH R2 h' ++ keepH (SV.kill (movedIds [] R2)) (allIds [] R2) H) := by
  rintro a w ⟨σ, hr⟩ K Q hK
  obtain ⟨hca, hlike, hspec⟩ := hc
  simp only [callOk, Bool.and_eq_true] at hcall
  obtain ⟨⟨⟨⟨⟨⟨⟨n1, n2⟩, n3⟩, n4⟩, n5⟩, n6⟩, n7⟩, n8⟩ := hcall
  replace n3 := nodupB_iff n3
  replace n4 := nodupB_iff n4
  have hfr := rep_eval hr f
  rw [hf] at hfr
  have hfr' : RepD (okf cx σ H) w (a.eval f) (.fn g cap) := hfr
  generalize hu : a.eval f = u at hfr'
  cases hfr' with
  | fn _ vs _ hc1 hc2 =>
    have key : ∀ (l : List Operand) (xs : List D), allE H (l.map (opv (lk s))) = some xs → l.length = xs.length ∧ ∀ (i : Nat) o x, l[i]? = some o → xs[i]? = some x → RepD (fun b => b < w.heap.size) w (a.eval o) x := by
      intro l
      induction l with
      | nil => intro xs hh; simp only [List.map_nil, allE, Option.some.injEq] at hh; subst hh; exact ⟨rfl, by simp⟩
      | cons o l ih =>
        intro xs hh
        simp only [List.map_cons, allE] at hh
        split at hh
        · rename_i x hx
          split at hh
          · rename_i ys hy
            simp only [Option.some.injEq] at hh
            subst hh
            obtain ⟨h1, h2⟩ := ih ys hy
            refine ⟨by simp [h1], fun i o' x' ho hx' => ?_⟩
            cases i with
            | zero =>
              simp only [List.getElem?_cons_zero, Option.some.injEq] at ho hx'
              subst ho hx'
              exact slotE_rep hr (rep_eval hr o) hx
            | succ i => exact h2 i o' x' (by simpa using ho) (by simpa using hx')
          · cases hh
        · cases hh
    obtain ⟨k1, k2⟩ := key args.toList xs ha
    have hargs : RepSVs (fun _ => ⟨0, 0, true, []⟩) [] (fun b => b < w.heap.size) w false (#[] ++ args.map a.eval ++ vs).toList ((xs ++ cap).map .d) := by
      have e0 : (#[] ++ args.map a.eval ++ vs).toList = args.toList.map a.eval ++ vs.toList := by simp
      rw [e0, List.map_append]
      refine RepSVs.append (RepSVs.ofD (by simpa using k1) fun i v x hv hx => ?_) (RepSVs.ofD (by simpa using hc1) fun i v x hv hx => ?_)
      · rw [List.getElem?_map, Option.map_eq_some_iff] at hv
        obtain ⟨o, ho, rfl⟩ := hv
        exact k2 i o x ho hx
      · exact (hc2 i v x (by simpa using hv) hx).mono fun b _ h2 => ⟨h2, rfl⟩
    unfold Oper.wp
    rw [exec_call rfl hu hca]
    rw [Oper.upon_enter]
    refine (hspec w (fun b => b < w.heap.size) (fun _ => ⟨0, 0, true, []⟩) _ (fun b hb => hb) ⟨by simp, by simp, by simp, by simp, by simp⟩ hargs).mono ?_
    rintro e w' ⟨v, σ', rfl, hE, hv⟩
    have hnew : ∀ p ∈ h', ∀ b, b ∈ blk (σ' p.1) p.2 → b < w'.heap.size ∧ w.heap.size ≤ b := fun p hp b hb => by
      obtain ⟨m1, m2⟩ := hE.mine p hp b hb
      refine ⟨m1, ?_⟩
      rcases m2 with m2 | ⟨_, c, m2, _⟩
      · exact m2
      · cases m2
    have hold : ∀ b, b < w.heap.size → w'.heap[b]? = w.heap[b]? := fun b hb => hE.frame b hb (by simp)
    have hswap2 : ∀ p ∈ R2, look (swap R2) p.2 = some p.1 := fun p hp2 => look_of_mem (R := swap R2) (by rw [swap_fst]; exact n4) (p := (p.2, p.1)) (List.mem_map.2 ⟨p, hp2, rfl⟩)
    let σ2 : Nat → Loc := fun j => match look (swap R2) j with
      | some c => σ' c
      | none => σ j
    have hσ2 : ∀ i k, look R2 i = some k → σ2 k = σ' i := fun i k hl => by simp only [σ2, hswap2 _ (look_mem hl)]
    have hinj2 : ∀ i j k, look R2 i = some k → look R2 j = some k → i = j := fun i j k h1 h2 => by
      have e1 := hswap2 _ (look_mem h1)
      have e2 := hswap2 _ (look_mem h2)
      simp only at e1 e2
      rw [e1] at e2
      exact Option.some.inj e2
    have hkind : ∀ i k, look R2 i = some k → k < 10000 := fun i k hl => by
      have := List.all_eq_true.1 n6 _ (look_mem hl)
      simp only [Bool.or_eq_true, Bool.and_eq_true, look] at this
      rcases this with ⟨_, h2⟩ | ⟨_, h2⟩
      · cases h2
      · exact Nat.le_of_ble_eq_true h2
    have fromN : ∀ q ∈ renH R2 h', ∃ p ∈ h', look R2 p.1 = some q.1 ∧ q.2 = p.2.mapc (SV.ren R2) ∧ blk (σ2 q.1) q.2 = blk (σ' p.1) p.2 := fun q hq => by
      obtain ⟨p, h1, h2, h3⟩ := mem_renH hq
      exact ⟨p, h1, h2, h3, by rw [h3, blk_mapc, hσ2 _ _ h2]⟩
    have memN : ∀ (l : Heap), ∀ p ∈ l, ∀ k, look R2 p.1 = some k → (k, p.2.mapc (SV.ren R2)) ∈ renH R2 l := by
      intro l
      induction l with
      | nil => intro p hp; cases hp
      | cons q l ih =>
        intro p hp k hk
        simp only [renH]
        rcases List.mem_cons.1 hp with rfl | hp
        · rw [hk]; exact List.mem_cons_self ..
        · split
          · exact List.mem_cons_of_mem _ (ih p hp k hk)
          · exact ih p hp k hk
    have hallK : ∀ i k, look R2 i = some k → memB k (allIds [] R2) = true := fun i k hl => memB_iff.2 (List.mem_append_right _ (List.mem_map.2 ⟨_, look_mem hl, rfl⟩))
    have hNn : ((renH R2 h').map (·.1)).Nodup := renH_nodup hinj2 hE.nodup
    have getN : ∀ p ∈ h', ∀ k, look R2 p.1 = some k → (renH R2 h').get k = some (p.2.mapc (SV.ren R2)) := fun p hp k hk => get_of_mem hNn (memN h' p hp k hk)
    have hσk : ∀ j, memB j (allIds [] R2) = false → σ2 j = σ j := fun j hj => by
      have hno : look (swap R2) j = none := by
        cases hl : look (swap R2) j with
        | none => rfl
        | some c =>
          obtain ⟨p, hp1, e⟩ := List.mem_map.1 (look_mem hl)
          cases e
          have h5 : memB p.2 (allIds [] R2) = true := memB_iff.2 (List.mem_append_right _ (List.mem_map.2 ⟨p, hp1, rfl⟩))
          rw [h5] at hj
          cases hj
      simp only [σ2, hno]
    have hmv : ∀ j, memB j (movedIds [] R2) = false → memB j (allIds [] R2) = false := fun j hj => by
      cases hb : memB j (allIds [] R2) with
      | false => rfl
      | true =>
        have hm := memB_iff.1 hb
        simp only [allIds, List.map_nil, List.nil_append] at hm
        obtain ⟨p, hp1, rfl⟩ := List.mem_map.1 hm
        have := List.all_eq_true.1 n6 _ hp1
        simp only [Bool.or_eq_true, Bool.and_eq_true, look] at this
        have h30 : Nat.ble 30000 p.1 = true := by
          rcases this with ⟨_, h2⟩ | ⟨h2, _⟩
          · cases h2
          · exact h2
        have : memB p.2 (movedIds [] R2) = true := memB_iff.2 (List.mem_append_right _ (List.mem_map.2 ⟨p, List.mem_filter.2 ⟨hp1, h30⟩, rfl⟩))
        rw [this] at hj
        cases hj
    have hR2 : ∀ i k, look R2 i = some k → σ2 k = σ' i ∧ ∃ c c', h'.get i = some c ∧ (renH R2 h' ++ keepH (SV.kill (movedIds [] R2)) (allIds [] R2) H : Heap).get k = some c' ∧ c.sim c' := fun i k hl => by
      have := List.all_eq_true.1 n8 _ (look_mem hl)
      obtain ⟨c, hcg⟩ := Option.isSome_iff_exists.1 this
      obtain ⟨q, q1, q2, q3⟩ := get_mem hcg
      simp only at q2
      subst q2
      refine ⟨hσ2 _ _ hl, c, _, hcg, get_append_some (getN q q1 k hl), ?_⟩
      rw [← q3]
      exact sim_mapc _
    have hRW := hr.upd (σ' := σ2) (w' := w') (allIds [] R2) (renH R2 h') (SV.kill (movedIds [] R2))
      (fun p hp => by obtain ⟨p', h1, h2, _⟩ := fromN p hp; exact hallK _ _ h2) hNn hσk hE.os hE.tape hE.output hE.size (fun b hb _ => hold b hb)
      (fun p hp => by obtain ⟨p', h1, h2, h3, h4⟩ := fromN p hp; rw [h4]; exact hE.nd _ h1)
      (fun p hp q hq b hb hb' => by
        obtain ⟨p', h1, h2, h3, h4⟩ := fromN p hp
        obtain ⟨q', g1, g2, g3, g4⟩ := fromN q hq
        rw [h4] at hb
        rw [g4] at hb'
        have := hE.inj _ h1 _ g1 b hb hb'
        rw [this, g2] at h2
        exact (Option.some.inj h2).symm)
      (fun p hp b hb => by
        obtain ⟨p', h1, h2, h3, h4⟩ := fromN p hp
        rw [h4] at hb
        obtain ⟨m1, m2⟩ := hnew _ h1 b hb
        exact ⟨m1, .inl m2⟩)
      (fun p hp hanc => by
        obtain ⟨p', h1, h2, h3, h4⟩ := fromN p hp
        have := hkind _ _ h2
        unfold isAnc at hanc
        simp only [Bool.and_eq_true] at hanc
        have := Nat.le_of_ble_eq_true hanc.1
        omega)
      (fun hok v sv hv => RepSV.kill hok (fun j hj => hσk j (hmv j hj)) (fun j hj => simO_keep (fun p hp => by obtain ⟨p', h1, h2, _⟩ := fromN p hp; exact hallK _ _ h2) j (hmv j hj)) hv)
      (fun hok p hp => by
        obtain ⟨p', h1, h2, h3, h4⟩ := fromN p hp
        rw [h3, hσ2 _ _ h2]
        have := RepChunk.clo (ok' := fun _ => False) (hE.rep p' h1) (hcl p' h1)
        exact RepChunk.mapc this (fun b k1 _ => k1.elim) (fun v sv hv => RepSV.ren (fun b k1 _ => k1.elim) hR2 hv) fun _ _ => rfl)
    have hv' : RepSV σ2 (renH R2 h' ++ keepH (SV.kill (movedIds [] R2)) (allIds [] R2) H) (okf cx σ2 (renH R2 h' ++ keepH (SV.kill (movedIds [] R2)) (allIds [] R2) H)) w' v (r.ren R2) :=
      RepSV.ren (fun b k1 _ => k1.elim) hR2 (RepSV.clo (ok' := fun _ => False) hv hrc)
    have := hRW.put (dst := some t) (dstOk_lt hd) hv'
    refine hK _ _ ⟨σ2, ?_⟩
    have e : lk ((t, r.ren R2) :: mapS (SV.kill (movedIds [] R2)) s) = fput (fun t => SV.kill (movedIds [] R2) (lk s t)) (some t) (r.ren R2) := by
      funext u
      simp only [lk, fput, upd]
      split
      · rfl
      · exact lk_mapS rfl s u
    rw [e]
    exact this

theorem hlend {f : Operand} {args : Array Operand} {tys : Array TypeId} {g : Nat} {cap xs : List D} {r : SV} {h' : Heap} (R2 : List (Nat × Nat)) (hc : HC cx.P g ((xs ++ cap).map .d) [] r h') (hcl : closedH h') (hrc : r.clo)
    (hn : awpL cx ops rest ((t, r.ren R2) :: mapS (SV.kill (movedIds [] R2)) s) (renH R2 h' ++ keepH (SV.kill (movedIds [] R2)) (allIds [] R2) H) Q)
    (hf : opv (lk s) f = .d (.fn g cap) := by exact rfl) (ha : allE H (args.toList.map (opv (lk s))) = some xs := by exact rfl) (hcall : callOk [] R2 h' = true := by exact rfl) (hd : Nat.blt t cx.nt = true := by exact rfl) :
    awpL cx ops (⟨some t, .call { callee := .value f, args := args, argTypes := tys }, ty, pos, af, none⟩ :: rest) s H Q := lto (op_hlend R2 hf ha hc hcl hrc hcall hd) hn
end
end Go.Proofs.YtampglcgipefnaaGreat
