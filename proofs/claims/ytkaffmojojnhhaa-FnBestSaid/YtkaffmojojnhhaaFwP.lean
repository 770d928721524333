/- Calls to which one's own memory is lent and which make memory of their own. No condition. -/
import Derived.Test.YtkaffmojojnhhaaFwO
namespace Go.Proofs.Ytkaffmojojnhhaa
open Go
open Go.RowKit (Below)
set_option linter.unusedVariables false
set_option linter.unusedSimpArgs false

/-- Data that lead to no memory, a struct of such data too. -/
def D.clo : D → Bool
  | .agg xs => xs.all D.scal
  | x => x.scal

theorem RepD.clo {ok ok' : Nat → Prop} {w w' : World} {v : Value} {x : D} (hv : RepD ok w v x) (hs : x.clo = true) : RepD ok' w' v x := by
  cases x with
  | agg xs =>
    cases hv with
    | agg cs _ h1 h2 h3 =>
      exact .agg cs xs h1 h2 fun i v x hv hx => (h3 i v x hv hx).scal (List.all_eq_true.1 hs x (List.mem_of_getElem? hx))
  | _ => exact hv.scal hs

def Chunk.clo : Chunk → Prop
  | .arr _ _ xs => ∀ x ∈ xs, x.clo = true
  | .rows _ _ _ xss none => ∀ xs ∈ xss, ∀ x ∈ xs, x.clo = true
  | _ => False

mutual
def SV.clo : SV → Prop
  | .d x => (x.clo || x.scal2) = true
  | .agg l => SV.clos l
  | .tup l => SV.clos l
  | .fn _ l => SV.clos l
  | _ => True
def SV.clos : List SV → Prop
  | [] => True
  | x :: l => SV.clo x ∧ SV.clos l
end

mutual
theorem RepSV.clo {σ : Nat → Loc} {h : Heap} {ok ok' : Nat → Prop} {w : World} : ∀ {x : SV} {v : Value}, RepSV σ h ok w v x → x.clo → RepSV σ h ok' w v x
  | .junk, _, hr, _ => hr
  | .und, _, hr, _ => hr
  | .d x, _, hr, hc => by
    simp only [SV.clo, Bool.or_eq_true] at hc
    rcases hc with hc | hc
    · exact RepD.clo hr hc
    · exact RepD.scal2 hr hc
  | .ref i o, _, hr, _ => hr
  | .own i, _, hr, _ => hr
  | .elt i o, _, hr, _ => hr
  | .sub i o, _, hr, _ => hr
  | .agg l, v, hr, hc => by
    simp only [RepSV] at hr ⊢
    obtain ⟨cs, e, hl⟩ := hr
    exact ⟨cs, e, RepSVs.clo hl hc⟩
  | .tup l, v, hr, hc => by
    simp only [RepSV] at hr ⊢
    obtain ⟨cs, e, hl⟩ := hr
    exact ⟨cs, e, RepSVs.clo hl hc⟩
  | .fn f l, v, hr, hc => by
    simp only [RepSV] at hr ⊢
    obtain ⟨cs, e, hl⟩ := hr
    exact ⟨cs, e, RepSVs.clo hl hc⟩
theorem RepSVs.clo {σ : Nat → Loc} {h : Heap} {ok ok' : Nat → Prop} {w : World} : ∀ {l : List SV} {one : Bool} {vs : List Value}, RepSVs σ h ok w one vs l → SV.clos l → RepSVs σ h ok' w one vs l
  | [], _, _, hr, _ => by simp only [RepSVs] at hr ⊢; exact hr
  | x :: l, _, _, hr, hc => by
    simp only [RepSVs] at hr ⊢
    obtain ⟨v, vs', e, h1, h2, h3⟩ := hr
    exact ⟨v, vs', e, RepSV.clo h1 hc.1, h2, RepSVs.clo h3 hc.2⟩
end

theorem RepArr.clo {ok ok' : Nat → Prop} {w : World} {l : Loc} {e sz : Nat} {xs : List D} (h : RepArr ok w l e sz xs) (hc : ∀ x ∈ xs, x.clo = true) : RepArr ok' w l e sz xs := by
  obtain ⟨h0, cl, h1, h2, vs, h3, h4, h5⟩ := h
  exact ⟨h0, cl, h1, h2, vs, h3, fun i v x hv hx => (h4 i v x hv hx).clo (hc x (List.mem_of_getElem? hx)), h5⟩

theorem RepChunk.clo {σ : Nat → Loc} {h : Heap} {ok ok' : Nat → Prop} {w : World} {l : Loc} {c : Chunk} (hr : RepChunk σ h ok w l c) (hc : c.clo) : RepChunk σ h ok' w l c := by
  cases c with
  | box _ => cases hc
  | map _ => cases hc
  | arr e sz xs => exact RepArr.clo hr hc
  | rows e e' sz xss hole =>
    cases hole with
    | some _ => cases hc
    | none =>
      obtain ⟨h0, h1, h2, h3, _⟩ := hr
      exact ⟨h0, h1, h2, fun i q xs hq hx hh => (h3 i q xs hq hx hh).clo (hc xs (List.mem_of_getElem? hx)), by simp⟩

section
variable {cx : Cx} {ops : Array Oper} {rest : List Oper} {s : Slots} {H : Heap} {Q : Exit → Slots → Heap → Prop} {t ty : Nat} {pos : String} {af : Array Edge}

end
end Go.Proofs.Ytkaffmojojnhhaa
