/- The reference's draw of a machine with equivalent states, and of a machine. No condition. -/
import Derived.Test.YtfemhnmggobhjaaGreatKc
import Derived.Test.YtfemhnmggobhjaaGreatFwX
import Derived.Test.YtfemhnmggobhjaaGreatMa
namespace Go.Proofs.YtfemhnmggobhjaaGreat
open Go
attribute [local irreducible] awp awpL awpQL awpQ awpM pWalk Qt AC thenQ blockQ loopQ OpTo
set_option linter.unusedVariables false
set_option linter.unusedSimpArgs false
set_option maxHeartbeats 2000000
attribute [local irreducible] HC
theorem spec_l06Draw {code : List Int} {most : Int} {s : Src} {k : Nat} (hb : BytesOk code) (hm : 1 <= most /\ most <= 9) (h : SOk s k) (hk : k <= 999999000) :
    HC Tryz.prog 111 [.ref 10000 0, .d (.int .i64 most)] [(10000, srcB code s)] (.agg [.d (.int .i64 (drS code most s)), .d (.int .i64 (drO code (pickS code most s))), .own 30000, .own 30001])
      [(10000, srcB code (drM code most s).2.2), (30000, .rows 43 2 1 (rws (drM code most s).1) none), (30001, .rows 43 2 1 (rws (drM code most s).2.1) none)] := by
  by_cases h6 : pickV code 6 (pickS code most s) = 0
  . by_cases h8 : pickV code 8 (pickS code 2 (pickS code 2 (pickS code 6 (pickS code most s)))) = 0
    . exact l06Draw_11 hb hm h hk h6 h8
    . exact l06Draw_10 hb hm h hk h6 h8
  . by_cases h8 : pickV code 8 (pickS code 2 (pickS code 6 (pickS code most s))) = 0
    . exact l06Draw_01 hb hm h hk h6 h8
    . exact l06Draw_00 hb hm h hk h6 h8
def Rg (s b : Int) (ns : List Int) : Prop := (ns.length : Int) = s /\ ∀ v ∈ ns, 0 <= v /\ v < b
theorem rg_at {s b : Int} {ns : List Int} (h : Rg s b ns) {q : Int} (hq : 0 <= q /\ q < s) : 0 <= ns.getD q.toNat 0 /\ ns.getD q.toNat 0 < b := by
  have hl : q.toNat < ns.length := by have := h.1; omega
  rw [List.getD_eq_getElem?_getD, List.getElem?_eq_getElem hl]
  exact h.2 _ (List.getElem_mem hl)
theorem rg_tbl {s b : Int} {nss : List (List Int)} : Tbl s b nss ↔ ∀ j, j < nss.length -> Rg s b (nss.getD j []) := by
  refine ⟨fun h j hj => ?_, fun h ns hn => ?_⟩
  . rw [List.getD_eq_getElem?_getD, List.getElem?_eq_getElem hj]
    exact h _ (List.getElem_mem hj)
  . obtain ⟨j, hj, e⟩ := List.getElem_of_mem hn
    have := h j hj
    rw [List.getD_eq_getElem?_getD, List.getElem?_eq_getElem hj, Option.getD_some, e] at this
    exact this
end Go.Proofs.YtfemhnmggobhjaaGreat
