/- Words of machines: joined words, all words with at most some letters. No condition. -/
import Derived.Test.YtfemhnmggobhjaaGreatPe
import Derived.Test.YtfemhnmggobhjaaGreatFwW
import Derived.Test.YtfemhnmggobhjaaGreatFwX
import Derived.Test.YtfemhnmggobhjaaGreatTa
namespace Go.Proofs.YtfemhnmggobhjaaGreat
open Go
attribute [local irreducible] awp awpL awpQL awpQ awpM pWalk Qt AC thenQ blockQ loopQ OpTo
set_option linter.unusedVariables false
set_option linter.unusedSimpArgs false
set_option maxHeartbeats 2000000
attribute [local irreducible] HC
theorem slices_Grow {n : Int} (hn : 0 <= n /\ n <= 1000000) : HC Tryz.prog 136 [.d .nils, .d (.int .i64 n)] [] (.own 30000) [(30000, .arr 2 1 [])] := by
  by_cases h0 : n = 0
  . subst h0
    refine hc_intro tabIs _ Tryz.func136 rfl rfl Tryz.ntmps136 rfl rfl rfl ?_ fun w0 ok0 XM XA anc he0 hX0 => ?_
    . exact likeIn_nil
    repeat (first | refine zc ?_ | ((first | apply x_l | apply x_q | apply x_lr | apply x_qr); (focus (first | (apply qw_capNil; (iterate 3 (focus (first | exact rfl | (first | assumption | omega | (simp; omega) | (simp; done) | rfl))))))); exact rfl) | (apply v_x; (iterate 2 exact rfl); (focus (intro ok0 nw hle; (first | (apply qw_capNil; (iterate 3 (focus (first | exact rfl | (first | assumption | omega | (simp; omega) | (simp; done) | rfl)))))))); (iterate 2 exact rfl)) | refine zv ?_)
    refine awp_nilSlot 4 200 2 1 rfl rfl rfl ?_
    (refine zb ?_; refine u_rH [(200, 30000)] ?_ ?_)
    . rfl
    . rfl
  . refine hc_intro tabIs _ Tryz.func136 rfl rfl Tryz.ntmps136 rfl rfl rfl ?_ fun w0 ok0 XM XA anc he0 hX0 => ?_
    . exact likeIn_nil
    repeat (first | refine zc ?_ | ((first | apply x_l | apply x_q | apply x_lr | apply x_qr); (focus (first | (apply qw_capNil; (iterate 3 (focus (first | exact rfl | (first | assumption | omega | (simp; omega) | (simp; done) | rfl))))) | (apply qw_sliceNil; (iterate 5 (focus (first | exact rfl | (first | assumption | omega | (simp; omega) | (simp; done) | rfl))))))); exact rfl) | (apply v_x; (iterate 2 exact rfl); (focus (intro ok0 nw hle; (first | (apply qw_capNil; (iterate 3 (focus (first | exact rfl | (first | assumption | omega | (simp; omega) | (simp; done) | rfl))))) | (apply qw_sliceNil; (iterate 5 (focus (first | exact rfl | (first | assumption | omega | (simp; omega) | (simp; done) | rfl)))))))); (iterate 2 exact rfl)) | refine zv ?_)
    refine awpL_to rfl (by apply wo_appendZ; (iterate 12 exact rfl); omega; omega) ?_
    repeat (first | refine zc ?_ | refine zv ?_)
    refine awpL_to rfl (by apply wo_cut; (iterate 8 exact rfl); omega; (simp; omega)) ?_
    repeat (first | refine zc ?_ | refine zv ?_)
    (refine zb ?_; refine u_rH [(22, 30000)] ?_ ?_)
    . rfl
    . rfl
theorem slices_Concat {ps : List (List Int)} (hp : ps.length <= 100) (hl : ps.flatten.length <= 100000) : HC Tryz.prog 106 [.d (rows ps)] [] (.own 30000) [(30000, .arr 2 1 (ps.flatten.map (.int .i64)))] := by
  have hle : (List.map ints ps).length = ps.length := by simp
  have hfl : ∀ i, i <= ps.length -> (ps.take i).flatten.length <= ps.flatten.length := fun i hi => by
    have := congrArg (fun l => (List.flatten l).length) (List.take_append_drop i ps)
    simp only [List.flatten_append, List.length_append] at this
    omega
  have e1 := slices_Grow (n := (ps.flatten.length : Int)) (by omega)
  refine hc_intro tabIs _ Tryz.func106 rfl rfl Tryz.ntmps106 rfl rfl rfl ?_ fun w0 ok0 XM XA anc he0 hX0 => ?_
  . exact likeIn_nil
  repeat (first | refine zc ?_ | refine zv ?_)
  refine awp_loop (fun i : Nat => i <= ps.length) (fun i => [(0, .d (rows ps)), (3, .d (.int .i64 (ps.take i).flatten.length)), (9, .d (rows ps)), (10, .d (.int .i64 (List.map ints ps).length)), (11, .d (.int .i64 i))]) (fun _ => []) (fun i => ps.length - i) 0 (by omega) ?_ rfl ?_
  . exact zs
  . intro i hi
    have h1 := hfl i hi
    by_cases hlt : i < ps.length
    . have hx := el_row hlt
      have h2 := hfl (i + 1) hlt
      have hst : (ps.take (i + 1)).flatten = (ps.take i).flatten ++ ps[i] := by rw [List.take_succ_eq_append_getElem hlt, List.flatten_append]; simp
      rw [hst, List.length_append] at h2
      have hlx : (List.map (D.int .i64) ps[i]).length = ps[i].length := by simp
      generalize ps[i] = w at *
      generalize (ps.take i).flatten = u at *
      repeat (first | refine zc ?_ | refine zv ?_)
      refine loop_n (i + 1) (by omega) ?_ rfl (by omega)
      rw [hst, List.length_append, Int.natCast_add]
      exact zs
    . have hie : i = ps.length := by omega
      subst hie
      rw [List.take_length]
      repeat (first | refine zc ?_ | refine zv ?_)
      refine hcl [] [(30000, 500)] e1 ?_
      repeat (first | refine zc ?_ | refine zv ?_)
      refine awp_loop (fun i : Nat => i <= ps.length) (fun i => [(6, .own 500), (25, .d (rows ps)), (26, .d (.int .i64 (List.map ints ps).length)), (27, .d (.int .i64 i))]) (fun i => [(500, .arr 2 1 ((ps.take i).flatten.map (.int .i64)))]) (fun i => ps.length - i) 0 (by omega) ?_ rfl ?_
      . exact zs
      . intro i hi
        have h1 := hfl i hi
        by_cases hlt : i < ps.length
        . have hx := el_row hlt
          have h2 := hfl (i + 1) hlt
          have hst : (ps.take (i + 1)).flatten = (ps.take i).flatten ++ ps[i] := by rw [List.take_succ_eq_append_getElem hlt, List.flatten_append]; simp
          rw [hst, List.length_append] at h2
          generalize ps[i] = w at *
          generalize (ps.take i).flatten = u at *
          repeat (first | refine zc ?_ | refine zv ?_)
          refine awpL_to rfl (by apply wo_append; (iterate 14 exact rfl); exact elsOk_ints _; (simp; omega)) ?_
          repeat (first | refine zc ?_ | refine zv ?_)
          refine loop_n (i + 1) (by omega) ?_ ?_ (by omega)
          . exact zs
          . rw [hst, List.map_append]; rfl
        . have hie : i = ps.length := by omega
          subst hie
          rw [List.take_length]
          repeat (first | refine zc ?_ | refine zv ?_)
          (refine zb ?_; refine u_rH [(500, 30000)] ?_ ?_)
          . rfl
          . rfl
theorem impl_joinWords {ps : List (List Int)} (hp : ps.length <= 100) (hl : ps.flatten.length <= 100000) : HC Tryz.prog 55 [.d (rows ps)] [] (.own 30000) [(30000, .arr 2 1 (ps.flatten.map (.int .i64)))] := by
  have e1 := slices_Concat hp hl
  refine hc_intro tabIs _ Tryz.func55 rfl rfl Tryz.ntmps55 rfl rfl rfl ?_ fun w0 ok0 XM XA anc he0 hX0 => ?_
  . exact likeIn_nil
  repeat (first | refine zc ?_ | refine zv ?_)
  refine hcl [] [(30000, 500)] e1 ?_
  repeat (first | refine zc ?_ | refine zv ?_)
  (refine zb ?_; refine u_rH [(500, 30000)] ?_ ?_)
  . rfl
  . rfl
def wN (n : Nat) : Nat -> List Int
  | 0 => []
  | i + 1 => wN n (i / n) ++ [((i % n : Nat) : Int)]
termination_by i => i
decreasing_by exact Nat.lt_succ_of_le (Nat.div_le_self i n)
def gN (n : Nat) : Nat -> Nat
  | 0 => 0
  | m + 1 => 1 + n * gN n m
def upN (n k : Nat) : List (List Int) := (List.range k).map (wN n)
theorem wN_zero (n : Nat) : wN n 0 = [] := by rw [wN]
theorem wN_succ (n i : Nat) : wN n (i + 1) = wN n (i / n) ++ [((i % n : Nat) : Int)] := by rw [wN]
theorem wN_next {n i l : Nat} (hl : l < n) : wN n (1 + n * i + l) = wN n i ++ [(l : Int)] := by
  rw [show 1 + n * i + l = (n * i + l) + 1 by omega, wN_succ, Nat.mul_add_div (by omega), Nat.div_eq_of_lt hl, Nat.mul_add_mod, Nat.mod_eq_of_lt hl, Nat.add_zero]
theorem wN_lt {n : Nat} (hn : 1 <= n) : ∀ (m i : Nat), (wN n i).length < m ↔ i < gN n m
  | 0, i => by simp [gN]
  | m + 1, 0 => by simp [gN, wN_zero]; omega
  | m + 1, j + 1 => by
    rw [wN_succ, List.length_append, List.length_singleton, Nat.add_lt_add_iff_right, wN_lt hn m (j / n), Nat.div_lt_iff_lt_mul hn]
    show _ ↔ j + 1 < 1 + n * gN n m
    rw [Nat.mul_comm]
    omega
theorem wN_el {n : Nat} (hn : 1 <= n) : ∀ (i : Nat), ∀ l ∈ wN n i, 0 <= l /\ l < n := fun i => by
  induction i using Nat.strongRecOn with
  | _ i ih =>
    intro l hl
    cases i with
    | zero => rw [wN_zero] at hl; cases hl
    | succ j =>
      rw [wN_succ] at hl
      rcases List.mem_append.1 hl with hl | hl
      . exact ih (j / n) (Nat.lt_succ_of_le (Nat.div_le_self j n)) l hl
      . simp only [List.mem_singleton] at hl
        subst hl
        have := Nat.mod_lt j hn
        omega
theorem gN_le {n m : Nat} (hn : 1 <= n /\ n <= 3) (hm : m <= 7) : gN n m <= 1093 := by
  have key : ∀ n, n < 4 -> ∀ m, m < 8 -> gN n m <= 1093 := by decide
  exact key n (by omega) m (by omega)
@[simp] theorem upN_length (n k : Nat) : (upN n k).length = k := by simp [upN]
theorem upN_succ (n k : Nat) : upN n (k + 1) = upN n k ++ [wN n k] := by simp [upN, List.range_succ]
theorem upN_get {n k i : Nat} (h : i < k) : (upN n k)[i]? = some (wN n i) := by simp [upN, h]
theorem rws_snoc (xs : List (List Int)) (w : List Int) : rws (xs ++ [w]) = rws xs ++ [w.map (.int .i64)] := by simp [rws]
theorem rws_get {xs : List (List Int)} {i : Nat} {w : List Int} (h : xs[i]? = some w) : (rws xs)[i]? = some (w.map (.int .i64)) := by simp [rws, h]
theorem rws_clo (xs : List (List Int)) : ∀ ys ∈ rws xs, ∀ y ∈ ys, y.clo = true := fun ys hys y hy => by
  simp only [rws, List.mem_map] at hys
  obtain ⟨w, -, rfl⟩ := hys
  obtain ⟨v, -, rfl⟩ := List.mem_map.1 hy
  rfl
theorem AC.le1 {P : Program} {f : Nat} {x y : D} {r : D} (h : AC P f [y] r) (hl : D.Le x y) : AC P f [x] r := h.le rfl fun i u v hu hv => by
  cases i with
  | zero => simp at hu hv; subst hu hv; exact hl
  | succ i => simp at hu
theorem tags_none {n : Nat} {bs : List (Option Nat)} {xs : List (List Int)} {i : Nat} {w : List Int} (T : Tags n bs (rws xs)) (hx : xs[i]? = some w) (hb : bs[i]? = some none) : w.map (D.int .i64) = [] := by
  have := T.emp i hb
  rw [rws_get hx] at this
  exact Option.some.inj this
theorem impl_upTo {s o : Int} {nx ou : List (List Int)} {m : Nat} (hn : 1 <= nx.length /\ nx.length <= 3) (hm : m <= 6) :
    HC Tryz.prog 54 [.d (mach s o nx ou), .d (.int .i64 m)] [] (.own 30000) [(30000, .rows 43 2 1 (rws (upN nx.length (gN nx.length (m + 1)))) none)] := by
  have hG := gN_le hn (show m <= 7 by omega)
  have hG1 : gN nx.length (m + 1) = 1 + nx.length * gN nx.length m := rfl
  have hle : (List.map ints nx).length = nx.length := by simp
  have hw := fun i => wN_lt hn.1 m i
  rw [hG1]
  unfold mach
  refine hc_intro tabIs _ Tryz.func54 rfl rfl Tryz.ntmps54 rfl rfl rfl ?_ fun w0 ok0 XM XA anc he0 hX0 => ?_
  . exact likeIn_nil
  repeat (first | refine v_w (t := 8) ?_ | refine zc ?_ | refine u_w (t := 8) ?_ | refine zv ?_)
  refine awp_tag 9 rfl rfl fun bs0 T0 => ?_
  refine awp_loop (fun p : Nat × List (Option Nat) => p.1 <= gN nx.length m /\ Tags w0.heap.size p.2 (rws (upN nx.length (1 + nx.length * p.1)))) (fun p => [(1, .d (.int .i64 m)), (2, .d (.ptr (.agg [.int .i64 s, .int .i64 o, rows nx, rows ou]))), (5, .own 9), (6, .d (.int .i64 p.1))])
    (fun p => [(9, .arr 43 1 (tagL 2 1 p.2 (rws (upN nx.length (1 + nx.length * p.1)))))]) (fun p => gN nx.length m - p.1) (0, bs0) ⟨Nat.zero_le _, by simpa [upN, rws, wN_zero] using T0⟩ ?_ ?_ ?_
  . exact zs
  . show _ = _
    simp only [Nat.mul_zero, Nat.add_zero]
    simp only [upN, rws, List.range_one, List.map_cons, List.map_nil, wN_zero]
    rfl
  . rintro ⟨i, bs⟩ ⟨hi, T⟩
    dsimp only at hi T ⊢
    have hlenT : (tagL 2 1 bs (rws (upN nx.length (1 + nx.length * i)))).length = 1 + nx.length * i := by rw [tagL_length T.len, rws_length, upN_length]
    have hni : nx.length * i <= nx.length * gN nx.length m := Nat.mul_le_mul_left _ hi
    have hi1 : i <= nx.length * i := Nat.le_mul_of_pos_left i hn.1
    have hnG : nx.length * gN nx.length m <= 3 * 1093 := Nat.mul_le_mul hn.2 (gN_le hn (by omega))
    have hgi : (upN nx.length (1 + nx.length * i))[i]? = some (wN nx.length i) := upN_get (by omega)
    have hbl := T.len
    rw [rws_length, upN_length] at hbl
    obtain ⟨b, hb⟩ : ∃ b, bs[i]? = some b := ⟨_, List.getElem?_eq_getElem (by omega)⟩
    have hx : (tagL 2 1 bs (rws (upN nx.length (1 + nx.length * i))))[i]? = some (tagD 2 1 b ((wN nx.length i).map (.int .i64))) := tagL_get hb (rws_get hgi)
    have hx' : (tagL 2 1 bs (rws (upN nx.length (1 + nx.length * i))))[(i : Int).toNat]? = some (tagD 2 1 b ((wN nx.length i).map (.int .i64))) := by rw [Int.toNat_natCast]; exact hx
    have hone : (tagD 2 1 b ((wN nx.length i).map (D.int .i64))).one = true := by cases b <;> rfl
    have hbn : b = none -> (wN nx.length i).map (D.int .i64) = [] := fun hbn => tags_none T hgi (by rw [hb, hbn])
    have eS := AC.le1 (impl_size1 (ns := wN nx.length i)) (tagD_le (e := 2) (sz := 1) hbn)
    have hlt1 : (i : Int) < ((tagL 2 1 bs (rws (upN nx.length (1 + nx.length * i)))).length : Int) := by rw [hlenT]; omega
    have hwi := hw i
    by_cases hlt : i < gN nx.length m
    . have hwl := hwi.2 hlt
      repeat (first | refine zc ?_ | refine zv ?_)
      rw [decide_eq_true hlt1]
      repeat (first | refine zc ?_ | ((first | apply x_l | apply x_q | apply x_lr | apply x_qr); (focus (first | (apply wa_loadElt; (iterate 6 (focus (first | exact rfl | (first | assumption | omega | (simp; omega) | (simp; done) | rfl))))))); exact rfl) | refine zk (e := by exact eS) (n := ?_) | (apply v_x; (iterate 2 exact rfl); (focus (intro ok0 nw hle; (first | (apply wa_loadElt; (iterate 6 (focus (first | exact rfl | (first | assumption | omega | (simp; omega) | (simp; done) | rfl)))))))); (iterate 2 exact rfl)) | refine zv ?_)
      refine awp_loop (fun q : Nat × List (Option Nat) => q.1 <= nx.length /\ Tags w0.heap.size q.2 (rws (upN nx.length (1 + nx.length * i + q.1)))) (fun q => [(1, .d (.int .i64 m)), (2, .d (.ptr (.agg [.int .i64 s, .int .i64 o, rows nx, rows ou]))), (5, .own 9), (6, .d (.int .i64 i)), (27, .d (.int .i64 (List.map ints nx).length)), (28, .d (.int .i64 q.1))])
        (fun q => [(9, .arr 43 1 (tagL 2 1 q.2 (rws (upN nx.length (1 + nx.length * i + q.1)))))]) (fun q => nx.length - q.1) (0, bs) ⟨Nat.zero_le _, T⟩ ?_ rfl ?_
      . exact zs
      . rintro ⟨l, cs⟩ ⟨hl, T2⟩
        dsimp only at hl T2 ⊢
        have hgi2 : (upN nx.length (1 + nx.length * i + l))[i]? = some (wN nx.length i) := upN_get (by omega)
        have hbl2 := T2.len
        rw [rws_length, upN_length] at hbl2
        obtain ⟨b2, hb2⟩ : ∃ b, cs[i]? = some b := ⟨_, List.getElem?_eq_getElem (by omega)⟩
        have hx2 : (tagL 2 1 cs (rws (upN nx.length (1 + nx.length * i + l))))[(i : Int).toNat]? = some (tagD 2 1 b2 ((wN nx.length i).map (.int .i64))) := by rw [Int.toNat_natCast]; exact tagL_get hb2 (rws_get hgi2)
        have hone2 : (tagD 2 1 b2 ((wN nx.length i).map (D.int .i64))).one = true := by cases b2 <;> rfl
        have hbn2 : b2 = none -> (wN nx.length i).map (D.int .i64) = [] := fun hbn => tags_none T2 hgi2 (by rw [hb2, hbn])
        have hlen2 : (tagL 2 1 cs (rws (upN nx.length (1 + nx.length * i + l)))).length = 1 + nx.length * i + l := by rw [tagL_length T2.len, rws_length, upN_length]
        by_cases hll : l < nx.length
        . have hw1 : wN nx.length (1 + nx.length * i + l) = wN nx.length i ++ [(l : Int)] := wN_next hll
          have eJ := impl_joinWords (ps := [wN nx.length i, [(l : Int)]]) (by simp) (by simp; omega)
          rw [show [wN nx.length i, [(l : Int)]].flatten = wN nx.length (1 + nx.length * i + l) by rw [hw1]; simp] at eJ
          have hel2 : elsOk 1 [tagD 2 1 b2 ((wN nx.length i).map (D.int .i64)), .lst [.int .i64 l]] = true := by cases b2 <;> rfl
          have hLe : D.Le (.lst [tagD 2 1 b2 ((wN nx.length i).map (D.int .i64)), .lst [.int .i64 l]]) (rows [wN nx.length i, [(l : Int)]]) := .lst _ _ rfl fun k x y hx hy => by
            match k with
            | 0 => simp at hx hy; subst hx hy; exact tagD_le hbn2
            | 1 => simp at hx hy; subst hx hy; exact .refl _
            | k + 2 => simp at hx
          have hst : upN nx.length (1 + nx.length * i + (l + 1)) = upN nx.length (1 + nx.length * i + l) ++ [wN nx.length (1 + nx.length * i + l)] := upN_succ _ _
          generalize wN nx.length (1 + nx.length * i + l) = w at *
          repeat (first | refine zc ?_ | ((first | apply x_l | apply x_q | apply x_lr | apply x_qr); (focus (first | (apply wa_loadElt; (iterate 6 (focus (first | exact rfl | (first | assumption | omega | (simp; omega) | (simp; done) | rfl))))) | (apply wa_lit; (iterate 10 (focus (first | exact rfl | (first | assumption | omega | (simp; omega) | (simp; done) | rfl))))))); exact rfl) | (apply v_x; (iterate 2 exact rfl); (focus (intro ok0 nw hle; (first | (apply wa_loadElt; (iterate 6 (focus (first | exact rfl | (first | assumption | omega | (simp; omega) | (simp; done) | rfl))))) | (apply wa_lit; (iterate 10 (focus (first | exact rfl | (first | assumption | omega | (simp; omega) | (simp; done) | rfl)))))))); (iterate 2 exact rfl)) | refine zv ?_)
          refine awpL_untag 38 rfl hLe ?_
          refine hcl [] [(30000, 500)] eJ ?_
          refine awpL_tagPush 500 9 T2 rfl rfl rfl fun ob T3 => ?_
          have helo : elsOk 1 [tagD 2 1 ob (w.map (D.int .i64))] = true := elsOk_tag
          repeat (first | refine zc ?_ | ((first | apply x_l | apply x_q | apply x_lr | apply x_qr); (focus (first | (apply wa_lit; (iterate 10 (focus (first | exact rfl | (first | assumption | omega | (simp; omega) | (simp; done) | rfl))))))); exact rfl) | (apply v_x; (iterate 2 exact rfl); (focus (intro ok0 nw hle; (first | (apply wa_lit; (iterate 10 (focus (first | exact rfl | (first | assumption | omega | (simp; omega) | (simp; done) | rfl)))))))); (iterate 2 exact rfl)) | refine zv ?_)
          refine awpL_to rfl (by apply wo_append; (iterate 14 exact rfl); exact elsOk_tag; (simp only [hlen2, List.length_singleton]; omega)) ?_
          repeat (first | refine zc ?_ | refine zv ?_)
          refine loop_n (l + 1, cs ++ [ob]) ⟨by show l + 1 <= _; omega, by rw [hst, rws_snoc]; exact T3⟩ ?_ ?_ (by show _ - (l + 1) < _ - l; omega)
          . exact zs
          . show [_] = _
            rw [hst, rws_snoc, tagL_snoc T2.len]
            rfl
        . have hln : l = nx.length := by omega
          subst hln
          have hst : 1 + nx.length * (i + 1) = 1 + nx.length * i + nx.length := by rw [Nat.mul_succ]; omega
          repeat (first | refine zc ?_ | refine zv ?_)
          refine loop_n (i + 1, cs) ⟨by show i + 1 <= _; omega, by rw [hst]; exact T2⟩ ?_ ?_ (by show _ - (i + 1) < _ - i; omega)
          . exact zs
          . show [_] = _
            rw [hst]
    . have hie : i = gN nx.length m := by omega
      subst hie
      have hwl : ¬ ((wN nx.length (gN nx.length m)).length < m) := fun h => hlt (hwi.1 h)
      repeat (first | refine zc ?_ | refine zv ?_)
      rw [decide_eq_true hlt1]
      repeat (first | refine zc ?_ | ((first | apply x_l | apply x_q | apply x_lr | apply x_qr); (focus (first | (apply wa_loadElt; (iterate 6 (focus (first | exact rfl | (first | assumption | omega | (simp; omega) | (simp; done) | rfl))))))); exact rfl) | refine zk (e := by exact eS) (n := ?_) | (apply v_x; (iterate 2 exact rfl); (focus (intro ok0 nw hle; (first | (apply wa_loadElt; (iterate 6 (focus (first | exact rfl | (first | assumption | omega | (simp; omega) | (simp; done) | rfl)))))))); (iterate 2 exact rfl)) | refine zv ?_)
      refine awp_thawRows 4 9 rfl rfl T rfl (rws_clo _) rfl ?_
      (refine zb ?_; refine u_rH [(9, 30000)] ?_ ?_)
      . rfl
      . rfl
theorem spec_l07Up {n m : Nat} (hn : 1 <= n /\ n <= 3) (hm : m <= 6) : AC Tryz.prog 44 [.int .i64 n, .int .i64 m] (rows (upN n (gN n (m + 1)))) := by
  have hG := gN_le hn (show m <= 7 by omega)
  have hG1 : gN n (m + 1) = 1 + n * gN n m := rfl
  have hnG : n * gN n m <= 3 * 1093 := Nat.mul_le_mul hn.2 hG
  have hw := fun i => wN_lt hn.1 m i
  have hGG : gN n m <= n * gN n m := Nat.le_mul_of_pos_left _ hn.1
  rw [hG1]
  refine ac_intro tabIs _ Tryz.func44 rfl rfl Tryz.ntmps44 rfl rfl fun w0 ok0 he0 => ?_
  repeat (first | refine v_w (t := 9) ?_ | refine zc ?_ | refine u_w (t := 9) ?_ | refine zv ?_)
  refine awp_loop (fun i : Nat => i <= 1 + n * gN n m) (fun i => [(0, .d (.int .i64 n)), (1, .d (.int .i64 m)), (5, .own 9), (6, .d (.int .i64 i))]) (fun i => [(9, .arr 43 1 ((upN n (1 + n * min i (gN n m))).map ints))]) (fun i => 1 + n * gN n m - i) 0 (by omega) ?_ ?_ ?_
  . exact zs
  . simp only [Nat.zero_min, Nat.mul_zero, Nat.add_zero, upN, List.range_one, List.map_cons, List.map_nil, wN_zero]
    rfl
  . intro i hi
    have hlenA : ((upN n (1 + n * min i (gN n m))).map ints).length = 1 + n * min i (gN n m) := by rw [List.length_map, upN_length]
    by_cases hlt : i < gN n m
    . have hmin : min i (gN n m) = i := Nat.min_eq_left (by omega)
      have hmin1 : min (i + 1) (gN n m) = i + 1 := Nat.min_eq_left (by omega)
      have hi1 : i <= n * i := Nat.le_mul_of_pos_left i hn.1
      have hni : n * i <= n * gN n m := Nat.mul_le_mul_left _ (by omega)
      have hni2 : n * (i + 1) <= n * gN n m := Nat.mul_le_mul_left _ (by omega)
      rw [Nat.mul_succ] at hni2
      rw [hmin] at hlenA ⊢
      have hwl := (hw i).2 hlt
      have hlw : ((wN n i).map (D.int .i64)).length = (wN n i).length := by simp
      have hx0 : ((upN n (1 + n * i)).map ints)[(i : Int).toNat]? = some (ints (wN n i)) := by rw [Int.toNat_natCast]; simp [upN_get (n := n) (k := 1 + n * i) (i := i) (by omega)]
      repeat (first | refine zc ?_ | refine zv ?_)
      refine awp_loop (fun k : Nat => k <= n) (fun k => [(0, .d (.int .i64 n)), (1, .d (.int .i64 m)), (5, .own 9), (6, .d (.int .i64 i)), (7, .d (.int .i64 k))]) (fun k => [(9, .arr 43 1 ((upN n (1 + n * i + k)).map ints))]) (fun k => n - k) 0 (by omega) ?_ rfl ?_
      . exact zs
      . intro k hk
        have hx : ((upN n (1 + n * i + k)).map ints)[(i : Int).toNat]? = some (ints (wN n i)) := by rw [Int.toNat_natCast]; simp [upN_get (n := n) (k := 1 + n * i + k) (i := i) (by omega)]
        have hlenB : ((upN n (1 + n * i + k)).map ints).length = 1 + n * i + k := by rw [List.length_map, upN_length]
        have hd : ((List.map (D.int .i64) (wN n i)).length : Int) < (m : Int) := by rw [hlw]; omega
        by_cases hkn : k < n
        . have hw1 : wN n (1 + n * i + k) = wN n i ++ [(k : Int)] := wN_next hkn
          have e1 := spec_l00OwnH (ns := wN n i) (by omega)
          have hst : (upN n (1 + n * i + (k + 1))).map ints = (upN n (1 + n * i + k)).map ints ++ [ints (wN n (1 + n * i + k))] := by rw [<- Nat.add_assoc, upN_succ, List.map_append]; rfl
          repeat (first | refine zc ?_ | refine zv ?_)
          rw [decide_eq_true hd]
          repeat (first | refine zc ?_ | refine zv ?_)
          refine hcl [] [(30000, 500)] e1 ?_
          (iterate 2 (refine u_l ?_))
          refine awpL_to rfl (by apply wo_append; (iterate 14 exact rfl); exact elsOk_ints [(k : Int)]; (simp; omega)) ?_
          refine awpL_freeze 500 rfl rfl ?_
          repeat (first | refine zc ?_ | refine zv ?_)
          refine loop_n (k + 1) (by omega) ?_ ?_ (by omega)
          . exact zs
          . rw [hst, hw1]; simp only [ints, List.map_append]; rfl
        . have hkn' : k = n := by omega
          subst hkn'
          have hst : 1 + k * (i + 1) = 1 + k * i + k := by rw [Nat.mul_succ]; omega
          repeat (first | refine zc ?_ | refine zv ?_)
          rw [decide_eq_true hd]
          repeat (first | refine zc ?_ | refine zv ?_)
          refine loop_n (i + 1) (by omega) ?_ ?_ (by omega)
          . exact zs
          . rw [hmin1, hst]
    . have hmin : min i (gN n m) = gN n m := Nat.min_eq_right (by omega)
      have hmin1 : min (i + 1) (gN n m) = gN n m := Nat.min_eq_right (by omega)
      rw [hmin] at hlenA ⊢
      by_cases hlt2 : i < 1 + n * gN n m
      . have hwl : ¬ (wN n i).length < m := fun h => hlt ((hw i).1 h)
        have hlw : ((wN n i).map (D.int .i64)).length = (wN n i).length := by simp
        have hx : ((upN n (1 + n * gN n m)).map ints)[(i : Int).toNat]? = some (ints (wN n i)) := by rw [Int.toNat_natCast]; simp [upN_get (n := n) (k := 1 + n * gN n m) (i := i) (by omega)]
        have hd : ¬ ((List.map (D.int .i64) (wN n i)).length : Int) < (m : Int) := by rw [hlw]; omega
        repeat (first | refine zc ?_ | refine zv ?_)
        refine awp_loop (fun k : Nat => k = 0) (fun k => [(0, .d (.int .i64 n)), (1, .d (.int .i64 m)), (5, .own 9), (6, .d (.int .i64 i)), (7, .d (.int .i64 0))]) (fun k => [(9, .arr 43 1 ((upN n (1 + n * gN n m)).map ints))]) (fun k => 0) 0 rfl ?_ rfl ?_
        . exact zs
        . intro k hk
          repeat (first | refine zc ?_ | refine zv ?_)
          rw [decide_eq_false hd]
          repeat (first | refine zc ?_ | refine zv ?_)
          refine loop_n (i + 1) (by omega) ?_ ?_ (by omega)
          . exact zs
          . rw [hmin1]
      . repeat (first | refine zc ?_ | refine zv ?_)
        refine zt ?_
        rfl
end Go.Proofs.YtfemhnmggobhjaaGreat
namespace Go.Proofs.YtfemhnmggobhjaaGreat
open Go
attribute [local irreducible] awp awpL awpQL awpQ awpM pWalk Qt AC thenQ blockQ loopQ OpTo
set_option linter.unusedVariables false
set_option linter.unusedSimpArgs false
set_option maxHeartbeats 2000000
attribute [local irreducible] HC
section
variable {α : Type}
def kpG (p : List Int -> Bool) (ws : List (List Int)) (l : List α) : Nat -> List α
  | 0 => []
  | j + 1 => kpG p ws l j ++ match l[j]? with
    | some x => if p (ws.getD j []) then [] else [x]
    | none => []
theorem kpG_len {p : List Int -> Bool} {ws : List (List Int)} {l : List α} : ∀ j, (kpG p ws l j).length <= j
  | 0 => Nat.le_refl _
  | j + 1 => by
    have := kpG_len (p := p) (ws := ws) (l := l) j
    unfold kpG
    rw [List.length_append]
    cases l[j]? with
    | none => simp; omega
    | some x => simp only []; split <;> simp <;> omega
theorem kpG_step {p : List Int -> Bool} {ws : List (List Int)} {l : List α} {j : Nat} {x : α} (hx : l[j]? = some x) : kpG p ws l (j + 1) = kpG p ws l j ++ if p (ws.getD j []) then [] else [x] := by
  conv => lhs; unfold kpG
  rw [hx]
theorem kpG_none {p : List Int -> Bool} {ws : List (List Int)} {l : List α} : ∀ j, j <= l.length -> (∀ i, i < j -> p (ws.getD i []) = false) -> kpG p ws l j = l.take j
  | 0, _, _ => by simp [kpG]
  | j + 1, hj, h => by
    have ih := kpG_none (p := p) (ws := ws) (l := l) j (by omega) fun i hi => h i (by omega)
    have hx : l[j]? = some (l[j]'(by omega)) := List.getElem?_eq_getElem (by omega)
    rw [kpG_step hx, ih, h j (by omega), List.take_succ_eq_append_getElem (by omega)]
    simp
def delA (p : List Int -> Bool) (ws : List (List Int)) (l : List α) : Nat -> List α
  | 0 => l
  | j + 1 => match l[j]? with
    | some x => if p (ws.getD j []) then delA p ws l j else (delA p ws l j).set (kpG p ws l j).length x
    | none => delA p ws l j
theorem delA_step {p : List Int -> Bool} {ws : List (List Int)} {l : List α} {j : Nat} {x : α} (hx : l[j]? = some x) : delA p ws l (j + 1) = if p (ws.getD j []) then delA p ws l j else (delA p ws l j).set (kpG p ws l j).length x := by
  conv => lhs; unfold delA
  rw [hx]
theorem delA_len {p : List Int -> Bool} {ws : List (List Int)} {l : List α} : ∀ j, (delA p ws l j).length = l.length
  | 0 => rfl
  | j + 1 => by
    have := delA_len (p := p) (ws := ws) (l := l) j
    unfold delA
    cases l[j]? with
    | none => exact this
    | some x => simp only []; split <;> simp [this]
theorem delA_get {p : List Int -> Bool} {ws : List (List Int)} {l : List α} : ∀ j i : Nat, j <= i -> (delA p ws l j)[i]? = l[i]?
  | 0, _, _ => rfl
  | j + 1, i, h => by
    have ih := delA_get (p := p) (ws := ws) (l := l) j i (by omega)
    have hk := kpG_len (p := p) (ws := ws) (l := l) j
    unfold delA
    cases l[j]? with
    | none => exact ih
    | some x =>
      simp only []
      split
      . exact ih
      . rw [List.getElem?_set_ne (by omega)]; exact ih
theorem delA_take {p : List Int -> Bool} {ws : List (List Int)} {l : List α} : ∀ j, j <= l.length -> (delA p ws l j).take (kpG p ws l j).length = kpG p ws l j
  | 0, _ => by simp [kpG]
  | j + 1, hj => by
    have ih := delA_take (p := p) (ws := ws) (l := l) j (by omega)
    have hk := kpG_len (p := p) (ws := ws) (l := l) j
    have hl := delA_len (p := p) (ws := ws) (l := l) j
    have hx : l[j]? = some (l[j]'(by omega)) := List.getElem?_eq_getElem (by omega)
    rw [kpG_step hx]
    unfold delA
    rw [hx]
    simp only []
    split
    . simpa using ih
    . rw [List.length_append, List.length_singleton, List.take_succ_eq_append_getElem (by simp; omega), List.take_set_of_le (Nat.le_refl _), ih]
      simp
theorem delA_same {p : List Int -> Bool} {ws : List (List Int)} {l : List α} : ∀ j, j <= l.length -> (∀ i, i < j -> p (ws.getD i []) = false) -> delA p ws l j = l
  | 0, _, _ => rfl
  | j + 1, hj, h => by
    have ih := delA_same (p := p) (ws := ws) (l := l) j (by omega) fun i hi => h i (by omega)
    have hk := kpG_none (p := p) (ws := ws) (l := l) j (by omega) fun i hi => h i (by omega)
    have hx : l[j]? = some (l[j]'(by omega)) := List.getElem?_eq_getElem (by omega)
    unfold delA
    rw [hx]
    simp only []
    rw [h j (by omega), ih, hk, List.length_take, Nat.min_eq_left (by omega)]
    simp
end
theorem findI_spec {p : List Int -> Bool} : ∀ (ws : List (List Int)) (k : Nat), (findI p k ws = -1 /\ ∀ w ∈ ws, p w = false) \/ ∃ i : Nat, i < ws.length /\ findI p k ws = (k : Int) + i /\ p (ws.getD i []) = true /\ ∀ j, j < i -> p (ws.getD j []) = false
  | [], k => .inl ⟨rfl, by simp⟩
  | w :: ws, k => by
    unfold findI
    cases hp : p w with
    | true => exact .inr ⟨0, by simp, by simp, by simpa using hp, by omega⟩
    | false =>
      simp only [Bool.false_eq_true, if_false]
      rcases findI_spec ws (k + 1) with ⟨h1, h2⟩ | ⟨i, h1, h2, h3, h4⟩
      . exact .inl ⟨h1, by simpa [hp] using h2⟩
      . refine .inr ⟨i + 1, by simp; omega, by rw [h2]; push_cast; omega, by simpa using h3, fun j hj => ?_⟩
        cases j with
        | zero => simpa using hp
        | succ j => simpa using h4 j (by omega)
theorem slices_DeleteFunc {ds : List D} {ws : List (List Int)} {g : Nat} {cap : List D} (p : List Int -> Bool) (hlen : ds.length = ws.length) (hle : ∀ (i : Nat) d w, ds[i]? = some d -> ws[i]? = some w -> D.Le d (ints w)) (hel : ∀ d ∈ ds, d.el = true /\ d.width = 1 /\ d.one = true)
    (hl : ws.length <= 100000) (hp : ∀ w ∈ ws, AC Tryz.prog g (ints w :: cap) (.bool (p w))) :
    HC Tryz.prog 107 [.own 20000, .d (.fn g cap)] [(20000, .arr 43 1 ds)] (.own 20000) [(20000, .arr 43 1 (kpG p ws ds ws.length))] := by
  have eI : AC Tryz.prog 135 [.lst ds, .fn g cap] (.int .i64 (findI p 0 ws)) := (indexFunc_row p hp (by omega)).le rfl fun i x y hx hy => by
    match i with
    | 0 =>
      simp at hx hy; subst hx hy
      exact .lst _ _ (by simpa using hlen) fun k d y hd hy => by
        rw [List.getElem?_map, Option.map_eq_some_iff] at hy
        obtain ⟨w, hw, rfl⟩ := hy
        exact hle k d w hd hw
    | 1 => simp at hx hy; subst hx hy; exact .refl _
    | k + 2 => simp at hx
  rcases findI_spec (p := p) ws 0 with ⟨h1, h2⟩ | ⟨i0, h1, h2, h3, h4⟩
  . rw [h1] at eI
    have hall : kpG p ws ds ws.length = ds := by
      rw [kpG_none _ (by omega) fun i hi => by rw [List.getD_eq_getElem?_getD, List.getElem?_eq_getElem hi]; exact h2 _ (List.getElem_mem hi), List.take_of_length_le (by omega)]
    rw [hall]
    refine hc_intro tabIs _ Tryz.func107 rfl rfl Tryz.ntmps107 rfl rfl rfl ?_ fun w0 ok0 XM XA anc he0 hX0 => ?_
    . exact fun p hp ha => by simp at hp; subst hp; cases ha
    repeat (first | refine zc ?_ | refine zk (e := by exact eI) (n := ?_) | refine zv ?_)
    (refine zb ?_; refine u_rH [(20000, 20000)] ?_ ?_)
    . rfl
    . rfl
  . rw [h2] at eI
    have hpi : p (ws.getD i0 []) = true := h3
    have hx0 : ds[i0]? = some (ds[i0]'(by omega)) := List.getElem?_eq_getElem (by omega)
    have hd1 : delA p ws ds (i0 + 1) = ds := by
      have := delA_same (p := p) (ws := ws) (l := ds) i0 (by omega) h4
      rw [delA_step hx0, if_pos hpi, this]
    have hk1 : (kpG p ws ds (i0 + 1)).length = i0 := by
      rw [kpG_step hx0, hpi, kpG_none _ (by omega) h4]
      simp; omega
    have hq : ∀ (j : Nat) d, ds[j]? = some d -> AC Tryz.prog g (d :: cap) (.bool (p (ws.getD j []))) := fun j d hd => by
      have hj : j < ws.length := by
        rcases Nat.lt_or_ge j ds.length with h | h
        . omega
        . simp [h] at hd
      have hw : ws[j]? = some ws[j] := List.getElem?_eq_getElem hj
      rw [show ws.getD j [] = ws[j] by simp [List.getD_eq_getElem?_getD, hw]]
      exact (hp _ (List.getElem_mem hj)).le rfl fun i x y hx hy => by
        match i with
        | 0 => simp at hx hy; subst hx hy; exact hle j _ _ hd hw
        | i + 1 => simp at hx hy; rw [hx] at hy; cases hy; exact .refl _
    refine hc_intro tabIs _ Tryz.func107 rfl rfl Tryz.ntmps107 rfl rfl rfl ?_ fun w0 ok0 XM XA anc he0 hX0 => ?_
    . exact fun p hp ha => by simp at hp; subst hp; cases ha
    repeat (first | refine zc ?_ | refine zk (e := by exact eI) (n := ?_) | refine zv ?_)
    refine awp_loop (fun j : Nat => i0 + 1 <= j /\ j <= ws.length) (fun j => [(0, .own 20000), (1, .d (.fn g cap)), (5, .d (.int .i64 (kpG p ws ds j).length)), (6, .d (.int .i64 j))]) (fun j => [(20000, .arr 43 1 (delA p ws ds j))]) (fun j => ws.length - j) (i0 + 1) ⟨Nat.le_refl _, h1⟩ ?_ ?_ ?_
    . rw [hk1]
      refine ⟨rfl, rfl, ?_, ?_, trivial⟩
      . show SV.d (.int .i64 ((0 : Int) + i0)) = _
        rw [Int.zero_add]
      . show SV.d (.int .i64 ((0 : Int) + i0 + 1)) = SV.d (.int .i64 ((i0 + 1 : Nat) : Int))
        rw [Int.zero_add]; rfl
    . rw [hd1]
    . rintro j ⟨hj0, hj⟩
      have hA := delA_len (p := p) (ws := ws) (l := ds) j
      have hK := kpG_len (p := p) (ws := ws) (l := ds) j
      by_cases hlt : j < ws.length
      . have hx : ds[j]? = some (ds[j]'(by omega)) := List.getElem?_eq_getElem (by omega)
        have hxA : (delA p ws ds j)[(j : Int).toNat]? = some (ds[j]'(by omega)) := by rw [Int.toNat_natCast, delA_get j j (Nat.le_refl _)]; exact hx
        obtain ⟨d1, d2, d3⟩ := hel _ (List.getElem_mem (show j < ds.length by omega))
        have eq := hq j _ hx
        have hsA := delA_step (p := p) (ws := ws) hx
        have hsK := kpG_step (p := p) (ws := ws) hx
        generalize ds[j]'(by omega) = d at *
        generalize ws.getD j [] = w at *
        cases hpw : p w with
        | true =>
          rw [hpw] at eq
          rw [hpw, if_pos rfl] at hsA
          rw [hpw, if_pos rfl, List.append_nil] at hsK
          repeat (first | refine zc ?_ | ((first | apply x_l | apply x_q | apply x_lr | apply x_qr); (focus (first | (apply wa_loadElt; (iterate 6 (focus (first | exact rfl | (first | assumption | omega | (simp; omega) | (simp; done) | rfl))))))); exact rfl) | refine zk (e := by exact eq) (n := ?_) | (apply v_x; (iterate 2 exact rfl); (focus (intro ok0 nw hle; (first | (apply wa_loadElt; (iterate 6 (focus (first | exact rfl | (first | assumption | omega | (simp; omega) | (simp; done) | rfl)))))))); (iterate 2 exact rfl)) | refine zv ?_)
          refine loop_n (j + 1) ⟨by omega, by omega⟩ ?_ ?_ (by omega)
          . rw [hsK]; exact zs
          . rw [hsA]
        | false =>
          rw [hpw] at eq
          rw [hpw, if_neg (by simp)] at hsA
          rw [hpw, if_neg (by simp)] at hsK
          repeat (first | refine zc ?_ | ((first | apply x_l | apply x_q | apply x_lr | apply x_qr); (focus (first | (apply wa_loadElt; (iterate 6 (focus (first | exact rfl | (first | assumption | omega | (simp; omega) | (simp; done) | rfl))))))); exact rfl) | refine zk (e := by exact eq) (n := ?_) | (apply v_x; (iterate 2 exact rfl); (focus (intro ok0 nw hle; (first | (apply wa_loadElt; (iterate 6 (focus (first | exact rfl | (first | assumption | omega | (simp; omega) | (simp; done) | rfl)))))))); (iterate 2 exact rfl)) | refine zv ?_)
          refine awpL_to rfl (by apply wo_storeElt; (iterate 4 exact rfl); exact d1; exact d2; exact rfl; (simp only [Int.toNat_natCast]; omega)) ?_
          repeat (first | refine zc ?_ | refine zv ?_)
          refine loop_n (j + 1) ⟨by omega, by omega⟩ ?_ ?_ (by omega)
          . rw [hsK, List.length_append, List.length_singleton, Int.natCast_add]; exact zs
          . rw [hsA]; rfl
      . have hje : j = ws.length := by omega
        subst hje
        have hT := delA_take (p := p) (ws := ws) (l := ds) ws.length (by omega)
        repeat (first | refine zc ?_ | refine zv ?_)
        refine awpL_clear ?_ rfl rfl rfl rfl rfl rfl rfl rfl rfl rfl rfl rfl rfl (by omega) (by omega)
        repeat (first | refine zc ?_ | refine zv ?_)
        refine awpL_to rfl (by apply wo_cut; (iterate 8 exact rfl); omega; (simp only [Int.toNat_natCast, List.length_append, List.length_take, List.length_replicate]; omega)) ?_
        repeat (first | refine zc ?_ | refine zv ?_)
        have hfin : List.take ((kpG p ws ds ws.length).length : Int).toNat (List.take ((kpG p ws ds ws.length).length : Int).toNat (delA p ws ds ws.length) ++ List.replicate ((delA p ws ds ws.length).length - ((kpG p ws ds ws.length).length : Int).toNat) D.nils) = kpG p ws ds ws.length := by
          rw [Int.toNat_natCast, hT, List.take_left' rfl]
        (refine zb ?_; refine u_rH [(20000, 20000)] ?_ ?_)
        . rfl
        . exact congrArg (fun l => some [(20000, Chunk.arr 43 1 l)]) hfin
end Go.Proofs.YtfemhnmggobhjaaGreat
namespace Go.Proofs.YtfemhnmggobhjaaGreat
open Go
attribute [local irreducible] awp awpL awpQL awpQ awpM pWalk Qt AC thenQ blockQ loopQ OpTo
set_option linter.unusedVariables false
set_option linter.unusedSimpArgs false
set_option maxHeartbeats 2000000
attribute [local irreducible] HC
def lenW (n m : Nat) : List (List Int) := (upN n (gN n (m + 1))).filter fun w => !decide (¬ w.length = m)
end Go.Proofs.YtfemhnmggobhjaaGreat
