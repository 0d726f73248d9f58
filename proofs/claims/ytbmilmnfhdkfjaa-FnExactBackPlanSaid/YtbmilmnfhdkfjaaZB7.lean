import Derived.Test.YtbmilmnfhdkfjaaZB6
section
/- Contracts: the law DropVain. -/
set_option linter.unusedVariables false
set_option linter.unusedSimpArgs false
set_option maxRecDepth 100000
set_option maxHeartbeats 4000000
namespace Go.Proofs.Ytbmilmnfhdkfjaa
open Go Go.RowKit Go.Proofs.Ytbmilmnfhdkfjaa.Abs
variable {W0 : World} {σ : List Blk}
theorem c_law_DropVainF (a b c d e f : Int) (v1 v2 : Value) (xs ys : List (List Int)) (h1 : Sli W0 [] 6 enI (.lit v1) xs) (h2 : Sli W0 [] 4 enI (.lit v2) ys) (hx : ∀ x ∈ xs, x.length = 6) (hy : ∀ x ∈ ys, x.length = 4) (hl : xs.length ≤ 1048576) (hl2 : ys.length ≤ 1048576) (hz : ¬ ((1048576 : Int) - xs.length - ys.length < 0)) (hg : planB a b c d e f xs ys = false) (K : Cont) (h0 : K (Bo true) []) : ACall Try.prog W0 14 [PlA a b c d e f (.lit v1) (.lit v2)] [] K := by
  have hm' : xs.length ≤ 9223372036854775807 := by omega
  have hm2' : ys.length ≤ 9223372036854775807 := by omega
  have h6 := shSB_len hx
  have h4 := stSB_len hy
  refine by14 (Nat.le_of_ble_eq_true rfl) ?_
  repeat' ((conv => whnf); first
    | (refine And.intro rfl ?_)
    | (refine And.intro (by decide +kernel) ?_)
    | (refine And.intro trivial ?_)
    | (refine d_szPlan (h1 := sli_up h1) (h2 := sli_up h2) (hl := hm') (hl2 := hm2') (hm := by decide) (h0 := fun h => ?_) (h00 := fun h => absurd h hz) ..)
    | (refine d_toPlan (h1 := sli_up h1) (h2 := sli_up h2) (hx := hx) (hy := hy) (hl := hl) (hl2 := hl2) (h0 := fun A B C => ?_) ..)
    | (refine d_sDropVF (h1 := sli_rows hx rfl) (h2 := sli_rows hy rfl) (n1 := sl_nn) (n2 := sl_nn) (hx := hx) (hy := hy) (hl := hl) (hl2 := hl2) (hg := hg) (h0 := ?_) ..)
    | (refine d_DropVF (h1 := sli_rows hx rfl) (h2 := sli_rows hy rfl) (n1 := sl_nn) (n2 := sl_nn) (hx := hx) (hy := hy) (hg := hg) (h0 := ?_) ..)
    | (refine d_markPlan0 (h0 := ?_) ..)
    | (refine d_heldPlan (n1 := 0) (n2 := 0) (h1 := .nil) (h2 := .nil) (hm1 := by omega) (hm2 := by omega) (hk := by omega) (h0 := ?_) ..)
    | (refine d_eqPlan (xs := []) (ys := []) (h1 := .nil) (h2 := .nil) (g1 := .nil) (g2 := .nil) (hx := by simp) (hy := by simp) (hl := by decide) (hl2 := by decide) (h0 := ?_) ..)
    | (refine Exists.intro _ (And.intro (callW_fn (d_eqPlan (h1 := sli_rows hx rfl) (h2 := sli_rows hy rfl) (g1 := sli_rows hx rfl) (g2 := sli_rows hy rfl) (hx := hx) (hy := hy) (hl := hl) (hl2 := hl2) (h0 := And.intro rfl rfl) ..)) ?_))
    | (refine d_markPlan (B1 := shSB xs) (B2 := stSB ys) (hB1 := rfl) (hB2 := rfl) (hv1 := rfl) (hv2 := rfl) (hne := by simp) (hn1 := h6) (hn2 := h4) (hm1 := hl) (hm2 := hl2) (hk := by omega) (h0 := fun A => ?_) ..)
    | (refine Exists.intro _ (And.intro rfl (And.intro rfl (And.intro (Nat.le_of_ble_eq_true rfl) ?_))))
    | (refine Exists.intro _ (And.intro rfl (And.intro rfl (And.intro rfl (And.intro (Nat.le_of_ble_eq_true rfl) ?_)))))
    | (refine And.intro (Exists.intro _ (And.intro rfl rfl)) ?_)
    | (exact fun hW => absurd hW (by decide +kernel))
    | (intro hW; (try simp only [Bool.not_true, Bool.not_false, Bool.not_eq_true', Bool.not_eq_false', decide_eq_true_eq, decide_eq_false_iff_not, reduceCtorEq, Bool.true_eq_false, Bool.false_eq_true, mk_size, List.size_toArray, ByteArray.size_append, ByteArray.size_extract, List.length_cons, List.length_nil, ba_get, ba_empty, Int.toNat_natCast] at hW))
    | (refine And.intro (?_ : _ → _) (?_ : _ → _))
    | (refine FinR.drop 0 (Nat.zero_le _) (Closed.zero _) rfl ?_)
    | (refine FinR.keep ?_)
    | (refine And.intro (det3_agg rfl) ?_)
    | (refine fL_mk ?_)
    | (refine And.intro (by (try simp only [mk_size, List.size_toArray, ByteArray.size_append, ByteArray.size_extract, List.length_cons, List.length_nil]); omega) ?_)
    | (refine And.intro (by (try simp only [mk_size, List.size_toArray, ByteArray.size_append, ByteArray.size_extract, List.length_cons, List.length_nil, wrap64_eq]); omega) ?_)
    | fail)
  all_goals first | exact h0 | (exfalso; omega) | (exfalso; simp_all; done) | skip
theorem c_law_DropVainT (a b c d e f : Int) (v1 v2 : Value) (xs ys : List (List Int)) (h1 : Sli W0 [] 6 enI (.lit v1) xs) (h2 : Sli W0 [] 4 enI (.lit v2) ys) (hx : ∀ x ∈ xs, x.length = 6) (hy : ∀ x ∈ ys, x.length = 4) (hl : xs.length ≤ 1048576) (hl2 : ys.length ≤ 1048576) (hz : ¬ ((1048576 : Int) - xs.length - ys.length < 0)) (hg : planB a b c d e f xs ys = true) (K : Cont) (h0 : K (Bo true) []) : ACall Try.prog W0 14 [PlA a b c d e f (.lit v1) (.lit v2)] [] K := by
  have hm' : xs.length ≤ 9223372036854775807 := by omega
  have hm2' : ys.length ≤ 9223372036854775807 := by omega
  have h6 := shSB_len hx
  have h4 := stSB_len hy
  have hyL : ∀ x ∈ kpL (vainL xs ys (stN [a, b, c, d, e, f])) ys ys.length, x.length = 4 := kpL_rows hy _ (Nat.le_refl _)
  have hlL : (kpL (vainL xs ys (stN [a, b, c, d, e, f])) ys ys.length).length ≤ 1048576 := Nat.le_trans (kpL_len _ _ _) hl2
  generalize hL : kpL (vainL xs ys (stN [a, b, c, d, e, f])) ys ys.length = L at hyL hlL
  have h4L : L.length * 4 ≤ (jc L).length := by rw [jc_len (s := 4) hyL]; exact Nat.le_refl _
  have h6L : xs.length * 6 ≤ (jc xs).length := by rw [jc_len (s := 6) hx]; exact Nat.le_refl _
  refine by14 (Nat.le_of_ble_eq_true rfl) ?_
  repeat' ((conv => whnf); first
    | (refine And.intro rfl ?_)
    | (refine And.intro (by decide +kernel) ?_)
    | (refine And.intro trivial ?_)
    | (refine fS_mk ?_)
    | (refine d_szPlan (h1 := sli_up h1) (h2 := sli_up h2) (hl := hm') (hl2 := hm2') (hm := by decide) (h0 := fun h => ?_) (h00 := fun h => absurd h hz) ..)
    | (have hz9 := j1e; refine d_eqPlan (xs := xs) (ys := L) (h1 := sli_rows hx (getx1 j1e)) (h2 := sli_rows hyL (getx1 j2e)) (g1 := sli_rows hx (getx1 w1e)) (g2 := sli_rows hyL (getx1 w2e)) (hx := hx) (hy := hyL) (hl := hl) (hl2 := hlL) (h0 := ?_) ..)
    | (have hz9 := j1e; refine d_heldPlan (n1 := xs.length) (n2 := L.length) (h1 := sli_rowsM3 (B := shK xs _) rfl (getx1 m1e) rfl) (h2 := sli_rowsM3 (B := stK L _) rfl (getx1 m2e) rfl) (hm1 := hl) (hm2 := hlL) (hk := by omega) (h0 := ?_) ..)
    | (have hz9 := y1e; refine d_DropVL (L := L) (hL := hL.symm) (h1 := sli_rows hx y1e) (h2 := sli_rows hy y2e) (n1 := sl_nn) (n2 := sl_nn) (hx := hx) (hy := hy) (hg := hg) (h0 := fun S9 j1 jr1 jc1 j2 jr2 jc2 j1e j2e j1l j2l hk => ?_) ..; have zb := hk _ _ zb; have zw := hk _ _ zw; have w1e := hk _ _ w1e; have w2e := hk _ _ w2e; have zg := hk _ _ zg; have m1e := hk _ _ m1e; have m2e := hk _ _ m2e)
    | (have hz9 := m1e; refine d_toPlanS (h1 := sli_up h1) (h2 := sli_up h2) (hx := hx) (hy := hy) (hl := hl) (hl2 := hl2) (h0 := fun S8 y1 y2 y1e y2e y1l y2l yn hk => ?_) ..; have zb := hk _ _ zb; have zw := hk _ _ zw; have w1e := hk _ _ w1e; have w2e := hk _ _ w2e; have zg := hk _ _ zg; have m1e := hk _ _ m1e; have m2e := hk _ _ m2e)
    | (have hz9 := m1e; refine d_heldPlan (n1 := xs.length) (n2 := L.length) (h1 := sli_rowsM3 (B := shK xs _) rfl m1e rfl) (h2 := sli_rowsM3 (B := stK L _) rfl m2e rfl) (hm1 := hl) (hm2 := hlL) (hk := by omega) (h0 := ?_) ..)
    | (have hz9 := mm1; refine d_markPlanS (B1 := shK xs _) (B2 := stK L _) (hB1 := g1e) (hB2 := g2e) (hv1 := rfl) (hv2 := rfl) (hne := hgne) (hn1 := h6L) (hn2 := h4L) (hm1 := hl) (hm2 := hlL) (hk := by omega) (h0 := fun S7 m1e m2e hk => ?_) ..; have zb := hk _ _ (by omega) (by omega) zb; have zw := hk _ _ (by omega) (by omega) zw; have w1e := hk _ _ (by omega) (by omega) w1e; have w2e := hk _ _ (by omega) (by omega) w2e; have zg := hk _ _ (by omega) (by omega) zg)
    | (have hz9 := mm1; refine d_eqPlan (xs := xs) (ys := L) (h1 := sli_rows hx g1e) (h2 := sli_rows hyL g2e) (g1 := sli_rows hx w1e) (g2 := sli_rows hyL w2e) (hx := hx) (hy := hyL) (hl := hl) (hl2 := hlL) (h0 := ?_) ..)
    | (have hz9 := g1e; refine d_markPlanS (B1 := shSB xs) (B2 := stSB ys) (hB1 := getx1 (getx1 x1e)) (hB2 := getx1 (getx1 x2e)) (hv1 := rfl) (hv2 := rfl) (hne := xn) (hn1 := h6) (hn2 := h4) (hm1 := hl) (hm2 := hl2) (hk := by omega) (h0 := fun S6 mm1 mm2 hk => ?_) ..; have zb := hk _ _ (by omega) (by omega) (getx1 (getx1 zb)); have zw := hk _ _ (by omega) (by omega) (getx1 (getx1 zw)); have w1e := hk _ _ (by omega) (by omega) (getx1 (getx1 w1e)); have w2e := hk _ _ (by omega) (by omega) (getx1 (getx1 w2e)); have zg := hk _ _ (by omega) (by omega) (getx1 getl); have g1e := hk _ _ (by omega) (by omega) (getx1 (getx1 g1e)); have g2e := hk _ _ (by omega) (by omega) (getx1 (getx1 g2e)))
    | (have hz9 := g1e; refine d_toPlan (h1 := sli_up h1) (h2 := sli_up h2) (hx := hx) (hy := hy) (hl := hl) (hl2 := hl2) (h0 := fun A B C => varC_app ?_) ..)
    | (have hz9 := g1e; refine Exists.intro _ (And.intro (callW_fn (d_eqPlan (h1 := sli_rows hx (getx1 (getx1 x1e))) (h2 := sli_rows hy (getx1 (getx1 x2e))) (g1 := sli_rows hx g5a) (g2 := sli_rows hy g5b) (hx := hx) (hy := hy) (hl := hl) (hl2 := hl2) (h0 := And.intro rfl rfl) ..)) ?_))
    | (have hz9 := g1e; refine d_eqPlan (xs := xs) (ys := L) (h1 := sli_rows hx (getx1 g1e)) (h2 := sli_rows hyL (getx1 g2e)) (g1 := sli_rows hx (getx1 w1e)) (g2 := sli_rows hyL (getx1 w2e)) (hx := hx) (hy := hyL) (hl := hl) (hl2 := hlL) (h0 := ?_) ..)
    | (have hz9 := x1e; refine d_DropVL (L := L) (hL := hL.symm) (h1 := sli_rows hx (getx1 x1e)) (h2 := sli_rows hy (getx1 x2e)) (n1 := sl_nn) (n2 := sl_nn) (hx := hx) (hy := hy) (hg := hg) (h0 := fun S4 g1 gr1 gc1 g2 gr2 gc2 g1e g2e g1l g2l hk => ?_) ..; have zb := hk _ _ (getx1 zb); have zw := hk _ _ (getx1 zw); have w1e := hk _ _ (getx1 w1e); have w2e := hk _ _ (getx1 w2e); have zx := hk _ _ getl; have x1e := hk _ _ (getx1 x1e); have x2e := hk _ _ (getx1 x2e); have hgne : g1 ≠ g2 := ne_of_64 g1e g2e; have gl1 := getElem?_lt g1e; have gl2 := getElem?_lt g2e; have zxl := getElem?_lt zx; rw [List.length_append] at g1l g2l; simp only [List.length_cons, List.length_nil] at g1l g2l)
    | (have hz9 := w1e; refine d_toPlanS (h1 := sli_up h1) (h2 := sli_up h2) (hx := hx) (hy := hy) (hl := hl) (hl2 := hl2) (h0 := fun S3 x1 x2 x1e x2e x1l x2l xn hk => ?_) ..; have zb := hk _ _ (getx1 zb); have zw := hk _ _ getl; have w1e := hk _ _ (getx1 w1e); have w2e := hk _ _ (getx1 w2e); have xl1 := getElem?_lt x1e; have xl2 := getElem?_lt x2e; rw [List.length_append] at x1l x2l; simp only [List.length_cons, List.length_nil] at x1l x2l)
    | (have hz9 := p1e; refine d_sDropVL (L := L) (hL := hL.symm) (h1 := sli_rows hx p1e) (h2 := sli_rows hy p2e) (n1 := sl_nn) (n2 := sl_nn) (hx := hx) (hy := hy) (hl := hl) (hl2 := hl2) (hg := hg) (h0 := fun S2 w1 wr1 wc1 w2 wr2 wc2 w1e w2e w1l w2l hk => ?_) ..; have zb := hk _ _ zb; have wl1 := getElem?_lt w1e; have wl2 := getElem?_lt w2e)
    | (refine d_toPlanS (h1 := sli_up h1) (h2 := sli_up h2) (hx := hx) (hy := hy) (hl := hl) (hl2 := hl2) (h0 := fun S1 p1 p2 p1e p2e p1l p2l pn hk => ?_) ..; have zb := hk 0 _ rfl)
    | (refine Exists.intro _ (And.intro getl (And.intro rfl (And.intro rfl (And.intro (Nat.le_of_ble_eq_true rfl) ?_)))); rw [set_last])
    | (refine Exists.intro _ (And.intro (getl) (And.intro rfl (And.intro (Nat.le_of_ble_eq_true rfl) ?_))))
    | (refine Exists.intro _ (And.intro (zb) (And.intro rfl (And.intro (Nat.le_of_ble_eq_true rfl) ?_))))
    | (refine Exists.intro _ (And.intro (getx1 zb) (And.intro rfl (And.intro (Nat.le_of_ble_eq_true rfl) ?_))))
    | (refine Exists.intro _ (And.intro (zw) (And.intro rfl (And.intro (Nat.le_of_ble_eq_true rfl) ?_))))
    | (refine Exists.intro _ (And.intro (getx1 zw) (And.intro rfl (And.intro (Nat.le_of_ble_eq_true rfl) ?_))))
    | (refine Exists.intro _ (And.intro (zx) (And.intro rfl (And.intro (Nat.le_of_ble_eq_true rfl) ?_))))
    | (refine Exists.intro _ (And.intro (getx1 zx) (And.intro rfl (And.intro (Nat.le_of_ble_eq_true rfl) ?_))))
    | (refine Exists.intro _ (And.intro (getx1 (getx1 zx)) (And.intro rfl (And.intro (Nat.le_of_ble_eq_true rfl) ?_))))
    | (refine Exists.intro _ (And.intro (zg) (And.intro rfl (And.intro (Nat.le_of_ble_eq_true rfl) ?_))))
    | (refine Exists.intro _ (And.intro (getx1 zg) (And.intro rfl (And.intro (Nat.le_of_ble_eq_true rfl) ?_))))
    | (refine Exists.intro _ (And.intro (getx1 (getx1 zb)) (And.intro rfl (And.intro (Nat.le_of_ble_eq_true rfl) ?_))))
    | (refine Exists.intro _ (And.intro (getx1 getl) (And.intro rfl (And.intro (Nat.le_of_ble_eq_true rfl) ?_))))
    | (refine Exists.intro _ (And.intro rfl (And.intro rfl (And.intro (Nat.le_of_ble_eq_true rfl) ?_))))
    | (refine Exists.intro _ (And.intro rfl (And.intro rfl (And.intro rfl (And.intro (Nat.le_of_ble_eq_true rfl) ?_)))))
    | (refine And.intro (Exists.intro _ (And.intro rfl rfl)) ?_)
    | (exact fun hW => absurd hW (by decide +kernel))
    | (intro hW; (try simp only [Bool.not_true, Bool.not_false, Bool.not_eq_true', Bool.not_eq_false', decide_eq_true_eq, decide_eq_false_iff_not, reduceCtorEq, Bool.true_eq_false, Bool.false_eq_true, mk_size, List.size_toArray, ByteArray.size_append, ByteArray.size_extract, List.length_cons, List.length_nil, ba_get, ba_empty, Int.toNat_natCast] at hW))
    | (refine And.intro (?_ : _ → _) (?_ : _ → _))
    | (refine FinR.drop 0 (Nat.zero_le _) (Closed.zero _) rfl ?_)
    | (refine FinR.keep ?_)
    | (refine And.intro (det3_agg rfl) ?_)
    | (refine fL_mk ?_)
    | (refine And.intro (by (try simp only [mk_size, List.size_toArray, ByteArray.size_append, ByteArray.size_extract, List.length_cons, List.length_nil]); omega) ?_)
    | (refine And.intro (by (try simp only [mk_size, List.size_toArray, ByteArray.size_append, ByteArray.size_extract, List.length_cons, List.length_nil, wrap64_eq]); omega) ?_)
    | fail)
  all_goals first | exact h0 | (exfalso; omega) | (exfalso; simp_all; done) | skip
theorem c_law_DropVainQ (a b c d e f : Int) (v1 v2 : Value) (xs ys : List (List Int)) (h1 : Sli W0 [] 6 enI (.lit v1) xs) (h2 : Sli W0 [] 4 enI (.lit v2) ys) (hx : ∀ x ∈ xs, x.length = 6) (hy : ∀ x ∈ ys, x.length = 4) (hm : xs.length ≤ maxLen) (hm2 : ys.length ≤ maxLen) (K : Cont) (h0 : K (Bo true) []) : ACall Try.prog W0 14 [PlA a b c d e f (.lit v1) (.lit v2)] [] K := by
  have hm' : xs.length ≤ 9223372036854775807 := hm
  have hm2' : ys.length ≤ 9223372036854775807 := hm2
  by_cases hz : (1048576 : Int) - xs.length - ys.length < 0
  · refine by14 (Nat.le_of_ble_eq_true rfl) ?_
    repeat' ((conv => whnf); first
      | (refine And.intro rfl ?_)
      | (refine And.intro (by decide +kernel) ?_)
      | (refine And.intro trivial ?_)
      | (refine d_szPlan (h1 := sli_up h1) (h2 := sli_up h2) (hl := hm') (hl2 := hm2') (hm := by decide) (h0 := fun h => ?_) (h00 := fun h => ?_) ..)
      | (refine Exists.intro _ (And.intro rfl (And.intro rfl (And.intro (Nat.le_of_ble_eq_true rfl) ?_))))
      | (refine Exists.intro _ (And.intro rfl (And.intro rfl (And.intro rfl (And.intro (Nat.le_of_ble_eq_true rfl) ?_)))))
      | (refine And.intro (Exists.intro _ (And.intro rfl rfl)) ?_)
      | (exact fun hW => absurd hW (by decide +kernel))
      | (intro hW; (try simp only [Bool.not_true, Bool.not_false, Bool.not_eq_true', Bool.not_eq_false', decide_eq_true_eq, decide_eq_false_iff_not, reduceCtorEq, Bool.true_eq_false, Bool.false_eq_true, mk_size, List.size_toArray, ByteArray.size_append, ByteArray.size_extract, List.length_cons, List.length_nil, ba_get, ba_empty, Int.toNat_natCast] at hW))
      | (refine And.intro (?_ : _ → _) (?_ : _ → _))
      | (refine FinR.drop 0 (Nat.zero_le _) (Closed.zero _) rfl ?_)
      | (refine FinR.keep ?_)
      | (refine And.intro (det3_agg rfl) ?_)
      | (refine fL_mk ?_)
      | (refine And.intro (by (try simp only [mk_size, List.size_toArray, ByteArray.size_append, ByteArray.size_extract, List.length_cons, List.length_nil]); omega) ?_)
      | (refine And.intro (by (try simp only [mk_size, List.size_toArray, ByteArray.size_append, ByteArray.size_extract, List.length_cons, List.length_nil, wrap64_eq]); omega) ?_)
      | fail)
    all_goals first | exact h0 | (exfalso; omega) | (exfalso; simp_all; done)
  · by_cases hg : planB a b c d e f xs ys = true
    · exact c_law_DropVainT a b c d e f v1 v2 xs ys h1 h2 hx hy (by omega) (by omega) hz hg K h0
    · exact c_law_DropVainF a b c d e f v1 v2 xs ys h1 h2 hx hy (by omega) (by omega) hz (by cases hp : planB a b c d e f xs ys with | false => rfl | true => exact absurd hp hg) K h0
theorem c_law_DropVain (a0 : Int) (ha0 : IntKind.i64.has a0) (a1 : Int) (ha1 : IntKind.i64.has a1) (a2 : Int) (ha2 : IntKind.i64.has a2) (a3 : Int) (ha3 : IntKind.i64.has a3) (a4 : Int) (ha4 : IntKind.i64.has a4) (a5 : Int) (ha5 : IntKind.i64.has a5) (v : Value) (xs : List (List Int)) (sv : Sli W0 [] 6 enI (.lit v) xs) (hv : ∀ x ∈ xs, x.length = 6 ∧ ∀ n ∈ x, IntKind.i64.has n) (mv : xs.length ≤ maxLen) (u : Value) (ys : List (List Int)) (su : Sli W0 [] 4 enI (.lit u) ys) (hu : ∀ x ∈ ys, x.length = 4 ∧ ∀ n ∈ x, IntKind.i64.has n) (mu : ys.length ≤ maxLen) (K : Cont) (h0 : K (Bo true) []) : ACall Try.prog W0 14 [PlA a0 a1 a2 a3 a4 a5 (.lit v) (.lit u)] [] K :=
  c_law_DropVainQ a0 a1 a2 a3 a4 a5 v u xs ys sv su (fun x h => (hv x h).1) (fun x h => (hu x h).1) mv mu K h0
end Go.Proofs.Ytbmilmnfhdkfjaa
end

section
/- Contracts: lists of steps turned round. -/
set_option linter.unusedVariables false
set_option linter.unusedSimpArgs false
set_option maxRecDepth 100000
set_option maxHeartbeats 4000000
namespace Go.Proofs.Ytbmilmnfhdkfjaa
open Go Go.RowKit Go.Proofs.Ytbmilmnfhdkfjaa.Abs
variable {W0 : World} {σ : List Blk}
theorem jc_appB (l m : List (List Int)) : jc (l ++ m) = jc l ++ jc m := by simp [jc]
theorem jc_split {l : List (List Int)} {i : Nat} {x : List Int} (h : l[i]? = some x) : jc l = jc (l.take i) ++ (x.map I ++ jc (l.drop (i + 1))) := by
  have hlt := getElem?_lt h
  have hx : l[i] = x := by rw [List.getElem?_eq_getElem hlt] at h; exact Option.some.inj h
  have e : l = l.take i ++ (x :: l.drop (i + 1)) := by rw [← hx, ← List.drop_eq_getElem_cons hlt, List.take_append_drop]
  conv => lhs; rw [e]
  rw [jc_appB]; rfl
theorem jc_pre {s : Nat} {l : List (List Int)} (hl : ∀ x ∈ l, x.length = s) {i : Nat} (hi : i ≤ l.length) : (jc (l.take i)).length = i * s := by
  rw [jc_len (s := s) fun x h => hl x (List.mem_of_mem_take h), List.length_take, Nat.min_eq_left hi]
theorem jc_setB {s : Nat} {l : List (List Int)} (hl : ∀ x ∈ l, x.length = s) {i : Nat} {x : List Int} (y : List Int) (h : l[i]? = some x) : (jc l).take (i * s) ++ y.map I ++ (jc l).drop (i * s + s) = jc (l.set i y) := by
  have hlt := getElem?_lt h
  have hp := jc_pre hl (Nat.le_of_lt hlt)
  have hx := hl x (List.mem_of_getElem? h)
  have e : l.set i y = l.take i ++ (y :: l.drop (i + 1)) := List.set_eq_take_append_cons_drop .. |>.trans (by rw [if_pos hlt])
  rw [e, jc_appB, jc_split h, List.take_left' hp, ← List.drop_drop, List.drop_left' hp, List.drop_left' (by rw [List.length_map]; exact hx)]
  simp [jc]
/-- a list, its first m rows and its last m rows changed round -/
def revP (l : List (List Int)) : Nat → List (List Int)
  | 0 => l
  | m + 1 => ((revP l m).set m ((revP l m).getD (l.length - 1 - m) [])).set (l.length - 1 - m) ((revP l m).getD m [])
theorem revP_len (l : List (List Int)) : ∀ m, (revP l m).length = l.length
  | 0 => rfl
  | m + 1 => by unfold revP; rw [List.length_set, List.length_set, revP_len l m]
theorem revP_get (l : List (List Int)) : ∀ m, 2 * m ≤ l.length → ∀ t, t < l.length → (revP l m).getD t [] = if t < m ∨ l.length - m ≤ t then l.getD (l.length - 1 - t) [] else l.getD t []
  | 0, _, t, ht => by rw [if_neg (by omega)]; rfl
  | m + 1, hm, t, ht => by
    have ih := revP_get l m (by omega)
    have hl := revP_len l m
    have e1 := ih (l.length - 1 - m) (by omega)
    rw [if_neg (by omega)] at e1
    have e2 := ih m (by omega)
    rw [if_neg (by omega)] at e2
    unfold revP
    rw [e1, e2, List.getD_eq_getElem?_getD, List.getElem?_set]
    by_cases h1 : l.length - 1 - m = t
    · rw [if_pos h1, if_pos (by rw [List.length_set]; omega), if_pos (by omega)]
      show l.getD m [] = _
      congr 1; omega
    · rw [if_neg h1, List.getElem?_set]
      by_cases h2 : m = t
      · rw [if_pos h2, if_pos (by omega), if_pos (by omega)]
        show l.getD (l.length - 1 - m) [] = _
        congr 1; omega
      · rw [if_neg h2, ← List.getD_eq_getElem?_getD, ih t ht]
        by_cases h3 : t < m ∨ l.length - m ≤ t
        · rw [if_pos h3, if_pos (by omega)]
        · rw [if_neg h3, if_neg (by omega)]
theorem revP_all (l : List (List Int)) {m : Nat} (h1 : 2 * m ≤ l.length) (h2 : l.length ≤ 2 * m + 1) : revP l m = l.reverse := by
  refine List.ext_getElem (by rw [revP_len, List.length_reverse]) fun t ht ht' => ?_
  rw [revP_len] at ht
  have := revP_get l m h1 t ht
  rw [List.getD_eq_getElem?_getD, List.getElem?_eq_getElem (by rw [revP_len]; exact ht)] at this
  rw [List.getElem_reverse]
  have e : (revP l m)[t]'(by rw [revP_len]; exact ht) = if t < m ∨ l.length - m ≤ t then l.getD (l.length - 1 - t) [] else l.getD t [] := this
  rw [e]
  split
  · rw [List.getD_eq_getElem?_getD, List.getElem?_eq_getElem (by omega)]; rfl
  · rw [List.getD_eq_getElem?_getD, List.getElem?_eq_getElem ht]
    show l[t] = _
    congr 1; omega
theorem revP_rows {l : List (List Int)} {s : Nat} (hl : ∀ x ∈ l, x.length = s) : ∀ m, 2 * m ≤ l.length → ∀ x ∈ revP l m, x.length = s := by
  intro m hm x hx
  obtain ⟨t, ht, rfl⟩ := List.mem_iff_getElem.1 hx
  have ht' : t < l.length := by rw [← revP_len l m]; exact ht
  have := revP_get l m hm t ht'
  rw [List.getD_eq_getElem?_getD, List.getElem?_eq_getElem ht] at this
  have e : (revP l m)[t] = if t < m ∨ l.length - m ≤ t then l.getD (l.length - 1 - t) [] else l.getD t [] := this
  rw [e]
  split
  · rw [List.getD_eq_getElem?_getD, List.getElem?_eq_getElem (show l.length - 1 - t < l.length by omega)]; exact hl _ (List.getElem_mem _)
  · rw [List.getD_eq_getElem?_getD, List.getElem?_eq_getElem ht']; exact hl _ (List.getElem_mem _)
theorem st_rowB {C : List Blk → Prop} {b r off : Nat} {l : List (List Int)} {i : Nat} {x : List Int} (y : List Int) (hB : σ[b]? = some (stK l r)) (hl : ∀ x ∈ l, x.length = 4) (hi : l[i]? = some x) (hy : y.length = 4) (ho : off = i * 4) (h : C (σ.set b (stK (l.set i y) r))) :
    ∃ B', σ[b]? = some B' ∧ B'.ver = r ∧ (y.map I).length = 4 ∧ off + 4 ≤ B'.cells.length ∧ fS (σ.set b { B' with cells := B'.cells.take off ++ y.map I ++ B'.cells.drop (off + 4) }) C := by
  subst ho
  have hlt := getElem?_lt hi
  refine ⟨_, hB, rfl, by rw [List.length_map]; exact hy, ?_, ?_⟩
  · show i * 4 + 4 ≤ (jc l).length
    rw [jc_len (s := 4) hl]; omega
  · rw [fS_eq]
    show C (σ.set b ⟨(jc l).take (i * 4) ++ y.map I ++ (jc l).drop (i * 4 + 4), r, _, 4, true, true⟩)
    rw [jc_setB hl y hi]
    exact h
theorem d_Reverse (b r cap : Nat) (ys : List (List Int)) (hB : σ[b]? = some (stK ys r)) (hy : ∀ x ∈ ys, x.length = 4) (hl : ys.length ≤ 1048576) (K : Cont) (h0 : K (.tup []) (σ.set b (stK ys.reverse r))) : ACall Try.prog W0 82 [.sl b r 0 ys.length cap] σ K := by
  refine by82 (Nat.le_of_ble_eq_true rfl) ?_
  have e1 : IntKind.i64.wrap ((ys.length : Nat) - 1 : Int) = ((ys.length : Nat) - 1 : Int) := wrap_i64 _ (by omega) (by omega)
  repeat' ((conv => whnf); first
    | (refine And.intro rfl ?_)
    | (refine And.intro (by decide +kernel) ?_)
    | (refine And.intro trivial ?_)
    | (refine And.intro ⟨_, hB, rfl⟩ ?_)
    | (refine Exists.intro _ (And.intro rfl (And.intro rfl (And.intro (Nat.le_of_ble_eq_true rfl) ?_))))
    | (refine Exists.intro _ (And.intro rfl (And.intro rfl (And.intro rfl (And.intro (Nat.le_of_ble_eq_true rfl) ?_)))))
    | (refine And.intro (Exists.intro _ (And.intro rfl rfl)) ?_)
    | (exact fun hW => absurd hW (by decide +kernel))
    | (intro hW; (try simp only [Bool.not_true, Bool.not_false, Bool.not_eq_true', Bool.not_eq_false', decide_eq_true_eq, decide_eq_false_iff_not, reduceCtorEq, Bool.true_eq_false, Bool.false_eq_true, mk_size, List.size_toArray, ByteArray.size_append, ByteArray.size_extract, List.length_cons, List.length_nil, ba_get, ba_empty, Int.toNat_natCast] at hW))
    | (refine And.intro (?_ : _ → _) (?_ : _ → _))
    | (refine FinR.drop 0 (Nat.zero_le _) (Closed.zero _) rfl ?_)
    | (refine FinR.keep ?_)
    | (refine And.intro (det3_agg rfl) ?_)
    | (refine fL_mk ?_)
    | (refine And.intro (by (try simp only [mk_size, List.size_toArray, ByteArray.size_append, ByteArray.size_extract, List.length_cons, List.length_nil]); omega) ?_)
    | (refine And.intro (by (try simp only [mk_size, List.size_toArray, ByteArray.size_append, ByteArray.size_extract, List.length_cons, List.length_nil, wrap64_eq]); omega) ?_)
    | fail)
  all_goals first | (exfalso; omega) | skip
  refine LoopR.live (fun m : Nat => [(0, .sl b r 0 ys.length cap), (2, I m), (3, I ((ys.length : Int) - 1 - m))]) (fun m => σ.set b (stK (revP ys m) r)) (fun m => 2 * m ≤ ys.length) (fun m => ys.length - m) 0 ⟨rfl, rfl, slI' (by rw [e1]; simp), trivial⟩ (.keep (by show σ.set b (stK ys r) = σ; rw [set_self hB])) (by omega) ?_
  intro m hm
  have hc : (σ.set b (stK (revP ys m) r))[b]? = some (stK (revP ys m) r) := get_set hB
  by_cases hlt : 2 * m + 1 < ys.length
  · obtain ⟨a0, a1, a2, a3, ha⟩ := row4x hy (show m < ys.length by omega)
    obtain ⟨b0, b1, b2, b3, hb⟩ := row4x hy (show ys.length - 1 - m < ys.length by omega)
    have hl4 := revP_rows hy m hm
    have hrl := revP_len ys m
    have q1 := revP_get ys m hm m (by omega)
    rw [if_neg (by omega), List.getD_eq_getElem?_getD, List.getElem?_eq_getElem (by omega), List.getD_eq_getElem?_getD, ha] at q1
    have q2 := revP_get ys m hm (ys.length - 1 - m) (by omega)
    rw [if_neg (by omega), List.getD_eq_getElem?_getD, List.getElem?_eq_getElem (by omega), List.getD_eq_getElem?_getD, hb] at q2
    have g1 : (revP ys m)[m]? = some [a0, a1, a2, a3] := by rw [List.getElem?_eq_getElem (by omega)]; exact congrArg some q1
    have g2 : (revP ys m)[ys.length - 1 - m]? = some [b0, b1, b2, b3] := by rw [List.getElem?_eq_getElem (by omega)]; exact congrArg some q2
    have hst : revP ys (m + 1) = ((revP ys m).set m [b0, b1, b2, b3]).set (ys.length - 1 - m) [a0, a1, a2, a3] := by
      show ((revP ys m).set m ((revP ys m).getD (ys.length - 1 - m) [])).set (ys.length - 1 - m) ((revP ys m).getD m []) = _
      rw [List.getD_eq_getElem?_getD, List.getD_eq_getElem?_getD, g1, g2]; rfl
    clear q1 q2
    obtain ⟨l, hlm⟩ : ∃ l, l = revP ys m := ⟨_, rfl⟩
    rw [← hlm] at hc hl4 hrl g1 g2 hst ⊢
    have hle : ∀ off i, off = i * 4 → i < ys.length → off + 4 ≤ (stK l r).cells.length := fun off i ho hi => by
      show _ ≤ (jc l).length
      rw [jc_len (s := 4) hl4]; omega
    have ho1 : 0 + ((m : Nat) : Int).toNat * 4 = m * 4 := by rw [Int.toNat_natCast]; omega
    have ho2 : 0 + ((ys.length : Int) - 1 - (m : Nat)).toNat * 4 = (ys.length - 1 - m) * 4 := by omega
    have hl4' : ∀ x ∈ l.set m [b0, b1, b2, b3], x.length = 4 := fun x hx => by
      rcases List.mem_or_eq_of_mem_set hx with h | h
      · exact hl4 x h
      · rw [h]; rfl
    have g2' : (l.set m [b0, b1, b2, b3])[ys.length - 1 - m]? = some [b0, b1, b2, b3] := by rw [List.getElem?_set_ne (by omega)]; exact g2
    have e2 : IntKind.i64.wrap ((ys.length : Int) - 1 - (m : Nat) - 1) = (ys.length : Int) - 1 - ((m + 1 : Nat) : Int) := by rw [wrap_i64 _ (by omega) (by omega)]; omega
    repeat' ((conv => whnf); first
      | (refine Exists.intro _ (And.intro hc (And.intro rfl (And.intro (hle _ _ ho2 (by omega)) ?_))); rw [show (stK l r).cells = jc l from rfl, jc_row hl4 g2 ho2])
      | (refine Exists.intro _ (And.intro hc (And.intro rfl (And.intro (hle _ _ ho1 (by omega)) ?_))); rw [show (stK l r).cells = jc l from rfl, jc_row hl4 g1 ho1])
      | (refine And.intro rfl ?_)
      | (refine And.intro (by decide +kernel) ?_)
      | (refine And.intro trivial ?_)
      | (refine And.intro ⟨_, hc, rfl⟩ ?_)
      | (refine And.intro ⟨_, get_set hc, rfl⟩ ?_)
      | (refine st_rowB [b0, b1, b2, b3] hc hl4 g1 rfl ho1 ?_)
      | (refine st_rowB [a0, a1, a2, a3] (get_set hc) hl4' g2' rfl ho2 ?_)
      | (refine Exists.intro _ (And.intro rfl (And.intro rfl (And.intro (Nat.le_of_ble_eq_true rfl) ?_))))
      | (refine Exists.intro _ (And.intro rfl (And.intro rfl (And.intro rfl (And.intro (Nat.le_of_ble_eq_true rfl) ?_)))))
      | (refine And.intro (Exists.intro _ (And.intro rfl rfl)) ?_)
      | (exact fun hW => absurd hW (by decide +kernel))
      | (intro hW; (try simp only [Bool.not_true, Bool.not_false, Bool.not_eq_true', Bool.not_eq_false', decide_eq_true_eq, decide_eq_false_iff_not, reduceCtorEq, Bool.true_eq_false, Bool.false_eq_true, mk_size, List.size_toArray, ByteArray.size_append, ByteArray.size_extract, List.length_cons, List.length_nil, ba_get, ba_empty, Int.toNat_natCast] at hW))
      | (refine And.intro (?_ : _ → _) (?_ : _ → _))
      | (refine FinR.drop 0 (Nat.zero_le _) (Closed.zero _) rfl ?_)
      | (refine FinR.keep ?_)
      | (refine And.intro (det3_agg rfl) ?_)
      | (refine fL_mk ?_)
      | (refine And.intro (by (try simp only [mk_size, List.size_toArray, ByteArray.size_append, ByteArray.size_extract, List.length_cons, List.length_nil]); omega) ?_)
      | (refine And.intro (by (try simp only [mk_size, List.size_toArray, ByteArray.size_append, ByteArray.size_extract, List.length_cons, List.length_nil, wrap64_eq]); omega) ?_)
      | fail)
    all_goals first | (exfalso; omega) | skip
    all_goals exact Again.go (m + 1) ⟨rfl, slI' (wsucc' m (by omega)), slI' e2, trivial⟩ (.keep (by show σ.set b (stK (revP ys (m + 1)) r) = _; rw [hst, List.set_set, List.set_set])) (by omega) (by omega)
  · skip
    repeat' ((conv => whnf); first
      | (refine And.intro rfl ?_)
      | (refine And.intro (by decide +kernel) ?_)
      | (refine And.intro trivial ?_)
      | (refine And.intro ⟨_, hc, rfl⟩ ?_)
      | (refine Exists.intro _ (And.intro rfl (And.intro rfl (And.intro (Nat.le_of_ble_eq_true rfl) ?_))))
      | (refine Exists.intro _ (And.intro rfl (And.intro rfl (And.intro rfl (And.intro (Nat.le_of_ble_eq_true rfl) ?_)))))
      | (refine And.intro (Exists.intro _ (And.intro rfl rfl)) ?_)
      | (exact fun hW => absurd hW (by decide +kernel))
      | (intro hW; (try simp only [Bool.not_true, Bool.not_false, Bool.not_eq_true', Bool.not_eq_false', decide_eq_true_eq, decide_eq_false_iff_not, reduceCtorEq, Bool.true_eq_false, Bool.false_eq_true, mk_size, List.size_toArray, ByteArray.size_append, ByteArray.size_extract, List.length_cons, List.length_nil, ba_get, ba_empty, Int.toNat_natCast] at hW))
      | (refine And.intro (?_ : _ → _) (?_ : _ → _))
      | (refine FinR.drop 0 (Nat.zero_le _) (Closed.zero _) rfl ?_)
      | (refine FinR.keep ?_)
      | (refine And.intro (det3_agg rfl) ?_)
      | (refine fL_mk ?_)
      | (refine And.intro (by (try simp only [mk_size, List.size_toArray, ByteArray.size_append, ByteArray.size_extract, List.length_cons, List.length_nil]); omega) ?_)
      | (refine And.intro (by (try simp only [mk_size, List.size_toArray, ByteArray.size_append, ByteArray.size_extract, List.length_cons, List.length_nil, wrap64_eq]); omega) ?_)
      | fail)
    all_goals first | (exfalso; omega) | skip
    all_goals (rw [← revP_all ys hm (by omega)] at h0; exact h0)
end Go.Proofs.Ytbmilmnfhdkfjaa
end

section
/- Contracts: plans that lead back, by both sides. -/
set_option linter.unusedVariables false
set_option linter.unusedSimpArgs false
set_option maxRecDepth 100000
set_option maxHeartbeats 4000000
namespace Go.Proofs.Ytbmilmnfhdkfjaa
open Go Go.RowKit Go.Proofs.Ytbmilmnfhdkfjaa.Abs
variable {W0 : World} {σ : List Blk}
theorem c_notTog (k s x y : Int) (K : Cont) (h0 : K (Bo (!decide (k = 1))) []) : ACall Try.prog W0 81 [Ste k s x y] [] K := by
  refine by81 (Nat.le_of_ble_eq_true rfl) ?_
  repeat' ((conv => whnf); first
    | (refine And.intro rfl ?_)
    | (refine And.intro (by decide +kernel) ?_)
    | (refine And.intro trivial ?_)
    | (refine Exists.intro _ (And.intro rfl (And.intro rfl (And.intro (Nat.le_of_ble_eq_true rfl) ?_))))
    | (refine Exists.intro _ (And.intro rfl (And.intro rfl (And.intro rfl (And.intro (Nat.le_of_ble_eq_true rfl) ?_)))))
    | (refine And.intro (Exists.intro _ (And.intro rfl rfl)) ?_)
    | (exact fun hW => absurd hW (by decide +kernel))
    | (intro hW; (try simp only [Bool.not_true, Bool.not_false, Bool.not_eq_true', Bool.not_eq_false', decide_eq_true_eq, decide_eq_false_iff_not, reduceCtorEq, Bool.true_eq_false, Bool.false_eq_true, mk_size, List.size_toArray, ByteArray.size_append, ByteArray.size_extract, List.length_cons, List.length_nil, ba_get, ba_empty, Int.toNat_natCast] at hW))
    | (refine And.intro (?_ : _ → _) (?_ : _ → _))
    | (refine FinR.drop 0 (Nat.zero_le _) (Closed.zero _) rfl ?_)
    | (refine FinR.keep ?_)
    | (refine And.intro (det3_agg rfl) ?_)
    | (refine fL_mk ?_)
    | (refine And.intro (by (try simp only [mk_size, List.size_toArray, ByteArray.size_append, ByteArray.size_extract, List.length_cons, List.length_nil]); omega) ?_)
    | (refine And.intro (by (try simp only [mk_size, List.size_toArray, ByteArray.size_append, ByteArray.size_extract, List.length_cons, List.length_nil, wrap64_eq]); omega) ?_)
    | fail)
  all_goals (refine kB' h0 ?_; simp)
theorem d_notTog (k s x y : Int) (K : Cont) (h0 : K (Bo (!decide (k = 1))) σ) : ACall Try.prog W0 81 [Ste k s x y] σ K :=
  ACall.lift rfl (fun _ => rfl) (fun W1 K _ hK => c_notTog k s x y K hK) h0
def ntg (r : List Int) : Bool := !decide (r.getD 0 0 = 1)
abbrev fnT : AV := .lit (.func (.func 81) #[] #[])
theorem c_IndexFunc (a : AV) (ys : List (List Int)) (ha : Sli W0 [] 4 enI a ys) (hy : ∀ x ∈ ys, x.length = 4) (hl : ys.length ≤ 1048576) (K : Cont) (h0 : ys.any ntg = true → ∀ n : Nat, n < ys.length → K (I n) []) (h00 : ys.any ntg = false → K (I (-1)) []) : ACall Try.prog W0 103 [a, fnT] [] K := by
  refine by103 (Nat.le_of_ble_eq_true rfl) ?_
  obtain ⟨o, n, cap, rfl, hn, hc, hm, hf⟩ := sli_form ha
  subst hn
  repeat' ((conv => whnf); first
    | (refine And.intro rfl ?_)
    | (refine And.intro (by decide +kernel) ?_)
    | (refine And.intro trivial ?_)
    | (refine Exists.intro _ (And.intro rfl (And.intro rfl (And.intro (Nat.le_of_ble_eq_true rfl) ?_))))
    | (refine Exists.intro _ (And.intro rfl (And.intro rfl (And.intro rfl (And.intro (Nat.le_of_ble_eq_true rfl) ?_)))))
    | (refine And.intro (Exists.intro _ (And.intro rfl rfl)) ?_)
    | (exact fun hW => absurd hW (by decide +kernel))
    | (intro hW; (try simp only [Bool.not_true, Bool.not_false, Bool.not_eq_true', Bool.not_eq_false', decide_eq_true_eq, decide_eq_false_iff_not, reduceCtorEq, Bool.true_eq_false, Bool.false_eq_true, mk_size, List.size_toArray, ByteArray.size_append, ByteArray.size_extract, List.length_cons, List.length_nil, ba_get, ba_empty, Int.toNat_natCast] at hW))
    | (refine And.intro (?_ : _ → _) (?_ : _ → _))
    | (refine FinR.drop 0 (Nat.zero_le _) (Closed.zero _) rfl ?_)
    | (refine FinR.keep ?_)
    | (refine And.intro (det3_agg rfl) ?_)
    | (refine fL_mk ?_)
    | (refine And.intro (by (try simp only [mk_size, List.size_toArray, ByteArray.size_append, ByteArray.size_extract, List.length_cons, List.length_nil]); omega) ?_)
    | (refine And.intro (by (try simp only [mk_size, List.size_toArray, ByteArray.size_append, ByteArray.size_extract, List.length_cons, List.length_nil, wrap64_eq]); omega) ?_)
    | fail)
  refine LoopR.live (fun i : Nat => [(0, .lit (.slice o ys.length cap)), (1, fnT), (7, I ys.length), (8, I i)]) (fun i => []) (fun i => i ≤ ys.length ∧ (ys.take i).any ntg = false) (fun i => ys.length - i) 0 ⟨rfl, rfl, rfl, rfl, trivial⟩ (.keep rfl) ⟨Nat.zero_le _, rfl⟩ ?_
  rintro i ⟨hi, hal⟩
  by_cases hlt : i < ys.length
  · obtain ⟨c0, c1, c2, c3, hyi⟩ := row4x hy hlt
    obtain ⟨ad, rfl, hb, hxx⟩ := hf i _ hyi
    have hld := fun C h => ldIn (W0 := W0) (s := 4) (enc := enI) hb hxx (k := i) hyi rfl (C := C) h
    have hsn : (ys.take (i + 1)).any ntg = ((ys.take i).any ntg || ntg [c0, c1, c2, c3]) := by rw [take_snoc hyi, List.any_append]; simp
    cases hr : ntg [c0, c1, c2, c3] with
    | true =>
      have hr' : (!decide (c0 = 1)) = true := hr
      have hany : ys.any ntg = true := List.any_eq_true.2 ⟨_, List.mem_of_getElem? hyi, hr⟩
      repeat' ((conv => whnf); first
        | (refine And.intro rfl ?_)
        | (refine And.intro (by decide +kernel) ?_)
        | (refine And.intro trivial ?_)
        | (refine hld _ ?_)
        | (refine d_notTog (h0 := ?_) ..)
        | (refine Exists.intro _ (And.intro (fun τ => callW_fn (d_notTog (h0 := And.intro rfl rfl) ..)) ?_))
        | (refine Exists.intro _ (And.intro (callW_fn (d_notTog (h0 := And.intro rfl rfl) ..)) (And.intro trivial ?_)))
        | (refine Exists.intro _ (And.intro (callW_fn (d_notTog (h0 := And.intro rfl rfl) ..)) ?_))
        | (refine Exists.intro _ (And.intro (fun τ _ => callW_fn (d_notTog (h0 := And.intro rfl rfl) ..)) ?_))
        | (refine Exists.intro _ (And.intro rfl (And.intro rfl (And.intro (Nat.le_of_ble_eq_true rfl) ?_))))
        | (refine Exists.intro _ (And.intro rfl (And.intro rfl (And.intro rfl (And.intro (Nat.le_of_ble_eq_true rfl) ?_)))))
        | (refine And.intro (Exists.intro _ (And.intro rfl rfl)) ?_)
        | (exact fun hW => absurd hW (by decide +kernel))
        | (intro hW; (try simp only [Bool.not_true, Bool.not_false, Bool.not_eq_true', Bool.not_eq_false', decide_eq_true_eq, decide_eq_false_iff_not, reduceCtorEq, Bool.true_eq_false, Bool.false_eq_true, mk_size, List.size_toArray, ByteArray.size_append, ByteArray.size_extract, List.length_cons, List.length_nil, ba_get, ba_empty, Int.toNat_natCast] at hW))
        | (refine And.intro (?_ : _ → _) (?_ : _ → _))
        | (refine FinR.drop 0 (Nat.zero_le _) (Closed.zero _) rfl ?_)
        | (refine FinR.keep ?_)
        | (refine And.intro (det3_agg rfl) ?_)
        | (refine fL_mk ?_)
        | (refine And.intro (by (try simp only [mk_size, List.size_toArray, ByteArray.size_append, ByteArray.size_extract, List.length_cons, List.length_nil]); omega) ?_)
        | (refine And.intro (by (try simp only [mk_size, List.size_toArray, ByteArray.size_append, ByteArray.size_extract, List.length_cons, List.length_nil, wrap64_eq]); omega) ?_)
        | fail)
      all_goals first | (exfalso; omega) | exact h0 hany i hlt | (exfalso; simp_all; done)
    | false =>
      have hr' : (!decide (c0 = 1)) = false := hr
      repeat' ((conv => whnf); first
        | (refine And.intro rfl ?_)
        | (refine And.intro (by decide +kernel) ?_)
        | (refine And.intro trivial ?_)
        | (refine hld _ ?_)
        | (refine d_notTog (h0 := ?_) ..)
        | (refine Exists.intro _ (And.intro (fun τ => callW_fn (d_notTog (h0 := And.intro rfl rfl) ..)) ?_))
        | (refine Exists.intro _ (And.intro (callW_fn (d_notTog (h0 := And.intro rfl rfl) ..)) (And.intro trivial ?_)))
        | (refine Exists.intro _ (And.intro (callW_fn (d_notTog (h0 := And.intro rfl rfl) ..)) ?_))
        | (refine Exists.intro _ (And.intro (fun τ _ => callW_fn (d_notTog (h0 := And.intro rfl rfl) ..)) ?_))
        | (refine Exists.intro _ (And.intro rfl (And.intro rfl (And.intro (Nat.le_of_ble_eq_true rfl) ?_))))
        | (refine Exists.intro _ (And.intro rfl (And.intro rfl (And.intro rfl (And.intro (Nat.le_of_ble_eq_true rfl) ?_)))))
        | (refine And.intro (Exists.intro _ (And.intro rfl rfl)) ?_)
        | (exact fun hW => absurd hW (by decide +kernel))
        | (intro hW; (try simp only [Bool.not_true, Bool.not_false, Bool.not_eq_true', Bool.not_eq_false', decide_eq_true_eq, decide_eq_false_iff_not, reduceCtorEq, Bool.true_eq_false, Bool.false_eq_true, mk_size, List.size_toArray, ByteArray.size_append, ByteArray.size_extract, List.length_cons, List.length_nil, ba_get, ba_empty, Int.toNat_natCast] at hW))
        | (refine And.intro (?_ : _ → _) (?_ : _ → _))
        | (refine FinR.drop 0 (Nat.zero_le _) (Closed.zero _) rfl ?_)
        | (refine FinR.keep ?_)
        | (refine And.intro (det3_agg rfl) ?_)
        | (refine fL_mk ?_)
        | (refine And.intro (by (try simp only [mk_size, List.size_toArray, ByteArray.size_append, ByteArray.size_extract, List.length_cons, List.length_nil]); omega) ?_)
        | (refine And.intro (by (try simp only [mk_size, List.size_toArray, ByteArray.size_append, ByteArray.size_extract, List.length_cons, List.length_nil, wrap64_eq]); omega) ?_)
        | fail)
      all_goals first | (exfalso; omega) | (exfalso; simp_all; done) | skip
      all_goals exact Again.go (i + 1) ⟨rfl, rfl, rfl, slI' (wsucc' i (by omega)), trivial⟩ (.keep rfl) ⟨by omega, by rw [hsn, hal, hr]; rfl⟩ (by omega)
  · obtain rfl : i = ys.length := by omega
    rw [List.take_length] at hal
    repeat' ((conv => whnf); first
      | (refine And.intro rfl ?_)
      | (refine And.intro (by decide +kernel) ?_)
      | (refine And.intro trivial ?_)
      | (refine Exists.intro _ (And.intro rfl (And.intro rfl (And.intro (Nat.le_of_ble_eq_true rfl) ?_))))
      | (refine Exists.intro _ (And.intro rfl (And.intro rfl (And.intro rfl (And.intro (Nat.le_of_ble_eq_true rfl) ?_)))))
      | (refine And.intro (Exists.intro _ (And.intro rfl rfl)) ?_)
      | (exact fun hW => absurd hW (by decide +kernel))
      | (intro hW; (try simp only [Bool.not_true, Bool.not_false, Bool.not_eq_true', Bool.not_eq_false', decide_eq_true_eq, decide_eq_false_iff_not, reduceCtorEq, Bool.true_eq_false, Bool.false_eq_true, mk_size, List.size_toArray, ByteArray.size_append, ByteArray.size_extract, List.length_cons, List.length_nil, ba_get, ba_empty, Int.toNat_natCast] at hW))
      | (refine And.intro (?_ : _ → _) (?_ : _ → _))
      | (refine FinR.drop 0 (Nat.zero_le _) (Closed.zero _) rfl ?_)
      | (refine FinR.keep ?_)
      | (refine And.intro (det3_agg rfl) ?_)
      | (refine fL_mk ?_)
      | (refine And.intro (by (try simp only [mk_size, List.size_toArray, ByteArray.size_append, ByteArray.size_extract, List.length_cons, List.length_nil]); omega) ?_)
      | (refine And.intro (by (try simp only [mk_size, List.size_toArray, ByteArray.size_append, ByteArray.size_extract, List.length_cons, List.length_nil, wrap64_eq]); omega) ?_)
      | fail)
    all_goals first | (exfalso; omega) | exact h00 hal
theorem d_IndexFunc (a : AV) (ys : List (List Int)) (ha : Sli W0 σ 4 enI a ys) (hy : ∀ x ∈ ys, x.length = 4) (hl : ys.length ≤ 1048576) (K : Cont) (h0 : ys.any ntg = true → ∀ n : Nat, n < ys.length → K (I n) σ) (h00 : ys.any ntg = false → K (I (-1)) σ) : ACall Try.prog W0 103 [a, fnT] σ K := by
  refine ACall.frameA (K0 := fun v σ' => σ' = [] ∧ (ys.any ntg = true ∧ (∃ n : Nat, n < ys.length ∧ v = I n) ∨ ys.any ntg = false ∧ v = I (-1))) (by kernel_rfl) (fun W1 ι vs hh hrr => ?_) ?_
  · obtain ⟨v1, vs', rfl, hr1, hr2⟩ := Rels.uncons hrr
    obtain ⟨a', ha', hs'⟩ := ha.conc hh ⟨v1, hr1⟩
    exact ⟨a' :: [fnT], Rels.cons (ha' _ hr1) (rels_pure rfl hr2), c_IndexFunc a' ys hs' hy hl _ (fun h n hn => ⟨rfl, .inl ⟨h, n, hn, rfl⟩⟩) (fun h => ⟨rfl, .inr ⟨h, rfl⟩⟩)⟩
  · rintro v σ' ⟨rfl, ⟨h, n, hn, rfl⟩ | ⟨h, rfl⟩⟩
    · rw [show shB σ.length [] = [] from rfl, List.append_nil]; exact h0 h n hn
    · rw [show shB σ.length [] = [] from rfl, List.append_nil]; exact h00 h
theorem d_ContainsFunc (a : AV) (ys : List (List Int)) (ha : Sli W0 σ 4 enI a ys) (hy : ∀ x ∈ ys, x.length = 4) (hl : ys.length ≤ 1048576) (K : Cont) (h0 : K (Bo (ys.any ntg)) σ) : ACall Try.prog W0 80 [a, fnT] σ K := by
  refine ACall.frameA (K0 := fun v σ' => σ' = [] ∧ v = Bo (ys.any ntg)) (by kernel_rfl) (fun W1 ι vs hh hrr => ?_) ?_
  · obtain ⟨v1, vs', rfl, hr1, hr2⟩ := Rels.uncons hrr
    obtain ⟨a', ha', hs'⟩ := ha.conc hh ⟨v1, hr1⟩
    refine ⟨a' :: [fnT], Rels.cons (ha' _ hr1) (rels_pure rfl hr2), ?_⟩
    obtain ⟨o, n, cap, rfl, hn, hc, hm, hf⟩ := sli_form hs'
    refine by80 (Nat.le_of_ble_eq_true rfl) ?_
    cases hv : ys.any ntg with
    | true =>
      repeat' ((conv => whnf); first
        | (refine And.intro rfl ?_)
        | (refine And.intro (by decide +kernel) ?_)
        | (refine And.intro trivial ?_)
        | (refine d_IndexFunc (ha := sli_up hs') (hy := hy) (hl := hl) (h0 := fun h n hn => ?_) (h00 := fun h => by rw [hv] at h; cases h) ..)
        | (refine Exists.intro _ (And.intro rfl (And.intro rfl (And.intro (Nat.le_of_ble_eq_true rfl) ?_))))
        | (refine Exists.intro _ (And.intro rfl (And.intro rfl (And.intro rfl (And.intro (Nat.le_of_ble_eq_true rfl) ?_)))))
        | (refine And.intro (Exists.intro _ (And.intro rfl rfl)) ?_)
        | (exact fun hW => absurd hW (by decide +kernel))
        | (intro hW; (try simp only [Bool.not_true, Bool.not_false, Bool.not_eq_true', Bool.not_eq_false', decide_eq_true_eq, decide_eq_false_iff_not, reduceCtorEq, Bool.true_eq_false, Bool.false_eq_true, mk_size, List.size_toArray, ByteArray.size_append, ByteArray.size_extract, List.length_cons, List.length_nil, ba_get, ba_empty, Int.toNat_natCast] at hW))
        | (refine And.intro (?_ : _ → _) (?_ : _ → _))
        | (refine FinR.drop 0 (Nat.zero_le _) (Closed.zero _) rfl ?_)
        | (refine FinR.keep ?_)
        | (refine And.intro (det3_agg rfl) ?_)
        | (refine fL_mk ?_)
        | (refine And.intro (by (try simp only [mk_size, List.size_toArray, ByteArray.size_append, ByteArray.size_extract, List.length_cons, List.length_nil]); omega) ?_)
        | (refine And.intro (by (try simp only [mk_size, List.size_toArray, ByteArray.size_append, ByteArray.size_extract, List.length_cons, List.length_nil, wrap64_eq]); omega) ?_)
        | fail)
      all_goals (show AV.lit (.bool (decide (0 ≤ (n : Int)))) = Bo true; rw [decide_eq_true (Int.natCast_nonneg n)])
    | false =>
      repeat' ((conv => whnf); first
        | (refine And.intro rfl ?_)
        | (refine And.intro (by decide +kernel) ?_)
        | (refine And.intro trivial ?_)
        | (refine d_IndexFunc (ha := sli_up hs') (hy := hy) (hl := hl) (h0 := fun h n hn => by rw [hv] at h; cases h) (h00 := fun h => ?_) ..)
        | (refine Exists.intro _ (And.intro rfl (And.intro rfl (And.intro (Nat.le_of_ble_eq_true rfl) ?_))))
        | (refine Exists.intro _ (And.intro rfl (And.intro rfl (And.intro rfl (And.intro (Nat.le_of_ble_eq_true rfl) ?_)))))
        | (refine And.intro (Exists.intro _ (And.intro rfl rfl)) ?_)
        | (exact fun hW => absurd hW (by decide +kernel))
        | (intro hW; (try simp only [Bool.not_true, Bool.not_false, Bool.not_eq_true', Bool.not_eq_false', decide_eq_true_eq, decide_eq_false_iff_not, reduceCtorEq, Bool.true_eq_false, Bool.false_eq_true, mk_size, List.size_toArray, ByteArray.size_append, ByteArray.size_extract, List.length_cons, List.length_nil, ba_get, ba_empty, Int.toNat_natCast] at hW))
        | (refine And.intro (?_ : _ → _) (?_ : _ → _))
        | (refine FinR.drop 0 (Nat.zero_le _) (Closed.zero _) rfl ?_)
        | (refine FinR.keep ?_)
        | (refine And.intro (det3_agg rfl) ?_)
        | (refine fL_mk ?_)
        | (refine And.intro (by (try simp only [mk_size, List.size_toArray, ByteArray.size_append, ByteArray.size_extract, List.length_cons, List.length_nil]); omega) ?_)
        | (refine And.intro (by (try simp only [mk_size, List.size_toArray, ByteArray.size_append, ByteArray.size_extract, List.length_cons, List.length_nil, wrap64_eq]); omega) ?_)
        | fail)
      all_goals rfl
  · rintro v σ' ⟨rfl, rfl⟩
    rw [show shB σ.length [] = [] from rfl, List.append_nil]; exact h0
end Go.Proofs.Ytbmilmnfhdkfjaa
end

section
/- Contracts: BackPlan by both sides. -/
set_option linter.unusedVariables false
set_option linter.unusedSimpArgs false
set_option maxRecDepth 100000
set_option maxHeartbeats 4000000
namespace Go.Proofs.Ytbmilmnfhdkfjaa
open Go Go.RowKit Go.Proofs.Ytbmilmnfhdkfjaa.Abs
variable {W0 : World} {σ : List Blk}
def endI (a b c d e f : Int) (xs ys : List (List Int)) (i : Nat) : Int := (rowN (runN (fsOf xs ys) (stN [a, b, c, d, e, f])) i : Nat)
theorem atR_end {a b c d e f : Int} {xs ys : List (List Int)} (hg : planB a b c d e f xs ys = true) : atR a b c d e f xs ys ys.length = .tup [Sh (endI a b c d e f xs ys 0) (endI a b c d e f xs ys 1) (endI a b c d e f xs ys 2) (endI a b c d e f xs ys 3) (endI a b c d e f xs ys 4) (endI a b c d e f xs ys 5), Bo true] := by
  have hin : inB (ys.length : Nat) 0 (ys.length : Nat) = true := by simp [inB]
  unfold atR
  rw [hg, hin, if_pos (show (true && true) = true from rfl), Int.toNat_natCast, ← fsOf_len xs ys, List.take_length]
  rfl
theorem c_BackPT (a b c d e f : Int) (o1 : Addr) (m1 c1 : Nat) (o2 : Addr) (m2 c2 : Nat) (xs ys L : List (List Int)) (hL : L = ys.reverse) (h1 : Sli W0 [] 6 enI (.lit (.slice (some o1) m1 c1)) xs) (h2 : Sli W0 [] 4 enI (.lit (.slice (some o2) m2 c2)) ys) (hx : ∀ x ∈ xs, x.length = 6) (hy : ∀ x ∈ ys, x.length = 4) (hg : planB a b c d e f xs ys = true ∧ ys.any ntg = false) (K : Cont) (h0 : ∀ x : NewP xs L, K (.tup [plN (endI a b c d e f xs ys 0) (endI a b c d e f xs ys 1) (endI a b c d e f xs ys 2) (endI a b c d e f xs ys 3) (endI a b c d e f xs ys 4) (endI a b c d e f xs ys 5) x, Bo true]) x.τ) : ACall Try.prog W0 47 [PlA a b c d e f (.lit (.slice (some o1) m1 c1)) (.lit (.slice (some o2) m2 c2))] [] K := by
  refine by47 (Nat.le_of_ble_eq_true rfl) ?_
  obtain ⟨_, hx4, hy40, hxa, hya⟩ := planB_iff.1 hg.1
  have hat := atR_end hg.1
  subst hL
  generalize endI a b c d e f xs ys 0 = r0 at hat h0
  generalize endI a b c d e f xs ys 1 = r1 at hat h0
  generalize endI a b c d e f xs ys 2 = r2 at hat h0
  generalize endI a b c d e f xs ys 3 = r3 at hat h0
  generalize endI a b c d e f xs ys 4 = r4 at hat h0
  generalize endI a b c d e f xs ys 5 = r5 at hat h0
  repeat' ((conv => whnf); first
    | (refine And.intro rfl ?_)
    | (refine And.intro (by decide +kernel) ?_)
    | (refine And.intro trivial ?_)
    | (refine fS_mk ?_)
    | (refine d_EndOf (h1 := sli_up h1) (h2 := sli_up h2) (hx := hx) (hy := hy) (h0 := ?_) ..; rw [hat])
    | (refine d_ContainsFunc (ha := sli_up h2) (hy := hy) (hl := by omega) (h0 := ?_) ..; rw [hg.2])
    | (refine d_copied (h1 := sli_up h1) (h2 := sli_up h2) (h3 := sli_up h2) (n1 := lit_nn) (n2 := lit_nn) (n3 := lit_nn) (hx := hx) (hz := hy) (hl := by omega) (hl2 := by omega) (h0 := fun S b1 w1 x1 b2 w2 x2 e1 e2 g1 g2 hk => ?_) ..; have k1 := hk 1 _ rfl; have k2 := hk 2 _ rfl; have l1 := getElem?_lt e1; have l2 := getElem?_lt e2; simp only [List.length_cons, List.length_nil] at g1 g2)
    | (refine And.intro ⟨_, getl, rfl⟩ ?_)
    | (refine d_Reverse (hB := getx1 e2) (hy := hy) (hl := by omega) (h0 := ?_) ..)
    | (refine Exists.intro _ (And.intro getl (And.intro rfl (And.intro rfl (And.intro (Nat.le_of_ble_eq_true rfl) ?_)))); rw [set_last])
    | (refine Exists.intro _ (And.intro (getx1 k2) (And.intro rfl (And.intro (Nat.le_of_ble_eq_true rfl) ?_))))
    | (refine Exists.intro _ (And.intro getl (And.intro rfl (And.intro (Nat.le_of_ble_eq_true rfl) ?_))))
    | (refine Exists.intro _ (And.intro (get_ne getl (by omega)) (And.intro rfl (And.intro (Nat.le_of_ble_eq_true rfl) ?_))))
    | (refine Exists.intro _ (And.intro (get_ne (getx1 k1) (show b2 ≠ 1 by omega)) (And.intro rfl (And.intro rfl (And.intro (Nat.le_of_ble_eq_true rfl) ?_)))))
    | (refine Exists.intro _ (And.intro (get_set (get_ne (getx1 k1) (show b2 ≠ 1 by omega))) (And.intro rfl (And.intro (Nat.le_of_ble_eq_true rfl) ?_))))
    | (refine Exists.intro _ (And.intro rfl (And.intro rfl (And.intro (Nat.le_of_ble_eq_true rfl) ?_))))
    | (refine Exists.intro _ (And.intro rfl (And.intro rfl (And.intro rfl (And.intro (Nat.le_of_ble_eq_true rfl) ?_)))))
    | (refine And.intro (Exists.intro _ (And.intro rfl rfl)) ?_)
    | (exact fun hW => absurd hW (by decide +kernel))
    | (intro hW; (try simp only [Bool.not_true, Bool.not_false, Bool.not_eq_true', Bool.not_eq_false', decide_eq_true_eq, decide_eq_false_iff_not, reduceCtorEq, Bool.true_eq_false, Bool.false_eq_true, mk_size, List.size_toArray, ByteArray.size_append, ByteArray.size_extract, List.length_cons, List.length_nil, ba_get, ba_empty, Int.toNat_natCast] at hW))
    | (refine And.intro (?_ : _ → _) (?_ : _ → _))
    | (refine FinR.drop 0 (Nat.zero_le _) (Closed.zero _) rfl ?_)
    | (refine FinR.keep ?_)
    | (refine And.intro (det3_agg rfl) ?_)
    | (refine fL_mk ?_)
    | (refine And.intro (by (try simp only [mk_size, List.size_toArray, ByteArray.size_append, ByteArray.size_extract, List.length_cons, List.length_nil]); omega) ?_)
    | (refine And.intro (by (try simp only [mk_size, List.size_toArray, ByteArray.size_append, ByteArray.size_extract, List.length_cons, List.length_nil, wrap64_eq]); omega) ?_)
    | fail)
  all_goals first | (exfalso; omega) | (exfalso; simp_all; done) | skip
  all_goals exact newP_raw (K := fun v S => K (.tup [v, Bo true]) S) h0 _ _ _ _ _ _ _ _ _ _ _ rfl (List.length_reverse).symm (get_ne (get_ne (getx1 e1) (ne_of_64 e1 e2).symm) (show 1 ≠ b1 by omega)) rfl (get_ne (get_set (getx1 e2)) (show 1 ≠ b2 by omega)) rfl
theorem c_BackPF (a b c d e f : Int) (o1 : Addr) (m1 c1 : Nat) (o2 : Addr) (m2 c2 : Nat) (xs ys : List (List Int)) (h1 : Sli W0 [] 6 enI (.lit (.slice (some o1) m1 c1)) xs) (h2 : Sli W0 [] 4 enI (.lit (.slice (some o2) m2 c2)) ys) (hx : ∀ x ∈ xs, x.length = 6) (hy : ∀ x ∈ ys, x.length = 4) (hg : planB a b c d e f xs ys = false ∨ ys.any ntg = true) (K : Cont) (h0 : K (.tup [plZ, Bo false]) []) : ACall Try.prog W0 47 [PlA a b c d e f (.lit (.slice (some o1) m1 c1)) (.lit (.slice (some o2) m2 c2))] [] K := by
  refine by47 (Nat.le_of_ble_eq_true rfl) ?_
  obtain ⟨r0, r1, r2, r3, r4, r5, bb, hat⟩ := atR_form a b c d e f xs ys ys.length
  have hbb : bb = planB a b c d e f xs ys := by
    cases hp : planB a b c d e f xs ys with
    | true => rw [atR_end hp] at hat; injection hat with h; injection h with _ h; injection h with h _; injection h with h; injection h with h; exact h.symm
    | false => unfold atR at hat; rw [hp] at hat; injection hat with h; injection h with _ h; injection h with h _; injection h with h; injection h with h; exact h.symm
  cases hp : planB a b c d e f xs ys with
  | false =>
    rw [hp] at hbb; subst hbb
    repeat' ((conv => whnf); first
      | (refine And.intro rfl ?_)
      | (refine And.intro (by decide +kernel) ?_)
      | (refine And.intro trivial ?_)
      | (refine d_EndOf (h1 := sli_up h1) (h2 := sli_up h2) (hx := hx) (hy := hy) (h0 := ?_) ..; rw [hat])
      | (refine Exists.intro _ (And.intro rfl (And.intro rfl (And.intro (Nat.le_of_ble_eq_true rfl) ?_))))
      | (refine Exists.intro _ (And.intro rfl (And.intro rfl (And.intro rfl (And.intro (Nat.le_of_ble_eq_true rfl) ?_)))))
      | (refine And.intro (Exists.intro _ (And.intro rfl rfl)) ?_)
      | (exact fun hW => absurd hW (by decide +kernel))
      | (intro hW; (try simp only [Bool.not_true, Bool.not_false, Bool.not_eq_true', Bool.not_eq_false', decide_eq_true_eq, decide_eq_false_iff_not, reduceCtorEq, Bool.true_eq_false, Bool.false_eq_true, mk_size, List.size_toArray, ByteArray.size_append, ByteArray.size_extract, List.length_cons, List.length_nil, ba_get, ba_empty, Int.toNat_natCast] at hW))
      | (refine And.intro (?_ : _ → _) (?_ : _ → _))
      | (refine FinR.drop 0 (Nat.zero_le _) (Closed.zero _) rfl ?_)
      | (refine FinR.keep ?_)
      | (refine And.intro (det3_agg rfl) ?_)
      | (refine fL_mk ?_)
      | (refine And.intro (by (try simp only [mk_size, List.size_toArray, ByteArray.size_append, ByteArray.size_extract, List.length_cons, List.length_nil]); omega) ?_)
      | (refine And.intro (by (try simp only [mk_size, List.size_toArray, ByteArray.size_append, ByteArray.size_extract, List.length_cons, List.length_nil, wrap64_eq]); omega) ?_)
      | fail)
    all_goals first | exact h0 | (exfalso; omega) | (exfalso; simp_all; done)
  | true =>
    rw [hp] at hbb; subst hbb
    have ha : ys.any ntg = true := hg.resolve_left (by rw [hp]; intro h; cases h)
    obtain ⟨_, hx4, hy40, hxa, hya⟩ := planB_iff.1 hp
    repeat' ((conv => whnf); first
      | (refine And.intro rfl ?_)
      | (refine And.intro (by decide +kernel) ?_)
      | (refine And.intro trivial ?_)
      | (refine d_EndOf (h1 := sli_up h1) (h2 := sli_up h2) (hx := hx) (hy := hy) (h0 := ?_) ..; rw [hat])
      | (refine d_ContainsFunc (ha := sli_up h2) (hy := hy) (hl := by omega) (h0 := ?_) ..; rw [ha])
      | (refine Exists.intro _ (And.intro rfl (And.intro rfl (And.intro (Nat.le_of_ble_eq_true rfl) ?_))))
      | (refine Exists.intro _ (And.intro rfl (And.intro rfl (And.intro rfl (And.intro (Nat.le_of_ble_eq_true rfl) ?_)))))
      | (refine And.intro (Exists.intro _ (And.intro rfl rfl)) ?_)
      | (exact fun hW => absurd hW (by decide +kernel))
      | (intro hW; (try simp only [Bool.not_true, Bool.not_false, Bool.not_eq_true', Bool.not_eq_false', decide_eq_true_eq, decide_eq_false_iff_not, reduceCtorEq, Bool.true_eq_false, Bool.false_eq_true, mk_size, List.size_toArray, ByteArray.size_append, ByteArray.size_extract, List.length_cons, List.length_nil, ba_get, ba_empty, Int.toNat_natCast] at hW))
      | (refine And.intro (?_ : _ → _) (?_ : _ → _))
      | (refine FinR.drop 0 (Nat.zero_le _) (Closed.zero _) rfl ?_)
      | (refine FinR.keep ?_)
      | (refine And.intro (det3_agg rfl) ?_)
      | (refine fL_mk ?_)
      | (refine And.intro (by (try simp only [mk_size, List.size_toArray, ByteArray.size_append, ByteArray.size_extract, List.length_cons, List.length_nil]); omega) ?_)
      | (refine And.intro (by (try simp only [mk_size, List.size_toArray, ByteArray.size_append, ByteArray.size_extract, List.length_cons, List.length_nil, wrap64_eq]); omega) ?_)
      | fail)
    all_goals first | exact h0 | (exfalso; omega) | (exfalso; simp_all; done)
end Go.Proofs.Ytbmilmnfhdkfjaa
end

section
/- Contracts: BackPlan by the reference. -/
set_option linter.unusedVariables false
set_option linter.unusedSimpArgs false
set_option maxRecDepth 100000
set_option maxHeartbeats 4000000
namespace Go.Proofs.Ytbmilmnfhdkfjaa
open Go Go.RowKit Go.Proofs.Ytbmilmnfhdkfjaa.Abs
variable {W0 : World} {σ : List Blk}
theorem sli_rowsE {xs : List (List Int)} {b ver s n cap : Nat} {C : List AV} {e : TypeId} {z : Nat} {r m : Bool} (hx : ∀ x ∈ xs, x.length = s) (hb : σ[b]? = some ⟨C, ver, e, z, r, m⟩) (hC : C = jc xs) (hn : n = xs.length) : Sli W0 σ s enI (.sl b ver 0 n cap) xs := by
  subst hC; subst hn; exact sli_rows hx hb
theorem c_sBack (a b c d e f : Int) (o1 : Addr) (m1 c1 : Nat) (o2 : Addr) (m2 c2 : Nat) (xs ys : List (List Int)) (h1 : Sli W0 [] 6 enI (.lit (.slice (some o1) m1 c1)) xs) (h2 : Sli W0 [] 4 enI (.lit (.slice (some o2) m2 c2)) ys) (hx : ∀ x ∈ xs, x.length = 6) (hy : ∀ x ∈ ys, x.length = 4) (hl : xs.length ≤ 1048576) (hl2 : ys.length ≤ 1048576) (hg : planB a b c d e f xs ys = true) (K : Cont) (hT : ys.any ntg = false → ∀ x : NewP xs ys.reverse, K (.tup [plN (endI a b c d e f xs ys 0) (endI a b c d e f xs ys 1) (endI a b c d e f xs ys 2) (endI a b c d e f xs ys 3) (endI a b c d e f xs ys 4) (endI a b c d e f xs ys 5) x, Bo true]) x.τ) (hF : ys.any ntg = true → K (.tup [plZ, Bo false]) []) : ACall Try.prog W0 46 [PlA a b c d e f (.lit (.slice (some o1) m1 c1)) (.lit (.slice (some o2) m2 c2))] [] K := by
  refine by46 (Nat.le_of_ble_eq_true rfl) ?_
  obtain ⟨hs, hx4, hy40, hxa, hya⟩ := planB_iff.1 hg
  obtain ⟨o2', n2, cap2, hv2, hn2, hc2, hm2, hf2⟩ := sli_form h2
  cases hv2
  subst hn2
  obtain ⟨n, hn, rfl, rfl, rfl, rfl, rfl, rfl, hst⟩ := st_parts hs
  have hE : ∀ i, endI (rowN n 0 : Nat) (rowN n 1 : Nat) (rowN n 2 : Nat) (rowN n 3 : Nat) (rowN n 4 : Nat) (rowN n 5 : Nat) xs ys i = (rowN (runN (fsOf xs ys) n) i : Nat) := fun i => by unfold endI; rw [hst]
  simp only [hE] at hT
  have htk : (fsOf xs ys).take ys.length = fsOf xs ys := by rw [← fsOf_len xs ys, List.take_length]
  have hr4 : ∀ x ∈ ys.reverse, x.length = 4 := fun x hx => hy x (List.mem_reverse.1 hx)
  have hrl : ys.reverse.length = ys.length := List.length_reverse
  have ha : ys.reverse.any ntg = ys.any ntg := by simp [List.any_reverse]
  repeat' ((conv => whnf); first
    | (refine And.intro rfl ?_)
    | (refine And.intro (by decide +kernel) ?_)
    | (refine And.intro trivial ?_)
    | (refine d_l11Plan (h1 := sli_up h1) (h2 := sli_up h2) (hx := hx) (hy := hy) (hl := hl) (hl2 := hl2) (h0 := ?_) ..; rw [hg])
    | (refine Exists.intro _ (And.intro rfl (And.intro rfl (And.intro (Nat.le_of_ble_eq_true rfl) ?_))))
    | (refine Exists.intro _ (And.intro rfl (And.intro rfl (And.intro rfl (And.intro (Nat.le_of_ble_eq_true rfl) ?_)))))
    | (refine And.intro (Exists.intro _ (And.intro rfl rfl)) ?_)
    | (exact fun hW => absurd hW (by decide +kernel))
    | (intro hW; (try simp only [Bool.not_true, Bool.not_false, Bool.not_eq_true', Bool.not_eq_false', decide_eq_true_eq, decide_eq_false_iff_not, reduceCtorEq, Bool.true_eq_false, Bool.false_eq_true, mk_size, List.size_toArray, ByteArray.size_append, ByteArray.size_extract, List.length_cons, List.length_nil, ba_get, ba_empty, Int.toNat_natCast] at hW))
    | (refine And.intro (?_ : _ → _) (?_ : _ → _))
    | (refine FinR.drop 0 (Nat.zero_le _) (Closed.zero _) rfl ?_)
    | (refine FinR.keep ?_)
    | (refine And.intro (det3_agg rfl) ?_)
    | (refine fL_mk ?_)
    | (refine And.intro (by (try simp only [mk_size, List.size_toArray, ByteArray.size_append, ByteArray.size_extract, List.length_cons, List.length_nil]); omega) ?_)
    | (refine And.intro (by (try simp only [mk_size, List.size_toArray, ByteArray.size_append, ByteArray.size_extract, List.length_cons, List.length_nil, wrap64_eq]); omega) ?_)
    | fail)
  all_goals first | (exfalso; omega) | (exfalso; simp_all; done) | skip
  refine LoopR.live (fun y : Nat × Nat => [(1, .ptr 0 0 0), (2, .ptr 1 0 0), (4, .sl 2 y.1 0 y.1 y.2), (5, I ((ys.length : Int) - 1 - (y.1 : Nat)))]) (fun y => [plBx (rowN n 0 : Nat) (rowN n 1 : Nat) (rowN n 2 : Nat) (rowN n 3 : Nat) (rowN n 4 : Nat) (rowN n 5 : Nat) (.lit (.slice (some o1) m1 c1)) (.lit (.slice (some o2) ys.length c2)) 35, plBx 0 0 0 0 0 0 nilA nilA 35, stK (ys.reverse.take y.1) y.1]) (fun y => y.1 ≤ ys.length ∧ (ys.reverse.take y.1).any ntg = false) (fun y => ys.length - y.1) (0, 0) ⟨rfl, rfl, rfl, slI' (by rw [wrap_i64 _ (by omega) (by omega)]; simp), trivial⟩ (.keep rfl) ⟨Nat.zero_le _, rfl⟩ ?_
  rintro ⟨j, cp⟩ ⟨hj, hal⟩
  dsimp only at hj hal ⊢
  have hml : j * 4 = (jc (ys.reverse.take j)).length := by rw [jc_pre (s := 4) hr4 (by omega)]
  by_cases hlt : j < ys.length
  · have e5 : (ys.length : Int) - 1 - (j : Nat) = ((ys.length - 1 - j : Nat) : Int) := by omega
    have e6 : IntKind.i64.wrap (((ys.length - 1 - j : Nat) : Int) - 1) = (ys.length : Int) - 1 - ((j + 1 : Nat) : Int) := by rw [wrap_i64 _ (by omega) (by omega)]; omega
    rw [e5]
    obtain ⟨x0, x1, x2, x3, hyi⟩ := row4x hy (show ys.length - 1 - j < ys.length by omega)
    have hri : ys.reverse[j]? = some [x0, x1, x2, x3] := by rw [List.getElem?_reverse hlt]; exact hyi
    obtain ⟨ad, e, hb, hxx⟩ := hf2 _ _ hyi
    cases e
    have hld := fun C h => ldIn (W0 := W0) (s := 4) (enc := enI) hb hxx hyi rfl (C := C) h
    have hld0 := fun C h => ldInF (W0 := W0) (s := 4) (enc := enI) hb hxx hyi 0 1 rfl (C := C) h
    have hsn : (ys.reverse.take (j + 1)).any ntg = ((ys.reverse.take j).any ntg || ntg [x0, x1, x2, x3]) := by rw [take_snoc hri, List.any_append]; simp
    have hst1 : stK (ys.reverse.take (j + 1)) (j + 1) = ⟨jc (ys.reverse.take j) ++ [I x0, I x1, I x2, I x3], j + 1, 54, 4, true, true⟩ := by
      show (⟨jc _, _, _, _, _, _⟩ : Blk) = _
      rw [take_snoc hri, jc_snoc]; rfl
    cases hr : ntg [x0, x1, x2, x3] with
    | true =>
      have hr' : (!decide (x0 = 1)) = true := hr
      have hx1 : x0 ≠ 1 := by simpa using hr'
      have h0 := hF (by rw [← ha]; exact List.any_eq_true.2 ⟨_, List.mem_of_getElem? hri, hr⟩)
      repeat' ((conv => whnf); first
        | (refine And.intro rfl ?_)
        | (refine And.intro (by decide +kernel) ?_)
        | (refine And.intro trivial ?_)
        | (refine hld0 _ ?_)
        | (refine Exists.intro _ (And.intro rfl (And.intro rfl (And.intro (Nat.le_of_ble_eq_true rfl) ?_))))
        | (refine Exists.intro _ (And.intro rfl (And.intro rfl (And.intro rfl (And.intro (Nat.le_of_ble_eq_true rfl) ?_)))))
        | (refine And.intro (Exists.intro _ (And.intro rfl rfl)) ?_)
        | (exact fun hW => absurd hW (by decide +kernel))
        | (intro hW; (try simp only [Bool.not_true, Bool.not_false, Bool.not_eq_true', Bool.not_eq_false', decide_eq_true_eq, decide_eq_false_iff_not, reduceCtorEq, Bool.true_eq_false, Bool.false_eq_true, mk_size, List.size_toArray, ByteArray.size_append, ByteArray.size_extract, List.length_cons, List.length_nil, ba_get, ba_empty, Int.toNat_natCast] at hW))
        | (refine And.intro (?_ : _ → _) (?_ : _ → _))
        | (refine FinR.drop 0 (Nat.zero_le _) (Closed.zero _) rfl ?_)
        | (refine FinR.keep ?_)
        | (refine And.intro (det3_agg rfl) ?_)
        | (refine fL_mk ?_)
        | (refine And.intro (by (try simp only [mk_size, List.size_toArray, ByteArray.size_append, ByteArray.size_extract, List.length_cons, List.length_nil]); omega) ?_)
        | (refine And.intro (by (try simp only [mk_size, List.size_toArray, ByteArray.size_append, ByteArray.size_extract, List.length_cons, List.length_nil, wrap64_eq]); omega) ?_)
        | fail)
      all_goals first | (exfalso; omega) | exact h0 | (exfalso; simp_all; done)
    | false =>
      have hr' : (!decide (x0 = 1)) = false := hr
      have hx1 : x0 = 1 := by simpa using hr'
      repeat' ((conv => whnf); first
        | (refine And.intro rfl ?_)
        | (refine And.intro (by decide +kernel) ?_)
        | (refine And.intro trivial ?_)
        | (refine hld0 _ ?_)
        | (refine hld _ ?_)
        | (refine Exists.intro _ (And.intro rfl (And.intro rfl (And.intro rfl (And.intro rfl (And.intro rfl (And.intro rfl (And.intro (by decide) (And.intro hml (And.intro rfl (And.intro (by unfold maxLen; omega) (And.intro (by omega) (fun cap' hcap1 hcap2 => ?_)))))))))))))
        | (refine Exists.intro _ (And.intro rfl (And.intro rfl (And.intro (Nat.le_of_ble_eq_true rfl) ?_))))
        | (refine Exists.intro _ (And.intro rfl (And.intro rfl (And.intro rfl (And.intro (Nat.le_of_ble_eq_true rfl) ?_)))))
        | (refine And.intro (Exists.intro _ (And.intro rfl rfl)) ?_)
        | (exact fun hW => absurd hW (by decide +kernel))
        | (intro hW; (try simp only [Bool.not_true, Bool.not_false, Bool.not_eq_true', Bool.not_eq_false', decide_eq_true_eq, decide_eq_false_iff_not, reduceCtorEq, Bool.true_eq_false, Bool.false_eq_true, mk_size, List.size_toArray, ByteArray.size_append, ByteArray.size_extract, List.length_cons, List.length_nil, ba_get, ba_empty, Int.toNat_natCast] at hW))
        | (refine And.intro (?_ : _ → _) (?_ : _ → _))
        | (refine FinR.drop 0 (Nat.zero_le _) (Closed.zero _) rfl ?_)
        | (refine FinR.keep ?_)
        | (refine And.intro (det3_agg rfl) ?_)
        | (refine fL_mk ?_)
        | (refine And.intro (by (try simp only [mk_size, List.size_toArray, ByteArray.size_append, ByteArray.size_extract, List.length_cons, List.length_nil]); omega) ?_)
        | (refine And.intro (by (try simp only [mk_size, List.size_toArray, ByteArray.size_append, ByteArray.size_extract, List.length_cons, List.length_nil, wrap64_eq]); omega) ?_)
        | fail)
      all_goals first | (exfalso; omega) | (exfalso; simp_all; done) | skip
      all_goals exact Again.go (j + 1, cap') ⟨rfl, rfl, rfl, slI' e6, trivial⟩ (.keep (by dsimp only; rw [hst1]; rfl)) ⟨by dsimp only; omega, by dsimp only; rw [hsn, hal, hr]; rfl⟩ (by dsimp only; omega)
  · obtain rfl : j = ys.length := by omega
    have htr : ys.reverse.take ys.length = ys.reverse := by rw [← hrl, List.take_length]
    rw [htr] at hal hml ⊢
    have h0 := hT (by rw [← ha]; exact hal)
    repeat' ((conv => whnf); first
      | (refine And.intro rfl ?_)
      | (refine And.intro (by decide +kernel) ?_)
      | (refine And.intro trivial ?_)
      | (refine fS_mk ?_)
      | (refine d_l11Own (h1 := sli_up h1) (h2 := sli_up h2) (h3 := sli_rowsE hr4 rfl rfl hrl.symm) (n1 := lit_nn) (n2 := lit_nn) (n3 := sl_nn) (hx := hx) (hz := hr4) (hl := by omega) (hl2 := by omega) (h0 := fun S b1 w1 x1 b2 w2 x2 e1 e2 g1 g2 hk => ?_) ..; have k0 := hk 0 _ rfl; have k1 := hk 1 _ rfl; have l1 := getElem?_lt e1; have l2 := getElem?_lt e2; simp only [List.length_cons, List.length_nil] at g1 g2)
      | (refine And.intro ⟨_, getl, rfl⟩ ?_)
      | (refine And.intro ⟨_, getx1 k0, rfl⟩ ?_)
      | (refine d_l11At (n := n) (k := ys.length) (h1 := sli_up h1) (h2 := sli_up h2) (hx := hx) (hy := hy) (hxa := hxa) (hya := hya) (hl2 := hl2) (hk := Nat.le_refl _) (h0 := ?_) ..; rw [htk])
      | (refine Exists.intro _ (And.intro getl (And.intro rfl (And.intro rfl (And.intro (Nat.le_of_ble_eq_true rfl) ?_)))); rw [set_last])
      | (refine Exists.intro _ (And.intro (getx1 k0) (And.intro rfl (And.intro (Nat.le_of_ble_eq_true rfl) ?_))))
      | (refine Exists.intro _ (And.intro getl (And.intro rfl (And.intro (Nat.le_of_ble_eq_true rfl) ?_))))
      | (refine Exists.intro _ (And.intro (getx1 k1) (And.intro rfl (And.intro rfl (And.intro (Nat.le_of_ble_eq_true rfl) ?_)))))
      | (refine Exists.intro _ (And.intro (get_set (getx1 k1)) (And.intro rfl (And.intro (Nat.le_of_ble_eq_true rfl) ?_))))
      | (refine Exists.intro _ (And.intro rfl (And.intro rfl (And.intro (Nat.le_of_ble_eq_true rfl) ?_))))
      | (refine Exists.intro _ (And.intro rfl (And.intro rfl (And.intro rfl (And.intro (Nat.le_of_ble_eq_true rfl) ?_)))))
      | (refine And.intro (Exists.intro _ (And.intro rfl rfl)) ?_)
      | (exact fun hW => absurd hW (by decide +kernel))
      | (intro hW; (try simp only [Bool.not_true, Bool.not_false, Bool.not_eq_true', Bool.not_eq_false', decide_eq_true_eq, decide_eq_false_iff_not, reduceCtorEq, Bool.true_eq_false, Bool.false_eq_true, mk_size, List.size_toArray, ByteArray.size_append, ByteArray.size_extract, List.length_cons, List.length_nil, ba_get, ba_empty, Int.toNat_natCast] at hW))
      | (refine And.intro (?_ : _ → _) (?_ : _ → _))
      | (refine FinR.drop 0 (Nat.zero_le _) (Closed.zero _) rfl ?_)
      | (refine FinR.keep ?_)
      | (refine And.intro (det3_agg rfl) ?_)
      | (refine fL_mk ?_)
      | (refine And.intro (by (try simp only [mk_size, List.size_toArray, ByteArray.size_append, ByteArray.size_extract, List.length_cons, List.length_nil]); omega) ?_)
      | (refine And.intro (by (try simp only [mk_size, List.size_toArray, ByteArray.size_append, ByteArray.size_extract, List.length_cons, List.length_nil, wrap64_eq]); omega) ?_)
      | fail)
    all_goals first | (exfalso; omega) | (exfalso; simp_all; done) | skip
    all_goals exact h0 ⟨_, b1, w1, x1, b2, w2, x2, get_ne (getx1 e1) (show 1 ≠ b1 by omega), get_ne (getx1 e2) (show 1 ≠ b2 by omega)⟩
theorem c_sBackPT (a b c d e f : Int) (o1 : Addr) (m1 c1 : Nat) (o2 : Addr) (m2 c2 : Nat) (xs ys L : List (List Int)) (hL : L = ys.reverse) (h1 : Sli W0 [] 6 enI (.lit (.slice (some o1) m1 c1)) xs) (h2 : Sli W0 [] 4 enI (.lit (.slice (some o2) m2 c2)) ys) (hx : ∀ x ∈ xs, x.length = 6) (hy : ∀ x ∈ ys, x.length = 4) (hl : xs.length ≤ 1048576) (hl2 : ys.length ≤ 1048576) (hg : planB a b c d e f xs ys = true ∧ ys.any ntg = false) (K : Cont) (h0 : ∀ x : NewP xs L, K (.tup [plN (endI a b c d e f xs ys 0) (endI a b c d e f xs ys 1) (endI a b c d e f xs ys 2) (endI a b c d e f xs ys 3) (endI a b c d e f xs ys 4) (endI a b c d e f xs ys 5) x, Bo true]) x.τ) : ACall Try.prog W0 46 [PlA a b c d e f (.lit (.slice (some o1) m1 c1)) (.lit (.slice (some o2) m2 c2))] [] K := by
  subst hL
  exact c_sBack a b c d e f o1 m1 c1 o2 m2 c2 xs ys h1 h2 hx hy hl hl2 hg.1 K (fun _ => h0) (fun h => by rw [hg.2] at h; cases h)
theorem c_sBackPF (a b c d e f : Int) (o1 : Addr) (m1 c1 : Nat) (o2 : Addr) (m2 c2 : Nat) (xs ys : List (List Int)) (h1 : Sli W0 [] 6 enI (.lit (.slice (some o1) m1 c1)) xs) (h2 : Sli W0 [] 4 enI (.lit (.slice (some o2) m2 c2)) ys) (hx : ∀ x ∈ xs, x.length = 6) (hy : ∀ x ∈ ys, x.length = 4) (hl : xs.length ≤ 1048576) (hl2 : ys.length ≤ 1048576) (hg : planB a b c d e f xs ys = false ∨ ys.any ntg = true) (K : Cont) (h0 : K (.tup [plZ, Bo false]) []) : ACall Try.prog W0 46 [PlA a b c d e f (.lit (.slice (some o1) m1 c1)) (.lit (.slice (some o2) m2 c2))] [] K := by
  cases hp : planB a b c d e f xs ys with
  | false =>
    refine by46 (Nat.le_of_ble_eq_true rfl) ?_
    repeat' ((conv => whnf); first
      | (refine And.intro rfl ?_)
      | (refine And.intro (by decide +kernel) ?_)
      | (refine And.intro trivial ?_)
      | (refine d_l11Plan (h1 := sli_up h1) (h2 := sli_up h2) (hx := hx) (hy := hy) (hl := hl) (hl2 := hl2) (h0 := ?_) ..; rw [hp])
      | (refine Exists.intro _ (And.intro rfl (And.intro rfl (And.intro (Nat.le_of_ble_eq_true rfl) ?_))))
      | (refine Exists.intro _ (And.intro rfl (And.intro rfl (And.intro rfl (And.intro (Nat.le_of_ble_eq_true rfl) ?_)))))
      | (refine And.intro (Exists.intro _ (And.intro rfl rfl)) ?_)
      | (exact fun hW => absurd hW (by decide +kernel))
      | (intro hW; (try simp only [Bool.not_true, Bool.not_false, Bool.not_eq_true', Bool.not_eq_false', decide_eq_true_eq, decide_eq_false_iff_not, reduceCtorEq, Bool.true_eq_false, Bool.false_eq_true, mk_size, List.size_toArray, ByteArray.size_append, ByteArray.size_extract, List.length_cons, List.length_nil, ba_get, ba_empty, Int.toNat_natCast] at hW))
      | (refine And.intro (?_ : _ → _) (?_ : _ → _))
      | (refine FinR.drop 0 (Nat.zero_le _) (Closed.zero _) rfl ?_)
      | (refine FinR.keep ?_)
      | (refine And.intro (det3_agg rfl) ?_)
      | (refine fL_mk ?_)
      | (refine And.intro (by (try simp only [mk_size, List.size_toArray, ByteArray.size_append, ByteArray.size_extract, List.length_cons, List.length_nil]); omega) ?_)
      | (refine And.intro (by (try simp only [mk_size, List.size_toArray, ByteArray.size_append, ByteArray.size_extract, List.length_cons, List.length_nil, wrap64_eq]); omega) ?_)
      | fail)
    all_goals first | exact h0 | (exfalso; omega) | (exfalso; simp_all; done)
  | true =>
    have ha : ys.any ntg = true := hg.resolve_left (by rw [hp]; intro h; cases h)
    exact c_sBack a b c d e f o1 m1 c1 o2 m2 c2 xs ys h1 h2 hx hy hl hl2 hp K (fun h => by rw [ha] at h; cases h) (fun _ => h0)
theorem d_sBackPL (a b c d e f : Int) (s1 s2 : AV) (xs ys L : List (List Int)) (hL : L = ys.reverse) (h1 : Sli W0 σ 6 enI s1 xs) (h2 : Sli W0 σ 4 enI s2 ys) (n1 : s1 ≠ nilA) (n2 : s2 ≠ nilA) (hx : ∀ x ∈ xs, x.length = 6) (hy : ∀ x ∈ ys, x.length = 4) (hl : xs.length ≤ 1048576) (hl2 : ys.length ≤ 1048576) (hg : planB a b c d e f xs ys = true ∧ ys.any ntg = false) (K : Cont)
    (h0 : ∀ S b1 r1 c1 b2 r2 c2, S[b1]? = some (shK xs r1) → S[b2]? = some (stK L r2) → σ.length ≤ b1 → σ.length ≤ b2 → (∀ (j : Nat) (B : Blk), σ[j]? = some B → S[j]? = some B) → K (.tup [PlA (endI a b c d e f xs ys 0) (endI a b c d e f xs ys 1) (endI a b c d e f xs ys 2) (endI a b c d e f xs ys 3) (endI a b c d e f xs ys 4) (endI a b c d e f xs ys 5) (.sl b1 r1 0 xs.length c1) (.sl b2 r2 0 L.length c2), Bo true]) S) : ACall Try.prog W0 46 [PlA a b c d e f s1 s2] σ K :=
  lift_PlN (rest := []) (ι := NewP xs L) (fun x => .tup [plN (endI a b c d e f xs ys 0) (endI a b c d e f xs ys 1) (endI a b c d e f xs ys 2) (endI a b c d e f xs ys 3) (endI a b c d e f xs ys 4) (endI a b c d e f xs ys 5) x, Bo true]) (fun x => x.τ) (by kernel_rfl) rfl h1 h2 n1 n2 (fun W1 o1 m1 c1 o2 m2 c2 q1 q2 K hK => c_sBackPT a b c d e f o1 m1 c1 o2 m2 c2 xs ys L hL q1 q2 hx hy hl hl2 hg K hK) K (fun x => h0 _ _ _ _ _ _ _ (newP_sh1 x) (newP_sh2 x) (Nat.le_add_right _ _) (Nat.le_add_right _ _) (fun j B hj => getx1 hj))
theorem d_BackPL (a b c d e f : Int) (s1 s2 : AV) (xs ys L : List (List Int)) (hL : L = ys.reverse) (h1 : Sli W0 σ 6 enI s1 xs) (h2 : Sli W0 σ 4 enI s2 ys) (n1 : s1 ≠ nilA) (n2 : s2 ≠ nilA) (hx : ∀ x ∈ xs, x.length = 6) (hy : ∀ x ∈ ys, x.length = 4) (hg : planB a b c d e f xs ys = true ∧ ys.any ntg = false) (K : Cont)
    (h0 : ∀ S b1 r1 c1 b2 r2 c2, S[b1]? = some (shK xs r1) → S[b2]? = some (stK L r2) → σ.length ≤ b1 → σ.length ≤ b2 → (∀ (j : Nat) (B : Blk), σ[j]? = some B → S[j]? = some B) → K (.tup [PlA (endI a b c d e f xs ys 0) (endI a b c d e f xs ys 1) (endI a b c d e f xs ys 2) (endI a b c d e f xs ys 3) (endI a b c d e f xs ys 4) (endI a b c d e f xs ys 5) (.sl b1 r1 0 xs.length c1) (.sl b2 r2 0 L.length c2), Bo true]) S) : ACall Try.prog W0 47 [PlA a b c d e f s1 s2] σ K :=
  lift_PlN (rest := []) (ι := NewP xs L) (fun x => .tup [plN (endI a b c d e f xs ys 0) (endI a b c d e f xs ys 1) (endI a b c d e f xs ys 2) (endI a b c d e f xs ys 3) (endI a b c d e f xs ys 4) (endI a b c d e f xs ys 5) x, Bo true]) (fun x => x.τ) (by kernel_rfl) rfl h1 h2 n1 n2 (fun W1 o1 m1 c1 o2 m2 c2 q1 q2 K hK => c_BackPT a b c d e f o1 m1 c1 o2 m2 c2 xs ys L hL q1 q2 hx hy hg K hK) K (fun x => h0 _ _ _ _ _ _ _ (newP_sh1 x) (newP_sh2 x) (Nat.le_add_right _ _) (Nat.le_add_right _ _) (fun j B hj => getx1 hj))
theorem d_sBackPF (a b c d e f : Int) (s1 s2 : AV) (xs ys : List (List Int)) (h1 : Sli W0 σ 6 enI s1 xs) (h2 : Sli W0 σ 4 enI s2 ys) (n1 : s1 ≠ nilA) (n2 : s2 ≠ nilA) (hx : ∀ x ∈ xs, x.length = 6) (hy : ∀ x ∈ ys, x.length = 4) (hl : xs.length ≤ 1048576) (hl2 : ys.length ≤ 1048576) (hg : planB a b c d e f xs ys = false ∨ ys.any ntg = true) (K : Cont) (h0 : K (.tup [plZ, Bo false]) σ) : ACall Try.prog W0 46 [PlA a b c d e f s1 s2] σ K :=
  lift_PlN (rest := []) (ι := Unit) (fun _ => .tup [plZ, Bo false]) (fun _ => []) (by kernel_rfl) rfl h1 h2 n1 n2 (fun W1 o1 m1 c1 o2 m2 c2 q1 q2 K hK => c_sBackPF a b c d e f o1 m1 c1 o2 m2 c2 xs ys q1 q2 hx hy hl hl2 hg K (hK ())) K (fun _ => by
    rw [show shB σ.length [] = [] from rfl, List.append_nil]; exact h0)
theorem d_BackPF (a b c d e f : Int) (s1 s2 : AV) (xs ys : List (List Int)) (h1 : Sli W0 σ 6 enI s1 xs) (h2 : Sli W0 σ 4 enI s2 ys) (n1 : s1 ≠ nilA) (n2 : s2 ≠ nilA) (hx : ∀ x ∈ xs, x.length = 6) (hy : ∀ x ∈ ys, x.length = 4) (hg : planB a b c d e f xs ys = false ∨ ys.any ntg = true) (K : Cont) (h0 : K (.tup [plZ, Bo false]) σ) : ACall Try.prog W0 47 [PlA a b c d e f s1 s2] σ K :=
  lift_PlN (rest := []) (ι := Unit) (fun _ => .tup [plZ, Bo false]) (fun _ => []) (by kernel_rfl) rfl h1 h2 n1 n2 (fun W1 o1 m1 c1 o2 m2 c2 q1 q2 K hK => c_BackPF a b c d e f o1 m1 c1 o2 m2 c2 xs ys q1 q2 hx hy hg K (hK ())) K (fun _ => by
    rw [show shB σ.length [] = [] from rfl, List.append_nil]; exact h0)
end Go.Proofs.Ytbmilmnfhdkfjaa
end

section
/- Contracts: the law BackPlan. -/
set_option linter.unusedVariables false
set_option linter.unusedSimpArgs false
set_option maxRecDepth 100000
set_option maxHeartbeats 4000000
namespace Go.Proofs.Ytbmilmnfhdkfjaa
open Go Go.RowKit Go.Proofs.Ytbmilmnfhdkfjaa.Abs
variable {W0 : World} {σ : List Blk}
theorem c_law_BackPlanF (a b c d e f : Int) (v1 v2 : Value) (xs ys : List (List Int)) (h1 : Sli W0 [] 6 enI (.lit v1) xs) (h2 : Sli W0 [] 4 enI (.lit v2) ys) (hx : ∀ x ∈ xs, x.length = 6) (hy : ∀ x ∈ ys, x.length = 4) (hl : xs.length ≤ 1048576) (hl2 : ys.length ≤ 1048576) (hz : ¬ ((1048576 : Int) - xs.length - ys.length < 0)) (hg : planB a b c d e f xs ys = false ∨ ys.any ntg = true) (K : Cont) (h0 : K (Bo true) []) : ACall Try.prog W0 13 [PlA a b c d e f (.lit v1) (.lit v2)] [] K := by
  have hm' : xs.length ≤ 9223372036854775807 := by omega
  have hm2' : ys.length ≤ 9223372036854775807 := by omega
  have h6 := shSB_len hx
  have h4 := stSB_len hy
  refine by13 (Nat.le_of_ble_eq_true rfl) ?_
  repeat' ((conv => whnf); first
    | (refine And.intro rfl ?_)
    | (refine And.intro (by decide +kernel) ?_)
    | (refine And.intro trivial ?_)
    | (refine d_szPlan (h1 := sli_up h1) (h2 := sli_up h2) (hl := hm') (hl2 := hm2') (hm := by decide) (h0 := fun h => ?_) (h00 := fun h => absurd h hz) ..)
    | (refine d_toPlan (h1 := sli_up h1) (h2 := sli_up h2) (hx := hx) (hy := hy) (hl := hl) (hl2 := hl2) (h0 := fun A B C => ?_) ..)
    | (refine d_sBackPF (h1 := sli_rows hx rfl) (h2 := sli_rows hy rfl) (n1 := sl_nn) (n2 := sl_nn) (hx := hx) (hy := hy) (hl := hl) (hl2 := hl2) (hg := hg) (h0 := ?_) ..)
    | (refine d_BackPF (h1 := sli_rows hx rfl) (h2 := sli_rows hy rfl) (n1 := sl_nn) (n2 := sl_nn) (hx := hx) (hy := hy) (hg := hg) (h0 := ?_) ..)
    | (refine d_markPlan0 (h0 := ?_) ..)
    | (refine d_heldPlan (n1 := 0) (n2 := 0) (h1 := .nil) (h2 := .nil) (hm1 := by omega) (hm2 := by omega) (hk := by omega) (h0 := ?_) ..)
    | (refine d_eqPlan (xs := []) (ys := []) (h1 := .nil) (h2 := .nil) (g1 := .nil) (g2 := .nil) (hx := by simp) (hy := by simp) (hl := by decide) (hl2 := by decide) (h0 := ?_) ..)
    | (refine Exists.intro _ (And.intro (callW_fn (d_eqPlan (h1 := sli_rows hx rfl) (h2 := sli_rows hy rfl) (g1 := sli_rows hx rfl) (g2 := sli_rows hy rfl) (hx := hx) (hy := hy) (hl := hl) (hl2 := hl2) (h0 := And.intro rfl rfl) ..)) ?_))
    | (refine d_markPlan (B1 := shSB xs) (B2 := stSB ys) (hB1 := rfl) (hB2 := rfl) (hv1 := rfl) (hv2 := rfl) (hne := by simp) (hn1 := h6) (hn2 := h4) (hm1 := hl) (hm2 := hl2) (hk := by omega) (h0 := fun A => ?_) ..)
    | (refine Exists.intro _ (And.intro rfl (And.intro rfl (And.intro (Nat.le_of_ble_eq_true rfl) ?_))))
    | (refine Exists.intro _ (And.intro rfl (And.intro rfl (And.intro rfl (And.intro (Nat.le_of_ble_eq_true rfl) ?_)))))
    | (refine And.intro (Exists.intro _ (And.intro rfl rfl)) ?_)
    | (exact fun hW => absurd hW (by decide +kernel))
    | (intro hW; (try simp only [Bool.not_true, Bool.not_false, Bool.not_eq_true', Bool.not_eq_false', decide_eq_true_eq, decide_eq_false_iff_not, reduceCtorEq, Bool.true_eq_false, Bool.false_eq_true, mk_size, List.size_toArray, ByteArray.size_append, ByteArray.size_extract, List.length_cons, List.length_nil, ba_get, ba_empty, Int.toNat_natCast] at hW))
    | (refine And.intro (?_ : _ → _) (?_ : _ → _))
    | (refine FinR.drop 0 (Nat.zero_le _) (Closed.zero _) rfl ?_)
    | (refine FinR.keep ?_)
    | (refine And.intro (det3_agg rfl) ?_)
    | (refine fL_mk ?_)
    | (refine And.intro (by (try simp only [mk_size, List.size_toArray, ByteArray.size_append, ByteArray.size_extract, List.length_cons, List.length_nil]); omega) ?_)
    | (refine And.intro (by (try simp only [mk_size, List.size_toArray, ByteArray.size_append, ByteArray.size_extract, List.length_cons, List.length_nil, wrap64_eq]); omega) ?_)
    | fail)
  all_goals first | exact h0 | (exfalso; omega) | (exfalso; simp_all; done) | skip
theorem c_law_BackPlanT (a b c d e f : Int) (v1 v2 : Value) (xs ys : List (List Int)) (h1 : Sli W0 [] 6 enI (.lit v1) xs) (h2 : Sli W0 [] 4 enI (.lit v2) ys) (hx : ∀ x ∈ xs, x.length = 6) (hy : ∀ x ∈ ys, x.length = 4) (hl : xs.length ≤ 1048576) (hl2 : ys.length ≤ 1048576) (hz : ¬ ((1048576 : Int) - xs.length - ys.length < 0)) (hg : planB a b c d e f xs ys = true ∧ ys.any ntg = false) (K : Cont) (h0 : K (Bo true) []) : ACall Try.prog W0 13 [PlA a b c d e f (.lit v1) (.lit v2)] [] K := by
  have hm' : xs.length ≤ 9223372036854775807 := by omega
  have hm2' : ys.length ≤ 9223372036854775807 := by omega
  have h6 := shSB_len hx
  have h4 := stSB_len hy
  have hyL : ∀ x ∈ ys.reverse, x.length = 4 := fun x hx => hy x (List.mem_reverse.1 hx)
  have hlL : (ys.reverse).length ≤ 1048576 := by rw [List.length_reverse]; exact hl2
  generalize hL : ys.reverse = L at hyL hlL
  have h4L : L.length * 4 ≤ (jc L).length := by rw [jc_len (s := 4) hyL]; exact Nat.le_refl _
  have h6L : xs.length * 6 ≤ (jc xs).length := by rw [jc_len (s := 6) hx]; exact Nat.le_refl _
  refine by13 (Nat.le_of_ble_eq_true rfl) ?_
  repeat' ((conv => whnf); first
    | (refine And.intro rfl ?_)
    | (refine And.intro (by decide +kernel) ?_)
    | (refine And.intro trivial ?_)
    | (refine fS_mk ?_)
    | (refine d_szPlan (h1 := sli_up h1) (h2 := sli_up h2) (hl := hm') (hl2 := hm2') (hm := by decide) (h0 := fun h => ?_) (h00 := fun h => absurd h hz) ..)
    | (have hz9 := j1e; refine d_eqPlan (xs := xs) (ys := L) (h1 := sli_rows hx (getx1 j1e)) (h2 := sli_rows hyL (getx1 j2e)) (g1 := sli_rows hx (getx1 w1e)) (g2 := sli_rows hyL (getx1 w2e)) (hx := hx) (hy := hyL) (hl := hl) (hl2 := hlL) (h0 := ?_) ..)
    | (have hz9 := j1e; refine d_heldPlan (n1 := xs.length) (n2 := L.length) (h1 := sli_rowsM3 (B := shK xs _) rfl (getx1 m1e) rfl) (h2 := sli_rowsM3 (B := stK L _) rfl (getx1 m2e) rfl) (hm1 := hl) (hm2 := hlL) (hk := by omega) (h0 := ?_) ..)
    | (have hz9 := y1e; refine d_BackPL (L := L) (hL := hL.symm) (h1 := sli_rows hx y1e) (h2 := sli_rows hy y2e) (n1 := sl_nn) (n2 := sl_nn) (hx := hx) (hy := hy) (hg := hg) (h0 := fun S9 j1 jr1 jc1 j2 jr2 jc2 j1e j2e j1l j2l hk => ?_) ..; have zb := hk _ _ zb; have zw := hk _ _ zw; have w1e := hk _ _ w1e; have w2e := hk _ _ w2e; have zg := hk _ _ zg; have m1e := hk _ _ m1e; have m2e := hk _ _ m2e)
    | (have hz9 := m1e; refine d_toPlanS (h1 := sli_up h1) (h2 := sli_up h2) (hx := hx) (hy := hy) (hl := hl) (hl2 := hl2) (h0 := fun S8 y1 y2 y1e y2e y1l y2l yn hk => ?_) ..; have zb := hk _ _ zb; have zw := hk _ _ zw; have w1e := hk _ _ w1e; have w2e := hk _ _ w2e; have zg := hk _ _ zg; have m1e := hk _ _ m1e; have m2e := hk _ _ m2e)
    | (have hz9 := m1e; refine d_heldPlan (n1 := xs.length) (n2 := L.length) (h1 := sli_rowsM3 (B := shK xs _) rfl m1e rfl) (h2 := sli_rowsM3 (B := stK L _) rfl m2e rfl) (hm1 := hl) (hm2 := hlL) (hk := by omega) (h0 := ?_) ..)
    | (have hz9 := mm1; refine d_markPlanS (B1 := shK xs _) (B2 := stK L _) (hB1 := g1e) (hB2 := g2e) (hv1 := rfl) (hv2 := rfl) (hne := hgne) (hn1 := h6L) (hn2 := h4L) (hm1 := hl) (hm2 := hlL) (hk := by omega) (h0 := fun S7 m1e m2e hk => ?_) ..; have zb := hk _ _ (by omega) (by omega) zb; have zw := hk _ _ (by omega) (by omega) zw; have w1e := hk _ _ (by omega) (by omega) w1e; have w2e := hk _ _ (by omega) (by omega) w2e; have zg := hk _ _ (by omega) (by omega) zg)
    | (have hz9 := mm1; refine d_eqPlan (xs := xs) (ys := L) (h1 := sli_rows hx g1e) (h2 := sli_rows hyL g2e) (g1 := sli_rows hx w1e) (g2 := sli_rows hyL w2e) (hx := hx) (hy := hyL) (hl := hl) (hl2 := hlL) (h0 := ?_) ..)
    | (have hz9 := g1e; refine d_markPlanS (B1 := shSB xs) (B2 := stSB ys) (hB1 := getx1 (getx1 x1e)) (hB2 := getx1 (getx1 x2e)) (hv1 := rfl) (hv2 := rfl) (hne := xn) (hn1 := h6) (hn2 := h4) (hm1 := hl) (hm2 := hl2) (hk := by omega) (h0 := fun S6 mm1 mm2 hk => ?_) ..; have zb := hk _ _ (by omega) (by omega) (getx1 (getx1 zb)); have zw := hk _ _ (by omega) (by omega) (getx1 (getx1 zw)); have w1e := hk _ _ (by omega) (by omega) (getx1 (getx1 w1e)); have w2e := hk _ _ (by omega) (by omega) (getx1 (getx1 w2e)); have zg := hk _ _ (by omega) (by omega) (getx1 getl); have g1e := hk _ _ (by omega) (by omega) (getx1 (getx1 g1e)); have g2e := hk _ _ (by omega) (by omega) (getx1 (getx1 g2e)))
    | (have hz9 := g1e; refine d_toPlan (h1 := sli_up h1) (h2 := sli_up h2) (hx := hx) (hy := hy) (hl := hl) (hl2 := hl2) (h0 := fun A B C => varC_app ?_) ..)
    | (have hz9 := g1e; refine Exists.intro _ (And.intro (callW_fn (d_eqPlan (h1 := sli_rows hx (getx1 (getx1 x1e))) (h2 := sli_rows hy (getx1 (getx1 x2e))) (g1 := sli_rows hx g5a) (g2 := sli_rows hy g5b) (hx := hx) (hy := hy) (hl := hl) (hl2 := hl2) (h0 := And.intro rfl rfl) ..)) ?_))
    | (have hz9 := g1e; refine d_eqPlan (xs := xs) (ys := L) (h1 := sli_rows hx (getx1 g1e)) (h2 := sli_rows hyL (getx1 g2e)) (g1 := sli_rows hx (getx1 w1e)) (g2 := sli_rows hyL (getx1 w2e)) (hx := hx) (hy := hyL) (hl := hl) (hl2 := hlL) (h0 := ?_) ..)
    | (have hz9 := x1e; refine d_BackPL (L := L) (hL := hL.symm) (h1 := sli_rows hx (getx1 x1e)) (h2 := sli_rows hy (getx1 x2e)) (n1 := sl_nn) (n2 := sl_nn) (hx := hx) (hy := hy) (hg := hg) (h0 := fun S4 g1 gr1 gc1 g2 gr2 gc2 g1e g2e g1l g2l hk => ?_) ..; have zb := hk _ _ (getx1 zb); have zw := hk _ _ (getx1 zw); have w1e := hk _ _ (getx1 w1e); have w2e := hk _ _ (getx1 w2e); have zx := hk _ _ getl; have x1e := hk _ _ (getx1 x1e); have x2e := hk _ _ (getx1 x2e); have hgne : g1 ≠ g2 := ne_of_64 g1e g2e; have gl1 := getElem?_lt g1e; have gl2 := getElem?_lt g2e; have zxl := getElem?_lt zx; rw [List.length_append] at g1l g2l; simp only [List.length_cons, List.length_nil] at g1l g2l)
    | (have hz9 := w1e; refine d_toPlanS (h1 := sli_up h1) (h2 := sli_up h2) (hx := hx) (hy := hy) (hl := hl) (hl2 := hl2) (h0 := fun S3 x1 x2 x1e x2e x1l x2l xn hk => ?_) ..; have zb := hk _ _ (getx1 zb); have zw := hk _ _ getl; have w1e := hk _ _ (getx1 w1e); have w2e := hk _ _ (getx1 w2e); have xl1 := getElem?_lt x1e; have xl2 := getElem?_lt x2e; rw [List.length_append] at x1l x2l; simp only [List.length_cons, List.length_nil] at x1l x2l)
    | (have hz9 := p1e; refine d_sBackPL (L := L) (hL := hL.symm) (h1 := sli_rows hx p1e) (h2 := sli_rows hy p2e) (n1 := sl_nn) (n2 := sl_nn) (hx := hx) (hy := hy) (hl := hl) (hl2 := hl2) (hg := hg) (h0 := fun S2 w1 wr1 wc1 w2 wr2 wc2 w1e w2e w1l w2l hk => ?_) ..; have zb := hk _ _ zb; have wl1 := getElem?_lt w1e; have wl2 := getElem?_lt w2e)
    | (refine d_toPlanS (h1 := sli_up h1) (h2 := sli_up h2) (hx := hx) (hy := hy) (hl := hl) (hl2 := hl2) (h0 := fun S1 p1 p2 p1e p2e p1l p2l pn hk => ?_) ..; have zb := hk 0 _ rfl)
    | (refine Exists.intro _ (And.intro getl (And.intro rfl (And.intro rfl (And.intro (Nat.le_of_ble_eq_true rfl) ?_)))); rw [set_last])
    | (refine Exists.intro _ (And.intro (getl) (And.intro rfl (And.intro (Nat.le_of_ble_eq_true rfl) ?_))))
    | (refine Exists.intro _ (And.intro (zb) (And.intro rfl (And.intro (Nat.le_of_ble_eq_true rfl) ?_))))
    | (refine Exists.intro _ (And.intro (getx1 zb) (And.intro rfl (And.intro (Nat.le_of_ble_eq_true rfl) ?_))))
    | (refine Exists.intro _ (And.intro (zw) (And.intro rfl (And.intro (Nat.le_of_ble_eq_true rfl) ?_))))
    | (refine Exists.intro _ (And.intro (getx1 zw) (And.intro rfl (And.intro (Nat.le_of_ble_eq_true rfl) ?_))))
    | (refine Exists.intro _ (And.intro (zx) (And.intro rfl (And.intro (Nat.le_of_ble_eq_true rfl) ?_))))
    | (refine Exists.intro _ (And.intro (getx1 zx) (And.intro rfl (And.intro (Nat.le_of_ble_eq_true rfl) ?_))))
    | (refine Exists.intro _ (And.intro (getx1 (getx1 zx)) (And.intro rfl (And.intro (Nat.le_of_ble_eq_true rfl) ?_))))
    | (refine Exists.intro _ (And.intro (zg) (And.intro rfl (And.intro (Nat.le_of_ble_eq_true rfl) ?_))))
    | (refine Exists.intro _ (And.intro (getx1 zg) (And.intro rfl (And.intro (Nat.le_of_ble_eq_true rfl) ?_))))
    | (refine Exists.intro _ (And.intro (getx1 (getx1 zb)) (And.intro rfl (And.intro (Nat.le_of_ble_eq_true rfl) ?_))))
    | (refine Exists.intro _ (And.intro (getx1 getl) (And.intro rfl (And.intro (Nat.le_of_ble_eq_true rfl) ?_))))
    | (refine Exists.intro _ (And.intro rfl (And.intro rfl (And.intro (Nat.le_of_ble_eq_true rfl) ?_))))
    | (refine Exists.intro _ (And.intro rfl (And.intro rfl (And.intro rfl (And.intro (Nat.le_of_ble_eq_true rfl) ?_)))))
    | (refine And.intro (Exists.intro _ (And.intro rfl rfl)) ?_)
    | (exact fun hW => absurd hW (by decide +kernel))
    | (intro hW; (try simp only [Bool.not_true, Bool.not_false, Bool.not_eq_true', Bool.not_eq_false', decide_eq_true_eq, decide_eq_false_iff_not, reduceCtorEq, Bool.true_eq_false, Bool.false_eq_true, mk_size, List.size_toArray, ByteArray.size_append, ByteArray.size_extract, List.length_cons, List.length_nil, ba_get, ba_empty, Int.toNat_natCast] at hW))
    | (refine And.intro (?_ : _ → _) (?_ : _ → _))
    | (refine FinR.drop 0 (Nat.zero_le _) (Closed.zero _) rfl ?_)
    | (refine FinR.keep ?_)
    | (refine And.intro (det3_agg rfl) ?_)
    | (refine fL_mk ?_)
    | (refine And.intro (by (try simp only [mk_size, List.size_toArray, ByteArray.size_append, ByteArray.size_extract, List.length_cons, List.length_nil]); omega) ?_)
    | (refine And.intro (by (try simp only [mk_size, List.size_toArray, ByteArray.size_append, ByteArray.size_extract, List.length_cons, List.length_nil, wrap64_eq]); omega) ?_)
    | fail)
  all_goals first | exact h0 | (exfalso; omega) | (exfalso; simp_all; done) | skip
theorem c_law_BackPlanQ (a b c d e f : Int) (v1 v2 : Value) (xs ys : List (List Int)) (h1 : Sli W0 [] 6 enI (.lit v1) xs) (h2 : Sli W0 [] 4 enI (.lit v2) ys) (hx : ∀ x ∈ xs, x.length = 6) (hy : ∀ x ∈ ys, x.length = 4) (hm : xs.length ≤ maxLen) (hm2 : ys.length ≤ maxLen) (K : Cont) (h0 : K (Bo true) []) : ACall Try.prog W0 13 [PlA a b c d e f (.lit v1) (.lit v2)] [] K := by
  have hm' : xs.length ≤ 9223372036854775807 := hm
  have hm2' : ys.length ≤ 9223372036854775807 := hm2
  by_cases hz : (1048576 : Int) - xs.length - ys.length < 0
  · refine by13 (Nat.le_of_ble_eq_true rfl) ?_
    repeat' ((conv => whnf); first
      | (refine And.intro rfl ?_)
      | (refine And.intro (by decide +kernel) ?_)
      | (refine And.intro trivial ?_)
      | (refine d_szPlan (h1 := sli_up h1) (h2 := sli_up h2) (hl := hm') (hl2 := hm2') (hm := by decide) (h0 := fun h => ?_) (h00 := fun h => ?_) ..)
      | (refine Exists.intro _ (And.intro rfl (And.intro rfl (And.intro (Nat.le_of_ble_eq_true rfl) ?_))))
      | (refine Exists.intro _ (And.intro rfl (And.intro rfl (And.intro rfl (And.intro (Nat.le_of_ble_eq_true rfl) ?_)))))
      | (refine And.intro (Exists.intro _ (And.intro rfl rfl)) ?_)
      | (exact fun hW => absurd hW (by decide +kernel))
      | (intro hW; (try simp only [Bool.not_true, Bool.not_false, Bool.not_eq_true', Bool.not_eq_false', decide_eq_true_eq, decide_eq_false_iff_not, reduceCtorEq, Bool.true_eq_false, Bool.false_eq_true, mk_size, List.size_toArray, ByteArray.size_append, ByteArray.size_extract, List.length_cons, List.length_nil, ba_get, ba_empty, Int.toNat_natCast] at hW))
      | (refine And.intro (?_ : _ → _) (?_ : _ → _))
      | (refine FinR.drop 0 (Nat.zero_le _) (Closed.zero _) rfl ?_)
      | (refine FinR.keep ?_)
      | (refine And.intro (det3_agg rfl) ?_)
      | (refine fL_mk ?_)
      | (refine And.intro (by (try simp only [mk_size, List.size_toArray, ByteArray.size_append, ByteArray.size_extract, List.length_cons, List.length_nil]); omega) ?_)
      | (refine And.intro (by (try simp only [mk_size, List.size_toArray, ByteArray.size_append, ByteArray.size_extract, List.length_cons, List.length_nil, wrap64_eq]); omega) ?_)
      | fail)
    all_goals first | exact h0 | (exfalso; omega) | (exfalso; simp_all; done)
  · by_cases hg : planB a b c d e f xs ys = true ∧ ys.any ntg = false
    · exact c_law_BackPlanT a b c d e f v1 v2 xs ys h1 h2 hx hy (by omega) (by omega) hz hg K h0
    · exact c_law_BackPlanF a b c d e f v1 v2 xs ys h1 h2 hx hy (by omega) (by omega) hz (by cases hp : planB a b c d e f xs ys with | false => exact .inl rfl | true => exact .inr (by cases hq : ys.any ntg with | false => exact absurd ⟨hp, hq⟩ hg | true => rfl)) K h0
theorem c_law_BackPlan (a0 : Int) (ha0 : IntKind.i64.has a0) (a1 : Int) (ha1 : IntKind.i64.has a1) (a2 : Int) (ha2 : IntKind.i64.has a2) (a3 : Int) (ha3 : IntKind.i64.has a3) (a4 : Int) (ha4 : IntKind.i64.has a4) (a5 : Int) (ha5 : IntKind.i64.has a5) (v : Value) (xs : List (List Int)) (sv : Sli W0 [] 6 enI (.lit v) xs) (hv : ∀ x ∈ xs, x.length = 6 ∧ ∀ n ∈ x, IntKind.i64.has n) (mv : xs.length ≤ maxLen) (u : Value) (ys : List (List Int)) (su : Sli W0 [] 4 enI (.lit u) ys) (hu : ∀ x ∈ ys, x.length = 4 ∧ ∀ n ∈ x, IntKind.i64.has n) (mu : ys.length ≤ maxLen) (K : Cont) (h0 : K (Bo true) []) : ACall Try.prog W0 13 [PlA a0 a1 a2 a3 a4 a5 (.lit v) (.lit u)] [] K :=
  c_law_BackPlanQ a0 a1 a2 a3 a4 a5 v u xs ys sv su (fun x h => (hv x h).1) (fun x h => (hu x h).1) mv mu K h0
end Go.Proofs.Ytbmilmnfhdkfjaa
end
