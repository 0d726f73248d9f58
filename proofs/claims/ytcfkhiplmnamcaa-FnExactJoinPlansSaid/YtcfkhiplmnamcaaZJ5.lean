import Derived.Shelf.SlGeneric
import Derived.Shelf.Spec.SlicesGrow
import Derived.Test.YtcfkhiplmnamcaaProg
import Derived.Test.YtcfkhiplmnamcaaZJ4
section
/- Contracts: the program's planOf; IsPlan; plans that the laws make and compare. -/
set_option linter.unusedVariables false
set_option linter.unusedSimpArgs false
set_option maxRecDepth 100000
set_option maxHeartbeats 4000000
namespace Go.Proofs.Ytcfkhiplmnamcaa
open Go Go.RowKit Go.Proofs.Ytcfkhiplmnamcaa.Abs
variable {W0 : World} {σ : List Blk}
theorem c_planOf (a b c d e f : Int) (v1 v2 : Value) (xs ys : List (List Int)) (h1 : Sli W0 [] 6 enI (.lit v1) xs) (h2 : Sli W0 [] 4 enI (.lit v2) ys) (hx : ∀ x ∈ xs, x.length = 6) (hy : ∀ x ∈ ys, x.length = 4) (K : Cont)
    (h0 : planB a b c d e f xs ys = true → ∀ σ', PlanSt σ' 2 (stN [a, b, c, d, e, f]) (fsOf xs ys) → K (.tup [.ptr 2 0 0, Bo true]) σ') (h00 : planB a b c d e f xs ys = false → K (.tup [nilP, Bo false]) []) : ACall Try.prog W0 33 [PlA a b c d e f (.lit v1) (.lit v2)] [] K := by
  by_cases hg : shB6 a b c d e f = true ∧ xs.length ≤ 4 ∧ ys.length ≤ 40
  · exact c_planOfG a b c d e f v1 v2 xs ys h1 h2 hx hy hg.1 hg.2.1 hg.2.2 K h0 h00
  · have hpf : planB a b c d e f xs ys = false := by
      rw [Bool.eq_false_iff]; intro h
      have := planB_iff.1 h
      exact hg ⟨this.1, this.2.1, this.2.2.1⟩
    have hnp := h00 hpf
    refine by33 (Nat.le_of_ble_eq_true rfl) ?_
    obtain ⟨o1, n1, cap1, hv1, hn1, hc1, hm1, hf1⟩ := sli_form h1
    obtain ⟨o2, n2, cap2, hv2, hn2, hc2, hm2, hf2⟩ := sli_form h2
    cases hv1; cases hv2
    subst hn1; subst hn2
    cases hs : shB6 a b c d e f with
    | true =>
      obtain ⟨n, hn, rfl, rfl, rfl, rfl, rfl, rfl, hst⟩ := st_parts hs
      have hg2 : 4 < xs.length ∨ 40 < ys.length := by
        by_cases h4 : xs.length ≤ 4
        · right
          by_cases h5 : ys.length ≤ 40
          · exact absurd ⟨hs, h4, h5⟩ hg
          · omega
        · left; omega
      repeat' ((conv => whnf); first | (refine Exists.intro ([] : List Nat) ?_) | (refine And.intro rfl ?_) | (refine And.intro (by decide +kernel) ?_) | (refine And.intro trivial ?_) | (refine d_setOfN (n := n) (hn := hn) (h0 := ?_) ..) | (refine Exists.intro _ (And.intro rfl (And.intro rfl (And.intro (Nat.le_of_ble_eq_true rfl) ?_)))) | (refine Exists.intro _ (And.intro rfl (And.intro rfl (And.intro rfl (And.intro (Nat.le_of_ble_eq_true rfl) ?_))))) | (refine And.intro (Exists.intro _ (And.intro rfl rfl)) ?_) | (exact fun hW => absurd hW (by decide +kernel)) | (intro hW; (try simp only [Bool.not_true, Bool.not_false, Bool.not_eq_true', Bool.not_eq_false', decide_eq_true_eq, decide_eq_false_iff_not, reduceCtorEq, Bool.true_eq_false, Bool.false_eq_true, mk_size, List.size_toArray, ByteArray.size_append, ByteArray.size_extract, List.length_cons, List.length_nil, ba_get, ba_empty, Int.toNat_natCast] at hW)) | (refine And.intro (?_ : _ → _) (?_ : _ → _)) | (refine FinR.drop 0 (Nat.zero_le _) (Closed.zero _) rfl ?_) | (refine FinR.keep ?_) | (refine And.intro (det3_agg rfl) ?_) | (refine fL_mk ?_) | (refine And.intro (by (try simp only [mk_size, List.size_toArray, ByteArray.size_append, ByteArray.size_extract, List.length_cons, List.length_nil]); omega) ?_) | (refine And.intro (by (try simp only [mk_size, List.size_toArray, ByteArray.size_append, ByteArray.size_extract, List.length_cons, List.length_nil, wrap64_eq]); omega) ?_) | fail)
      all_goals first | (exfalso; omega) | (exfalso; simp_all; done) | exact hnp
    | false =>
      repeat' ((conv => whnf); first | (refine Exists.intro ([] : List Nat) ?_) | (refine And.intro rfl ?_) | (refine And.intro (by decide +kernel) ?_) | (refine And.intro trivial ?_) | (refine d_setOfF (hb := hs) (h0 := ?_) ..) | (refine Exists.intro _ (And.intro rfl (And.intro rfl (And.intro (Nat.le_of_ble_eq_true rfl) ?_)))) | (refine Exists.intro _ (And.intro rfl (And.intro rfl (And.intro rfl (And.intro (Nat.le_of_ble_eq_true rfl) ?_))))) | (refine And.intro (Exists.intro _ (And.intro rfl rfl)) ?_) | (exact fun hW => absurd hW (by decide +kernel)) | (intro hW; (try simp only [Bool.not_true, Bool.not_false, Bool.not_eq_true', Bool.not_eq_false', decide_eq_true_eq, decide_eq_false_iff_not, reduceCtorEq, Bool.true_eq_false, Bool.false_eq_true, mk_size, List.size_toArray, ByteArray.size_append, ByteArray.size_extract, List.length_cons, List.length_nil, ba_get, ba_empty, Int.toNat_natCast] at hW)) | (refine And.intro (?_ : _ → _) (?_ : _ → _)) | (refine FinR.drop 0 (Nat.zero_le _) (Closed.zero _) rfl ?_) | (refine FinR.keep ?_) | (refine And.intro (det3_agg rfl) ?_) | (refine fL_mk ?_) | (refine And.intro (by (try simp only [mk_size, List.size_toArray, ByteArray.size_append, ByteArray.size_extract, List.length_cons, List.length_nil]); omega) ?_) | (refine And.intro (by (try simp only [mk_size, List.size_toArray, ByteArray.size_append, ByteArray.size_extract, List.length_cons, List.length_nil, wrap64_eq]); omega) ?_) | fail)
      all_goals first | (exfalso; omega) | (exfalso; simp_all; done) | exact hnp
/-! plans moved -/
theorem StepsSt.sh {σ τ : List Blk} {s : AV} {fs : List (Nat × Nat)} (h : StepsSt τ s fs) : StepsSt (σ ++ shB σ.length τ) (sh1 σ.length s) fs := by
  cases h with
  | nil => exact .nil
  | own r ver cap cs fs hr hl hc =>
    refine .own (σ.length + r) ver cap (cs.map (sh1 σ.length)) fs (get_sh hr) (by rw [List.length_map]; exact hl) fun j k m hj => ?_
    obtain ⟨a, b, q1, q2, q3⟩ := hc j k m hj
    refine ⟨σ.length + a, σ.length + b, by rw [List.getElem?_map, q1]; rfl, ?_, get_sh q3⟩
    have := get_sh (σ := σ) q2
    rw [this]
    show some (⟨[sh1 σ.length (doA k)], _, _, _, _, _⟩ : Blk) = _
    have e : sh1 σ.length (doA k) = doA k := by unfold doA; split <;> rfl
    rw [e]
theorem PlanSt.sh {σ τ : List Blk} {p n : Nat} {fs : List (Nat × Nat)} (h : PlanSt τ p n fs) : PlanSt (σ ++ shB σ.length τ) (σ.length + p) n fs := by
  obtain ⟨s, h1, h2⟩ := h.ex
  exact ⟨sh1 σ.length s, get_sh h1, h2.sh⟩
theorem StepsSt.add {σ τ : List Blk} {s : AV} {fs : List (Nat × Nat)} (h : StepsSt σ s fs) : StepsSt (σ ++ τ) s fs := by
  cases h with
  | nil => exact .nil
  | own r ver cap cs fs hr hl hc =>
    exact .own r ver cap cs fs (getx1 hr) hl fun j k m hj => let ⟨a, b, q1, q2, q3⟩ := hc j k m hj; ⟨a, b, q1, getx1 q2, getx1 q3⟩
theorem PlanSt.add {σ τ : List Blk} {p n : Nat} {fs : List (Nat × Nat)} (h : PlanSt σ p n fs) : PlanSt (σ ++ τ) p n fs := by
  obtain ⟨s, h1, h2⟩ := h.ex
  exact ⟨s, getx1 h1, h2.add⟩
theorem d_planOf (a b c d e f : Int) (s1 s2 : AV) (xs ys : List (List Int)) (h1 : Sli W0 σ 6 enI s1 xs) (h2 : Sli W0 σ 4 enI s2 ys) (hx : ∀ x ∈ xs, x.length = 6) (hy : ∀ x ∈ ys, x.length = 4) (K : Cont)
    (h0 : planB a b c d e f xs ys = true → ∀ τ, PlanSt (σ ++ τ) (σ.length + 2) (stN [a, b, c, d, e, f]) (fsOf xs ys) → K (.tup [.ptr (σ.length + 2) 0 0, Bo true]) (σ ++ τ)) (h00 : planB a b c d e f xs ys = false → K (.tup [nilP, Bo false]) σ) : ACall Try.prog W0 33 [PlA a b c d e f s1 s2] σ K := by
  cases hg : planB a b c d e f xs ys with
  | true =>
    exact lift_Pl (rest := []) (ι := { τ : List Blk // PlanSt τ 2 (stN [a, b, c, d, e, f]) (fsOf xs ys) }) (fun _ => .tup [.ptr 2 0 0, Bo true]) (fun τ => τ.1) (by kernel_rfl) rfl h1 h2
      (fun W1 v1 v2 q1 q2 K hK => c_planOf a b c d e f v1 v2 xs ys q1 q2 hx hy K (fun _ σ' hp => hK ⟨σ', hp⟩) (fun hf => by rw [hg] at hf; cases hf)) K (fun τ => h0 hg _ τ.2.sh)
  | false =>
    exact lift_Pl (rest := []) (ι := Unit) (fun _ => .tup [nilP, Bo false]) (fun τ => []) (by kernel_rfl) rfl h1 h2
      (fun W1 v1 v2 q1 q2 K hK => c_planOf a b c d e f v1 v2 xs ys q1 q2 hx hy K (fun hf => by rw [hg] at hf; cases hf) (fun _ => hK ())) K (fun τ => by
        rw [show shB σ.length [] = [] from rfl, List.append_nil]; exact h00 hg)
theorem d_l11Plan (a b c d e f : Int) (s1 s2 : AV) (xs ys : List (List Int)) (h1 : Sli W0 σ 6 enI s1 xs) (h2 : Sli W0 σ 4 enI s2 ys) (hx : ∀ x ∈ xs, x.length = 6) (hy : ∀ x ∈ ys, x.length = 4) (hl : xs.length ≤ 1048576) (hl2 : ys.length ≤ 1048576) (K : Cont) (h0 : K (Bo (planB a b c d e f xs ys)) σ) : ACall Try.prog W0 13 [PlA a b c d e f s1 s2] σ K :=
  lift_Pl (rest := []) (ι := Unit) (fun _ => Bo (planB a b c d e f xs ys)) (fun τ => []) (by kernel_rfl) rfl h1 h2 (fun W1 v1 v2 q1 q2 K hK => c_l11Plan a b c d e f v1 v2 xs ys q1 q2 hx hy hl hl2 K (hK ())) K (fun _ => by
    rw [show shB σ.length [] = [] from rfl, List.append_nil]; exact h0)
theorem c_IsPlan (a b c d e f : Int) (v1 v2 : Value) (xs ys : List (List Int)) (h1 : Sli W0 [] 6 enI (.lit v1) xs) (h2 : Sli W0 [] 4 enI (.lit v2) ys) (hx : ∀ x ∈ xs, x.length = 6) (hy : ∀ x ∈ ys, x.length = 4) (K : Cont) (h0 : K (Bo (planB a b c d e f xs ys)) []) : ACall Try.prog W0 18 [PlA a b c d e f (.lit v1) (.lit v2)] [] K := by
  refine by18 (Nat.le_of_ble_eq_true rfl) ?_
  repeat' ((conv => whnf); first | (refine Exists.intro ([] : List Nat) ?_) | (refine And.intro rfl ?_) | (refine And.intro (by decide +kernel) ?_) | (refine And.intro trivial ?_) | (refine d_planOf (h1 := sli_up h1) (h2 := sli_up h2) (hx := hx) (hy := hy) (h0 := fun hg τ hp => ?_) (h00 := fun hg => ?_) ..) | (refine Exists.intro _ (And.intro rfl (And.intro rfl (And.intro (Nat.le_of_ble_eq_true rfl) ?_)))) | (refine Exists.intro _ (And.intro rfl (And.intro rfl (And.intro rfl (And.intro (Nat.le_of_ble_eq_true rfl) ?_))))) | (refine And.intro (Exists.intro _ (And.intro rfl rfl)) ?_) | (exact fun hW => absurd hW (by decide +kernel)) | (intro hW; (try simp only [Bool.not_true, Bool.not_false, Bool.not_eq_true', Bool.not_eq_false', decide_eq_true_eq, decide_eq_false_iff_not, reduceCtorEq, Bool.true_eq_false, Bool.false_eq_true, mk_size, List.size_toArray, ByteArray.size_append, ByteArray.size_extract, List.length_cons, List.length_nil, ba_get, ba_empty, Int.toNat_natCast] at hW)) | (refine And.intro (?_ : _ → _) (?_ : _ → _)) | (refine FinR.drop 0 (Nat.zero_le _) (Closed.zero _) rfl ?_) | (refine FinR.keep ?_) | (refine And.intro (det3_agg rfl) ?_) | (refine fL_mk ?_) | (refine And.intro (by (try simp only [mk_size, List.size_toArray, ByteArray.size_append, ByteArray.size_extract, List.length_cons, List.length_nil]); omega) ?_) | (refine And.intro (by (try simp only [mk_size, List.size_toArray, ByteArray.size_append, ByteArray.size_extract, List.length_cons, List.length_nil, wrap64_eq]); omega) ?_) | fail)
  all_goals (rw [hg] at h0; exact h0)
theorem d_IsPlan (a b c d e f : Int) (s1 s2 : AV) (xs ys : List (List Int)) (h1 : Sli W0 σ 6 enI s1 xs) (h2 : Sli W0 σ 4 enI s2 ys) (hx : ∀ x ∈ xs, x.length = 6) (hy : ∀ x ∈ ys, x.length = 4) (K : Cont) (h0 : K (Bo (planB a b c d e f xs ys)) σ) : ACall Try.prog W0 18 [PlA a b c d e f s1 s2] σ K :=
  lift_Pl (rest := []) (ι := Unit) (fun _ => Bo (planB a b c d e f xs ys)) (fun τ => []) (by kernel_rfl) rfl h1 h2 (fun W1 v1 v2 q1 q2 K hK => c_IsPlan a b c d e f v1 v2 xs ys q1 q2 hx hy K (hK ())) K (fun _ => by
    rw [show shB σ.length [] = [] from rfl, List.append_nil]; exact h0)
/-! the laws' plans -/
abbrev shSB (xs : List (List Int)) : Blk := ⟨jc xs, 0, 30, 6, true, true⟩
abbrev stSB (ys : List (List Int)) : Blk := ⟨jc ys, 0, 53, 4, true, true⟩
theorem c_toPlan (a b c d e f : Int) (v1 v2 : Value) (xs ys : List (List Int)) (h1 : Sli W0 [] 6 enI (.lit v1) xs) (h2 : Sli W0 [] 4 enI (.lit v2) ys) (hx : ∀ x ∈ xs, x.length = 6) (hy : ∀ x ∈ ys, x.length = 4) (hl : xs.length ≤ 1048576) (hl2 : ys.length ≤ 1048576) (K : Cont)
    (h0 : ∀ τ, τ.length = 3 → K (PlA a b c d e f (.sl 3 0 0 xs.length xs.length) (.sl 4 0 0 ys.length ys.length)) (τ ++ [shSB xs, stSB ys])) : ACall Try.prog W0 6 [PlA a b c d e f (.lit v1) (.lit v2)] [] K := by
  refine by6 (Nat.le_of_ble_eq_true rfl) ?_
  repeat' ((conv => whnf); first | (refine Exists.intro ([] : List Nat) ?_) | (refine And.intro rfl ?_) | (refine And.intro (by decide +kernel) ?_) | (refine And.intro trivial ?_) | (refine d_toSheet (h0 := ?_) ..) | (refine Exists.intro _ (And.intro (fun τ => callW_fn (d_toSheet (h0 := And.intro rfl rfl) ..)) ?_)) | (refine Exists.intro _ (And.intro (callW_fn (d_toSheet (h0 := And.intro rfl rfl) ..)) (And.intro trivial ?_))) | (refine Exists.intro _ (And.intro (callW_fn (d_toSheet (h0 := And.intro rfl rfl) ..)) ?_)) | (refine Exists.intro _ (And.intro (fun τ _ => callW_fn (d_toSheet (h0 := And.intro rfl rfl) ..)) ?_)) | (refine d_toSheetS (hs := sli_up h1) (hx := hx) (hl := hl) (h0 := ?_) ..) | (refine d_toStepS (hs := sli_up h2) (hx := hy) (hl := hl2) (h0 := ?_) ..) | (refine Exists.intro _ (And.intro rfl (And.intro rfl (And.intro (Nat.le_of_ble_eq_true rfl) ?_)))) | (refine Exists.intro _ (And.intro rfl (And.intro rfl (And.intro rfl (And.intro (Nat.le_of_ble_eq_true rfl) ?_))))) | (refine And.intro (Exists.intro _ (And.intro rfl rfl)) ?_) | (exact fun hW => absurd hW (by decide +kernel)) | (intro hW; (try simp only [Bool.not_true, Bool.not_false, Bool.not_eq_true', Bool.not_eq_false', decide_eq_true_eq, decide_eq_false_iff_not, reduceCtorEq, Bool.true_eq_false, Bool.false_eq_true, mk_size, List.size_toArray, ByteArray.size_append, ByteArray.size_extract, List.length_cons, List.length_nil, ba_get, ba_empty, Int.toNat_natCast] at hW)) | (refine And.intro (?_ : _ → _) (?_ : _ → _)) | (refine FinR.drop 0 (Nat.zero_le _) (Closed.zero _) rfl ?_) | (refine FinR.keep ?_) | (refine And.intro (det3_agg rfl) ?_) | (refine fL_mk ?_) | (refine And.intro (by (try simp only [mk_size, List.size_toArray, ByteArray.size_append, ByteArray.size_extract, List.length_cons, List.length_nil]); omega) ?_) | (refine And.intro (by (try simp only [mk_size, List.size_toArray, ByteArray.size_append, ByteArray.size_extract, List.length_cons, List.length_nil, wrap64_eq]); omega) ?_) | fail)
  all_goals exact h0 [_, _, _] rfl
theorem len3 {τ : List Blk} (h : τ.length = 3) : ∃ A B C, τ = [A, B, C] := by
  match τ, h with
  | [A, B, C], _ => exact ⟨A, B, C, rfl⟩
theorem c_szPlan (a b c d e f : Int) (v1 v2 : Value) (xs ys : List (List Int)) (m : Int) (h1 : Sli W0 [] 6 enI (.lit v1) xs) (h2 : Sli W0 [] 4 enI (.lit v2) ys) (hl : xs.length ≤ 9223372036854775807) (hl2 : ys.length ≤ 9223372036854775807) (hm : 0 ≤ m ∧ m ≤ 1048576) (K : Cont) (h0 : 0 ≤ m - xs.length - ys.length → K (I (m - xs.length - ys.length)) []) (h00 : m - xs.length - ys.length < 0 → K (I (-1)) []) : ACall Try.prog W0 4 [PlA a b c d e f (.lit v1) (.lit v2), I m] [] K := by
  refine by4 (Nat.le_of_ble_eq_true rfl) ?_
  by_cases hz : m - (xs.length : Nat) < 0
  · have hn := h00 (by omega)
    repeat' ((conv => whnf); first | (refine Exists.intro ([] : List Nat) ?_) | (refine And.intro rfl ?_) | (refine And.intro (by decide +kernel) ?_) | (refine And.intro trivial ?_) | (refine d_szSheetS (ha := sli_up h1) (hl := hl) (hm := hm) (h0 := ?_) ..; rw [if_pos hz]) | (refine Exists.intro _ (And.intro rfl (And.intro rfl (And.intro (Nat.le_of_ble_eq_true rfl) ?_)))) | (refine Exists.intro _ (And.intro rfl (And.intro rfl (And.intro rfl (And.intro (Nat.le_of_ble_eq_true rfl) ?_))))) | (refine And.intro (Exists.intro _ (And.intro rfl rfl)) ?_) | (exact fun hW => absurd hW (by decide +kernel)) | (intro hW; (try simp only [Bool.not_true, Bool.not_false, Bool.not_eq_true', Bool.not_eq_false', decide_eq_true_eq, decide_eq_false_iff_not, reduceCtorEq, Bool.true_eq_false, Bool.false_eq_true, mk_size, List.size_toArray, ByteArray.size_append, ByteArray.size_extract, List.length_cons, List.length_nil, ba_get, ba_empty, Int.toNat_natCast] at hW)) | (refine And.intro (?_ : _ → _) (?_ : _ → _)) | (refine FinR.drop 0 (Nat.zero_le _) (Closed.zero _) rfl ?_) | (refine FinR.keep ?_) | (refine And.intro (det3_agg rfl) ?_) | (refine fL_mk ?_) | (refine And.intro (by (try simp only [mk_size, List.size_toArray, ByteArray.size_append, ByteArray.size_extract, List.length_cons, List.length_nil]); omega) ?_) | (refine And.intro (by (try simp only [mk_size, List.size_toArray, ByteArray.size_append, ByteArray.size_extract, List.length_cons, List.length_nil, wrap64_eq]); omega) ?_) | fail)
    all_goals first | exact hn | (exfalso; omega)
  · by_cases hz2 : m - (xs.length : Nat) - (ys.length : Nat) < 0
    · have hn := h00 hz2
      repeat' ((conv => whnf); first | (refine Exists.intro ([] : List Nat) ?_) | (refine And.intro rfl ?_) | (refine And.intro (by decide +kernel) ?_) | (refine And.intro trivial ?_) | (refine d_szSheetS (ha := sli_up h1) (hl := hl) (hm := hm) (h0 := ?_) ..; rw [if_neg hz]) | (refine d_szStepS (ha := sli_up h2) (hl := hl2) (hm := by omega) (h0 := ?_) ..; rw [if_pos hz2]) | (refine Exists.intro _ (And.intro rfl (And.intro rfl (And.intro (Nat.le_of_ble_eq_true rfl) ?_)))) | (refine Exists.intro _ (And.intro rfl (And.intro rfl (And.intro rfl (And.intro (Nat.le_of_ble_eq_true rfl) ?_))))) | (refine And.intro (Exists.intro _ (And.intro rfl rfl)) ?_) | (exact fun hW => absurd hW (by decide +kernel)) | (intro hW; (try simp only [Bool.not_true, Bool.not_false, Bool.not_eq_true', Bool.not_eq_false', decide_eq_true_eq, decide_eq_false_iff_not, reduceCtorEq, Bool.true_eq_false, Bool.false_eq_true, mk_size, List.size_toArray, ByteArray.size_append, ByteArray.size_extract, List.length_cons, List.length_nil, ba_get, ba_empty, Int.toNat_natCast] at hW)) | (refine And.intro (?_ : _ → _) (?_ : _ → _)) | (refine FinR.drop 0 (Nat.zero_le _) (Closed.zero _) rfl ?_) | (refine FinR.keep ?_) | (refine And.intro (det3_agg rfl) ?_) | (refine fL_mk ?_) | (refine And.intro (by (try simp only [mk_size, List.size_toArray, ByteArray.size_append, ByteArray.size_extract, List.length_cons, List.length_nil]); omega) ?_) | (refine And.intro (by (try simp only [mk_size, List.size_toArray, ByteArray.size_append, ByteArray.size_extract, List.length_cons, List.length_nil, wrap64_eq]); omega) ?_) | fail)
      all_goals first | exact hn | (exfalso; omega)
    · have hn := h0 (by omega)
      repeat' ((conv => whnf); first | (refine Exists.intro ([] : List Nat) ?_) | (refine And.intro rfl ?_) | (refine And.intro (by decide +kernel) ?_) | (refine And.intro trivial ?_) | (refine d_szSheetS (ha := sli_up h1) (hl := hl) (hm := hm) (h0 := ?_) ..; rw [if_neg hz]) | (refine d_szStepS (ha := sli_up h2) (hl := hl2) (hm := by omega) (h0 := ?_) ..; rw [if_neg hz2]) | (refine Exists.intro _ (And.intro rfl (And.intro rfl (And.intro (Nat.le_of_ble_eq_true rfl) ?_)))) | (refine Exists.intro _ (And.intro rfl (And.intro rfl (And.intro rfl (And.intro (Nat.le_of_ble_eq_true rfl) ?_))))) | (refine And.intro (Exists.intro _ (And.intro rfl rfl)) ?_) | (exact fun hW => absurd hW (by decide +kernel)) | (intro hW; (try simp only [Bool.not_true, Bool.not_false, Bool.not_eq_true', Bool.not_eq_false', decide_eq_true_eq, decide_eq_false_iff_not, reduceCtorEq, Bool.true_eq_false, Bool.false_eq_true, mk_size, List.size_toArray, ByteArray.size_append, ByteArray.size_extract, List.length_cons, List.length_nil, ba_get, ba_empty, Int.toNat_natCast] at hW)) | (refine And.intro (?_ : _ → _) (?_ : _ → _)) | (refine FinR.drop 0 (Nat.zero_le _) (Closed.zero _) rfl ?_) | (refine FinR.keep ?_) | (refine And.intro (det3_agg rfl) ?_) | (refine fL_mk ?_) | (refine And.intro (by (try simp only [mk_size, List.size_toArray, ByteArray.size_append, ByteArray.size_extract, List.length_cons, List.length_nil]); omega) ?_) | (refine And.intro (by (try simp only [mk_size, List.size_toArray, ByteArray.size_append, ByteArray.size_extract, List.length_cons, List.length_nil, wrap64_eq]); omega) ?_) | fail)
      all_goals first | exact hn | (exfalso; omega)
theorem d_szPlan (a b c d e f : Int) (s1 s2 : AV) (xs ys : List (List Int)) (m : Int) (h1 : Sli W0 σ 6 enI s1 xs) (h2 : Sli W0 σ 4 enI s2 ys) (hl : xs.length ≤ 9223372036854775807) (hl2 : ys.length ≤ 9223372036854775807) (hm : 0 ≤ m ∧ m ≤ 1048576) (K : Cont) (h0 : 0 ≤ m - xs.length - ys.length → K (I (m - xs.length - ys.length)) σ) (h00 : m - xs.length - ys.length < 0 → K (I (-1)) σ) : ACall Try.prog W0 4 [PlA a b c d e f s1 s2, I m] σ K := by
  by_cases hz : m - xs.length - ys.length < 0
  · exact lift_Pl (rest := [I m]) (ι := Unit) (fun _ => I (-1)) (fun _ => []) (by kernel_rfl) rfl h1 h2 (fun W1 v1 v2 q1 q2 K hK => c_szPlan a b c d e f v1 v2 xs ys m q1 q2 hl hl2 hm K (fun h => by omega) (fun _ => hK ())) K (fun _ => by
      rw [show shB σ.length [] = [] from rfl, List.append_nil]; exact h00 hz)
  · exact lift_Pl (rest := [I m]) (ι := Unit) (fun _ => I (m - xs.length - ys.length)) (fun _ => []) (by kernel_rfl) rfl h1 h2 (fun W1 v1 v2 q1 q2 K hK => c_szPlan a b c d e f v1 v2 xs ys m q1 q2 hl hl2 hm K (fun _ => hK ()) (fun h => by omega)) K (fun _ => by
      rw [show shB σ.length [] = [] from rfl, List.append_nil]; exact h0 (by omega))
theorem c_eqPlan (a b c d e f : Int) (v1 v2 u1 u2 : Value) (xs ys : List (List Int)) (h1 : Sli W0 [] 6 enI (.lit v1) xs) (h2 : Sli W0 [] 4 enI (.lit v2) ys) (g1 : Sli W0 [] 6 enI (.lit u1) xs) (g2 : Sli W0 [] 4 enI (.lit u2) ys) (hx : ∀ x ∈ xs, x.length = 6) (hy : ∀ x ∈ ys, x.length = 4) (hl : xs.length ≤ 1048576) (hl2 : ys.length ≤ 1048576) (K : Cont) (h0 : K (Bo true) []) : ACall Try.prog W0 8 [PlA a b c d e f (.lit v1) (.lit v2), PlA a b c d e f (.lit u1) (.lit u2)] [] K := by
  refine by8 (Nat.le_of_ble_eq_true rfl) ?_
  repeat' ((conv => whnf); first | (refine Exists.intro ([] : List Nat) ?_) | (refine And.intro rfl ?_) | (refine And.intro (by decide +kernel) ?_) | (refine And.intro trivial ?_) | (refine d_eqSheet (h0 := ?_) ..) | (refine Exists.intro _ (And.intro (fun τ => callW_fn (d_eqSheet (h0 := And.intro rfl rfl) ..)) ?_)) | (refine Exists.intro _ (And.intro (callW_fn (d_eqSheet (h0 := And.intro rfl rfl) ..)) (And.intro trivial ?_))) | (refine Exists.intro _ (And.intro (callW_fn (d_eqSheet (h0 := And.intro rfl rfl) ..)) ?_)) | (refine Exists.intro _ (And.intro (fun τ _ => callW_fn (d_eqSheet (h0 := And.intro rfl rfl) ..)) ?_)) | (refine d_eqSheetS (ha := sli_up h1) (hb' := sli_up g1) (hx := hx) (hl := hl) (h0 := ?_) ..) | (refine d_eqStepS (ha := sli_up h2) (hb' := sli_up g2) (hx := hy) (hl := hl2) (h0 := ?_) ..) | (refine Exists.intro _ (And.intro rfl (And.intro rfl (And.intro (Nat.le_of_ble_eq_true rfl) ?_)))) | (refine Exists.intro _ (And.intro rfl (And.intro rfl (And.intro rfl (And.intro (Nat.le_of_ble_eq_true rfl) ?_))))) | (refine And.intro (Exists.intro _ (And.intro rfl rfl)) ?_) | (exact fun hW => absurd hW (by decide +kernel)) | (intro hW; (try simp only [Bool.not_true, Bool.not_false, Bool.not_eq_true', Bool.not_eq_false', decide_eq_true_eq, decide_eq_false_iff_not, reduceCtorEq, Bool.true_eq_false, Bool.false_eq_true, mk_size, List.size_toArray, ByteArray.size_append, ByteArray.size_extract, List.length_cons, List.length_nil, ba_get, ba_empty, Int.toNat_natCast] at hW)) | (refine And.intro (?_ : _ → _) (?_ : _ → _)) | (refine FinR.drop 0 (Nat.zero_le _) (Closed.zero _) rfl ?_) | (refine FinR.keep ?_) | (refine And.intro (det3_agg rfl) ?_) | (refine fL_mk ?_) | (refine And.intro (by (try simp only [mk_size, List.size_toArray, ByteArray.size_append, ByteArray.size_extract, List.length_cons, List.length_nil]); omega) ?_) | (refine And.intro (by (try simp only [mk_size, List.size_toArray, ByteArray.size_append, ByteArray.size_extract, List.length_cons, List.length_nil, wrap64_eq]); omega) ?_) | fail)
  all_goals first | exact h0 | (exfalso; simp_all [eq6]; done)
theorem lift_PlPl {g : FuncId} {a b c d e f a' b' c' d' e' f' : Int} {s1 s2 t1 t2 : AV} {xs ys zs ws : List (List Int)} {r : AV} (hok : callOK Try.prog g = true) (hr : ∀ k, sh3 k r = r) (h1 : Sli W0 σ 6 enI s1 xs) (h2 : Sli W0 σ 4 enI s2 ys) (g1 : Sli W0 σ 6 enI t1 zs) (g2 : Sli W0 σ 4 enI t2 ws)
    (h : ∀ (W1 : World) (v1 v2 u1 u2 : Value), Sli W1 [] 6 enI (.lit v1) xs → Sli W1 [] 4 enI (.lit v2) ys → Sli W1 [] 6 enI (.lit u1) zs → Sli W1 [] 4 enI (.lit u2) ws → ∀ K : Cont, K r [] → ACall Try.prog W1 g [PlA a b c d e f (.lit v1) (.lit v2), PlA a' b' c' d' e' f' (.lit u1) (.lit u2)] [] K) (K : Cont) (h0 : K r σ) : ACall Try.prog W0 g [PlA a b c d e f s1 s2, PlA a' b' c' d' e' f' t1 t2] σ K := by
  refine ACall.frameA (K0 := fun v σ' => v = r ∧ σ' = []) hok (fun W1 ι vs hh hrr => ?_) ?_
  · obtain ⟨v1, vs', rfl, hr1, hr2⟩ := Rels.uncons hrr
    obtain ⟨v2, vs'', rfl, hr3, hr4⟩ := Rels.uncons hr2
    obtain rfl := hr4.nil_inv
    obtain ⟨q1, q2, p1, p2, p3⟩ := plA_conc h1 h2 hh hr1
    obtain ⟨w1, w2, o1, o2, o3⟩ := plA_conc g1 g2 hh hr3
    obtain ⟨u1, rfl⟩ := sli_lit p1
    obtain ⟨u2, rfl⟩ := sli_lit p2
    obtain ⟨u3, rfl⟩ := sli_lit o1
    obtain ⟨u4, rfl⟩ := sli_lit o2
    exact ⟨[_, _], Rels.cons p3 (Rels.cons o3 Rels.nil), h W1 _ _ _ _ p1 p2 o1 o2 _ ⟨rfl, rfl⟩⟩
  · rintro v σ' ⟨rfl, rfl⟩
    have e : σ ++ shB σ.length [] = σ := by simp [shB]
    rw [e, hr]; exact h0
theorem d_eqPlan (a b c d e f : Int) (s1 s2 t1 t2 : AV) (xs ys : List (List Int)) (h1 : Sli W0 σ 6 enI s1 xs) (h2 : Sli W0 σ 4 enI s2 ys) (g1 : Sli W0 σ 6 enI t1 xs) (g2 : Sli W0 σ 4 enI t2 ys) (hx : ∀ x ∈ xs, x.length = 6) (hy : ∀ x ∈ ys, x.length = 4) (hl : xs.length ≤ 1048576) (hl2 : ys.length ≤ 1048576) (K : Cont) (h0 : K (Bo true) σ) : ACall Try.prog W0 8 [PlA a b c d e f s1 s2, PlA a b c d e f t1 t2] σ K :=
  lift_PlPl (by kernel_rfl) (fun _ => rfl) h1 h2 g1 g2 (fun W1 v1 v2 u1 u2 q1 q2 q3 q4 K hK => c_eqPlan a b c d e f v1 v2 u1 u2 xs ys q1 q2 q3 q4 hx hy hl hl2 K hK) K h0
end Go.Proofs.Ytcfkhiplmnamcaa
end

section
/- Contracts: plans that run. -/
set_option linter.unusedVariables false
set_option linter.unusedSimpArgs false
set_option maxRecDepth 100000
set_option maxHeartbeats 4000000
namespace Go.Proofs.Ytcfkhiplmnamcaa
open Go Go.RowKit Go.Proofs.Ytcfkhiplmnamcaa.Abs
variable {W0 : World} {σ : List Blk}
/-- a step by sets; many -/
def stepF (k m n : Nat) : Nat := if k = 1 then n ^^^ m else if k = 2 then n ||| m else n &&& (fullN ^^^ m)
def runN (fs : List (Nat × Nat)) (n : Nat) : Nat := fs.foldl (fun n s => stepF s.1 s.2 n) n
/-- steps that are valid -/
def FsOk (fs : List (Nat × Nat)) : Prop := ∀ s ∈ fs, (1 ≤ s.1 ∧ s.1 ≤ 3) ∧ s.2 < 2 ^ 36
theorem FsOk.take {fs : List (Nat × Nat)} (h : FsOk fs) (i : Nat) : FsOk (fs.take i) := fun s hs => h s (List.mem_of_mem_take hs)
abbrev ruB (l : List Nat) : Blk := ⟨l.map (fun n : Nat => U n), l.length - 1, 76, 1, true, true⟩
end Go.Proofs.Ytcfkhiplmnamcaa
end

section
/- Contracts: plans marked and held. -/
set_option linter.unusedVariables false
set_option linter.unusedSimpArgs false
set_option maxRecDepth 100000
set_option maxHeartbeats 4000000
namespace Go.Proofs.Ytcfkhiplmnamcaa
open Go Go.RowKit Go.Proofs.Ytcfkhiplmnamcaa.Abs
variable {W0 : World} {σ : List Blk}
theorem d_markSheetS (b ver n cap : Nat) (B : Blk) (hB : σ[b]? = some B) (hv : B.ver = ver) (hn : n * 6 ≤ B.cells.length) (hn2 : n ≤ 1048576) (k : Int) (hk : 0 ≤ k ∧ k ≤ 16777216) (K : Cont) (h0 : K (I (k + (n * 6 : Nat))) (σ.set b (mB B k (n * 6)))) : ACall Try.prog W0 25 [.sl b ver 0 n cap, I k] σ K := by
  refine by25 (Nat.le_of_ble_eq_true rfl) ?_
  repeat' ((conv => whnf); first | (refine Exists.intro ([] : List Nat) ?_) | (refine And.intro rfl ?_) | (refine And.intro (by decide +kernel) ?_) | (refine And.intro trivial ?_) | (refine Exists.intro _ (And.intro rfl (And.intro rfl (And.intro (Nat.le_of_ble_eq_true rfl) ?_)))) | (refine Exists.intro _ (And.intro rfl (And.intro rfl (And.intro rfl (And.intro (Nat.le_of_ble_eq_true rfl) ?_))))) | (refine And.intro (Exists.intro _ (And.intro rfl rfl)) ?_) | (exact fun hW => absurd hW (by decide +kernel)) | (intro hW; (try simp only [Bool.not_true, Bool.not_false, Bool.not_eq_true', Bool.not_eq_false', decide_eq_true_eq, decide_eq_false_iff_not, reduceCtorEq, Bool.true_eq_false, Bool.false_eq_true, mk_size, List.size_toArray, ByteArray.size_append, ByteArray.size_extract, List.length_cons, List.length_nil, ba_get, ba_empty, Int.toNat_natCast] at hW)) | (refine And.intro (?_ : _ → _) (?_ : _ → _)) | (refine FinR.drop 0 (Nat.zero_le _) (Closed.zero _) rfl ?_) | (refine FinR.keep ?_) | (refine And.intro (det3_agg rfl) ?_) | (refine fL_mk ?_) | (refine And.intro (by (try simp only [mk_size, List.size_toArray, ByteArray.size_append, ByteArray.size_extract, List.length_cons, List.length_nil]); omega) ?_) | (refine And.intro (by (try simp only [mk_size, List.size_toArray, ByteArray.size_append, ByteArray.size_extract, List.length_cons, List.length_nil, wrap64_eq]); omega) ?_) | fail)
  refine LoopR.live (fun i : Nat => [(0, .sl b ver 0 n cap), (1, I (k + (i * 6 : Nat))), (5, I i)]) (fun i => σ.set b (mB B k (i * 6))) (fun i => i ≤ n) (fun i => n - i) 0 ⟨rfl, slI' (by omega), rfl, trivial⟩ (.keep (by show σ.set b (mB B k (0 * 6)) = σ; rw [Nat.zero_mul, mB_zero, set_self hB])) (Nat.zero_le _) ?_
  intro i hi
  have hcur : ∃ B', (σ.set b (mB B k (i * 6)))[b]? = some B' ∧ B'.ver = ver := ⟨_, get_set hB, hv⟩
  by_cases hlt : i < n
  · skip
    repeat' ((conv => whnf); first | (refine Exists.intro ([] : List Nat) ?_) | (refine And.intro rfl ?_) | (refine And.intro (by decide +kernel) ?_) | (refine And.intro trivial ?_) | (refine And.intro hcur ?_) | (refine Exists.intro _ (And.intro rfl (And.intro rfl (And.intro (Nat.le_of_ble_eq_true rfl) ?_)))) | (refine Exists.intro _ (And.intro rfl (And.intro rfl (And.intro rfl (And.intro (Nat.le_of_ble_eq_true rfl) ?_))))) | (refine And.intro (Exists.intro _ (And.intro rfl rfl)) ?_) | (exact fun hW => absurd hW (by decide +kernel)) | (intro hW; (try simp only [Bool.not_true, Bool.not_false, Bool.not_eq_true', Bool.not_eq_false', decide_eq_true_eq, decide_eq_false_iff_not, reduceCtorEq, Bool.true_eq_false, Bool.false_eq_true, mk_size, List.size_toArray, ByteArray.size_append, ByteArray.size_extract, List.length_cons, List.length_nil, ba_get, ba_empty, Int.toNat_natCast] at hW)) | (refine And.intro (?_ : _ → _) (?_ : _ → _)) | (refine FinR.drop 0 (Nat.zero_le _) (Closed.zero _) rfl ?_) | (refine FinR.keep ?_) | (refine And.intro (det3_agg rfl) ?_) | (refine fL_mk ?_) | (refine And.intro (by (try simp only [mk_size, List.size_toArray, ByteArray.size_append, ByteArray.size_extract, List.length_cons, List.length_nil]); omega) ?_) | (refine And.intro (by (try simp only [mk_size, List.size_toArray, ByteArray.size_append, ByteArray.size_extract, List.length_cons, List.length_nil, wrap64_eq]); omega) ?_) | fail)
    all_goals first | (exfalso; omega) | skip
    refine LoopR.live (fun j : Nat => [(0, .sl b ver 0 n cap), (1, I (k + (i * 6 + j : Nat))), (5, I i), (6, I j)]) (fun j => σ.set b (mB B k (i * 6 + j))) (fun j => j ≤ 6) (fun j => 6 - j) 0 ⟨rfl, rfl, rfl, rfl, trivial⟩ (.keep rfl) (Nat.zero_le _) ?_
    intro j hj
    have hcur2 : ∃ B', (σ.set b (mB B k (i * 6 + j)))[b]? = some B' ∧ B'.ver = ver := ⟨_, get_set hB, hv⟩
    by_cases hlt2 : j < 6
    · skip
      repeat' ((conv => whnf); first | (refine Exists.intro ([] : List Nat) ?_) | (refine And.intro rfl ?_) | (refine And.intro (by decide +kernel) ?_) | (refine And.intro trivial ?_) | (refine And.intro hcur2 ?_) | (refine st_mark hB hv (i * 6 + j) _ _ (by omega) rfl (by omega) ?_) | (refine Exists.intro _ (And.intro rfl (And.intro rfl (And.intro (Nat.le_of_ble_eq_true rfl) ?_)))) | (refine Exists.intro _ (And.intro rfl (And.intro rfl (And.intro rfl (And.intro (Nat.le_of_ble_eq_true rfl) ?_))))) | (refine And.intro (Exists.intro _ (And.intro rfl rfl)) ?_) | (exact fun hW => absurd hW (by decide +kernel)) | (intro hW; (try simp only [Bool.not_true, Bool.not_false, Bool.not_eq_true', Bool.not_eq_false', decide_eq_true_eq, decide_eq_false_iff_not, reduceCtorEq, Bool.true_eq_false, Bool.false_eq_true, mk_size, List.size_toArray, ByteArray.size_append, ByteArray.size_extract, List.length_cons, List.length_nil, ba_get, ba_empty, Int.toNat_natCast] at hW)) | (refine And.intro (?_ : _ → _) (?_ : _ → _)) | (refine FinR.drop 0 (Nat.zero_le _) (Closed.zero _) rfl ?_) | (refine FinR.keep ?_) | (refine And.intro (det3_agg rfl) ?_) | (refine fL_mk ?_) | (refine And.intro (by (try simp only [mk_size, List.size_toArray, ByteArray.size_append, ByteArray.size_extract, List.length_cons, List.length_nil]); omega) ?_) | (refine And.intro (by (try simp only [mk_size, List.size_toArray, ByteArray.size_append, ByteArray.size_extract, List.length_cons, List.length_nil, wrap64_eq]); omega) ?_) | fail)
      all_goals first | (exfalso; omega) | skip
      exact Again.go (j + 1) ⟨rfl, slI' (wadd k _ (by omega)), rfl, slI' (wsucc' j (by omega)), trivial⟩ (.keep rfl) (by omega) (by omega)
    · obtain rfl : j = 6 := by omega
      repeat' ((conv => whnf); first | (refine Exists.intro ([] : List Nat) ?_) | (refine And.intro rfl ?_) | (refine And.intro (by decide +kernel) ?_) | (refine And.intro trivial ?_) | (refine Exists.intro _ (And.intro rfl (And.intro rfl (And.intro (Nat.le_of_ble_eq_true rfl) ?_)))) | (refine Exists.intro _ (And.intro rfl (And.intro rfl (And.intro rfl (And.intro (Nat.le_of_ble_eq_true rfl) ?_))))) | (refine And.intro (Exists.intro _ (And.intro rfl rfl)) ?_) | (exact fun hW => absurd hW (by decide +kernel)) | (intro hW; (try simp only [Bool.not_true, Bool.not_false, Bool.not_eq_true', Bool.not_eq_false', decide_eq_true_eq, decide_eq_false_iff_not, reduceCtorEq, Bool.true_eq_false, Bool.false_eq_true, mk_size, List.size_toArray, ByteArray.size_append, ByteArray.size_extract, List.length_cons, List.length_nil, ba_get, ba_empty, Int.toNat_natCast] at hW)) | (refine And.intro (?_ : _ → _) (?_ : _ → _)) | (refine FinR.drop 0 (Nat.zero_le _) (Closed.zero _) rfl ?_) | (refine FinR.keep ?_) | (refine And.intro (det3_agg rfl) ?_) | (refine fL_mk ?_) | (refine And.intro (by (try simp only [mk_size, List.size_toArray, ByteArray.size_append, ByteArray.size_extract, List.length_cons, List.length_nil]); omega) ?_) | (refine And.intro (by (try simp only [mk_size, List.size_toArray, ByteArray.size_append, ByteArray.size_extract, List.length_cons, List.length_nil, wrap64_eq]); omega) ?_) | fail)
      all_goals first | (exfalso; omega) | skip
      exact Again.go (i + 1) ⟨rfl, slI' (by omega), slI' (wsucc' i (by omega)), trivial⟩ (.keep (by rw [Nat.add_mul])) (by omega) (by omega)
  · obtain rfl : i = n := by omega
    repeat' ((conv => whnf); first | (refine Exists.intro ([] : List Nat) ?_) | (refine And.intro rfl ?_) | (refine And.intro (by decide +kernel) ?_) | (refine And.intro trivial ?_) | (refine And.intro hcur ?_) | (refine Exists.intro _ (And.intro rfl (And.intro rfl (And.intro (Nat.le_of_ble_eq_true rfl) ?_)))) | (refine Exists.intro _ (And.intro rfl (And.intro rfl (And.intro rfl (And.intro (Nat.le_of_ble_eq_true rfl) ?_))))) | (refine And.intro (Exists.intro _ (And.intro rfl rfl)) ?_) | (exact fun hW => absurd hW (by decide +kernel)) | (intro hW; (try simp only [Bool.not_true, Bool.not_false, Bool.not_eq_true', Bool.not_eq_false', decide_eq_true_eq, decide_eq_false_iff_not, reduceCtorEq, Bool.true_eq_false, Bool.false_eq_true, mk_size, List.size_toArray, ByteArray.size_append, ByteArray.size_extract, List.length_cons, List.length_nil, ba_get, ba_empty, Int.toNat_natCast] at hW)) | (refine And.intro (?_ : _ → _) (?_ : _ → _)) | (refine FinR.drop 0 (Nat.zero_le _) (Closed.zero _) rfl ?_) | (refine FinR.keep ?_) | (refine And.intro (det3_agg rfl) ?_) | (refine fL_mk ?_) | (refine And.intro (by (try simp only [mk_size, List.size_toArray, ByteArray.size_append, ByteArray.size_extract, List.length_cons, List.length_nil]); omega) ?_) | (refine And.intro (by (try simp only [mk_size, List.size_toArray, ByteArray.size_append, ByteArray.size_extract, List.length_cons, List.length_nil, wrap64_eq]); omega) ?_) | fail)
    all_goals first | (exfalso; omega) | exact h0
theorem d_markStepS (b ver n cap : Nat) (B : Blk) (hB : σ[b]? = some B) (hv : B.ver = ver) (hn : n * 4 ≤ B.cells.length) (hn2 : n ≤ 1048576) (k : Int) (hk : 0 ≤ k ∧ k ≤ 16777216) (K : Cont) (h0 : K (I (k + (n * 4 : Nat))) (σ.set b (mB B k (n * 4)))) : ACall Try.prog W0 26 [.sl b ver 0 n cap, I k] σ K := by
  refine by26 (Nat.le_of_ble_eq_true rfl) ?_
  repeat' ((conv => whnf); first | (refine Exists.intro ([] : List Nat) ?_) | (refine And.intro rfl ?_) | (refine And.intro (by decide +kernel) ?_) | (refine And.intro trivial ?_) | (refine Exists.intro _ (And.intro rfl (And.intro rfl (And.intro (Nat.le_of_ble_eq_true rfl) ?_)))) | (refine Exists.intro _ (And.intro rfl (And.intro rfl (And.intro rfl (And.intro (Nat.le_of_ble_eq_true rfl) ?_))))) | (refine And.intro (Exists.intro _ (And.intro rfl rfl)) ?_) | (exact fun hW => absurd hW (by decide +kernel)) | (intro hW; (try simp only [Bool.not_true, Bool.not_false, Bool.not_eq_true', Bool.not_eq_false', decide_eq_true_eq, decide_eq_false_iff_not, reduceCtorEq, Bool.true_eq_false, Bool.false_eq_true, mk_size, List.size_toArray, ByteArray.size_append, ByteArray.size_extract, List.length_cons, List.length_nil, ba_get, ba_empty, Int.toNat_natCast] at hW)) | (refine And.intro (?_ : _ → _) (?_ : _ → _)) | (refine FinR.drop 0 (Nat.zero_le _) (Closed.zero _) rfl ?_) | (refine FinR.keep ?_) | (refine And.intro (det3_agg rfl) ?_) | (refine fL_mk ?_) | (refine And.intro (by (try simp only [mk_size, List.size_toArray, ByteArray.size_append, ByteArray.size_extract, List.length_cons, List.length_nil]); omega) ?_) | (refine And.intro (by (try simp only [mk_size, List.size_toArray, ByteArray.size_append, ByteArray.size_extract, List.length_cons, List.length_nil, wrap64_eq]); omega) ?_) | fail)
  refine LoopR.live (fun i : Nat => [(0, .sl b ver 0 n cap), (1, I (k + (i * 4 : Nat))), (5, I i)]) (fun i => σ.set b (mB B k (i * 4))) (fun i => i ≤ n) (fun i => n - i) 0 ⟨rfl, slI' (by omega), rfl, trivial⟩ (.keep (by show σ.set b (mB B k (0 * 4)) = σ; rw [Nat.zero_mul, mB_zero, set_self hB])) (Nat.zero_le _) ?_
  intro i hi
  have hcur : ∃ B', (σ.set b (mB B k (i * 4)))[b]? = some B' ∧ B'.ver = ver := ⟨_, get_set hB, hv⟩
  have hcur1 : ∃ B', (σ.set b (mB B k (i * 4 + 1)))[b]? = some B' ∧ B'.ver = ver := ⟨_, get_set hB, hv⟩
  by_cases hlt : i < n
  · have ew : IntKind.i64.wrap (k + (i * 4 : Nat) + 1) = k + (i * 4 + 1 : Nat) := by rw [wrap_i64 _ (by omega) (by omega)]; omega
    repeat' ((conv => whnf); first | (refine Exists.intro ([] : List Nat) ?_) | (refine And.intro rfl ?_) | (refine And.intro (by decide +kernel) ?_) | (refine And.intro trivial ?_) | (refine And.intro hcur ?_) | (refine And.intro hcur1 ?_) | (refine st_mark hB hv (i * 4) _ _ (by omega) rfl (by omega) ?_) | (refine st_mark hB hv (i * 4 + 1) _ _ (by omega) ew (by omega) ?_) | (refine Exists.intro _ (And.intro rfl (And.intro rfl (And.intro (Nat.le_of_ble_eq_true rfl) ?_)))) | (refine Exists.intro _ (And.intro rfl (And.intro rfl (And.intro rfl (And.intro (Nat.le_of_ble_eq_true rfl) ?_))))) | (refine And.intro (Exists.intro _ (And.intro rfl rfl)) ?_) | (exact fun hW => absurd hW (by decide +kernel)) | (intro hW; (try simp only [Bool.not_true, Bool.not_false, Bool.not_eq_true', Bool.not_eq_false', decide_eq_true_eq, decide_eq_false_iff_not, reduceCtorEq, Bool.true_eq_false, Bool.false_eq_true, mk_size, List.size_toArray, ByteArray.size_append, ByteArray.size_extract, List.length_cons, List.length_nil, ba_get, ba_empty, Int.toNat_natCast] at hW)) | (refine And.intro (?_ : _ → _) (?_ : _ → _)) | (refine FinR.drop 0 (Nat.zero_le _) (Closed.zero _) rfl ?_) | (refine FinR.keep ?_) | (refine And.intro (det3_agg rfl) ?_) | (refine fL_mk ?_) | (refine And.intro (by (try simp only [mk_size, List.size_toArray, ByteArray.size_append, ByteArray.size_extract, List.length_cons, List.length_nil]); omega) ?_) | (refine And.intro (by (try simp only [mk_size, List.size_toArray, ByteArray.size_append, ByteArray.size_extract, List.length_cons, List.length_nil, wrap64_eq]); omega) ?_) | fail)
    all_goals first | (exfalso; omega) | skip
    refine LoopR.live (fun j : Nat => [(0, .sl b ver 0 n cap), (1, I (k + (i * 4 + 2 + j : Nat))), (5, I i), (6, I j)]) (fun j => σ.set b (mB B k (i * 4 + 2 + j))) (fun j => j ≤ 2) (fun j => 2 - j) 0 ⟨rfl, slI' (by rw [ew, wadd k _ (by omega)]), rfl, rfl, trivial⟩ (.keep rfl) (Nat.zero_le _) ?_
    intro j hj
    have hcur2 : ∃ B', (σ.set b (mB B k (i * 4 + 2 + j)))[b]? = some B' ∧ B'.ver = ver := ⟨_, get_set hB, hv⟩
    by_cases hlt2 : j < 2
    · skip
      repeat' ((conv => whnf); first | (refine Exists.intro ([] : List Nat) ?_) | (refine And.intro rfl ?_) | (refine And.intro (by decide +kernel) ?_) | (refine And.intro trivial ?_) | (refine And.intro hcur2 ?_) | (refine st_mark hB hv (i * 4 + 2 + j) _ _ (by omega) rfl (by omega) ?_) | (refine Exists.intro _ (And.intro rfl (And.intro rfl (And.intro (Nat.le_of_ble_eq_true rfl) ?_)))) | (refine Exists.intro _ (And.intro rfl (And.intro rfl (And.intro rfl (And.intro (Nat.le_of_ble_eq_true rfl) ?_))))) | (refine And.intro (Exists.intro _ (And.intro rfl rfl)) ?_) | (exact fun hW => absurd hW (by decide +kernel)) | (intro hW; (try simp only [Bool.not_true, Bool.not_false, Bool.not_eq_true', Bool.not_eq_false', decide_eq_true_eq, decide_eq_false_iff_not, reduceCtorEq, Bool.true_eq_false, Bool.false_eq_true, mk_size, List.size_toArray, ByteArray.size_append, ByteArray.size_extract, List.length_cons, List.length_nil, ba_get, ba_empty, Int.toNat_natCast] at hW)) | (refine And.intro (?_ : _ → _) (?_ : _ → _)) | (refine FinR.drop 0 (Nat.zero_le _) (Closed.zero _) rfl ?_) | (refine FinR.keep ?_) | (refine And.intro (det3_agg rfl) ?_) | (refine fL_mk ?_) | (refine And.intro (by (try simp only [mk_size, List.size_toArray, ByteArray.size_append, ByteArray.size_extract, List.length_cons, List.length_nil]); omega) ?_) | (refine And.intro (by (try simp only [mk_size, List.size_toArray, ByteArray.size_append, ByteArray.size_extract, List.length_cons, List.length_nil, wrap64_eq]); omega) ?_) | fail)
      all_goals first | (exfalso; omega) | skip
      exact Again.go (j + 1) ⟨rfl, slI' (wadd k _ (by omega)), rfl, slI' (wsucc' j (by omega)), trivial⟩ (.keep rfl) (by omega) (by omega)
    · obtain rfl : j = 2 := by omega
      repeat' ((conv => whnf); first | (refine Exists.intro ([] : List Nat) ?_) | (refine And.intro rfl ?_) | (refine And.intro (by decide +kernel) ?_) | (refine And.intro trivial ?_) | (refine Exists.intro _ (And.intro rfl (And.intro rfl (And.intro (Nat.le_of_ble_eq_true rfl) ?_)))) | (refine Exists.intro _ (And.intro rfl (And.intro rfl (And.intro rfl (And.intro (Nat.le_of_ble_eq_true rfl) ?_))))) | (refine And.intro (Exists.intro _ (And.intro rfl rfl)) ?_) | (exact fun hW => absurd hW (by decide +kernel)) | (intro hW; (try simp only [Bool.not_true, Bool.not_false, Bool.not_eq_true', Bool.not_eq_false', decide_eq_true_eq, decide_eq_false_iff_not, reduceCtorEq, Bool.true_eq_false, Bool.false_eq_true, mk_size, List.size_toArray, ByteArray.size_append, ByteArray.size_extract, List.length_cons, List.length_nil, ba_get, ba_empty, Int.toNat_natCast] at hW)) | (refine And.intro (?_ : _ → _) (?_ : _ → _)) | (refine FinR.drop 0 (Nat.zero_le _) (Closed.zero _) rfl ?_) | (refine FinR.keep ?_) | (refine And.intro (det3_agg rfl) ?_) | (refine fL_mk ?_) | (refine And.intro (by (try simp only [mk_size, List.size_toArray, ByteArray.size_append, ByteArray.size_extract, List.length_cons, List.length_nil]); omega) ?_) | (refine And.intro (by (try simp only [mk_size, List.size_toArray, ByteArray.size_append, ByteArray.size_extract, List.length_cons, List.length_nil, wrap64_eq]); omega) ?_) | fail)
      all_goals first | (exfalso; omega) | skip
      exact Again.go (i + 1) ⟨rfl, slI' (by omega), slI' (wsucc' i (by omega)), trivial⟩ (.keep (by rw [Nat.add_mul])) (by omega) (by omega)
  · obtain rfl : i = n := by omega
    repeat' ((conv => whnf); first | (refine Exists.intro ([] : List Nat) ?_) | (refine And.intro rfl ?_) | (refine And.intro (by decide +kernel) ?_) | (refine And.intro trivial ?_) | (refine And.intro hcur ?_) | (refine Exists.intro _ (And.intro rfl (And.intro rfl (And.intro (Nat.le_of_ble_eq_true rfl) ?_)))) | (refine Exists.intro _ (And.intro rfl (And.intro rfl (And.intro rfl (And.intro (Nat.le_of_ble_eq_true rfl) ?_))))) | (refine And.intro (Exists.intro _ (And.intro rfl rfl)) ?_) | (exact fun hW => absurd hW (by decide +kernel)) | (intro hW; (try simp only [Bool.not_true, Bool.not_false, Bool.not_eq_true', Bool.not_eq_false', decide_eq_true_eq, decide_eq_false_iff_not, reduceCtorEq, Bool.true_eq_false, Bool.false_eq_true, mk_size, List.size_toArray, ByteArray.size_append, ByteArray.size_extract, List.length_cons, List.length_nil, ba_get, ba_empty, Int.toNat_natCast] at hW)) | (refine And.intro (?_ : _ → _) (?_ : _ → _)) | (refine FinR.drop 0 (Nat.zero_le _) (Closed.zero _) rfl ?_) | (refine FinR.keep ?_) | (refine And.intro (det3_agg rfl) ?_) | (refine fL_mk ?_) | (refine And.intro (by (try simp only [mk_size, List.size_toArray, ByteArray.size_append, ByteArray.size_extract, List.length_cons, List.length_nil]); omega) ?_) | (refine And.intro (by (try simp only [mk_size, List.size_toArray, ByteArray.size_append, ByteArray.size_extract, List.length_cons, List.length_nil, wrap64_eq]); omega) ?_) | fail)
    all_goals first | (exfalso; omega) | exact h0
theorem c_heldSheetS (a : AV) (n : Nat) (k : Int) (ha : Sli W0 [] 6 enI a (rowsM k 6 n)) (hn2 : n ≤ 1048576) (hk : 0 ≤ k ∧ k ≤ 16777216) (K : Cont) (h0 : K (I (k + (n * 6 : Nat))) []) : ACall Try.prog W0 27 [a, I k] [] K := by
  refine by27 (Nat.le_of_ble_eq_true rfl) ?_
  have hl := rowsM_len k 6 n
  generalize hm : rowsM k 6 n = xs at ha hl
  obtain ⟨o, n', cap, rfl, hn, hc, hcm, hf⟩ := sli_form ha
  rw [hl] at hn
  subst hn
  repeat' ((conv => whnf); first | (refine Exists.intro ([] : List Nat) ?_) | (refine And.intro rfl ?_) | (refine And.intro (by decide +kernel) ?_) | (refine And.intro trivial ?_) | (refine Exists.intro _ (And.intro rfl (And.intro rfl (And.intro (Nat.le_of_ble_eq_true rfl) ?_)))) | (refine Exists.intro _ (And.intro rfl (And.intro rfl (And.intro rfl (And.intro (Nat.le_of_ble_eq_true rfl) ?_))))) | (refine And.intro (Exists.intro _ (And.intro rfl rfl)) ?_) | (exact fun hW => absurd hW (by decide +kernel)) | (intro hW; (try simp only [Bool.not_true, Bool.not_false, Bool.not_eq_true', Bool.not_eq_false', decide_eq_true_eq, decide_eq_false_iff_not, reduceCtorEq, Bool.true_eq_false, Bool.false_eq_true, mk_size, List.size_toArray, ByteArray.size_append, ByteArray.size_extract, List.length_cons, List.length_nil, ba_get, ba_empty, Int.toNat_natCast] at hW)) | (refine And.intro (?_ : _ → _) (?_ : _ → _)) | (refine FinR.drop 0 (Nat.zero_le _) (Closed.zero _) rfl ?_) | (refine FinR.keep ?_) | (refine And.intro (det3_agg rfl) ?_) | (refine fL_mk ?_) | (refine And.intro (by (try simp only [mk_size, List.size_toArray, ByteArray.size_append, ByteArray.size_extract, List.length_cons, List.length_nil]); omega) ?_) | (refine And.intro (by (try simp only [mk_size, List.size_toArray, ByteArray.size_append, ByteArray.size_extract, List.length_cons, List.length_nil, wrap64_eq]); omega) ?_) | fail)
  refine LoopR.live (fun i : Nat => [(0, .lit (.slice o n' cap)), (1, I (k + (i * 6 : Nat))), (5, I i)]) (fun i => []) (fun i => i ≤ n') (fun i => n' - i) 0 ⟨rfl, slI' (by omega), rfl, trivial⟩ (.keep rfl) (Nat.zero_le _) ?_
  intro i hi
  by_cases hlt : i < n'
  · have hxi : xs[i]? = some [k + (i * 6 : Nat), k + (i * 6 : Nat) + 1, k + (i * 6 : Nat) + 2, k + (i * 6 : Nat) + 3, k + (i * 6 : Nat) + 4, k + (i * 6 : Nat) + 5] := by rw [← hm, rowsM_get k 6 hlt]; simp [marks, List.range_succ]
    obtain ⟨ad, rfl, hb, hxx⟩ := hf i _ hxi
    have hld0 := fun C h => ldInF (W0 := W0) (s := 6) (enc := enI) hb hxx (k := i) hxi 0 1 rfl (C := C) h
    have hld1 := fun C h => ldInF (W0 := W0) (s := 6) (enc := enI) hb hxx (k := i) hxi 1 1 rfl (C := C) h
    have hld2 := fun C h => ldInF (W0 := W0) (s := 6) (enc := enI) hb hxx (k := i) hxi 2 1 rfl (C := C) h
    have hld3 := fun C h => ldInF (W0 := W0) (s := 6) (enc := enI) hb hxx (k := i) hxi 3 1 rfl (C := C) h
    have hld4 := fun C h => ldInF (W0 := W0) (s := 6) (enc := enI) hb hxx (k := i) hxi 4 1 rfl (C := C) h
    have hld5 := fun C h => ldInF (W0 := W0) (s := 6) (enc := enI) hb hxx (k := i) hxi 5 1 rfl (C := C) h
    repeat' ((conv => whnf); first | (refine Exists.intro ([] : List Nat) ?_) | (refine And.intro rfl ?_) | (refine And.intro (by decide +kernel) ?_) | (refine And.intro trivial ?_) | (refine Exists.intro _ (And.intro rfl (And.intro rfl (And.intro (Nat.le_of_ble_eq_true rfl) ?_)))) | (refine Exists.intro _ (And.intro rfl (And.intro rfl (And.intro rfl (And.intro (Nat.le_of_ble_eq_true rfl) ?_))))) | (refine And.intro (Exists.intro _ (And.intro rfl rfl)) ?_) | (exact fun hW => absurd hW (by decide +kernel)) | (intro hW; (try simp only [Bool.not_true, Bool.not_false, Bool.not_eq_true', Bool.not_eq_false', decide_eq_true_eq, decide_eq_false_iff_not, reduceCtorEq, Bool.true_eq_false, Bool.false_eq_true, mk_size, List.size_toArray, ByteArray.size_append, ByteArray.size_extract, List.length_cons, List.length_nil, ba_get, ba_empty, Int.toNat_natCast] at hW)) | (refine And.intro (?_ : _ → _) (?_ : _ → _)) | (refine FinR.drop 0 (Nat.zero_le _) (Closed.zero _) rfl ?_) | (refine FinR.keep ?_) | (refine And.intro (det3_agg rfl) ?_) | (refine fL_mk ?_) | (refine And.intro (by (try simp only [mk_size, List.size_toArray, ByteArray.size_append, ByteArray.size_extract, List.length_cons, List.length_nil]); omega) ?_) | (refine And.intro (by (try simp only [mk_size, List.size_toArray, ByteArray.size_append, ByteArray.size_extract, List.length_cons, List.length_nil, wrap64_eq]); omega) ?_) | fail)
    all_goals first | (exfalso; omega) | skip
    refine LoopR.live (fun j : Nat => [(0, .lit (.slice (some ad) n' cap)), (1, I (k + (i * 6 + j : Nat))), (5, I i), (6, I j)]) (fun j => []) (fun j => j ≤ 6) (fun j => 6 - j) 0 ⟨rfl, rfl, rfl, rfl, trivial⟩ (.keep rfl) (Nat.zero_le _) ?_
    intro j hj
    have hj7 : j = 0 ∨ j = 1 ∨ j = 2 ∨ j = 3 ∨ j = 4 ∨ j = 5 ∨ j = 6 := by omega
    obtain rfl | rfl | rfl | rfl | rfl | rfl | rfl := hj7
    · skip
      repeat' ((conv => whnf); first | (refine Exists.intro ([] : List Nat) ?_) | (refine And.intro rfl ?_) | (refine And.intro (by decide +kernel) ?_) | (refine And.intro trivial ?_) | (refine hld0 _ ?_) | (refine Exists.intro _ (And.intro rfl (And.intro rfl (And.intro (Nat.le_of_ble_eq_true rfl) ?_)))) | (refine Exists.intro _ (And.intro rfl (And.intro rfl (And.intro rfl (And.intro (Nat.le_of_ble_eq_true rfl) ?_))))) | (refine And.intro (Exists.intro _ (And.intro rfl rfl)) ?_) | (exact fun hW => absurd hW (by decide +kernel)) | (intro hW; (try simp only [Bool.not_true, Bool.not_false, Bool.not_eq_true', Bool.not_eq_false', decide_eq_true_eq, decide_eq_false_iff_not, reduceCtorEq, Bool.true_eq_false, Bool.false_eq_true, mk_size, List.size_toArray, ByteArray.size_append, ByteArray.size_extract, List.length_cons, List.length_nil, ba_get, ba_empty, Int.toNat_natCast] at hW)) | (refine And.intro (?_ : _ → _) (?_ : _ → _)) | (refine FinR.drop 0 (Nat.zero_le _) (Closed.zero _) rfl ?_) | (refine FinR.keep ?_) | (refine And.intro (det3_agg rfl) ?_) | (refine fL_mk ?_) | (refine And.intro (by (try simp only [mk_size, List.size_toArray, ByteArray.size_append, ByteArray.size_extract, List.length_cons, List.length_nil]); omega) ?_) | (refine And.intro (by (try simp only [mk_size, List.size_toArray, ByteArray.size_append, ByteArray.size_extract, List.length_cons, List.length_nil, wrap64_eq]); omega) ?_) | fail)
      all_goals first | (exfalso; omega) | exact Again.go 1 ⟨rfl, slI' (wadd k _ (by omega)), rfl, rfl, trivial⟩ (.keep rfl) (by omega) (by omega)
    · skip
      repeat' ((conv => whnf); first | (refine Exists.intro ([] : List Nat) ?_) | (refine And.intro rfl ?_) | (refine And.intro (by decide +kernel) ?_) | (refine And.intro trivial ?_) | (refine hld1 _ ?_) | (refine Exists.intro _ (And.intro rfl (And.intro rfl (And.intro (Nat.le_of_ble_eq_true rfl) ?_)))) | (refine Exists.intro _ (And.intro rfl (And.intro rfl (And.intro rfl (And.intro (Nat.le_of_ble_eq_true rfl) ?_))))) | (refine And.intro (Exists.intro _ (And.intro rfl rfl)) ?_) | (exact fun hW => absurd hW (by decide +kernel)) | (intro hW; (try simp only [Bool.not_true, Bool.not_false, Bool.not_eq_true', Bool.not_eq_false', decide_eq_true_eq, decide_eq_false_iff_not, reduceCtorEq, Bool.true_eq_false, Bool.false_eq_true, mk_size, List.size_toArray, ByteArray.size_append, ByteArray.size_extract, List.length_cons, List.length_nil, ba_get, ba_empty, Int.toNat_natCast] at hW)) | (refine And.intro (?_ : _ → _) (?_ : _ → _)) | (refine FinR.drop 0 (Nat.zero_le _) (Closed.zero _) rfl ?_) | (refine FinR.keep ?_) | (refine And.intro (det3_agg rfl) ?_) | (refine fL_mk ?_) | (refine And.intro (by (try simp only [mk_size, List.size_toArray, ByteArray.size_append, ByteArray.size_extract, List.length_cons, List.length_nil]); omega) ?_) | (refine And.intro (by (try simp only [mk_size, List.size_toArray, ByteArray.size_append, ByteArray.size_extract, List.length_cons, List.length_nil, wrap64_eq]); omega) ?_) | fail)
      all_goals first | (exfalso; omega) | exact Again.go 2 ⟨rfl, slI' (wadd k _ (by omega)), rfl, rfl, trivial⟩ (.keep rfl) (by omega) (by omega)
    · skip
      repeat' ((conv => whnf); first | (refine Exists.intro ([] : List Nat) ?_) | (refine And.intro rfl ?_) | (refine And.intro (by decide +kernel) ?_) | (refine And.intro trivial ?_) | (refine hld2 _ ?_) | (refine Exists.intro _ (And.intro rfl (And.intro rfl (And.intro (Nat.le_of_ble_eq_true rfl) ?_)))) | (refine Exists.intro _ (And.intro rfl (And.intro rfl (And.intro rfl (And.intro (Nat.le_of_ble_eq_true rfl) ?_))))) | (refine And.intro (Exists.intro _ (And.intro rfl rfl)) ?_) | (exact fun hW => absurd hW (by decide +kernel)) | (intro hW; (try simp only [Bool.not_true, Bool.not_false, Bool.not_eq_true', Bool.not_eq_false', decide_eq_true_eq, decide_eq_false_iff_not, reduceCtorEq, Bool.true_eq_false, Bool.false_eq_true, mk_size, List.size_toArray, ByteArray.size_append, ByteArray.size_extract, List.length_cons, List.length_nil, ba_get, ba_empty, Int.toNat_natCast] at hW)) | (refine And.intro (?_ : _ → _) (?_ : _ → _)) | (refine FinR.drop 0 (Nat.zero_le _) (Closed.zero _) rfl ?_) | (refine FinR.keep ?_) | (refine And.intro (det3_agg rfl) ?_) | (refine fL_mk ?_) | (refine And.intro (by (try simp only [mk_size, List.size_toArray, ByteArray.size_append, ByteArray.size_extract, List.length_cons, List.length_nil]); omega) ?_) | (refine And.intro (by (try simp only [mk_size, List.size_toArray, ByteArray.size_append, ByteArray.size_extract, List.length_cons, List.length_nil, wrap64_eq]); omega) ?_) | fail)
      all_goals first | (exfalso; omega) | exact Again.go 3 ⟨rfl, slI' (wadd k _ (by omega)), rfl, rfl, trivial⟩ (.keep rfl) (by omega) (by omega)
    · skip
      repeat' ((conv => whnf); first | (refine Exists.intro ([] : List Nat) ?_) | (refine And.intro rfl ?_) | (refine And.intro (by decide +kernel) ?_) | (refine And.intro trivial ?_) | (refine hld3 _ ?_) | (refine Exists.intro _ (And.intro rfl (And.intro rfl (And.intro (Nat.le_of_ble_eq_true rfl) ?_)))) | (refine Exists.intro _ (And.intro rfl (And.intro rfl (And.intro rfl (And.intro (Nat.le_of_ble_eq_true rfl) ?_))))) | (refine And.intro (Exists.intro _ (And.intro rfl rfl)) ?_) | (exact fun hW => absurd hW (by decide +kernel)) | (intro hW; (try simp only [Bool.not_true, Bool.not_false, Bool.not_eq_true', Bool.not_eq_false', decide_eq_true_eq, decide_eq_false_iff_not, reduceCtorEq, Bool.true_eq_false, Bool.false_eq_true, mk_size, List.size_toArray, ByteArray.size_append, ByteArray.size_extract, List.length_cons, List.length_nil, ba_get, ba_empty, Int.toNat_natCast] at hW)) | (refine And.intro (?_ : _ → _) (?_ : _ → _)) | (refine FinR.drop 0 (Nat.zero_le _) (Closed.zero _) rfl ?_) | (refine FinR.keep ?_) | (refine And.intro (det3_agg rfl) ?_) | (refine fL_mk ?_) | (refine And.intro (by (try simp only [mk_size, List.size_toArray, ByteArray.size_append, ByteArray.size_extract, List.length_cons, List.length_nil]); omega) ?_) | (refine And.intro (by (try simp only [mk_size, List.size_toArray, ByteArray.size_append, ByteArray.size_extract, List.length_cons, List.length_nil, wrap64_eq]); omega) ?_) | fail)
      all_goals first | (exfalso; omega) | exact Again.go 4 ⟨rfl, slI' (wadd k _ (by omega)), rfl, rfl, trivial⟩ (.keep rfl) (by omega) (by omega)
    · skip
      repeat' ((conv => whnf); first | (refine Exists.intro ([] : List Nat) ?_) | (refine And.intro rfl ?_) | (refine And.intro (by decide +kernel) ?_) | (refine And.intro trivial ?_) | (refine hld4 _ ?_) | (refine Exists.intro _ (And.intro rfl (And.intro rfl (And.intro (Nat.le_of_ble_eq_true rfl) ?_)))) | (refine Exists.intro _ (And.intro rfl (And.intro rfl (And.intro rfl (And.intro (Nat.le_of_ble_eq_true rfl) ?_))))) | (refine And.intro (Exists.intro _ (And.intro rfl rfl)) ?_) | (exact fun hW => absurd hW (by decide +kernel)) | (intro hW; (try simp only [Bool.not_true, Bool.not_false, Bool.not_eq_true', Bool.not_eq_false', decide_eq_true_eq, decide_eq_false_iff_not, reduceCtorEq, Bool.true_eq_false, Bool.false_eq_true, mk_size, List.size_toArray, ByteArray.size_append, ByteArray.size_extract, List.length_cons, List.length_nil, ba_get, ba_empty, Int.toNat_natCast] at hW)) | (refine And.intro (?_ : _ → _) (?_ : _ → _)) | (refine FinR.drop 0 (Nat.zero_le _) (Closed.zero _) rfl ?_) | (refine FinR.keep ?_) | (refine And.intro (det3_agg rfl) ?_) | (refine fL_mk ?_) | (refine And.intro (by (try simp only [mk_size, List.size_toArray, ByteArray.size_append, ByteArray.size_extract, List.length_cons, List.length_nil]); omega) ?_) | (refine And.intro (by (try simp only [mk_size, List.size_toArray, ByteArray.size_append, ByteArray.size_extract, List.length_cons, List.length_nil, wrap64_eq]); omega) ?_) | fail)
      all_goals first | (exfalso; omega) | exact Again.go 5 ⟨rfl, slI' (wadd k _ (by omega)), rfl, rfl, trivial⟩ (.keep rfl) (by omega) (by omega)
    · skip
      repeat' ((conv => whnf); first | (refine Exists.intro ([] : List Nat) ?_) | (refine And.intro rfl ?_) | (refine And.intro (by decide +kernel) ?_) | (refine And.intro trivial ?_) | (refine hld5 _ ?_) | (refine Exists.intro _ (And.intro rfl (And.intro rfl (And.intro (Nat.le_of_ble_eq_true rfl) ?_)))) | (refine Exists.intro _ (And.intro rfl (And.intro rfl (And.intro rfl (And.intro (Nat.le_of_ble_eq_true rfl) ?_))))) | (refine And.intro (Exists.intro _ (And.intro rfl rfl)) ?_) | (exact fun hW => absurd hW (by decide +kernel)) | (intro hW; (try simp only [Bool.not_true, Bool.not_false, Bool.not_eq_true', Bool.not_eq_false', decide_eq_true_eq, decide_eq_false_iff_not, reduceCtorEq, Bool.true_eq_false, Bool.false_eq_true, mk_size, List.size_toArray, ByteArray.size_append, ByteArray.size_extract, List.length_cons, List.length_nil, ba_get, ba_empty, Int.toNat_natCast] at hW)) | (refine And.intro (?_ : _ → _) (?_ : _ → _)) | (refine FinR.drop 0 (Nat.zero_le _) (Closed.zero _) rfl ?_) | (refine FinR.keep ?_) | (refine And.intro (det3_agg rfl) ?_) | (refine fL_mk ?_) | (refine And.intro (by (try simp only [mk_size, List.size_toArray, ByteArray.size_append, ByteArray.size_extract, List.length_cons, List.length_nil]); omega) ?_) | (refine And.intro (by (try simp only [mk_size, List.size_toArray, ByteArray.size_append, ByteArray.size_extract, List.length_cons, List.length_nil, wrap64_eq]); omega) ?_) | fail)
      all_goals first | (exfalso; omega) | exact Again.go 6 ⟨rfl, slI' (wadd k _ (by omega)), rfl, rfl, trivial⟩ (.keep rfl) (by omega) (by omega)
    · skip
      repeat' ((conv => whnf); first | (refine Exists.intro ([] : List Nat) ?_) | (refine And.intro rfl ?_) | (refine And.intro (by decide +kernel) ?_) | (refine And.intro trivial ?_) | (refine Exists.intro _ (And.intro rfl (And.intro rfl (And.intro (Nat.le_of_ble_eq_true rfl) ?_)))) | (refine Exists.intro _ (And.intro rfl (And.intro rfl (And.intro rfl (And.intro (Nat.le_of_ble_eq_true rfl) ?_))))) | (refine And.intro (Exists.intro _ (And.intro rfl rfl)) ?_) | (exact fun hW => absurd hW (by decide +kernel)) | (intro hW; (try simp only [Bool.not_true, Bool.not_false, Bool.not_eq_true', Bool.not_eq_false', decide_eq_true_eq, decide_eq_false_iff_not, reduceCtorEq, Bool.true_eq_false, Bool.false_eq_true, mk_size, List.size_toArray, ByteArray.size_append, ByteArray.size_extract, List.length_cons, List.length_nil, ba_get, ba_empty, Int.toNat_natCast] at hW)) | (refine And.intro (?_ : _ → _) (?_ : _ → _)) | (refine FinR.drop 0 (Nat.zero_le _) (Closed.zero _) rfl ?_) | (refine FinR.keep ?_) | (refine And.intro (det3_agg rfl) ?_) | (refine fL_mk ?_) | (refine And.intro (by (try simp only [mk_size, List.size_toArray, ByteArray.size_append, ByteArray.size_extract, List.length_cons, List.length_nil]); omega) ?_) | (refine And.intro (by (try simp only [mk_size, List.size_toArray, ByteArray.size_append, ByteArray.size_extract, List.length_cons, List.length_nil, wrap64_eq]); omega) ?_) | fail)
      all_goals first | (exfalso; omega) | exact Again.go (i + 1) ⟨rfl, slI' (by omega), slI' (wsucc' i (by omega)), trivial⟩ (.keep rfl) (by omega) (by omega)
  · obtain rfl : i = n' := by omega
    repeat' ((conv => whnf); first | (refine Exists.intro ([] : List Nat) ?_) | (refine And.intro rfl ?_) | (refine And.intro (by decide +kernel) ?_) | (refine And.intro trivial ?_) | (refine Exists.intro _ (And.intro rfl (And.intro rfl (And.intro (Nat.le_of_ble_eq_true rfl) ?_)))) | (refine Exists.intro _ (And.intro rfl (And.intro rfl (And.intro rfl (And.intro (Nat.le_of_ble_eq_true rfl) ?_))))) | (refine And.intro (Exists.intro _ (And.intro rfl rfl)) ?_) | (exact fun hW => absurd hW (by decide +kernel)) | (intro hW; (try simp only [Bool.not_true, Bool.not_false, Bool.not_eq_true', Bool.not_eq_false', decide_eq_true_eq, decide_eq_false_iff_not, reduceCtorEq, Bool.true_eq_false, Bool.false_eq_true, mk_size, List.size_toArray, ByteArray.size_append, ByteArray.size_extract, List.length_cons, List.length_nil, ba_get, ba_empty, Int.toNat_natCast] at hW)) | (refine And.intro (?_ : _ → _) (?_ : _ → _)) | (refine FinR.drop 0 (Nat.zero_le _) (Closed.zero _) rfl ?_) | (refine FinR.keep ?_) | (refine And.intro (det3_agg rfl) ?_) | (refine fL_mk ?_) | (refine And.intro (by (try simp only [mk_size, List.size_toArray, ByteArray.size_append, ByteArray.size_extract, List.length_cons, List.length_nil]); omega) ?_) | (refine And.intro (by (try simp only [mk_size, List.size_toArray, ByteArray.size_append, ByteArray.size_extract, List.length_cons, List.length_nil, wrap64_eq]); omega) ?_) | fail)
    all_goals first | (exfalso; omega) | exact h0
theorem d_heldSheetS (a : AV) (n : Nat) (k : Int) (ha : Sli W0 σ 6 enI a (rowsM k 6 n)) (hn2 : n ≤ 1048576) (hk : 0 ≤ k ∧ k ≤ 16777216) (K : Cont) (h0 : K (I (k + (n * 6 : Nat))) σ) : ACall Try.prog W0 27 [a, I k] σ K :=
  lift_Sp (by kernel_rfl) rfl (fun _ => rfl) ha (fun W1 a' h K hK => c_heldSheetS a' n k h hn2 hk K hK) K h0
theorem c_heldStepS (a : AV) (n : Nat) (k : Int) (ha : Sli W0 [] 4 enI a (rowsM k 4 n)) (hn2 : n ≤ 1048576) (hk : 0 ≤ k ∧ k ≤ 16777216) (K : Cont) (h0 : K (I (k + (n * 4 : Nat))) []) : ACall Try.prog W0 28 [a, I k] [] K := by
  refine by28 (Nat.le_of_ble_eq_true rfl) ?_
  have hl := rowsM_len k 4 n
  generalize hm : rowsM k 4 n = xs at ha hl
  obtain ⟨o, n', cap, rfl, hn, hc, hcm, hf⟩ := sli_form ha
  rw [hl] at hn
  subst hn
  repeat' ((conv => whnf); first | (refine Exists.intro ([] : List Nat) ?_) | (refine And.intro rfl ?_) | (refine And.intro (by decide +kernel) ?_) | (refine And.intro trivial ?_) | (refine Exists.intro _ (And.intro rfl (And.intro rfl (And.intro (Nat.le_of_ble_eq_true rfl) ?_)))) | (refine Exists.intro _ (And.intro rfl (And.intro rfl (And.intro rfl (And.intro (Nat.le_of_ble_eq_true rfl) ?_))))) | (refine And.intro (Exists.intro _ (And.intro rfl rfl)) ?_) | (exact fun hW => absurd hW (by decide +kernel)) | (intro hW; (try simp only [Bool.not_true, Bool.not_false, Bool.not_eq_true', Bool.not_eq_false', decide_eq_true_eq, decide_eq_false_iff_not, reduceCtorEq, Bool.true_eq_false, Bool.false_eq_true, mk_size, List.size_toArray, ByteArray.size_append, ByteArray.size_extract, List.length_cons, List.length_nil, ba_get, ba_empty, Int.toNat_natCast] at hW)) | (refine And.intro (?_ : _ → _) (?_ : _ → _)) | (refine FinR.drop 0 (Nat.zero_le _) (Closed.zero _) rfl ?_) | (refine FinR.keep ?_) | (refine And.intro (det3_agg rfl) ?_) | (refine fL_mk ?_) | (refine And.intro (by (try simp only [mk_size, List.size_toArray, ByteArray.size_append, ByteArray.size_extract, List.length_cons, List.length_nil]); omega) ?_) | (refine And.intro (by (try simp only [mk_size, List.size_toArray, ByteArray.size_append, ByteArray.size_extract, List.length_cons, List.length_nil, wrap64_eq]); omega) ?_) | fail)
  refine LoopR.live (fun i : Nat => [(0, .lit (.slice o n' cap)), (1, I (k + (i * 4 : Nat))), (5, I i)]) (fun i => []) (fun i => i ≤ n') (fun i => n' - i) 0 ⟨rfl, slI' (by omega), rfl, trivial⟩ (.keep rfl) (Nat.zero_le _) ?_
  intro i hi
  by_cases hlt : i < n'
  · have hxi : xs[i]? = some [k + (i * 4 : Nat), k + (i * 4 : Nat) + 1, k + (i * 4 : Nat) + 2, k + (i * 4 : Nat) + 3] := by rw [← hm, rowsM_get k 4 hlt]; simp [marks, List.range_succ]
    obtain ⟨ad, rfl, hb, hxx⟩ := hf i _ hxi
    have hld0 := fun C h => ldInF (W0 := W0) (s := 4) (enc := enI) hb hxx (k := i) hxi 0 1 rfl (C := C) h
    have hld1 := fun C h => ldInF (W0 := W0) (s := 4) (enc := enI) hb hxx (k := i) hxi 1 1 rfl (C := C) h
    have hld2 := fun C h => ldInF (W0 := W0) (s := 4) (enc := enI) hb hxx (k := i) hxi 2 1 rfl (C := C) h
    have hld3 := fun C h => ldInF (W0 := W0) (s := 4) (enc := enI) hb hxx (k := i) hxi 3 1 rfl (C := C) h
    have ew : IntKind.i64.wrap (k + (i * 4 : Nat) + 1) = k + (i * 4 + 1 : Nat) := by rw [wrap_i64 _ (by omega) (by omega)]; omega
    repeat' ((conv => whnf); first | (refine Exists.intro ([] : List Nat) ?_) | (refine And.intro rfl ?_) | (refine And.intro (by decide +kernel) ?_) | (refine And.intro trivial ?_) | (refine hld0 _ ?_) | (refine hld1 _ ?_) | (refine Exists.intro _ (And.intro rfl (And.intro rfl (And.intro (Nat.le_of_ble_eq_true rfl) ?_)))) | (refine Exists.intro _ (And.intro rfl (And.intro rfl (And.intro rfl (And.intro (Nat.le_of_ble_eq_true rfl) ?_))))) | (refine And.intro (Exists.intro _ (And.intro rfl rfl)) ?_) | (exact fun hW => absurd hW (by decide +kernel)) | (intro hW; (try simp only [Bool.not_true, Bool.not_false, Bool.not_eq_true', Bool.not_eq_false', decide_eq_true_eq, decide_eq_false_iff_not, reduceCtorEq, Bool.true_eq_false, Bool.false_eq_true, mk_size, List.size_toArray, ByteArray.size_append, ByteArray.size_extract, List.length_cons, List.length_nil, ba_get, ba_empty, Int.toNat_natCast] at hW)) | (refine And.intro (?_ : _ → _) (?_ : _ → _)) | (refine FinR.drop 0 (Nat.zero_le _) (Closed.zero _) rfl ?_) | (refine FinR.keep ?_) | (refine And.intro (det3_agg rfl) ?_) | (refine fL_mk ?_) | (refine And.intro (by (try simp only [mk_size, List.size_toArray, ByteArray.size_append, ByteArray.size_extract, List.length_cons, List.length_nil]); omega) ?_) | (refine And.intro (by (try simp only [mk_size, List.size_toArray, ByteArray.size_append, ByteArray.size_extract, List.length_cons, List.length_nil, wrap64_eq]); omega) ?_) | fail)
    all_goals first | (exfalso; omega) | (exfalso; exact hW trivial) | (exfalso; simp_all; done) | skip
    refine LoopR.live (fun j : Nat => [(0, .lit (.slice (some ad) n' cap)), (1, I (k + (i * 4 + 2 + j : Nat))), (5, I i), (6, I j)]) (fun j => []) (fun j => j ≤ 2) (fun j => 2 - j) 0 ⟨rfl, slI' (by rw [ew, wadd k _ (by omega)]), rfl, rfl, trivial⟩ (.keep rfl) (Nat.zero_le _) ?_
    intro j hj
    have hj7 : j = 0 ∨ j = 1 ∨ j = 2 := by omega
    obtain rfl | rfl | rfl := hj7
    · skip
      repeat' ((conv => whnf); first | (refine Exists.intro ([] : List Nat) ?_) | (refine And.intro rfl ?_) | (refine And.intro (by decide +kernel) ?_) | (refine And.intro trivial ?_) | (refine hld2 _ ?_) | (refine Exists.intro _ (And.intro rfl (And.intro rfl (And.intro (Nat.le_of_ble_eq_true rfl) ?_)))) | (refine Exists.intro _ (And.intro rfl (And.intro rfl (And.intro rfl (And.intro (Nat.le_of_ble_eq_true rfl) ?_))))) | (refine And.intro (Exists.intro _ (And.intro rfl rfl)) ?_) | (exact fun hW => absurd hW (by decide +kernel)) | (intro hW; (try simp only [Bool.not_true, Bool.not_false, Bool.not_eq_true', Bool.not_eq_false', decide_eq_true_eq, decide_eq_false_iff_not, reduceCtorEq, Bool.true_eq_false, Bool.false_eq_true, mk_size, List.size_toArray, ByteArray.size_append, ByteArray.size_extract, List.length_cons, List.length_nil, ba_get, ba_empty, Int.toNat_natCast] at hW)) | (refine And.intro (?_ : _ → _) (?_ : _ → _)) | (refine FinR.drop 0 (Nat.zero_le _) (Closed.zero _) rfl ?_) | (refine FinR.keep ?_) | (refine And.intro (det3_agg rfl) ?_) | (refine fL_mk ?_) | (refine And.intro (by (try simp only [mk_size, List.size_toArray, ByteArray.size_append, ByteArray.size_extract, List.length_cons, List.length_nil]); omega) ?_) | (refine And.intro (by (try simp only [mk_size, List.size_toArray, ByteArray.size_append, ByteArray.size_extract, List.length_cons, List.length_nil, wrap64_eq]); omega) ?_) | fail)
      all_goals first | (exfalso; omega) | exact Again.go 1 ⟨rfl, slI' (wadd k _ (by omega)), rfl, rfl, trivial⟩ (.keep rfl) (by omega) (by omega)
    · skip
      repeat' ((conv => whnf); first | (refine Exists.intro ([] : List Nat) ?_) | (refine And.intro rfl ?_) | (refine And.intro (by decide +kernel) ?_) | (refine And.intro trivial ?_) | (refine hld3 _ ?_) | (refine Exists.intro _ (And.intro rfl (And.intro rfl (And.intro (Nat.le_of_ble_eq_true rfl) ?_)))) | (refine Exists.intro _ (And.intro rfl (And.intro rfl (And.intro rfl (And.intro (Nat.le_of_ble_eq_true rfl) ?_))))) | (refine And.intro (Exists.intro _ (And.intro rfl rfl)) ?_) | (exact fun hW => absurd hW (by decide +kernel)) | (intro hW; (try simp only [Bool.not_true, Bool.not_false, Bool.not_eq_true', Bool.not_eq_false', decide_eq_true_eq, decide_eq_false_iff_not, reduceCtorEq, Bool.true_eq_false, Bool.false_eq_true, mk_size, List.size_toArray, ByteArray.size_append, ByteArray.size_extract, List.length_cons, List.length_nil, ba_get, ba_empty, Int.toNat_natCast] at hW)) | (refine And.intro (?_ : _ → _) (?_ : _ → _)) | (refine FinR.drop 0 (Nat.zero_le _) (Closed.zero _) rfl ?_) | (refine FinR.keep ?_) | (refine And.intro (det3_agg rfl) ?_) | (refine fL_mk ?_) | (refine And.intro (by (try simp only [mk_size, List.size_toArray, ByteArray.size_append, ByteArray.size_extract, List.length_cons, List.length_nil]); omega) ?_) | (refine And.intro (by (try simp only [mk_size, List.size_toArray, ByteArray.size_append, ByteArray.size_extract, List.length_cons, List.length_nil, wrap64_eq]); omega) ?_) | fail)
      all_goals first | (exfalso; omega) | exact Again.go 2 ⟨rfl, slI' (wadd k _ (by omega)), rfl, rfl, trivial⟩ (.keep rfl) (by omega) (by omega)
    · skip
      repeat' ((conv => whnf); first | (refine Exists.intro ([] : List Nat) ?_) | (refine And.intro rfl ?_) | (refine And.intro (by decide +kernel) ?_) | (refine And.intro trivial ?_) | (refine Exists.intro _ (And.intro rfl (And.intro rfl (And.intro (Nat.le_of_ble_eq_true rfl) ?_)))) | (refine Exists.intro _ (And.intro rfl (And.intro rfl (And.intro rfl (And.intro (Nat.le_of_ble_eq_true rfl) ?_))))) | (refine And.intro (Exists.intro _ (And.intro rfl rfl)) ?_) | (exact fun hW => absurd hW (by decide +kernel)) | (intro hW; (try simp only [Bool.not_true, Bool.not_false, Bool.not_eq_true', Bool.not_eq_false', decide_eq_true_eq, decide_eq_false_iff_not, reduceCtorEq, Bool.true_eq_false, Bool.false_eq_true, mk_size, List.size_toArray, ByteArray.size_append, ByteArray.size_extract, List.length_cons, List.length_nil, ba_get, ba_empty, Int.toNat_natCast] at hW)) | (refine And.intro (?_ : _ → _) (?_ : _ → _)) | (refine FinR.drop 0 (Nat.zero_le _) (Closed.zero _) rfl ?_) | (refine FinR.keep ?_) | (refine And.intro (det3_agg rfl) ?_) | (refine fL_mk ?_) | (refine And.intro (by (try simp only [mk_size, List.size_toArray, ByteArray.size_append, ByteArray.size_extract, List.length_cons, List.length_nil]); omega) ?_) | (refine And.intro (by (try simp only [mk_size, List.size_toArray, ByteArray.size_append, ByteArray.size_extract, List.length_cons, List.length_nil, wrap64_eq]); omega) ?_) | fail)
      all_goals first | (exfalso; omega) | exact Again.go (i + 1) ⟨rfl, slI' (by omega), slI' (wsucc' i (by omega)), trivial⟩ (.keep rfl) (by omega) (by omega)
  · obtain rfl : i = n' := by omega
    repeat' ((conv => whnf); first | (refine Exists.intro ([] : List Nat) ?_) | (refine And.intro rfl ?_) | (refine And.intro (by decide +kernel) ?_) | (refine And.intro trivial ?_) | (refine Exists.intro _ (And.intro rfl (And.intro rfl (And.intro (Nat.le_of_ble_eq_true rfl) ?_)))) | (refine Exists.intro _ (And.intro rfl (And.intro rfl (And.intro rfl (And.intro (Nat.le_of_ble_eq_true rfl) ?_))))) | (refine And.intro (Exists.intro _ (And.intro rfl rfl)) ?_) | (exact fun hW => absurd hW (by decide +kernel)) | (intro hW; (try simp only [Bool.not_true, Bool.not_false, Bool.not_eq_true', Bool.not_eq_false', decide_eq_true_eq, decide_eq_false_iff_not, reduceCtorEq, Bool.true_eq_false, Bool.false_eq_true, mk_size, List.size_toArray, ByteArray.size_append, ByteArray.size_extract, List.length_cons, List.length_nil, ba_get, ba_empty, Int.toNat_natCast] at hW)) | (refine And.intro (?_ : _ → _) (?_ : _ → _)) | (refine FinR.drop 0 (Nat.zero_le _) (Closed.zero _) rfl ?_) | (refine FinR.keep ?_) | (refine And.intro (det3_agg rfl) ?_) | (refine fL_mk ?_) | (refine And.intro (by (try simp only [mk_size, List.size_toArray, ByteArray.size_append, ByteArray.size_extract, List.length_cons, List.length_nil]); omega) ?_) | (refine And.intro (by (try simp only [mk_size, List.size_toArray, ByteArray.size_append, ByteArray.size_extract, List.length_cons, List.length_nil, wrap64_eq]); omega) ?_) | fail)
    all_goals first | (exfalso; omega) | exact h0
theorem d_heldStepS (a : AV) (n : Nat) (k : Int) (ha : Sli W0 σ 4 enI a (rowsM k 4 n)) (hn2 : n ≤ 1048576) (hk : 0 ≤ k ∧ k ≤ 16777216) (K : Cont) (h0 : K (I (k + (n * 4 : Nat))) σ) : ACall Try.prog W0 28 [a, I k] σ K :=
  lift_Sp (by kernel_rfl) rfl (fun _ => rfl) ha (fun W1 a' h K hK => c_heldStepS a' n k h hn2 hk K hK) K h0
end Go.Proofs.Ytcfkhiplmnamcaa
end

section
/- Contracts: vain steps, by both sides; plans marked and held. -/
set_option linter.unusedVariables false
set_option linter.unusedSimpArgs false
set_option maxRecDepth 100000
set_option maxHeartbeats 4000000
namespace Go.Proofs.Ytcfkhiplmnamcaa
open Go Go.RowKit Go.Proofs.Ytcfkhiplmnamcaa.Abs
variable {W0 : World} {σ : List Blk}
theorem c_heldPlan (a b c d e f : Int) (v1 v2 : Value) (n1 n2 : Nat) (k : Int) (h1 : Sli W0 [] 6 enI (.lit v1) (rowsM k 6 n1)) (h2 : Sli W0 [] 4 enI (.lit v2) (rowsM (k + (n1 * 6 : Nat)) 4 n2)) (hm1 : n1 ≤ 1048576) (hm2 : n2 ≤ 1048576) (hk : 0 ≤ k ∧ k ≤ 1000) (K : Cont) (h0 : K (I (k + (n1 * 6 : Nat) + (n2 * 4 : Nat))) []) : ACall Try.prog W0 10 [PlA a b c d e f (.lit v1) (.lit v2), I k] [] K := by
  refine by10 (Nat.le_of_ble_eq_true rfl) ?_
  repeat' ((conv => whnf); first | (refine Exists.intro ([] : List Nat) ?_) | (refine And.intro rfl ?_) | (refine And.intro (by decide +kernel) ?_) | (refine And.intro trivial ?_) | (refine d_heldSheetS (n := n1) (ha := sli_up h1) (hn2 := hm1) (hk := by omega) (h0 := ?_) ..) | (refine d_heldStepS (n := n2) (ha := sli_up h2) (hn2 := hm2) (hk := by omega) (h0 := ?_) ..) | (refine Exists.intro _ (And.intro rfl (And.intro rfl (And.intro (Nat.le_of_ble_eq_true rfl) ?_)))) | (refine Exists.intro _ (And.intro rfl (And.intro rfl (And.intro rfl (And.intro (Nat.le_of_ble_eq_true rfl) ?_))))) | (refine And.intro (Exists.intro _ (And.intro rfl rfl)) ?_) | (exact fun hW => absurd hW (by decide +kernel)) | (intro hW; (try simp only [Bool.not_true, Bool.not_false, Bool.not_eq_true', Bool.not_eq_false', decide_eq_true_eq, decide_eq_false_iff_not, reduceCtorEq, Bool.true_eq_false, Bool.false_eq_true, mk_size, List.size_toArray, ByteArray.size_append, ByteArray.size_extract, List.length_cons, List.length_nil, ba_get, ba_empty, Int.toNat_natCast] at hW)) | (refine And.intro (?_ : _ → _) (?_ : _ → _)) | (refine FinR.drop 0 (Nat.zero_le _) (Closed.zero _) rfl ?_) | (refine FinR.keep ?_) | (refine And.intro (det3_agg rfl) ?_) | (refine fL_mk ?_) | (refine And.intro (by (try simp only [mk_size, List.size_toArray, ByteArray.size_append, ByteArray.size_extract, List.length_cons, List.length_nil]); omega) ?_) | (refine And.intro (by (try simp only [mk_size, List.size_toArray, ByteArray.size_append, ByteArray.size_extract, List.length_cons, List.length_nil, wrap64_eq]); omega) ?_) | fail)
  all_goals first | exact h0 | (exfalso; omega)
theorem d_heldPlan (a b c d e f : Int) (s1 s2 : AV) (n1 n2 : Nat) (k : Int) (h1 : Sli W0 σ 6 enI s1 (rowsM k 6 n1)) (h2 : Sli W0 σ 4 enI s2 (rowsM (k + (n1 * 6 : Nat)) 4 n2)) (hm1 : n1 ≤ 1048576) (hm2 : n2 ≤ 1048576) (hk : 0 ≤ k ∧ k ≤ 1000) (K : Cont) (h0 : K (I (k + (n1 * 6 : Nat) + (n2 * 4 : Nat))) σ) : ACall Try.prog W0 10 [PlA a b c d e f s1 s2, I k] σ K :=
  lift_Pl (rest := [I k]) (ι := Unit) (fun _ => I (k + (n1 * 6 : Nat) + (n2 * 4 : Nat))) (fun τ => []) (by kernel_rfl) rfl h1 h2 (fun W1 v1 v2 q1 q2 K hK => c_heldPlan a b c d e f v1 v2 n1 n2 k q1 q2 hm1 hm2 hk K (hK ())) K (fun _ => by
    rw [show shB σ.length [] = [] from rfl, List.append_nil]; exact h0)
/-! vain steps -/
def vainQ (fs : List (Nat × Nat)) (n i : Nat) : Bool := decide (runN (fs.take (i + 1)) n = runN (fs.take i) n)
abbrev vainL (xs ys : List (List Int)) (n : Nat) : List Int := selN (vainQ (fsOf xs ys) n) ys.length
end Go.Proofs.Ytcfkhiplmnamcaa
end

section
/- Contracts: the law of vain steps. -/
set_option linter.unusedVariables false
set_option linter.unusedSimpArgs false
set_option maxRecDepth 100000
set_option maxHeartbeats 4000000
namespace Go.Proofs.Ytcfkhiplmnamcaa
open Go Go.RowKit Go.Proofs.Ytcfkhiplmnamcaa.Abs
variable {W0 : World} {σ : List Blk}
theorem shSB_len {xs : List (List Int)} (hx : ∀ x ∈ xs, x.length = 6) : xs.length * 6 ≤ (shSB xs).cells.length := by rw [jc_len (s := 6) hx]; exact Nat.le_refl _
theorem stSB_len {xs : List (List Int)} (hx : ∀ x ∈ xs, x.length = 4) : xs.length * 4 ≤ (stSB xs).cells.length := by rw [jc_len (s := 4) hx]; exact Nat.le_refl _
end Go.Proofs.Ytcfkhiplmnamcaa
end

section
/- Contracts: plans in new memory. -/
set_option linter.unusedVariables false
set_option linter.unusedSimpArgs false
set_option maxRecDepth 100000
set_option maxHeartbeats 4000000
namespace Go.Proofs.Ytcfkhiplmnamcaa
open Go Go.RowKit Go.Proofs.Ytcfkhiplmnamcaa.Abs
variable {W0 : World} {σ : List Blk}
theorem jc_flat (xs : List (List Int)) : ((xs.map enI).flatten).map AV.lit = jc xs := by
  unfold jc
  rw [List.map_flatten, List.map_map]
  congr 1
  refine List.map_congr_left fun x _ => ?_
  simp
theorem flat_at {s : Nat} : ∀ {xs : List (List Int)}, (∀ x ∈ xs, x.length = s) → ∀ {j : Nat} {v : Value}, ((xs.map enI).flatten)[j]? = some v → ∃ i r x, j = i * s + r ∧ xs[i]? = some x ∧ (enI x)[r]? = some v
  | [], _, j, v, h => by simp at h
  | x :: xs, hx, j, v, h => by
    have hl : (enI x).length = s := by rw [List.length_map]; exact hx x List.mem_cons_self
    have h' : (enI x ++ (xs.map enI).flatten)[j]? = some v := h
    rw [List.getElem?_append] at h'
    split at h'
    · exact ⟨0, j, x, by omega, rfl, h'⟩
    · rename_i hj
      obtain ⟨i, r, y, e, hi, hr⟩ := flat_at (s := s) (fun y hy => hx y (List.mem_cons_of_mem _ hy)) h'
      exact ⟨i + 1, r, y, by rw [Nat.add_mul]; omega, hi, hr⟩
theorem flat_len {s : Nat} {xs : List (List Int)} (hx : ∀ x ∈ xs, x.length = s) : ((xs.map enI).flatten).length = xs.length * s := by
  have := jc_len hx
  rw [← jc_flat, List.length_map] at this
  exact this
/-- all rows of a slice that came in, to be appended -/
theorem sli_src {s : Nat} {ad : Addr} {n cap : Nat} {xs : List (List Int)} (h : Sli W0 [] s enI (.lit (.slice (some ad) n cap)) xs) (hx : ∀ x ∈ xs, x.length = s) {C : List Value → Prop} (hc : C ((xs.map enI).flatten)) :
    ∃ cs : List Value, cs.length = n * s ∧ (∀ (j : Nat) (v : Value), cs[j]? = some v → W0.cell? (ad.add j) = some v ∧ v.oneCell' = true) ∧ ad.block < W0.heap.size ∧ C cs := by
  cases h with
  | inn ad n cap xs hn hcc hm hb hxx =>
    refine ⟨_, by rw [flat_len hx, hn], fun j v hj => ?_, hb, hc⟩
    obtain ⟨i, r, x, rfl, hi, hr⟩ := flat_at hx hj
    have := hxx i x hi r v hr
    rw [add_add] at this
    exact this
/-- a slice that is not nil, as the callee sees it -/
theorem sli_concN {s : Nat} {a : AV} {xs : List (List Int)} {ι : Abs.Loc} {W1 : World} {x : Value} (h : Sli W0 σ s enI a xs) (hn : a ≠ nilA) (hh : HRel W0 ι σ W1) (hr : rel3 ι σ a x) :
    ∃ o n c, x = .slice (some o) n c ∧ Sli W1 [] s enI (.lit (.slice (some o) n c)) xs := by
  have hx : ∃ o n c, x = .slice (some o) n c := by
    cases h with
    | nil => exact absurd rfl hn
    | inn ad n cap xs hn hc hm hb hx => exact ⟨ad, n, cap, hr⟩
    | own b ver off n cap B xs hB hv hn hx =>
      obtain ⟨c, t, _, e, _⟩ := slRel_now hr hB hv
      exact ⟨_, _, _, e⟩
  obtain ⟨o, n, c, rfl⟩ := hx
  obtain ⟨a', ha, hs⟩ := h.conc hh ⟨_, hr⟩
  obtain ⟨v, rfl⟩ := sli_lit hs
  have e : (.slice (some o) n c : Value) = v := ha _ hr
  subst e
  exact ⟨o, n, c, rfl, hs⟩
theorem sl_nn {b v o n c : Nat} : AV.sl b v o n c ≠ nilA := by intro h; cases h
theorem lit_nn {o : Addr} {n c : Nat} : AV.lit (.slice (some o) n c) ≠ nilA := by intro h; cases h
theorem plA_concN {a b c d e f : Int} {s1 s2 : AV} {xs ys : List (List Int)} {ι : Abs.Loc} {W1 : World} {x : Value} (h1 : Sli W0 σ 6 enI s1 xs) (h2 : Sli W0 σ 4 enI s2 ys) (n1 : s1 ≠ nilA) (n2 : s2 ≠ nilA) (hh : HRel W0 ι σ W1) (hr : rel3 ι σ (PlA a b c d e f s1 s2) x) :
    ∃ o1 m1 c1 o2 m2 c2, Sli W1 [] 6 enI (.lit (.slice (some o1) m1 c1)) xs ∧ Sli W1 [] 4 enI (.lit (.slice (some o2) m2 c2)) ys ∧ rel3 [] [] (PlA a b c d e f (.lit (.slice (some o1) m1 c1)) (.lit (.slice (some o2) m2 c2))) x := by
  obtain ⟨l, rfl, hl⟩ := (show ∃ l : List Value, x = .agg l.toArray ∧ Rels (crel ι σ) [I a, I b, I c, I d, I e, I f, s1, s2] l from hr)
  obtain ⟨x0, l0, rfl, q0, r0⟩ := Rels.uncons hl
  obtain ⟨x1, l1, rfl, q1, r1⟩ := Rels.uncons r0
  obtain ⟨x2, l2, rfl, q2, r2⟩ := Rels.uncons r1
  obtain ⟨x3, l3, rfl, q3, r3⟩ := Rels.uncons r2
  obtain ⟨x4, l4, rfl, q4, r4⟩ := Rels.uncons r3
  obtain ⟨x5, l5, rfl, q5, r5⟩ := Rels.uncons r4
  obtain ⟨x6, l6, rfl, q6, r6⟩ := Rels.uncons r5
  obtain ⟨x7, l7, rfl, q7, r7⟩ := Rels.uncons r6
  obtain rfl := r7.nil_inv
  obtain ⟨o1, m1, c1, e1, hs1⟩ := sli_concN h1 n1 hh (sli_r31 h1 q6.1)
  obtain ⟨o2, m2, c2, e2, hs2⟩ := sli_concN h2 n2 hh (sli_r31 h2 q7.1)
  subst e1; subst e2
  refine ⟨_, _, _, _, _, _, hs1, hs2, _, rfl, ?_⟩
  exact Rels.cons ⟨q0.1, q0.2⟩ (Rels.cons ⟨q1.1, q1.2⟩ (Rels.cons ⟨q2.1, q2.2⟩ (Rels.cons ⟨q3.1, q3.2⟩ (Rels.cons ⟨q4.1, q4.2⟩ (Rels.cons ⟨q5.1, q5.2⟩ (Rels.cons ⟨rfl, q6.2⟩ (Rels.cons ⟨rfl, q7.2⟩ Rels.nil)))))))
theorem lift_PlN {g : FuncId} {a b c d e f : Int} {s1 s2 : AV} {rest : List AV} {xs ys : List (List Int)} {ι : Type} (r : ι → AV) (β : ι → List Blk) (hok : callOK Try.prog g = true) (hrest : rest.all pure3 = true) (h1 : Sli W0 σ 6 enI s1 xs) (h2 : Sli W0 σ 4 enI s2 ys) (n1 : s1 ≠ nilA) (n2 : s2 ≠ nilA)
    (h : ∀ (W1 : World) (o1 : Addr) (m1 c1 : Nat) (o2 : Addr) (m2 c2 : Nat), Sli W1 [] 6 enI (.lit (.slice (some o1) m1 c1)) xs → Sli W1 [] 4 enI (.lit (.slice (some o2) m2 c2)) ys → ∀ K : Cont, (∀ i, K (r i) (β i)) → ACall Try.prog W1 g (PlA a b c d e f (.lit (.slice (some o1) m1 c1)) (.lit (.slice (some o2) m2 c2)) :: rest) [] K) (K : Cont) (h0 : ∀ i, K (sh3 σ.length (r i)) (σ ++ shB σ.length (β i))) : ACall Try.prog W0 g (PlA a b c d e f s1 s2 :: rest) σ K := by
  refine ACall.frameA (K0 := fun v σ' => ∃ i, v = r i ∧ σ' = β i) hok (fun W1 ι vs hh hrr => ?_) ?_
  · obtain ⟨v1, vs', rfl, hr1, hr2⟩ := Rels.uncons hrr
    obtain ⟨o1, m1, c1, o2, m2, c2, q1, q2, q3⟩ := plA_concN h1 h2 n1 n2 hh hr1
    exact ⟨_ :: rest, Rels.cons q3 (rels_pure hrest hr2), h W1 _ _ _ _ _ _ q1 q2 _ (fun i => ⟨i, rfl, rfl⟩)⟩
  · rintro v σ' ⟨i, rfl, rfl⟩; exact h0 i
theorem lift_PlSN {g : FuncId} {a b c d e f : Int} {s1 s2 s3 : AV} {xs ys zs : List (List Int)} {ι : Type} (r : ι → AV) (β : ι → List Blk) (hok : callOK Try.prog g = true) (h1 : Sli W0 σ 6 enI s1 xs) (h2 : Sli W0 σ 4 enI s2 ys) (h3 : Sli W0 σ 4 enI s3 zs) (n1 : s1 ≠ nilA) (n2 : s2 ≠ nilA) (n3 : s3 ≠ nilA)
    (h : ∀ (W1 : World) (o1 : Addr) (m1 c1 : Nat) (o2 : Addr) (m2 c2 : Nat) (o3 : Addr) (m3 c3 : Nat), Sli W1 [] 6 enI (.lit (.slice (some o1) m1 c1)) xs → Sli W1 [] 4 enI (.lit (.slice (some o2) m2 c2)) ys → Sli W1 [] 4 enI (.lit (.slice (some o3) m3 c3)) zs → ∀ K : Cont, (∀ i, K (r i) (β i)) → ACall Try.prog W1 g [PlA a b c d e f (.lit (.slice (some o1) m1 c1)) (.lit (.slice (some o2) m2 c2)), .lit (.slice (some o3) m3 c3)] [] K) (K : Cont) (h0 : ∀ i, K (sh3 σ.length (r i)) (σ ++ shB σ.length (β i))) : ACall Try.prog W0 g [PlA a b c d e f s1 s2, s3] σ K := by
  refine ACall.frameA (K0 := fun v σ' => ∃ i, v = r i ∧ σ' = β i) hok (fun W1 ι vs hh hrr => ?_) ?_
  · obtain ⟨v1, vs', rfl, hr1, hr2⟩ := Rels.uncons hrr
    obtain ⟨v2, vs'', rfl, hr3, hr4⟩ := Rels.uncons hr2
    obtain rfl := hr4.nil_inv
    obtain ⟨o1, m1, c1, o2, m2, c2, q1, q2, q3⟩ := plA_concN h1 h2 n1 n2 hh hr1
    obtain ⟨o3, m3, c3, rfl, q4⟩ := sli_concN h3 n3 hh hr3
    exact ⟨[_, .lit (.slice (some o3) m3 c3)], Rels.cons q3 (Rels.cons rfl Rels.nil), h W1 _ _ _ _ _ _ _ _ _ q1 q2 q4 _ (fun i => ⟨i, rfl, rfl⟩)⟩
  · rintro v σ' ⟨i, rfl, rfl⟩; exact h0 i
theorem lift_SN {g : FuncId} {s : Nat} {a : AV} {xs : List (List Int)} {ι : Type} (r : ι → AV) (β : ι → List Blk) (hok : callOK Try.prog g = true) (h1 : Sli W0 σ s enI a xs) (n1 : a ≠ nilA)
    (h : ∀ (W1 : World) (o1 : Addr) (m1 c1 : Nat), Sli W1 [] s enI (.lit (.slice (some o1) m1 c1)) xs → ∀ K : Cont, (∀ i, K (r i) (β i)) → ACall Try.prog W1 g [.lit (.slice (some o1) m1 c1)] [] K) (K : Cont) (h0 : ∀ i, K (sh3 σ.length (r i)) (σ ++ shB σ.length (β i))) : ACall Try.prog W0 g [a] σ K := by
  refine ACall.frameA (K0 := fun v σ' => ∃ i, v = r i ∧ σ' = β i) hok (fun W1 ι vs hh hrr => ?_) ?_
  · obtain ⟨v1, vs', rfl, hr1, hr2⟩ := Rels.uncons hrr
    obtain rfl := hr2.nil_inv
    obtain ⟨o1, m1, c1, rfl, q1⟩ := sli_concN h1 n1 hh hr1
    exact ⟨[.lit (.slice (some o1) m1 c1)], Rels.cons rfl Rels.nil, h W1 _ _ _ q1 _ (fun i => ⟨i, rfl, rfl⟩)⟩
  · rintro v σ' ⟨i, rfl, rfl⟩; exact h0 i
abbrev shK (xs : List (List Int)) (r : Nat) : Blk := ⟨jc xs, r, 30, 6, true, true⟩
abbrev stK (ys : List (List Int)) (r : Nat) : Blk := ⟨jc ys, r, 53, 4, true, true⟩
theorem c_CloneSheet (o : Addr) (n c : Nat) (xs : List (List Int)) (h1 : Sli W0 [] 6 enI (.lit (.slice (some o) n c)) xs) (hx : ∀ x ∈ xs, x.length = 6) (hl : xs.length ≤ 2097152) (K : Cont) (h0 : ∀ c', K (.sl 0 1 0 xs.length c') [shK xs 1]) : ACall Try.prog W0 34 [.lit (.slice (some o) n c)] [] K := by
  refine by34 (Nat.le_of_ble_eq_true rfl) ?_
  have hn : n = xs.length := by cases h1 with | inn ad n cap xs hn hc hm hb hxx => exact hn
  subst hn
  have hj : (((xs.map enI).flatten).map AV.lit).length = xs.length * 6 := by rw [jc_flat]; exact jc_len hx
  repeat' ((conv => whnf); first | (refine Exists.intro ([] : List Nat) ?_) | (refine And.intro rfl ?_) | (refine And.intro (by decide +kernel) ?_) | (refine And.intro trivial ?_) | (refine sli_src h1 hx ?_) | (refine Exists.intro _ (And.intro rfl (And.intro rfl (And.intro rfl (And.intro rfl (And.intro rfl (And.intro rfl (And.intro (by decide) (And.intro rfl (And.intro hj (And.intro (by unfold maxLen; omega) (And.intro (by omega) (fun cap' hcap1 hcap2 => ?_))))))))))))) | (refine Exists.intro _ (And.intro rfl (And.intro rfl (And.intro (Nat.le_of_ble_eq_true rfl) ?_)))) | (refine Exists.intro _ (And.intro rfl (And.intro rfl (And.intro rfl (And.intro (Nat.le_of_ble_eq_true rfl) ?_))))) | (refine And.intro (Exists.intro _ (And.intro rfl rfl)) ?_) | (exact fun hW => absurd hW (by decide +kernel)) | (intro hW; (try simp only [Bool.not_true, Bool.not_false, Bool.not_eq_true', Bool.not_eq_false', decide_eq_true_eq, decide_eq_false_iff_not, reduceCtorEq, Bool.true_eq_false, Bool.false_eq_true, mk_size, List.size_toArray, ByteArray.size_append, ByteArray.size_extract, List.length_cons, List.length_nil, ba_get, ba_empty, Int.toNat_natCast] at hW)) | (refine And.intro (?_ : _ → _) (?_ : _ → _)) | (refine FinR.drop 0 (Nat.zero_le _) (Closed.zero _) rfl ?_) | (refine FinR.keep ?_) | (refine And.intro (det3_agg rfl) ?_) | (refine fL_mk ?_) | (refine And.intro (by (try simp only [mk_size, List.size_toArray, ByteArray.size_append, ByteArray.size_extract, List.length_cons, List.length_nil]); omega) ?_) | (refine And.intro (by (try simp only [mk_size, List.size_toArray, ByteArray.size_append, ByteArray.size_extract, List.length_cons, List.length_nil, wrap64_eq]); omega) ?_) | fail)
  all_goals first | (exfalso; simp_all; done) | skip
  all_goals (rw [Nat.zero_add xs.length, jc_flat]; exact h0 _)
theorem d_CloneSheet (a : AV) (xs : List (List Int)) (h1 : Sli W0 σ 6 enI a xs) (n1 : a ≠ nilA) (hx : ∀ x ∈ xs, x.length = 6) (hl : xs.length ≤ 2097152) (K : Cont) (h0 : ∀ c', K (.sl σ.length 1 0 xs.length c') (σ ++ [shK xs 1])) : ACall Try.prog W0 34 [a] σ K :=
  lift_SN (ι := Nat) (fun c' => .sl 0 1 0 xs.length c') (fun _ => [shK xs 1]) (by kernel_rfl) h1 n1 (fun W1 o1 m1 c1 q K hK => c_CloneSheet o1 m1 c1 xs q hx hl K hK) K (fun c' => by
    rw [show shB σ.length [shK xs 1] = [shK xs 1] by simp [shB, jc_sh]]; exact h0 c')
theorem c_CloneStep (o : Addr) (n c : Nat) (xs : List (List Int)) (h1 : Sli W0 [] 4 enI (.lit (.slice (some o) n c)) xs) (hx : ∀ x ∈ xs, x.length = 4) (hl : xs.length ≤ 2097152) (K : Cont) (h0 : ∀ c', K (.sl 0 1 0 xs.length c') [stK xs 1]) : ACall Try.prog W0 35 [.lit (.slice (some o) n c)] [] K := by
  refine by35 (Nat.le_of_ble_eq_true rfl) ?_
  have hn : n = xs.length := by cases h1 with | inn ad n cap xs hn hc hm hb hxx => exact hn
  subst hn
  have hj : (((xs.map enI).flatten).map AV.lit).length = xs.length * 4 := by rw [jc_flat]; exact jc_len hx
  repeat' ((conv => whnf); first | (refine Exists.intro ([] : List Nat) ?_) | (refine And.intro rfl ?_) | (refine And.intro (by decide +kernel) ?_) | (refine And.intro trivial ?_) | (refine sli_src h1 hx ?_) | (refine Exists.intro _ (And.intro rfl (And.intro rfl (And.intro rfl (And.intro rfl (And.intro rfl (And.intro rfl (And.intro (by decide) (And.intro rfl (And.intro hj (And.intro (by unfold maxLen; omega) (And.intro (by omega) (fun cap' hcap1 hcap2 => ?_))))))))))))) | (refine Exists.intro _ (And.intro rfl (And.intro rfl (And.intro (Nat.le_of_ble_eq_true rfl) ?_)))) | (refine Exists.intro _ (And.intro rfl (And.intro rfl (And.intro rfl (And.intro (Nat.le_of_ble_eq_true rfl) ?_))))) | (refine And.intro (Exists.intro _ (And.intro rfl rfl)) ?_) | (exact fun hW => absurd hW (by decide +kernel)) | (intro hW; (try simp only [Bool.not_true, Bool.not_false, Bool.not_eq_true', Bool.not_eq_false', decide_eq_true_eq, decide_eq_false_iff_not, reduceCtorEq, Bool.true_eq_false, Bool.false_eq_true, mk_size, List.size_toArray, ByteArray.size_append, ByteArray.size_extract, List.length_cons, List.length_nil, ba_get, ba_empty, Int.toNat_natCast] at hW)) | (refine And.intro (?_ : _ → _) (?_ : _ → _)) | (refine FinR.drop 0 (Nat.zero_le _) (Closed.zero _) rfl ?_) | (refine FinR.keep ?_) | (refine And.intro (det3_agg rfl) ?_) | (refine fL_mk ?_) | (refine And.intro (by (try simp only [mk_size, List.size_toArray, ByteArray.size_append, ByteArray.size_extract, List.length_cons, List.length_nil]); omega) ?_) | (refine And.intro (by (try simp only [mk_size, List.size_toArray, ByteArray.size_append, ByteArray.size_extract, List.length_cons, List.length_nil, wrap64_eq]); omega) ?_) | fail)
  all_goals first | (exfalso; simp_all; done) | skip
  all_goals (rw [Nat.zero_add xs.length, jc_flat]; exact h0 _)
theorem d_CloneStep (a : AV) (xs : List (List Int)) (h1 : Sli W0 σ 4 enI a xs) (n1 : a ≠ nilA) (hx : ∀ x ∈ xs, x.length = 4) (hl : xs.length ≤ 2097152) (K : Cont) (h0 : ∀ c', K (.sl σ.length 1 0 xs.length c') (σ ++ [stK xs 1])) : ACall Try.prog W0 35 [a] σ K :=
  lift_SN (ι := Nat) (fun c' => .sl 0 1 0 xs.length c') (fun _ => [stK xs 1]) (by kernel_rfl) h1 n1 (fun W1 o1 m1 c1 q K hK => c_CloneStep o1 m1 c1 xs q hx hl K hK) K (fun c' => by
    rw [show shB σ.length [stK xs 1] = [stK xs 1] by simp [shB, jc_sh]]; exact h0 c')
/-- a plan in new memory -/
structure NewP (xs ys : List (List Int)) where
  τ : List Blk
  b1 : Nat
  r1 : Nat
  c1 : Nat
  b2 : Nat
  r2 : Nat
  c2 : Nat
  h1 : τ[b1]? = some (shK xs r1)
  h2 : τ[b2]? = some (stK ys r2)
theorem newP_raw {a b c d e f : Int} {xs ys : List (List Int)} {K : Cont} (h0 : ∀ x : NewP xs ys, K (PlA a b c d e f (.sl x.b1 x.r1 0 xs.length x.c1) (.sl x.b2 x.r2 0 ys.length x.c2)) x.τ) (τ : List Blk) (b1 r1 c1 b2 r2 c2 n1 n2 : Nat) (C1 C2 : List AV) (e1 : n1 = xs.length) (e2 : n2 = ys.length) (h1 : τ[b1]? = some ⟨C1, r1, 30, 6, true, true⟩) (j1 : C1 = jc xs) (h2 : τ[b2]? = some ⟨C2, r2, 53, 4, true, true⟩) (j2 : C2 = jc ys) : K (PlA a b c d e f (.sl b1 r1 0 n1 c1) (.sl b2 r2 0 n2 c2)) τ := by
  subst e1; subst e2; subst j1; subst j2
  exact h0 ⟨τ, b1, r1, c1, b2, r2, c2, h1, h2⟩
abbrev plN (a b c d e f : Int) {xs ys : List (List Int)} (x : NewP xs ys) : AV := PlA a b c d e f (.sl x.b1 x.r1 0 xs.length x.c1) (.sl x.b2 x.r2 0 ys.length x.c2)
theorem c_copied (a b c d e f : Int) (o1 : Addr) (m1 c1 : Nat) (o2 : Addr) (m2 c2 : Nat) (o3 : Addr) (m3 c3 : Nat) (xs ys zs : List (List Int)) (h1 : Sli W0 [] 6 enI (.lit (.slice (some o1) m1 c1)) xs) (h2 : Sli W0 [] 4 enI (.lit (.slice (some o2) m2 c2)) ys) (h3 : Sli W0 [] 4 enI (.lit (.slice (some o3) m3 c3)) zs) (hx : ∀ x ∈ xs, x.length = 6) (hz : ∀ x ∈ zs, x.length = 4) (hl : xs.length ≤ 2097152) (hl2 : zs.length ≤ 2097152) (K : Cont) (h0 : ∀ x : NewP xs zs, K (plN a b c d e f x) x.τ) : ACall Try.prog W0 20 [PlA a b c d e f (.lit (.slice (some o1) m1 c1)) (.lit (.slice (some o2) m2 c2)), .lit (.slice (some o3) m3 c3)] [] K := by
  refine by20 (Nat.le_of_ble_eq_true rfl) ?_
  repeat' ((conv => whnf); first | (refine Exists.intro ([] : List Nat) ?_) | (refine And.intro rfl ?_) | (refine And.intro (by decide +kernel) ?_) | (refine And.intro trivial ?_) | (refine d_CloneSheet (h1 := sli_up h1) (n1 := lit_nn) (hx := hx) (hl := hl) (h0 := fun c' => ?_) ..) | (refine d_CloneStep (h1 := sli_up h3) (n1 := lit_nn) (hx := hz) (hl := hl2) (h0 := fun c' => ?_) ..) | (refine Exists.intro _ (And.intro rfl (And.intro rfl (And.intro (Nat.le_of_ble_eq_true rfl) ?_)))) | (refine Exists.intro _ (And.intro rfl (And.intro rfl (And.intro rfl (And.intro (Nat.le_of_ble_eq_true rfl) ?_))))) | (refine And.intro (Exists.intro _ (And.intro rfl rfl)) ?_) | (exact fun hW => absurd hW (by decide +kernel)) | (intro hW; (try simp only [Bool.not_true, Bool.not_false, Bool.not_eq_true', Bool.not_eq_false', decide_eq_true_eq, decide_eq_false_iff_not, reduceCtorEq, Bool.true_eq_false, Bool.false_eq_true, mk_size, List.size_toArray, ByteArray.size_append, ByteArray.size_extract, List.length_cons, List.length_nil, ba_get, ba_empty, Int.toNat_natCast] at hW)) | (refine And.intro (?_ : _ → _) (?_ : _ → _)) | (refine FinR.drop 0 (Nat.zero_le _) (Closed.zero _) rfl ?_) | (refine FinR.keep ?_) | (refine And.intro (det3_agg rfl) ?_) | (refine fL_mk ?_) | (refine And.intro (by (try simp only [mk_size, List.size_toArray, ByteArray.size_append, ByteArray.size_extract, List.length_cons, List.length_nil]); omega) ?_) | (refine And.intro (by (try simp only [mk_size, List.size_toArray, ByteArray.size_append, ByteArray.size_extract, List.length_cons, List.length_nil, wrap64_eq]); omega) ?_) | fail)
  exact h0 ⟨_, _, _, _, _, _, _, rfl, rfl⟩
theorem c_l11Own (a b c d e f : Int) (o1 : Addr) (m1 c1 : Nat) (o2 : Addr) (m2 c2 : Nat) (o3 : Addr) (m3 c3 : Nat) (xs ys zs : List (List Int)) (h1 : Sli W0 [] 6 enI (.lit (.slice (some o1) m1 c1)) xs) (h2 : Sli W0 [] 4 enI (.lit (.slice (some o2) m2 c2)) ys) (h3 : Sli W0 [] 4 enI (.lit (.slice (some o3) m3 c3)) zs) (hx : ∀ x ∈ xs, x.length = 6) (hz : ∀ x ∈ zs, x.length = 4) (hl : xs.length ≤ 2097152) (hl2 : zs.length ≤ 2097152) (K : Cont) (h0 : ∀ x : NewP xs zs, K (plN a b c d e f x) x.τ) : ACall Try.prog W0 14 [PlA a b c d e f (.lit (.slice (some o1) m1 c1)) (.lit (.slice (some o2) m2 c2)), .lit (.slice (some o3) m3 c3)] [] K := by
  refine by14 (Nat.le_of_ble_eq_true rfl) ?_
  have hn1 : m1 = xs.length := by cases h1 with | inn ad n cap xs hn hc hm hb hxx => exact hn
  have hn3 : m3 = zs.length := by cases h3 with | inn ad n cap xs hn hc hm hb hxx => exact hn
  subst hn1; subst hn3
  have hj1 : (((xs.map enI).flatten).map AV.lit).length = xs.length * 6 := by rw [jc_flat]; exact jc_len hx
  have hj3 : (((zs.map enI).flatten).map AV.lit).length = zs.length * 4 := by rw [jc_flat]; exact jc_len hz
  repeat' ((conv => whnf); first | (refine Exists.intro ([] : List Nat) ?_) | (refine And.intro rfl ?_) | (refine And.intro (by decide +kernel) ?_) | (refine And.intro trivial ?_) | (refine sli_src h1 hx ?_) | (refine sli_src h3 hz ?_) | (refine Exists.intro _ (And.intro rfl (And.intro rfl (And.intro rfl (And.intro rfl (And.intro rfl (And.intro rfl (And.intro (by decide) (And.intro rfl (And.intro hj1 (And.intro (by unfold maxLen; omega) (And.intro (by omega) (fun cap' hcap1 hcap2 => ?_))))))))))))) | (refine Exists.intro _ (And.intro rfl (And.intro rfl (And.intro rfl (And.intro rfl (And.intro rfl (And.intro rfl (And.intro (by decide) (And.intro rfl (And.intro hj3 (And.intro (by unfold maxLen; omega) (And.intro (by omega) (fun cap' hcap1 hcap2 => ?_))))))))))))) | (first | (refine And.intro (Exists.intro _ (And.intro rfl rfl)) ?_) | (refine And.intro (?_ : _ → _) (?_ : _ → _)) | (refine And.intro (det3_agg rfl) ?_) | (refine And.intro (by (try simp only [List.length_cons, List.length_nil]); omega) ?_) | (refine And.intro ?_ ?_)) | (refine Exists.intro _ (And.intro rfl (And.intro rfl (And.intro (Nat.le_of_ble_eq_true rfl) ?_)))) | (refine Exists.intro _ (And.intro rfl (And.intro rfl (And.intro rfl (And.intro (Nat.le_of_ble_eq_true rfl) ?_))))) | (refine And.intro (Exists.intro _ (And.intro rfl rfl)) ?_) | (exact fun hW => absurd hW (by decide +kernel)) | (intro hW; (try simp only [Bool.not_true, Bool.not_false, Bool.not_eq_true', Bool.not_eq_false', decide_eq_true_eq, decide_eq_false_iff_not, reduceCtorEq, Bool.true_eq_false, Bool.false_eq_true, mk_size, List.size_toArray, ByteArray.size_append, ByteArray.size_extract, List.length_cons, List.length_nil, ba_get, ba_empty, Int.toNat_natCast] at hW)) | (refine And.intro (?_ : _ → _) (?_ : _ → _)) | (refine FinR.drop 0 (Nat.zero_le _) (Closed.zero _) rfl ?_) | (refine FinR.keep ?_) | (refine And.intro (det3_agg rfl) ?_) | (refine fL_mk ?_) | (refine And.intro (by (try simp only [mk_size, List.size_toArray, ByteArray.size_append, ByteArray.size_extract, List.length_cons, List.length_nil]); omega) ?_) | (refine And.intro (by (try simp only [mk_size, List.size_toArray, ByteArray.size_append, ByteArray.size_extract, List.length_cons, List.length_nil, wrap64_eq]); omega) ?_) | fail)
  all_goals exact newP_raw h0 _ _ _ _ _ _ _ _ _ _ _ (Nat.zero_add _) (Nat.zero_add _) rfl (jc_flat xs) rfl (jc_flat zs)
end Go.Proofs.Ytcfkhiplmnamcaa
end

section
/- Contracts: steps undone, by both sides. -/
set_option linter.unusedVariables false
set_option linter.unusedSimpArgs false
set_option maxRecDepth 100000
set_option maxHeartbeats 4000000
namespace Go.Proofs.Ytcfkhiplmnamcaa
open Go Go.RowKit Go.Proofs.Ytcfkhiplmnamcaa.Abs
variable {W0 : World} {σ : List Blk}
abbrev plZ : AV := PlA 0 0 0 0 0 0 nilA nilA
end Go.Proofs.Ytcfkhiplmnamcaa
end

section
/- Contracts: plans of the laws with the state as a variable; plans without slices. -/
set_option linter.unusedVariables false
set_option linter.unusedSimpArgs false
set_option maxRecDepth 100000
set_option maxHeartbeats 4000000
namespace Go.Proofs.Ytcfkhiplmnamcaa
open Go Go.RowKit Go.Proofs.Ytcfkhiplmnamcaa.Abs
variable {W0 : World} {σ : List Blk}
theorem sli_rowsM3 {b ver n cap s m : Nat} {B : Blk} {k : Int} (hm : m = n * s) (hB : σ[b]? = some (mB B k m)) (hv : B.ver = ver) : Sli W0 σ s enI (.sl b ver 0 n cap) (rowsM k s n) :=
  .own b ver 0 _ cap _ _ hB hv (rowsM_len k s n).symm fun i x hi j v hj => by
    subst hm
    have hlt : i < n := by have := getElem?_lt hi; rwa [rowsM_len] at this
    rw [rowsM_get k s hlt] at hi
    cases hi
    rw [List.getElem?_map, Option.map_eq_some_iff] at hj
    obtain ⟨m, hm, rfl⟩ := hj
    have hj2 : j < s := by have := getElem?_lt hm; rwa [marks_len] at this
    rw [marks_get _ hj2] at hm
    cases hm
    have hb : i * s + j < n * s := by
      have : (i + 1) * s ≤ n * s := Nat.mul_le_mul_right s (by omega)
      rw [Nat.add_mul] at this; omega
    show ((marks k (n * s)).map I ++ B.cells.drop (n * s))[0 + i * s + j]? = _
    rw [Nat.zero_add, List.getElem?_append_left (by rw [List.length_map, marks_len]; exact hb), List.getElem?_map, marks_get k hb]
    show some (I (k + ((i * s + j : Nat) : Int))) = some (I (k + ((i * s : Nat) : Int) + (j : Int)))
    rw [Int.natCast_add, Int.add_assoc]
theorem ne_of_64 {b1 b2 r1 r2 : Nat} {xs ys : List (List Int)} (h1 : σ[b1]? = some (shK xs r1)) (h2 : σ[b2]? = some (stK ys r2)) : b1 ≠ b2 := by
  rintro rfl
  rw [h1] at h2
  injection h2 with h
  injection h with _ _ _ h
  cases h
theorem c_markPlan0 (k : Int) (K : Cont) (h0 : K (I k) []) : ACall Try.prog W0 9 [plZ, I k] [] K := by
  have hs : ∀ {σ : List Blk} (K : Cont) (h0 : K (I k) σ), ACall Try.prog W0 25 [nilA, I k] σ K := fun {σ} K h0 => by
    refine by25 (Nat.le_of_ble_eq_true rfl) ?_
    repeat' ((conv => whnf); first | (refine Exists.intro ([] : List Nat) ?_) | (refine And.intro rfl ?_) | (refine And.intro (by decide +kernel) ?_) | (refine And.intro trivial ?_) | (refine LoopR.unroll 1 ?_) | (refine Exists.intro _ (And.intro rfl (And.intro rfl (And.intro (Nat.le_of_ble_eq_true rfl) ?_)))) | (refine Exists.intro _ (And.intro rfl (And.intro rfl (And.intro rfl (And.intro (Nat.le_of_ble_eq_true rfl) ?_))))) | (refine And.intro (Exists.intro _ (And.intro rfl rfl)) ?_) | (exact fun hW => absurd hW (by decide +kernel)) | (intro hW; (try simp only [Bool.not_true, Bool.not_false, Bool.not_eq_true', Bool.not_eq_false', decide_eq_true_eq, decide_eq_false_iff_not, reduceCtorEq, Bool.true_eq_false, Bool.false_eq_true, mk_size, List.size_toArray, ByteArray.size_append, ByteArray.size_extract, List.length_cons, List.length_nil, ba_get, ba_empty, Int.toNat_natCast] at hW)) | (refine And.intro (?_ : _ → _) (?_ : _ → _)) | (refine FinR.drop 0 (Nat.zero_le _) (Closed.zero _) rfl ?_) | (refine FinR.keep ?_) | (refine And.intro (det3_agg rfl) ?_) | (refine fL_mk ?_) | (refine And.intro (by (try simp only [mk_size, List.size_toArray, ByteArray.size_append, ByteArray.size_extract, List.length_cons, List.length_nil]); omega) ?_) | (refine And.intro (by (try simp only [mk_size, List.size_toArray, ByteArray.size_append, ByteArray.size_extract, List.length_cons, List.length_nil, wrap64_eq]); omega) ?_) | fail)
    all_goals first | exact h0 | (exfalso; omega)
  have ht : ∀ {σ : List Blk} (K : Cont) (h0 : K (I k) σ), ACall Try.prog W0 26 [nilA, I k] σ K := fun {σ} K h0 => by
    refine by26 (Nat.le_of_ble_eq_true rfl) ?_
    repeat' ((conv => whnf); first | (refine Exists.intro ([] : List Nat) ?_) | (refine And.intro rfl ?_) | (refine And.intro (by decide +kernel) ?_) | (refine And.intro trivial ?_) | (refine LoopR.unroll 1 ?_) | (refine Exists.intro _ (And.intro rfl (And.intro rfl (And.intro (Nat.le_of_ble_eq_true rfl) ?_)))) | (refine Exists.intro _ (And.intro rfl (And.intro rfl (And.intro rfl (And.intro (Nat.le_of_ble_eq_true rfl) ?_))))) | (refine And.intro (Exists.intro _ (And.intro rfl rfl)) ?_) | (exact fun hW => absurd hW (by decide +kernel)) | (intro hW; (try simp only [Bool.not_true, Bool.not_false, Bool.not_eq_true', Bool.not_eq_false', decide_eq_true_eq, decide_eq_false_iff_not, reduceCtorEq, Bool.true_eq_false, Bool.false_eq_true, mk_size, List.size_toArray, ByteArray.size_append, ByteArray.size_extract, List.length_cons, List.length_nil, ba_get, ba_empty, Int.toNat_natCast] at hW)) | (refine And.intro (?_ : _ → _) (?_ : _ → _)) | (refine FinR.drop 0 (Nat.zero_le _) (Closed.zero _) rfl ?_) | (refine FinR.keep ?_) | (refine And.intro (det3_agg rfl) ?_) | (refine fL_mk ?_) | (refine And.intro (by (try simp only [mk_size, List.size_toArray, ByteArray.size_append, ByteArray.size_extract, List.length_cons, List.length_nil]); omega) ?_) | (refine And.intro (by (try simp only [mk_size, List.size_toArray, ByteArray.size_append, ByteArray.size_extract, List.length_cons, List.length_nil, wrap64_eq]); omega) ?_) | fail)
    all_goals first | exact h0 | (exfalso; omega)
  refine by9 (Nat.le_of_ble_eq_true rfl) ?_
  repeat' ((conv => whnf); first | (refine Exists.intro ([] : List Nat) ?_) | (refine And.intro rfl ?_) | (refine And.intro (by decide +kernel) ?_) | (refine And.intro trivial ?_) | (refine hs _ ?_) | (refine ht _ ?_) | (refine Exists.intro _ (And.intro rfl (And.intro rfl (And.intro (Nat.le_of_ble_eq_true rfl) ?_)))) | (refine Exists.intro _ (And.intro rfl (And.intro rfl (And.intro rfl (And.intro (Nat.le_of_ble_eq_true rfl) ?_))))) | (refine And.intro (Exists.intro _ (And.intro rfl rfl)) ?_) | (exact fun hW => absurd hW (by decide +kernel)) | (intro hW; (try simp only [Bool.not_true, Bool.not_false, Bool.not_eq_true', Bool.not_eq_false', decide_eq_true_eq, decide_eq_false_iff_not, reduceCtorEq, Bool.true_eq_false, Bool.false_eq_true, mk_size, List.size_toArray, ByteArray.size_append, ByteArray.size_extract, List.length_cons, List.length_nil, ba_get, ba_empty, Int.toNat_natCast] at hW)) | (refine And.intro (?_ : _ → _) (?_ : _ → _)) | (refine FinR.drop 0 (Nat.zero_le _) (Closed.zero _) rfl ?_) | (refine FinR.keep ?_) | (refine And.intro (det3_agg rfl) ?_) | (refine fL_mk ?_) | (refine And.intro (by (try simp only [mk_size, List.size_toArray, ByteArray.size_append, ByteArray.size_extract, List.length_cons, List.length_nil]); omega) ?_) | (refine And.intro (by (try simp only [mk_size, List.size_toArray, ByteArray.size_append, ByteArray.size_extract, List.length_cons, List.length_nil, wrap64_eq]); omega) ?_) | fail)
  all_goals first | exact h0 | (exfalso; omega)
theorem d_markPlan0 (k : Int) (K : Cont) (h0 : K (I k) σ) : ACall Try.prog W0 9 [plZ, I k] σ K :=
  ACall.lift (by kernel_rfl) (fun _ => rfl) (fun W1 K _ hK => c_markPlan0 k K hK) h0
end Go.Proofs.Ytcfkhiplmnamcaa
end

section
/- The abstract logic, part T: resolved code cut into parts; between two parts only the slots and blocks that are told stay. -/
set_option linter.unusedVariables false
set_option linter.unusedSimpArgs false
namespace Go.Proofs.Ytcfkhiplmnamcaa.Abs
open Go Go.RowKit
def seqN : Nat → RC → Bool
  | 0, _ => true
  | n + 1, .seq _ b => seqN n b
  | _ + 1, _ => false
def headN : Nat → RC → RC
  | 0, _ => .skip
  | n + 1, .seq a b => .seq a (headN n b)
  | _ + 1, r => r
def tailN : Nat → RC → RC
  | 0, r => r
  | n + 1, .seq _ b => tailN n b
  | _ + 1, r => r
/-! ### of all blocks some are kept, under new numbers: block i is what was block bs[i] -/
def ren0 (bs : List Nat) : AV → AV
  | .ptr b ver off => .ptr (bs.getD b 0) ver off
  | v => v
def ren1 (bs : List Nat) : AV → AV
  | .ptr b ver off => .ptr (bs.getD b 0) ver off
  | .sl b ver off n c => .sl (bs.getD b 0) ver off n c
  | .fn f first caps => .fn f (first.map (ren0 bs)) (caps.map (ren0 bs))
  | v => v
def ren2 (bs : List Nat) : AV → AV
  | .agg cs => .agg (cs.map (ren1 bs))
  | v => ren1 bs v
def ren3 (bs : List Nat) : AV → AV
  | .tup vs => .tup (vs.map (ren2 bs))
  | v => ren2 bs v
def renB (bs : List Nat) (B : Blk) : Blk := { B with cells := B.cells.map (ren1 bs) }
def idn (bs : List Nat) : Nat → Bool
  | 0 => true
  | m + 1 => idn bs m && (bs[m]? == some m)
abbrev locT (ι : Loc) (bs : List Nat) : Loc := bs.map fun b => ι.getD b (0, 0)
/-- a block that is kept: what it is now, what it was -/
inductive KeepB (bs : List Nat) (B' B : Blk) : Prop
  | lits (e : B = B') (h : ∀ c ∈ B'.cells, ∃ u, c = .lit u)
  | low (m : Nat) (e : B = B') (hm : idn bs m = true) (h : B'.cells.all (bel1 m) = true)
  | ren (e : B = renB bs B') (h : B'.cells.all (bel1 bs.length) = true)
def keepL (all : List Nat) (σ : List Blk) (bs : List Nat) (σ' : List Blk) : Prop :=
  List.rec (motive := fun _ => List Blk → Prop) (fun σ' => σ' = []) (fun b _ ih σ' => match σ' with
    | [] => False
    | B' :: σ' => (∃ B, σ[b]? = some B ∧ KeepB all B' B) ∧ ih σ') bs σ'
structure Gc (b0 : Nat) (fr : Fr) (σ : List Blk) (fr' : Fr) (σ' : List Blk) (bs : List Nat) : Prop where
  z : b0 = 0
  nd : bs.Nodup
  blk : keepL bs σ bs σ'
  slots : ∀ t, fr' t = .junk ∨ (fr t = ren3 bs (fr' t) ∧ bel3 bs.length (fr' t) = true)
section
variable {ι : Loc} {σ σ' : List Blk} {bs : List Nat} {w : World} {W0 : World}
theorem keepL_len {all : List Nat} : ∀ {bs : List Nat} {σ' : List Blk}, keepL all σ bs σ' → σ'.length = bs.length
  | [], σ', h => by rw [show σ' = [] from h]; rfl
  | b :: bs, [], h => h.elim
  | b :: bs, B' :: σ', h => by rw [List.length_cons, List.length_cons, keepL_len h.2]
theorem keepL_get {all : List Nat} : ∀ {bs : List Nat} {σ' : List Blk}, keepL all σ bs σ' → ∀ {i b : Nat} {B' : Blk}, bs[i]? = some b → σ'[i]? = some B' → ∃ B, σ[b]? = some B ∧ KeepB all B' B
  | [], σ', h, i, b, B', h1, _ => by simp at h1
  | b :: bs, [], h, _, _, _, _, _ => h.elim
  | b :: bs, B :: σ', h, 0, b', B', h1, h2 => by cases h1; cases h2; exact h.1
  | b :: bs, B :: σ', h, i + 1, b', B', h1, h2 => keepL_get h.2 h1 h2
theorem KeepB.same {B' B : Blk} (h : KeepB bs B' B) : B.ver = B'.ver ∧ B.e = B'.e ∧ B.esz = B'.esz ∧ B.row = B'.row ∧ B.room = B'.room := by
  cases h with
  | lits e h => rw [e]; exact ⟨rfl, rfl, rfl, rfl, rfl⟩
  | low m e hm h => rw [e]; exact ⟨rfl, rfl, rfl, rfl, rfl⟩
  | ren e h => rw [e]; exact ⟨rfl, rfl, rfl, rfl, rfl⟩
theorem idn_get : ∀ {m i : Nat}, idn bs m = true → i < m → bs[i]? = some i
  | 0, i, _, h => by omega
  | m + 1, i, hm, h => by
    unfold idn at hm
    rw [Bool.and_eq_true] at hm
    by_cases e : i = m
    · subst e; exact eq_of_beq hm.2
    · exact idn_get hm.1 (by omega)
theorem locT_at {i b : Nat} {q : Nat × Nat} (h1 : bs[i]? = some b) (h2 : ι[b]? = some q) : (locT ι bs)[i]? = some q := by
  unfold locT
  rw [List.getElem?_map, h1]
  show some (ι.getD b (0, 0)) = _
  rw [List.getD_eq_getElem?_getD, h2]; rfl
theorem locT_get {i : Nat} {q : Nat × Nat} (hb : ∀ b ∈ bs, b < ι.length) (h : (locT ι bs)[i]? = some q) : ∃ b, bs[i]? = some b ∧ ι[b]? = some q := by
  unfold locT at h
  rw [List.getElem?_map, Option.map_eq_some_iff] at h
  obtain ⟨b, h1, h2⟩ := h
  refine ⟨b, h1, ?_⟩
  have hlt := hb b (List.mem_of_getElem? h1)
  rw [List.getD_eq_getElem?_getD, List.getElem?_eq_getElem hlt] at h2
  rw [List.getElem?_eq_getElem hlt]; exact congrArg some h2
theorem kept_at (hk : keepL bs σ bs σ') {i : Nat} (hi : i < bs.length) : ∃ b B B', bs[i]? = some b ∧ bs.getD i 0 = b ∧ σ[b]? = some B ∧ σ'[i]? = some B' ∧ KeepB bs B' B := by
  have h1 := List.getElem?_eq_getElem hi
  have h2 : σ'[i]? = some (σ'[i]'(by rw [keepL_len hk]; exact hi)) := List.getElem?_eq_getElem _
  obtain ⟨B, h3, h4⟩ := keepL_get hk h1 h2
  exact ⟨_, B, _, h1, by rw [List.getD_eq_getElem?_getD, h1]; rfl, h3, h2, h4⟩
theorem ptrRel.ren (hk : keepL bs σ bs σ') {b ver off : Nat} {x : Value} (hb : b < bs.length) (h : ptrRel ι σ (bs.getD b 0) ver off x) : ptrRel (locT ι bs) σ' b ver off x := by
  obtain ⟨b1, B1, B', e1, e2, e3, e4, e5⟩ := kept_at hk hb
  obtain ⟨B, hB, hv, h1, hc⟩ := h
  rw [e2, e3] at hB; cases hB
  have hs := e5.same
  refine ⟨B', e4, by rw [← hs.1]; exact hv, h1, fun e => ?_⟩
  obtain ⟨c, t, hi, he⟩ := hc (by rw [hs.1]; exact e)
  exact ⟨c, t, locT_at e1 (e2 ▸ hi), he⟩
theorem slRel.ren (hk : keepL bs σ bs σ') {b ver off len cap : Nat} {x : Value} (hb : b < bs.length) (h : slRel ι σ (bs.getD b 0) ver off len cap x) : slRel (locT ι bs) σ' b ver off len cap x := by
  obtain ⟨b1, B1, B', e1, e2, e3, e4, e5⟩ := kept_at hk hb
  obtain ⟨B, hB, hv, h1, hc⟩ := h
  rw [e2, e3] at hB; cases hB
  have hs := e5.same
  refine ⟨B', e4, by rw [← hs.1]; exact hv, h1, fun e => ?_⟩
  obtain ⟨c, t, hi, he, k1, k2, k3⟩ := hc (by rw [hs.1]; exact e)
  exact ⟨c, t, locT_at e1 (e2 ▸ hi), he, k1, k2, fun hr hc => by rw [← hs.2.2.1]; exact k3 (by rw [hs.2.2.2.1]; exact hr) hc⟩
theorem Rels.unmap {α β γ : Type} {R : α → β → Prop} {R' : γ → β → Prop} {f : γ → α} {l : List γ} {m : List β} (h : Rels R (l.map f) m) (hr : ∀ a ∈ l, ∀ b, R (f a) b → R' a b) : Rels R' l m :=
  ⟨by rw [← h.1, List.length_map], fun i a b ha hb => hr a (List.mem_of_getElem? ha) b (h.2 i (f a) b (by rw [List.getElem?_map, ha]; rfl) hb)⟩
theorem rel0.ren (hk : keepL bs σ bs σ') {v : AV} {x : Value} (hb : bel0 bs.length v = true) (h : rel0 ι σ (ren0 bs v) x) : rel0 (locT ι bs) σ' v x := by
  cases v <;> first | exact h | exact ptrRel.ren hk (by simpa [bel0] using hb) h
theorem rel1.ren (hk : keepL bs σ bs σ') {v : AV} {x : Value} (hb : bel1 bs.length v = true) (h : rel1 ι σ (ren1 bs v) x) : rel1 (locT ι bs) σ' v x := by
  cases v with
  | ptr b ver off => exact ptrRel.ren hk (by simpa [bel1] using hb) h
  | sl b ver off len cap => exact slRel.ren hk (by simpa [bel1] using hb) h
  | fn f first caps =>
    obtain ⟨l1, l2, e, h1, h2⟩ := h
    simp only [bel1, Bool.and_eq_true] at hb
    exact ⟨l1, l2, e, h1.unmap fun a ha _ h => rel0.ren hk (List.all_eq_true.1 hb.1 a ha) h, h2.unmap fun a ha _ h => rel0.ren hk (List.all_eq_true.1 hb.2 a ha) h⟩
  | _ => exact h
theorem crel.ren (hk : keepL bs σ bs σ') {v : AV} {x : Value} (hb : bel1 bs.length v = true) (h : crel ι σ (ren1 bs v) x) : crel (locT ι bs) σ' v x := ⟨rel1.ren hk hb h.1, h.2⟩
theorem rel2.ren (hk : keepL bs σ bs σ') {v : AV} {x : Value} (hb : bel2 bs.length v = true) (h : rel2 ι σ (ren2 bs v) x) : rel2 (locT ι bs) σ' v x := by
  cases v with
  | agg cs => obtain ⟨l, e, h1⟩ := h; exact ⟨l, e, h1.unmap fun a ha _ h => crel.ren hk (List.all_eq_true.1 hb a ha) h⟩
  | ptr b ver off => exact ptrRel.ren hk (by simpa [bel2, bel1] using hb) h
  | sl b ver off len cap => exact slRel.ren hk (by simpa [bel2, bel1] using hb) h
  | fn f first caps => exact rel1.ren (v := .fn f first caps) hk hb h
  | _ => exact h
theorem rel3.ren (hk : keepL bs σ bs σ') {v : AV} {x : Value} (hb : bel3 bs.length v = true) (h : rel3 ι σ (ren3 bs v) x) : rel3 (locT ι bs) σ' v x := by
  cases v with
  | tup vs => obtain ⟨l, e, h1⟩ := h; exact ⟨l, e, h1.unmap fun a ha _ h => rel2.ren hk (List.all_eq_true.1 hb a ha) h⟩
  | agg cs => exact rel2.ren (v := .agg cs) hk hb h
  | ptr b ver off => exact ptrRel.ren hk (by simpa [bel3, bel2, bel1] using hb) h
  | sl b ver off len cap => exact slRel.ren hk (by simpa [bel3, bel2, bel1] using hb) h
  | fn f first caps => exact rel1.ren (v := .fn f first caps) hk hb h
  | _ => exact h
theorem ren0_id {m : Nat} (hm : idn bs m = true) {v : AV} (h : bel0 m v = true) : ren0 bs v = v := by
  cases v with
  | ptr b ver off =>
    have hb : b < m := by simpa [bel0] using h
    show AV.ptr (bs.getD b 0) ver off = _
    rw [List.getD_eq_getElem?_getD, idn_get hm hb]; rfl
  | _ => rfl
theorem ren0s_id {m : Nat} (hm : idn bs m = true) : ∀ {l : List AV}, l.all (bel0 m) = true → l.map (ren0 bs) = l
  | [], _ => rfl
  | a :: l, h => by
    rw [List.all_cons, Bool.and_eq_true] at h
    rw [List.map_cons, ren0_id hm h.1, ren0s_id hm h.2]
theorem ren1_id {m : Nat} (hm : idn bs m = true) {v : AV} (h : bel1 m v = true) : ren1 bs v = v := by
  cases v with
  | ptr b ver off =>
    have hb : b < m := by simpa [bel1] using h
    show AV.ptr (bs.getD b 0) ver off = _
    rw [List.getD_eq_getElem?_getD, idn_get hm hb]; rfl
  | sl b ver off n c =>
    have hb : b < m := by simpa [bel1] using h
    show AV.sl (bs.getD b 0) ver off n c = _
    rw [List.getD_eq_getElem?_getD, idn_get hm hb]; rfl
  | fn f first caps =>
    simp only [bel1, Bool.and_eq_true] at h
    show AV.fn f (first.map (ren0 bs)) (caps.map (ren0 bs)) = _
    rw [ren0s_id hm h.1, ren0s_id hm h.2]
  | _ => rfl
theorem ren1s_id {m : Nat} (hm : idn bs m = true) : ∀ {l : List AV}, l.all (bel1 m) = true → l.map (ren1 bs) = l
  | [], _ => rfl
  | a :: l, h => by
    rw [List.all_cons, Bool.and_eq_true] at h
    rw [List.map_cons, ren1_id hm h.1, ren1s_id hm h.2]
theorem bel1_lt {m k : Nat} (hmk : m ≤ k) {v : AV} (h : bel1 m v = true) : bel1 k v = true := by
  have h0 : ∀ {l : List AV}, l.all (bel0 m) = true → l.all (bel0 k) = true := fun hl => by
    rw [List.all_eq_true] at hl ⊢
    intro a ha
    have := hl a ha
    cases a <;> first | rfl | (simp only [bel0, decide_eq_true_eq] at this ⊢; omega)
  cases v with
  | ptr b ver off => simp only [bel1, decide_eq_true_eq] at h ⊢; omega
  | sl b ver off n c => simp only [bel1, decide_eq_true_eq] at h ⊢; omega
  | fn f first caps =>
    simp only [bel1, Bool.and_eq_true] at h ⊢
    exact ⟨h0 h.1, h0 h.2⟩
  | _ => rfl
theorem idn_le {m : Nat} (hm : idn bs m = true) : m ≤ bs.length := by
  cases m with
  | zero => exact Nat.zero_le _
  | succ m => have := getElem?_lt (idn_get hm (Nat.lt_succ_self m)); omega
theorem KeepB.cells {B' B : Blk} (h : KeepB bs B' B) : B.cells = B'.cells.map (ren1 bs) ∧ B'.cells.all (bel1 bs.length) = true := by
  cases h with
  | lits e h =>
    subst e
    have h1 : ∀ c ∈ B.cells, bel1 0 c = true := fun c hc => by obtain ⟨u, rfl⟩ := h c hc; rfl
    have h2 : B.cells.all (bel1 0) = true := List.all_eq_true.2 h1
    exact ⟨(ren1s_id (m := 0) rfl h2).symm, List.all_eq_true.2 fun c hc => bel1_lt (Nat.zero_le _) (h1 c hc)⟩
  | low m e hm h =>
    subst e
    exact ⟨(ren1s_id hm h).symm, List.all_eq_true.2 fun c hc => bel1_lt (idn_le hm) (List.all_eq_true.1 h c hc)⟩
  | ren e h => rw [e]; exact ⟨rfl, h⟩
theorem HRel.gc (h : HRel W0 ι σ w) (nd : bs.Nodup) (hk : keepL bs σ bs σ') : HRel W0 (locT ι bs) σ' w := by
  have hb : ∀ b ∈ bs, b < ι.length := by
    intro b hb
    obtain ⟨i, hi⟩ := List.mem_iff_getElem?.1 hb
    obtain ⟨b1, B1, B', e1, e2, e3, e4, e5⟩ := kept_at hk (getElem?_lt hi)
    rw [hi] at e1; cases e1
    rw [h.len]; exact getElem?_lt e3
  refine ⟨h.below, by simp [keepL_len hk], fun i j c t t' hi hj => ?_, fun i c t hi => ?_, fun i B' c t hi hj => ?_⟩
  · obtain ⟨b, k1, k2⟩ := locT_get hb hi
    obtain ⟨b', k3, k4⟩ := locT_get hb hj
    have e := h.inj b b' c t t' k2 k4
    subst e
    exact (List.getElem?_inj (getElem?_lt k1) nd).1 (k1.trans k3.symm)
  · obtain ⟨b, k1, k2⟩ := locT_get hb hi
    exact h.dom b c t k2
  · obtain ⟨b, k1, k2⟩ := locT_get hb hj
    obtain ⟨B, hB, hKB⟩ := keepL_get hk k1 hi
    obtain ⟨vs', rest, m1, m2, m3, m4⟩ := h.blk b B c t hB k2
    have hs := hKB.same
    have hc := hKB.cells
    have hfz : fzOf B' t = fzOf B t := by unfold fzOf; rw [hs.2.2.2.1, hs.2.2.2.2]
    refine ⟨vs', rest, by rw [← hs.2.1, hfz]; exact m1, m2, ?_, fun hr => m4 (by rw [hs.2.2.2.2]; exact hr)⟩
    rw [hc.1] at m3
    exact m3.unmap fun a ha x hx => crel.ren hk (List.all_eq_true.1 hc.2 a ha) hx
theorem FRel.gc {n : Nat} {fr fr' : Fr} {a : Act} (hk : keepL bs σ bs σ') (hf : ∀ t, fr' t = .junk ∨ (fr t = ren3 bs (fr' t) ∧ bel3 bs.length (fr' t) = true)) (h : FRel ι σ n fr a) : FRel (locT ι bs) σ' n fr' a := by
  refine ⟨h.1, fun t => ?_⟩
  rcases hf t with e | ⟨e, hb⟩
  · rw [e]; exact trivial
  · have := h.2 t
    rw [e] at this
    exact rel3.ren hk hb this
end
theorem frL_gc {bs : List Nat} {fr : Fr} : ∀ {l : List (Nat × AV)}, agr (l.map fun p => (p.1, ren3 bs p.2)) fr → l.all (fun p => bel3 bs.length p.2) = true → ∀ t, frL l t = .junk ∨ (fr t = ren3 bs (frL l t) ∧ bel3 bs.length (frL l t) = true)
  | [], _, _, t => .inl rfl
  | p :: l, h, hb, t => by
    rw [List.map_cons, agr_cons] at h
    rw [List.all_cons, Bool.and_eq_true] at hb
    rw [frL_cons]
    cases he : Nat.beq t p.1 with
    | true =>
      have e : t = p.1 := Nat.eq_of_beq_eq_true he
      right
      refine ⟨?_, hb.1⟩
      rw [e, h.1]; rfl
    | false => exact frL_gc h.2 hb.2 t
/-- between two parts: what is forgotten is forgotten, the rest is told -/
structure CutAt (b0 : Nat) (M : Fr → List Blk → Prop) (fr : Fr) (σ : List Blk) : Prop where
  ex : ∃ fr'' σ'', (Forget b0 fr σ fr'' σ'' ∨ ∃ bs, Gc b0 fr σ fr'' σ'' bs) ∧ M fr'' σ''
def cutP (b0 : Nat) (M : Fr → List Blk → Prop) (Q : CPost) : CPost := fun e fr σ => match e with
  | .normal => CutAt b0 M fr σ
  | e => Q e fr σ
def liveM {X : Type} (sh : X → List (Nat × AV)) (st : X → List Blk) (inv : X → Prop) (fr : Fr) (σ : List Blk) : Prop := ∃ x, fr = frL (sh x) ∧ σ = st x ∧ inv x
theorem CutAt.go {X : Type} {b0 : Nat} {sh : X → List (Nat × AV)} {st : X → List Blk} {inv : X → Prop} {fr : Fr} {σ : List Blk} (x : X) (ha : agr (sh x) fr) (hg : Fgt b0 (sh x) σ (st x)) (hi : inv x) : CutAt b0 (liveM sh st inv) fr σ :=
  ⟨_, _, .inl (hg.forget ha), x, rfl, rfl, hi⟩
/-- the blocks bs are kept alone, under new numbers -/
theorem CutAt.gc {X : Type} {sh : X → List (Nat × AV)} {st : X → List Blk} {inv : X → Prop} {fr : Fr} {σ : List Blk} (bs : List Nat) (nd : bs.Nodup) (x : X) (ha : agr ((sh x).map fun p => (p.1, ren3 bs p.2)) fr) (hb : (sh x).all (fun p => bel3 bs.length p.2) = true) (hk : keepL bs σ bs (st x)) (hi : inv x) : CutAt 0 (liveM sh st inv) fr σ :=
  ⟨_, _, .inr ⟨bs, rfl, nd, hk, frL_gc ha hb⟩, x, rfl, rfl, hi⟩
/-- resolved code with cuts -/
inductive RWs (P : Program) (W0 : World) (b0 : Nat) : RC → Fr → List Blk → CPost → Prop
  | base {r : RC} {fr : Fr} {σ : List Blk} {Q : CPost} (h : Closed σ.length σ → rW P W0 b0 r fr σ Q) : RWs P W0 b0 r fr σ Q
  | cut {r : RC} {fr : Fr} {σ : List Blk} {Q : CPost} (n : Nat) (M : Fr → List Blk → Prop) (hs : seqN n r = true) (h1 : Closed σ.length σ → rW P W0 b0 (headN n r) fr σ (cutP b0 M Q)) (h2 : ∀ fr' σ', M fr' σ' → RWs P W0 b0 (tailN n r) fr' σ' Q) : RWs P W0 b0 r fr σ Q
theorem RWs.live {P : Program} {W0 : World} {b0 : Nat} {r : RC} {fr : Fr} {σ : List Blk} {Q : CPost} {X : Type} (n : Nat) (sh : X → List (Nat × AV)) (st : X → List Blk) (inv : X → Prop) (hs : seqN n r = true)
    (h1 : Closed σ.length σ → rW P W0 b0 (headN n r) fr σ (cutP b0 (liveM sh st inv) Q)) (h2 : ∀ x, inv x → RWs P W0 b0 (tailN n r) (frL (sh x)) (st x) Q) : RWs P W0 b0 r fr σ Q :=
  .cut n _ hs h1 fun fr' σ' ⟨x, e1, e2, hx⟩ => e1 ▸ e2 ▸ h2 x hx
theorem RWs.closed {P : Program} {W0 : World} {b0 : Nat} {r : RC} {fr : Fr} {σ : List Blk} {Q : CPost} (h : Closed σ.length σ → RWs P W0 b0 r fr σ Q) : RWs P W0 b0 r fr σ Q := by
  by_cases hc : Closed σ.length σ
  · exact h hc
  · exact .base fun h' => absurd h' hc
section
variable {P : Program} {W0 : World} {ι0 : Loc} {σ0 : List Blk} {n : Nat} {cuts : Nat → Nat}
theorem comp_seq_inv {c : Go.Code} {a b : RC} (h : comp P n cuts c = some (.seq a b)) : ∃ x y, c = .seq x y ∧ comp P n cuts x = some a ∧ comp P n cuts y = some b := by
  cases c with
  | seq x y =>
    unfold comp at h
    split at h
    · rename_i rx ry h1 h2
      cases h
      exact ⟨x, y, rfl, h1, h2⟩
    · cases h
  | region id ops draw =>
    exfalso
    unfold comp at h
    rcases orDead_inv h with h | h
    · cases h
    repeat' split at h
    all_goals first | (cases h; done) | (obtain ⟨_, _, h⟩ := Option.map_eq_some_iff.1 h; cases h)
  | block id c => exfalso; unfold comp at h; obtain ⟨_, _, h⟩ := Option.map_eq_some_iff.1 h; cases h
  | scope c => exfalso; unfold comp at h; obtain ⟨_, _, h⟩ := Option.map_eq_some_iff.1 h; cases h
  | loop c => exfalso; unfold comp at h; obtain ⟨_, _, h⟩ := Option.map_eq_some_iff.1 h; cases h
  | cond c x y => exfalso; unfold comp at h; split at h <;> cases h
  | _ => exfalso; unfold comp at h; cases h
theorem cut_sound (hm : P.follows .mixedOrders = true) (hl0 : ι0.length = σ0.length) {M : Fr → List Blk → Prop} {Q : CPost} : ∀ (k : Nat) (r : RC) (c : Go.Code) (fr : Fr) (σ : List Blk) (ι : Loc) (a : Act) (w : World) (ds : List Deferred),
    seqN k r = true → comp P n cuts c = some r → rW P W0 σ0.length (headN k r) fr σ (cutP σ0.length M Q) → HRel W0 ι σ w → FRel ι σ n fr a → Ext ι0 σ0 ι σ → a.defers = ds →
    (∀ (c' : Go.Code) (fr' : Fr) (σ' : List Blk) (ι' : Loc) (a' : Act) (w' : World), M fr' σ' → comp P n cuts c' = some (tailN k r) → HRel W0 ι' σ' w' → FRel ι' σ' n fr' a' → Ext ι0 σ0 ι' σ' → a'.defers = ds → c'.wp P (Lift W0 ι0 σ0 n ds Q) a' w') →
    c.wp P (Lift W0 ι0 σ0 n ds Q) a w
  | 0, r, c, fr, σ, ι, a, w, ds, hs, hc, h, hh, hf, hx, hd, hk => by
    obtain ⟨fr'', σ'', hfo, hM⟩ := CutAt.ex (show CutAt σ0.length M fr σ from h)
    rcases hfo with hfo | ⟨bs, hfo⟩
    · obtain ⟨ι1, hh1, hf1, hx1⟩ := hf.forget hfo hh hx hl0
      exact hk c fr'' σ'' ι1 a w hM hc hh1 hf1 hx1 hd
    · have e0 : σ0 = [] := List.eq_nil_of_length_eq_zero hfo.z
      refine hk c fr'' σ'' _ a w hM hc (hh.gc hfo.nd hfo.blk) (FRel.gc hfo.blk hfo.slots hf) ⟨?_, fun i B B' hB => ?_, fun i B B' hB => ?_⟩ hd
      · rw [e0]; exact Nat.zero_le _
      · rw [e0] at hB; simp at hB
      · rw [e0] at hB; simp at hB
  | k + 1, r, c, fr, σ, ι, a, w, ds, hs, hc, h, hh, hf, hx, hd, hk => by
    cases r with
    | seq ra rb =>
      obtain ⟨x, y, rfl, h1, h2⟩ := comp_seq_inv hc
      refine wp_seq (wp_mono (comp_sound hm hl0 x ra _ fr σ ι a w ds h1 h hh hf hx hd) fun e a' w' hq => ?_)
      cases e with
      | normal =>
        obtain ⟨ι', σ', fr', hk', hh', hf', hx', hd'⟩ := hq
        exact cut_sound hm hl0 k rb y fr' σ' ι' a' w' ds hs h2 hk' hh' hf' hx' hd' hk
      | _ => exact hq
    | _ => cases hs
theorem RWs.sound (hm : P.follows .mixedOrders = true) (hl0 : ι0.length = σ0.length) {r : RC} {fr : Fr} {σ : List Blk} {Q : CPost} (h : RWs P W0 σ0.length r fr σ Q) : ∀ (c : Go.Code) (ι : Loc) (a : Act) (w : World) (ds : List Deferred),
    comp P n cuts c = some r → HRel W0 ι σ w → FRel ι σ n fr a → Ext ι0 σ0 ι σ → a.defers = ds → c.wp P (Lift W0 ι0 σ0 n ds Q) a w := by
  induction h with
  | base h => exact fun c ι a w ds hc hh hf hx hd => comp_sound hm hl0 c _ _ _ _ ι a w ds hc (h hh.closed) hh hf hx hd
  | cut k M hs h1 h2 ih => exact fun c ι a w ds hc hh hf hx hd => cut_sound hm hl0 k _ c _ _ ι a w ds hs hc (h1 hh.closed) hh hf hx hd fun c' fr' σ' ι' a' w' hM hc' hh' hf' hx' hd' => ih fr' σ' hM c' ι' a' w' ds hc' hh' hf' hx' hd'
end
section
variable {P : Program} {W0 : World} {σ : List Blk}
/-- **A function by its resolved code, in parts.** -/
theorem ACall.introS {g : FuncId} {fn : Func} {r : RC} {rs : List RR} {args : List AV} {K : Cont} {cuts : Nat → Nat} (hm : P.follows .mixedOrders = true) (hf : P.funcs[g]? = some fn) (hname : (fn.name == "runtime.NumGoroutine") = false)
    (hc : (fn.body.bind fun c => comp P fn.ntmps cuts c) = some r) (hrs : compRes P fn.results.toList = some rs) (hn : args.length ≤ fn.ntmps)
    (h : RWs P W0 σ.length r (initFr args) σ (finP W0 rs σ.length K)) : ACall P W0 g args σ K := by
  obtain ⟨c, hb, hc⟩ := Option.bind_eq_some_iff.1 hc
  refine ⟨by simp [callOK, hf, hname, hb], fun ι w vs hh hr => ?_⟩
  refine calls_of_wp hf hb (wp_mono (RWs.sound (ι0 := ι) (σ0 := σ) hm hh.len h c ι _ w [] hc hh (rel_initFr hr hn) (Ext.refl _ _) rfl) fun e a' w' hq => ?_)
  obtain ⟨ι', σ', fr', hfin, hh', hf', hx', hd'⟩ := hq
  have key : resR W0 fr' σ' rs (fun vs => tupR vs fun v => FinR σ.length K v σ') → bodyPost P fn (fun e w' => ∃ v ι' σ' av, e = .returned v ∧ K av σ' ∧ HRel W0 ι' σ' w' ∧ Ext ι σ ι' σ' ∧ rel3 ι' σ' av v) .normal a' w' := by
    intro hres
    have hres' := resR_sound _ _ _ hrs hres
    obtain ⟨vs', xs, hv, hrr, hrun⟩ := run_resList hf' hh' _ _ hres'
    obtain ⟨v, hv1, hv2⟩ := tupR_sound hv
    have hmm : (fn.results.mapM (resOne a'.tmps)).run P w' = .ok xs.toArray w' := by
      rw [Array.mapM_eq_mapM_toList]
      simp only [Sem.run_map, hrun, Result.andThen_ok]
    have h0 : (results fn a'.tmps).run P w' = .ok (if h : xs.toArray.size = 1 then xs.toArray[0] else .tuple xs.toArray) w' := by
      rw [results_eq]
      simp only [Sem.run_bind, Sem.run_pure, hmm, Result.andThen_ok]
    have hx : ∃ x, (results fn a'.tmps).run P w' = .ok x w' ∧ rel3 ι' σ' v x := by
      unfold tupA at hv1
      split at hv1
      · rename_i u
        cases hv1
        obtain ⟨b, m, rfl, h1, h2⟩ := hrr.uncons
        obtain rfl := h2.nil_inv
        exact ⟨b, by rw [h0]; rfl, h1⟩
      · rename_i hne
        split at hv1
        · rename_i hall
          cases hv1
          have hl : xs.toArray.size ≠ 1 := by
            have := hrr.1
            intro h1
            simp at h1
            rw [h1] at this
            match vs', this with
            | [u], _ => exact hne u rfl
          rw [dif_neg hl] at h0
          exact ⟨_, h0, xs, rfl, hrr.mono' fun a ha b hab => rel2_of_rel3 (List.all_eq_true.1 hall a ha) hab⟩
        · cases hv1
    obtain ⟨x, hrun', hrel⟩ := hx
    refine ⟨hd', x, hrun', ?_⟩
    cases hv2 with
    | keep hk => exact ⟨x, ι', σ', v, rfl, hk, hh', hx', hrel⟩
    | drop k hbk hcl hbel hk => exact ⟨x, ι'.take k, σ'.take k, v, rfl, hk, hh'.take hcl, hx'.take hh.len hbk, hrel.take hbel⟩
  cases e with
  | normal => exact key hfin
  | ret => exact key hfin
  | _ => exact hfin.elim
end
section
variable {P : Program} {W0 : World} {σ : List Blk}
/-- of all new blocks some are kept, under new numbers -/
theorem ACall.only {g : FuncId} {args : List AV} {K0 K : Cont} (h : ACall P W0 g args [] K0) (hk : ∀ v S, K0 v S → ∃ (bs : List Nat) (Bs : List Blk) (v' : AV), bs.Nodup ∧ keepL bs S bs Bs ∧ v = ren3 bs v' ∧ bel3 bs.length v' = true ∧ K v' Bs) : ACall P W0 g args [] K := by
  refine ⟨h.ok, fun ι w vs hh hr => (h.run ι w vs hh hr).mono fun e w' ⟨v, ι', S, av, he, hk0, h3, h4, h5⟩ => ?_⟩
  obtain ⟨bs, Bs, v', hnd, hkl, rfl, hb, hK⟩ := hk _ _ hk0
  exact ⟨v, _, Bs, v', he, hK, h3.gc hnd hkl, ⟨Nat.zero_le _, fun i C C' hi => by simp at hi, fun i C C' hi => by simp at hi⟩, rel3.ren hkl hb h5⟩
/-- a contract over 'Calls' that returns an empty slice of a new row -/
theorem ACall.ofCallsRow {g : FuncId} {vs : List Value} {e : TypeId} {esz : Nat} {K : Cont} (hok : callOK P g = true)
    (h : ∀ w, Below W0.heap.size W0 w → Calls P g vs.toArray w fun ex w' => ∃ (cap : Nat) (zs : List Value), ex = .returned (.slice (some ⟨w.heap.size, 0, none⟩) 0 cap) ∧ w' = w.drew.alloc (.cells zs.toArray e) ∧ zs.length = cap * esz ∧ cap ≤ maxLen)
    (hk : ∀ cap, K (.sl σ.length 0 0 0 cap) (σ ++ [⟨[], 0, e, esz, true, true⟩])) : ACall P W0 g (vs.map AV.lit) σ K := by
  refine ⟨hok, fun ι w us hh hr => ?_⟩
  rw [rels_lits_inv hr]
  refine (h w hh.below).mono fun ex w' ⟨cap, zs, he, hw, hlen, hcap⟩ => ?_
  obtain ⟨k1, k2⟩ := hh.drew.alloc (e := e) (cs := []) (vs := []) (rest := zs) (esz := esz) (row := true) (room := true) Rels.nil (fun h => by cases h)
  refine ⟨_, _, _, .sl σ.length 0 0 0 cap, he, hk cap, by rw [hw]; exact k1, k2, ⟨_, by simp; rfl, Nat.le_refl _, rfl, fun _ => ?_⟩⟩
  refine ⟨w.drew.heap.size, zs.length, by simp [← hh.len], rfl, Nat.zero_le _, hcap, fun _ _ => by rw [hlen]; simp⟩
end
end Go.Proofs.Ytcfkhiplmnamcaa.Abs
end

section
/-
  DERIVED: THE SHELF's CONTRACTS AT THIS DUMP, IN PLAIN WORDS (tools/lay-plain.mjs out of 'TryGrowShelf.lean', which tools/lay-shelf.mjs wrote): THE SAME DECLARATIONS UNDER THE SAME NAMES: 'import', 'namespace', 'open', 'def', 'theorem' AND NOTHING ELSE: no command of the shelf's: FOR A HAND-IN. Each laying: the table of numbers ('.._ren') and one theorem, a field a fact of the dump's own or the kernel's comparison; each contract: ONE APPLICATION.
-/
namespace Go.Proofs
open Go.Shelf
def Try.growStep_ren : Go.Shelf.Ren := ⟨fun | 4 => 36 | n => n, fun | 22 => 32 | 25 => 53 | 3 => 3 | 4 => 4 | 9 => 9 | 20 => 20 | 0 => 0 | n => n, fun | n => n⟩
theorem Try.growStep : Go.Proofs.Lays8.n4 Try.prog Try.growStep_ren := {
  mixed := by kernel_rfl
  f4 := ⟨Try.f36.name, by decide, Try.func36.trans (congrArg some (by kernel_rfl))⟩
  t0 := Try.underlying0
  a0 := Try.isAgg0
  z0 := Try.sizeOf0
  v0 := Try.zeroValue0
  t3 := Try.underlying3
  a3 := Try.isAgg3
  z3 := Try.sizeOf3
  v3 := Try.zeroValue3
  t4 := Try.underlying4
  a4 := Try.isAgg4
  z4 := Try.sizeOf4
  v4 := Try.zeroValue4
  t9 := Try.underlying9
  a9 := Try.isAgg9
  z9 := Try.sizeOf9
  v9 := Try.zeroValue9
  t20 := Try.underlying20
  a20 := Try.isAgg20
  z20 := Try.sizeOf20
  v20 := Try.zeroValue20
  t22 := Try.underlying32
  a22 := Try.isAgg32
  z22 := Try.sizeOf32
  v22 := Try.zeroValue32 }
end Go.Proofs
end

section
/- Contracts: slices.Grow, slices.Concat, slices.Equal of lists that came in. -/
set_option linter.unusedVariables false
set_option linter.unusedSimpArgs false
set_option maxRecDepth 100000
set_option maxHeartbeats 4000000
namespace Go.Proofs.Ytcfkhiplmnamcaa
open Go Go.RowKit Go.Proofs.Ytcfkhiplmnamcaa.Abs
variable {W0 : World} {σ : List Blk}
theorem d_Grow0 (K : Cont) (h0 : K nilA σ) : ACall Try.prog W0 36 [nilA, I 0] σ K :=
  ACall.ofCalls1 (vs := [.slice none 0 0, .int .i64 0]) (by kernel_rfl) (fun w _ => (Any8.slices_Grow_room Try.growStep none 0 0 0 w (Nat.le_refl _) (by decide) (by decide) (Nat.le_refl _)).mono fun e w' ⟨h1, h2⟩ => by subst h2; exact ⟨h1, Below.refl _ _⟩) h0
theorem d_GrowZ (n : Nat) (hn : n = 0) (K : Cont) (h0 : K nilA σ) : ACall Try.prog W0 36 [nilA, I n] σ K := by
  subst hn; exact d_Grow0 K h0
theorem step_info : ∃ i0 z, Try.prog.info? 53 = some i0 ∧ i0.zero = some z ∧ i0.size = 4 ∧ i0.bytes = 32 ∧ z.cells.size = 4 := by
  have h : (Try.prog.info? 53).isSome = true := by kernel_rfl
  have hz : ((Try.prog.info? 53).get h).zero.isSome = true := by kernel_rfl
  exact ⟨_, _, (Option.some_get h).symm, (Option.some_get hz).symm, by kernel_rfl, by kernel_rfl, by kernel_rfl⟩
theorem d_GrowN (n : Nat) (hn : 0 < n) (hl : n ≤ 4194304) (K : Cont) (h0 : ∀ cap, K (.sl σ.length 0 0 0 cap) (σ ++ [⟨[], 0, 53, 4, true, true⟩])) : ACall Try.prog W0 36 [nilA, I n] σ K := by
  obtain ⟨i0, z, hi, hz, hs, hb, hzc⟩ := step_info
  refine ACall.ofCallsRow (vs := [.slice none 0 0, .int .i64 n]) (e := 53) (esz := 4) (by kernel_rfl) (fun w _ => (Any8.slices_Grow_grow Try.growStep i0 z hi hz (by omega) none 0 0 n [] w (Nat.le_refl _) (by omega) (by rw [hb]; omega) (by omega) (by simp) (fun _ => rfl) (fun a h => by cases h)).mono fun ex w' ⟨h1, h2⟩ => ?_) h0
  refine ⟨grownCap w (0 + n) 0 53, (([] : List Value).toArray ++ Builtin.zeroCells z.cells (0 + n - 0) ++ Builtin.zeroCells z.cells (grownCap w (0 + n) 0 53 - (0 + n))).toList, h1, ?_, ?_, ?_⟩
  · rw [Array.toArray_toList]; exact h2
  · have hge := grownCap_ge w (0 + n) 0 53
    simp only [Array.length_toList, Array.size_append, List.size_toArray, List.length_nil, Builtin.zeroCells, Array.size_map, Array.size_range, hzc]
    omega
  · exact grownCap_le_maxLen w _ _ _ (by unfold maxLen; omega)
theorem d_Concat (b r cap : Nat) (B : Blk) (o1 : Addr) (m1 c1 : Nat) (o2 : Addr) (m2 c2 : Nat) (xs ys : List (List Int)) (hB : σ[b]? = some B) (hc : B.cells = [.lit (.slice (some o1) m1 c1), .lit (.slice (some o2) m2 c2)]) (hv : B.ver = r) (h1 : Sli W0 [] 4 enI (.lit (.slice (some o1) m1 c1)) xs) (h2 : Sli W0 [] 4 enI (.lit (.slice (some o2) m2 c2)) ys) (hx : ∀ x ∈ xs, x.length = 4) (hy : ∀ x ∈ ys, x.length = 4) (hl : xs.length ≤ 1048576) (hl2 : ys.length ≤ 1048576) (K : Cont)
    (h0 : xs.length + ys.length = 0 → K nilA σ) (h00 : 0 < xs.length + ys.length → ∀ v cap, K (.sl σ.length v 0 (xs ++ ys).length cap) (σ ++ [stK (xs ++ ys) v])) : ACall Try.prog W0 21 [.sl b r 0 2 cap] σ K := by
  refine by21 (Nat.le_of_ble_eq_true rfl) ?_
  have hn1 : m1 = xs.length := by cases h1 with | inn ad n cap xs hn hc hm hb hxx => exact hn
  have hn2 : m2 = ys.length := by cases h2 with | inn ad n cap xs hn hc hm hb hxx => exact hn
  subst hn1; subst hn2
  obtain ⟨cs, ver, e, esz, row, room⟩ := B
  dsimp only at hc hv
  subst hc; subst hv
  have hj1 : (((xs.map enI).flatten).map AV.lit).length = xs.length * 4 := by rw [jc_flat]; exact jc_len hx
  have hj2 : (((ys.map enI).flatten).map AV.lit).length = ys.length * 4 := by rw [jc_flat]; exact jc_len hy
  have ew1 : IntKind.i64.wrap (0 + ((xs.length : Nat) : Int)) = ((xs.length : Nat) : Int) := by rw [wrap_i64 _ (by omega) (by omega)]; omega
  have ew2 : IntKind.i64.wrap (((xs.length : Nat) : Int) + ((ys.length : Nat) : Int)) = ((xs.length + ys.length : Nat) : Int) := by rw [wrap_i64 _ (by omega) (by omega)]; omega
  repeat' ((conv => whnf); first | (rw [ew1]) | (rw [ew2]) | (refine Exists.intro ([] : List Nat) ?_) | (refine And.intro rfl ?_) | (refine And.intro (by decide +kernel) ?_) | (refine And.intro trivial ?_) | (refine And.intro ⟨_, hB, rfl⟩ ?_) | (refine Exists.intro _ (And.intro hB (And.intro rfl (And.intro (Nat.le_of_ble_eq_true rfl) ?_)))) | (refine Exists.intro _ (And.intro rfl (And.intro rfl (And.intro (Nat.le_of_ble_eq_true rfl) ?_)))) | (refine Exists.intro _ (And.intro rfl (And.intro rfl (And.intro rfl (And.intro (Nat.le_of_ble_eq_true rfl) ?_))))) | (refine And.intro (Exists.intro _ (And.intro rfl rfl)) ?_) | (exact fun hW => absurd hW (by decide +kernel)) | (intro hW; (try simp only [Bool.not_true, Bool.not_false, Bool.not_eq_true', Bool.not_eq_false', decide_eq_true_eq, decide_eq_false_iff_not, reduceCtorEq, Bool.true_eq_false, Bool.false_eq_true, mk_size, List.size_toArray, ByteArray.size_append, ByteArray.size_extract, List.length_cons, List.length_nil, ba_get, ba_empty, Int.toNat_natCast] at hW)) | (refine And.intro (?_ : _ → _) (?_ : _ → _)) | (refine FinR.drop 0 (Nat.zero_le _) (Closed.zero _) rfl ?_) | (refine FinR.keep ?_) | (refine And.intro (det3_agg rfl) ?_) | (refine fL_mk ?_) | (refine And.intro (by (try simp only [mk_size, List.size_toArray, ByteArray.size_append, ByteArray.size_extract, List.length_cons, List.length_nil]); omega) ?_) | (refine And.intro (by (try simp only [mk_size, List.size_toArray, ByteArray.size_append, ByteArray.size_extract, List.length_cons, List.length_nil, wrap64_eq]); omega) ?_) | fail)
  refine LoopR.unroll 3 ?_
  repeat' ((conv => whnf); first | (rw [ew1]) | (rw [ew2]) | (refine Exists.intro ([] : List Nat) ?_) | (refine And.intro rfl ?_) | (refine And.intro (by decide +kernel) ?_) | (refine And.intro trivial ?_) | (refine And.intro ⟨_, hB, rfl⟩ ?_) | (refine Exists.intro _ (And.intro hB (And.intro rfl (And.intro (Nat.le_of_ble_eq_true rfl) ?_)))) | (refine Exists.intro _ (And.intro rfl (And.intro rfl (And.intro (Nat.le_of_ble_eq_true rfl) ?_)))) | (refine Exists.intro _ (And.intro rfl (And.intro rfl (And.intro rfl (And.intro (Nat.le_of_ble_eq_true rfl) ?_))))) | (refine And.intro (Exists.intro _ (And.intro rfl rfl)) ?_) | (exact fun hW => absurd hW (by decide +kernel)) | (intro hW; (try simp only [Bool.not_true, Bool.not_false, Bool.not_eq_true', Bool.not_eq_false', decide_eq_true_eq, decide_eq_false_iff_not, reduceCtorEq, Bool.true_eq_false, Bool.false_eq_true, mk_size, List.size_toArray, ByteArray.size_append, ByteArray.size_extract, List.length_cons, List.length_nil, ba_get, ba_empty, Int.toNat_natCast] at hW)) | (refine And.intro (?_ : _ → _) (?_ : _ → _)) | (refine FinR.drop 0 (Nat.zero_le _) (Closed.zero _) rfl ?_) | (refine FinR.keep ?_) | (refine And.intro (det3_agg rfl) ?_) | (refine fL_mk ?_) | (refine And.intro (by (try simp only [mk_size, List.size_toArray, ByteArray.size_append, ByteArray.size_extract, List.length_cons, List.length_nil]); omega) ?_) | (refine And.intro (by (try simp only [mk_size, List.size_toArray, ByteArray.size_append, ByteArray.size_extract, List.length_cons, List.length_nil, wrap64_eq]); omega) ?_) | fail)
  all_goals (try (exfalso; omega))
  by_cases hz : xs.length + ys.length = 0
  · skip
    repeat' ((conv => whnf); first | (rw [ew1]) | (rw [ew2]) | (refine Exists.intro ([] : List Nat) ?_) | (refine And.intro rfl ?_) | (refine And.intro (by decide +kernel) ?_) | (refine And.intro trivial ?_) | (refine And.intro ⟨_, hB, rfl⟩ ?_) | (refine Exists.intro _ (And.intro hB (And.intro rfl (And.intro (Nat.le_of_ble_eq_true rfl) ?_)))) | (refine d_GrowZ (hn := hz) (h0 := ?_) ..) | (refine sli_src h1 hx ?_) | (refine sli_src h2 hy ?_) | (refine And.intro hj1 ?_) | (refine And.intro hj2 ?_) | (refine And.intro (show xs.length ≤ maxLen by unfold maxLen; omega) ?_) | (refine And.intro (show ys.length ≤ maxLen by unfold maxLen; omega) ?_) | (refine Exists.intro _ (And.intro rfl (And.intro rfl (And.intro (Nat.le_of_ble_eq_true rfl) ?_)))) | (refine Exists.intro _ (And.intro rfl (And.intro rfl (And.intro rfl (And.intro (Nat.le_of_ble_eq_true rfl) ?_))))) | (refine And.intro (Exists.intro _ (And.intro rfl rfl)) ?_) | (exact fun hW => absurd hW (by decide +kernel)) | (intro hW; (try simp only [Bool.not_true, Bool.not_false, Bool.not_eq_true', Bool.not_eq_false', decide_eq_true_eq, decide_eq_false_iff_not, reduceCtorEq, Bool.true_eq_false, Bool.false_eq_true, mk_size, List.size_toArray, ByteArray.size_append, ByteArray.size_extract, List.length_cons, List.length_nil, ba_get, ba_empty, Int.toNat_natCast] at hW)) | (refine And.intro (?_ : _ → _) (?_ : _ → _)) | (refine FinR.drop 0 (Nat.zero_le _) (Closed.zero _) rfl ?_) | (refine FinR.keep ?_) | (refine And.intro (det3_agg rfl) ?_) | (refine fL_mk ?_) | (refine And.intro (by (try simp only [mk_size, List.size_toArray, ByteArray.size_append, ByteArray.size_extract, List.length_cons, List.length_nil]); omega) ?_) | (refine And.intro (by (try simp only [mk_size, List.size_toArray, ByteArray.size_append, ByteArray.size_extract, List.length_cons, List.length_nil, wrap64_eq]); omega) ?_) | fail)
    refine LoopR.unroll 3 ?_
    repeat' ((conv => whnf); first | (rw [ew1]) | (rw [ew2]) | (refine Exists.intro ([] : List Nat) ?_) | (refine And.intro rfl ?_) | (refine And.intro (by decide +kernel) ?_) | (refine And.intro trivial ?_) | (refine And.intro ⟨_, hB, rfl⟩ ?_) | (refine Exists.intro _ (And.intro hB (And.intro rfl (And.intro (Nat.le_of_ble_eq_true rfl) ?_)))) | (refine d_GrowZ (hn := hz) (h0 := ?_) ..) | (refine sli_src h1 hx ?_) | (refine sli_src h2 hy ?_) | (refine And.intro hj1 ?_) | (refine And.intro hj2 ?_) | (refine And.intro (show xs.length ≤ maxLen by unfold maxLen; omega) ?_) | (refine And.intro (show ys.length ≤ maxLen by unfold maxLen; omega) ?_) | (refine Exists.intro _ (And.intro rfl (And.intro rfl (And.intro (Nat.le_of_ble_eq_true rfl) ?_)))) | (refine Exists.intro _ (And.intro rfl (And.intro rfl (And.intro rfl (And.intro (Nat.le_of_ble_eq_true rfl) ?_))))) | (refine And.intro (Exists.intro _ (And.intro rfl rfl)) ?_) | (exact fun hW => absurd hW (by decide +kernel)) | (intro hW; (try simp only [Bool.not_true, Bool.not_false, Bool.not_eq_true', Bool.not_eq_false', decide_eq_true_eq, decide_eq_false_iff_not, reduceCtorEq, Bool.true_eq_false, Bool.false_eq_true, mk_size, List.size_toArray, ByteArray.size_append, ByteArray.size_extract, List.length_cons, List.length_nil, ba_get, ba_empty, Int.toNat_natCast] at hW)) | (refine And.intro (?_ : _ → _) (?_ : _ → _)) | (refine FinR.drop 0 (Nat.zero_le _) (Closed.zero _) rfl ?_) | (refine FinR.keep ?_) | (refine And.intro (det3_agg rfl) ?_) | (refine fL_mk ?_) | (refine And.intro (by (try simp only [mk_size, List.size_toArray, ByteArray.size_append, ByteArray.size_extract, List.length_cons, List.length_nil]); omega) ?_) | (refine And.intro (by (try simp only [mk_size, List.size_toArray, ByteArray.size_append, ByteArray.size_extract, List.length_cons, List.length_nil, wrap64_eq]); omega) ?_) | fail)
    all_goals first | exact h0 hz | (exfalso; omega) | skip
  · have hj1' : xs.length * 4 = ([] ++ ((xs.map enI).flatten).map AV.lit).length := by rw [List.nil_append]; exact hj1.symm
    repeat' ((conv => whnf); first | (rw [ew1]) | (rw [ew2]) | (refine Exists.intro ([] : List Nat) ?_) | (refine And.intro rfl ?_) | (refine And.intro (by decide +kernel) ?_) | (refine And.intro trivial ?_) | (refine fS_mk ?_) | (refine d_GrowN (n := xs.length + ys.length) (hn := by omega) (hl := by omega) (h0 := fun cap => ?_) ..; have hB0 := hB; have hB := getx1 (τ := [(⟨[], 0, 53, 4, true, true⟩ : Blk)]) hB) | (refine And.intro ⟨_, hB, rfl⟩ ?_) | (refine Exists.intro _ (And.intro hB (And.intro rfl (And.intro (Nat.le_of_ble_eq_true rfl) ?_)))) | (refine Exists.intro _ (And.intro rfl (And.intro rfl (And.intro (Nat.le_of_ble_eq_true rfl) ?_)))) | (refine Exists.intro _ (And.intro rfl (And.intro rfl (And.intro rfl (And.intro (Nat.le_of_ble_eq_true rfl) ?_))))) | (refine And.intro (Exists.intro _ (And.intro rfl rfl)) ?_) | (exact fun hW => absurd hW (by decide +kernel)) | (intro hW; (try simp only [Bool.not_true, Bool.not_false, Bool.not_eq_true', Bool.not_eq_false', decide_eq_true_eq, decide_eq_false_iff_not, reduceCtorEq, Bool.true_eq_false, Bool.false_eq_true, mk_size, List.size_toArray, ByteArray.size_append, ByteArray.size_extract, List.length_cons, List.length_nil, ba_get, ba_empty, Int.toNat_natCast] at hW)) | (refine And.intro (?_ : _ → _) (?_ : _ → _)) | (refine FinR.drop 0 (Nat.zero_le _) (Closed.zero _) rfl ?_) | (refine FinR.keep ?_) | (refine And.intro (det3_agg rfl) ?_) | (refine fL_mk ?_) | (refine And.intro (by (try simp only [mk_size, List.size_toArray, ByteArray.size_append, ByteArray.size_extract, List.length_cons, List.length_nil]); omega) ?_) | (refine And.intro (by (try simp only [mk_size, List.size_toArray, ByteArray.size_append, ByteArray.size_extract, List.length_cons, List.length_nil, wrap64_eq]); omega) ?_) | fail)
    refine LoopR.unroll 3 ?_
    repeat' ((conv => whnf); first | (rw [ew1]) | (rw [ew2]) | (refine Exists.intro ([] : List Nat) ?_) | (refine And.intro rfl ?_) | (refine And.intro (by decide +kernel) ?_) | (refine And.intro trivial ?_) | (refine fS_mk ?_) | (refine And.intro ⟨_, hB, rfl⟩ ?_) | (refine Exists.intro _ (And.intro hB (And.intro rfl (And.intro (Nat.le_of_ble_eq_true rfl) ?_)))) | (refine sli_src h1 hx ?_) | (refine sli_src h2 hy ?_) | (refine Exists.intro _ (And.intro getl (And.intro rfl (And.intro rfl (And.intro rfl (And.intro rfl (And.intro rfl (And.intro (by decide) (And.intro rfl (And.intro hj1 (And.intro (by unfold maxLen; omega) (And.intro (by omega) (fun cap' hcap1 hcap2 => ?_)))))))))))); rw [set_last, Nat.zero_add xs.length]; have hB := getx1 (τ := [(⟨[] ++ ((xs.map enI).flatten).map AV.lit, 0 + 1, 53, 4, true, true⟩ : Blk)]) hB0) | (refine Exists.intro _ (And.intro getl (And.intro rfl (And.intro rfl (And.intro rfl (And.intro rfl (And.intro rfl (And.intro (by decide) (And.intro hj1' (And.intro hj2 (And.intro (by unfold maxLen; omega) (And.intro (by omega) (fun cap' hcap1 hcap2 => ?_)))))))))))); rw [set_last]) | (refine Exists.intro _ (And.intro rfl (And.intro rfl (And.intro (Nat.le_of_ble_eq_true rfl) ?_)))) | (refine Exists.intro _ (And.intro rfl (And.intro rfl (And.intro rfl (And.intro (Nat.le_of_ble_eq_true rfl) ?_))))) | (refine And.intro (Exists.intro _ (And.intro rfl rfl)) ?_) | (exact fun hW => absurd hW (by decide +kernel)) | (intro hW; (try simp only [Bool.not_true, Bool.not_false, Bool.not_eq_true', Bool.not_eq_false', decide_eq_true_eq, decide_eq_false_iff_not, reduceCtorEq, Bool.true_eq_false, Bool.false_eq_true, mk_size, List.size_toArray, ByteArray.size_append, ByteArray.size_extract, List.length_cons, List.length_nil, ba_get, ba_empty, Int.toNat_natCast] at hW)) | (refine And.intro (?_ : _ → _) (?_ : _ → _)) | (refine FinR.drop 0 (Nat.zero_le _) (Closed.zero _) rfl ?_) | (refine FinR.keep ?_) | (refine And.intro (det3_agg rfl) ?_) | (refine fL_mk ?_) | (refine And.intro (by (try simp only [mk_size, List.size_toArray, ByteArray.size_append, ByteArray.size_extract, List.length_cons, List.length_nil]); omega) ?_) | (refine And.intro (by (try simp only [mk_size, List.size_toArray, ByteArray.size_append, ByteArray.size_extract, List.length_cons, List.length_nil, wrap64_eq]); omega) ?_) | fail)
    have e : [] ++ ((xs.map enI).flatten).map AV.lit ++ ((ys.map enI).flatten).map AV.lit = jc (xs ++ ys) := by rw [jc_flat, jc_flat, List.nil_append]; simp [jc]
    all_goals first | (exfalso; omega) | (rw [← List.length_append]; refine Eq.mp (congrArg (fun l => K _ (σ ++ [(⟨l, _, _, _, _, _⟩ : Blk)])) e.symm) (h00 (by omega) _ _))
end Go.Proofs.Ytcfkhiplmnamcaa
end

section
/- Contracts: slices.Equal; plans in new memory, their blocks at fixed numbers; joined plans by both sides. -/
set_option linter.unusedVariables false
set_option linter.unusedSimpArgs false
set_option maxRecDepth 100000
set_option maxHeartbeats 8000000
namespace Go.Proofs.Ytcfkhiplmnamcaa
open Go Go.RowKit Go.Proofs.Ytcfkhiplmnamcaa.Abs
variable {W0 : World} {σ : List Blk}
theorem c_EqualSheet (v1 v2 : AV) (xs ys : List (List Int)) (h1 : Sli W0 [] 6 enI v1 xs) (h2 : Sli W0 [] 6 enI v2 ys) (hx : ∀ x ∈ xs, x.length = 6) (hy : ∀ x ∈ ys, x.length = 6) (hl : xs.length ≤ 1048576) (K : Cont) (h0 : K (Bo (decide (xs = ys))) []) : ACall Try.prog W0 19 [v1, v2] [] K := by
  refine by19 (Nat.le_of_ble_eq_true rfl) ?_
  obtain ⟨o, n, cap, rfl, hn, hc, hm, hf⟩ := sli_form h1
  obtain ⟨o2, n2, cap2, rfl, hn2, hc2, hm2, hf2⟩ := sli_form h2
  subst hn; subst hn2
  by_cases hlen : xs.length = ys.length
  · skip
    repeat' ((conv => whnf); first | (refine Exists.intro ([] : List Nat) ?_) | (refine And.intro rfl ?_) | (refine And.intro (by decide +kernel) ?_) | (refine And.intro trivial ?_) | (refine Exists.intro _ (And.intro rfl (And.intro rfl (And.intro (Nat.le_of_ble_eq_true rfl) ?_)))) | (refine Exists.intro _ (And.intro rfl (And.intro rfl (And.intro rfl (And.intro (Nat.le_of_ble_eq_true rfl) ?_))))) | (refine And.intro (Exists.intro _ (And.intro rfl rfl)) ?_) | (exact fun hW => absurd hW (by decide +kernel)) | (intro hW; (try simp only [Bool.not_true, Bool.not_false, Bool.not_eq_true', Bool.not_eq_false', decide_eq_true_eq, decide_eq_false_iff_not, reduceCtorEq, Bool.true_eq_false, Bool.false_eq_true, mk_size, List.size_toArray, ByteArray.size_append, ByteArray.size_extract, List.length_cons, List.length_nil, ba_get, ba_empty, Int.toNat_natCast] at hW)) | (refine And.intro (?_ : _ → _) (?_ : _ → _)) | (refine FinR.drop 0 (Nat.zero_le _) (Closed.zero _) rfl ?_) | (refine FinR.keep ?_) | (refine And.intro (det3_agg rfl) ?_) | (refine fL_mk ?_) | (refine And.intro (by (try simp only [mk_size, List.size_toArray, ByteArray.size_append, ByteArray.size_extract, List.length_cons, List.length_nil]); omega) ?_) | (refine And.intro (by (try simp only [mk_size, List.size_toArray, ByteArray.size_append, ByteArray.size_extract, List.length_cons, List.length_nil, wrap64_eq]); omega) ?_) | fail)
    all_goals first | (exfalso; omega) | (exfalso; simp_all; done) | skip
    refine LoopR.live (fun i : Nat => [(0, .lit (.slice o xs.length cap)), (1, .lit (.slice o2 ys.length cap2)), (12, I xs.length), (13, I i)]) (fun i => []) (fun i => i ≤ xs.length ∧ xs.take i = ys.take i) (fun i => xs.length - i) 0 ⟨rfl, rfl, rfl, rfl, trivial⟩ (.keep rfl) ⟨Nat.zero_le _, rfl⟩ ?_
    rintro i ⟨hi, hti⟩
    by_cases hlt : i < xs.length
    · obtain ⟨x0, x1, x2, x3, x4, x5, hxi⟩ := row6x hx hlt
      obtain ⟨y0, y1, y2, y3, y4, y5, hyi⟩ := row6x hy (show i < ys.length by omega)
      obtain ⟨ad, rfl, hb, hxx⟩ := hf i _ hxi
      obtain ⟨ad2, rfl, hb2, hxx2⟩ := hf2 i _ hyi
      have hld := fun C h => ldIn (W0 := W0) (s := 6) (enc := enI) hb hxx (k := i) hxi rfl (C := C) h
      have hld2 := fun C h => ldIn (W0 := W0) (s := 6) (enc := enI) hb2 hxx2 (k := i) hyi rfl (C := C) h
      by_cases he : x0 = y0 ∧ x1 = y1 ∧ x2 = y2 ∧ x3 = y3 ∧ x4 = y4 ∧ x5 = y5
      · obtain ⟨rfl, rfl, rfl, rfl, rfl, rfl⟩ := he
        repeat' ((conv => whnf); first | (refine Exists.intro ([] : List Nat) ?_) | (refine And.intro rfl ?_) | (refine And.intro (by decide +kernel) ?_) | (refine And.intro trivial ?_) | (refine hld _ ?_) | (refine hld2 _ ?_) | (refine And.intro rfl (hld _ ?_)) | (refine And.intro rfl (hld2 _ ?_)) | (refine Exists.intro _ (And.intro rfl (And.intro rfl (And.intro (Nat.le_of_ble_eq_true rfl) ?_)))) | (refine Exists.intro _ (And.intro rfl (And.intro rfl (And.intro rfl (And.intro (Nat.le_of_ble_eq_true rfl) ?_))))) | (refine And.intro (Exists.intro _ (And.intro rfl rfl)) ?_) | (exact fun hW => absurd hW (by decide +kernel)) | (intro hW; (try simp only [Bool.not_true, Bool.not_false, Bool.not_eq_true', Bool.not_eq_false', decide_eq_true_eq, decide_eq_false_iff_not, reduceCtorEq, Bool.true_eq_false, Bool.false_eq_true, mk_size, List.size_toArray, ByteArray.size_append, ByteArray.size_extract, List.length_cons, List.length_nil, ba_get, ba_empty, Int.toNat_natCast] at hW)) | (refine And.intro (?_ : _ → _) (?_ : _ → _)) | (refine FinR.drop 0 (Nat.zero_le _) (Closed.zero _) rfl ?_) | (refine FinR.keep ?_) | (refine And.intro (det3_agg rfl) ?_) | (refine fL_mk ?_) | (refine And.intro (by (try simp only [mk_size, List.size_toArray, ByteArray.size_append, ByteArray.size_extract, List.length_cons, List.length_nil]); omega) ?_) | (refine And.intro (by (try simp only [mk_size, List.size_toArray, ByteArray.size_append, ByteArray.size_extract, List.length_cons, List.length_nil, wrap64_eq]); omega) ?_) | fail)
        all_goals first | (exfalso; omega) | (exfalso; simp_all [eq6]; done) | skip
        exact Again.go (i + 1) ⟨rfl, rfl, rfl, slI' (wsucc' i (by omega)), trivial⟩ (.keep rfl) ⟨by omega, by rw [take_snoc hxi, take_snoc hyi, hti]⟩ (by omega)
      · have hne : xs ≠ ys := fun h => by
          subst h
          rw [hxi] at hyi
          injection hyi with hyi
          simp only [List.cons.injEq, and_true] at hyi
          exact he hyi
        rw [decide_eq_false hne] at h0
        repeat' ((conv => whnf); first | (refine Exists.intro ([] : List Nat) ?_) | (refine And.intro rfl ?_) | (refine And.intro (by decide +kernel) ?_) | (refine And.intro trivial ?_) | (refine hld _ ?_) | (refine hld2 _ ?_) | (refine And.intro rfl (hld _ ?_)) | (refine And.intro rfl (hld2 _ ?_)) | (refine Exists.intro _ (And.intro rfl (And.intro rfl (And.intro (Nat.le_of_ble_eq_true rfl) ?_)))) | (refine Exists.intro _ (And.intro rfl (And.intro rfl (And.intro rfl (And.intro (Nat.le_of_ble_eq_true rfl) ?_))))) | (refine And.intro (Exists.intro _ (And.intro rfl rfl)) ?_) | (exact fun hW => absurd hW (by decide +kernel)) | (intro hW; (try simp only [Bool.not_true, Bool.not_false, Bool.not_eq_true', Bool.not_eq_false', decide_eq_true_eq, decide_eq_false_iff_not, reduceCtorEq, Bool.true_eq_false, Bool.false_eq_true, mk_size, List.size_toArray, ByteArray.size_append, ByteArray.size_extract, List.length_cons, List.length_nil, ba_get, ba_empty, Int.toNat_natCast] at hW)) | (refine And.intro (?_ : _ → _) (?_ : _ → _)) | (refine FinR.drop 0 (Nat.zero_le _) (Closed.zero _) rfl ?_) | (refine FinR.keep ?_) | (refine And.intro (det3_agg rfl) ?_) | (refine fL_mk ?_) | (refine And.intro (by (try simp only [mk_size, List.size_toArray, ByteArray.size_append, ByteArray.size_extract, List.length_cons, List.length_nil]); omega) ?_) | (refine And.intro (by (try simp only [mk_size, List.size_toArray, ByteArray.size_append, ByteArray.size_extract, List.length_cons, List.length_nil, wrap64_eq]); omega) ?_) | fail)
        all_goals first | exact h0 | (exfalso; omega) | (exfalso; simp_all [eq6]; done)
    · obtain rfl : i = xs.length := by omega
      have heq : xs = ys := by
        rw [List.take_length] at hti
        rw [hti, hlen, List.take_length]
      rw [decide_eq_true heq] at h0
      repeat' ((conv => whnf); first | (refine Exists.intro ([] : List Nat) ?_) | (refine And.intro rfl ?_) | (refine And.intro (by decide +kernel) ?_) | (refine And.intro trivial ?_) | (refine Exists.intro _ (And.intro rfl (And.intro rfl (And.intro (Nat.le_of_ble_eq_true rfl) ?_)))) | (refine Exists.intro _ (And.intro rfl (And.intro rfl (And.intro rfl (And.intro (Nat.le_of_ble_eq_true rfl) ?_))))) | (refine And.intro (Exists.intro _ (And.intro rfl rfl)) ?_) | (exact fun hW => absurd hW (by decide +kernel)) | (intro hW; (try simp only [Bool.not_true, Bool.not_false, Bool.not_eq_true', Bool.not_eq_false', decide_eq_true_eq, decide_eq_false_iff_not, reduceCtorEq, Bool.true_eq_false, Bool.false_eq_true, mk_size, List.size_toArray, ByteArray.size_append, ByteArray.size_extract, List.length_cons, List.length_nil, ba_get, ba_empty, Int.toNat_natCast] at hW)) | (refine And.intro (?_ : _ → _) (?_ : _ → _)) | (refine FinR.drop 0 (Nat.zero_le _) (Closed.zero _) rfl ?_) | (refine FinR.keep ?_) | (refine And.intro (det3_agg rfl) ?_) | (refine fL_mk ?_) | (refine And.intro (by (try simp only [mk_size, List.size_toArray, ByteArray.size_append, ByteArray.size_extract, List.length_cons, List.length_nil]); omega) ?_) | (refine And.intro (by (try simp only [mk_size, List.size_toArray, ByteArray.size_append, ByteArray.size_extract, List.length_cons, List.length_nil, wrap64_eq]); omega) ?_) | fail)
      all_goals first | (exfalso; omega) | exact h0
  · have hne : xs ≠ ys := fun h => hlen (by rw [h])
    rw [decide_eq_false hne] at h0
    repeat' ((conv => whnf); first | (refine Exists.intro ([] : List Nat) ?_) | (refine And.intro rfl ?_) | (refine And.intro (by decide +kernel) ?_) | (refine And.intro trivial ?_) | (refine Exists.intro _ (And.intro rfl (And.intro rfl (And.intro (Nat.le_of_ble_eq_true rfl) ?_)))) | (refine Exists.intro _ (And.intro rfl (And.intro rfl (And.intro rfl (And.intro (Nat.le_of_ble_eq_true rfl) ?_))))) | (refine And.intro (Exists.intro _ (And.intro rfl rfl)) ?_) | (exact fun hW => absurd hW (by decide +kernel)) | (intro hW; (try simp only [Bool.not_true, Bool.not_false, Bool.not_eq_true', Bool.not_eq_false', decide_eq_true_eq, decide_eq_false_iff_not, reduceCtorEq, Bool.true_eq_false, Bool.false_eq_true, mk_size, List.size_toArray, ByteArray.size_append, ByteArray.size_extract, List.length_cons, List.length_nil, ba_get, ba_empty, Int.toNat_natCast] at hW)) | (refine And.intro (?_ : _ → _) (?_ : _ → _)) | (refine FinR.drop 0 (Nat.zero_le _) (Closed.zero _) rfl ?_) | (refine FinR.keep ?_) | (refine And.intro (det3_agg rfl) ?_) | (refine fL_mk ?_) | (refine And.intro (by (try simp only [mk_size, List.size_toArray, ByteArray.size_append, ByteArray.size_extract, List.length_cons, List.length_nil]); omega) ?_) | (refine And.intro (by (try simp only [mk_size, List.size_toArray, ByteArray.size_append, ByteArray.size_extract, List.length_cons, List.length_nil, wrap64_eq]); omega) ?_) | fail)
    all_goals first | exact h0 | (exfalso; omega) | (exfalso; simp_all; done)
theorem d_EqualSheet (s1 s2 : AV) (xs ys : List (List Int)) (h1 : Sli W0 σ 6 enI s1 xs) (h2 : Sli W0 σ 6 enI s2 ys) (hx : ∀ x ∈ xs, x.length = 6) (hy : ∀ x ∈ ys, x.length = 6) (hl : xs.length ≤ 1048576) (K : Cont) (h0 : K (Bo (decide (xs = ys))) σ) : ACall Try.prog W0 19 [s1, s2] σ K :=
  lift_Ss (by kernel_rfl) (fun _ => rfl) h1 h2 (fun W1 v1 v2 q1 q2 K hK => c_EqualSheet v1 v2 xs ys q1 q2 hx hy hl K hK) K h0
end Go.Proofs.Ytcfkhiplmnamcaa
end
