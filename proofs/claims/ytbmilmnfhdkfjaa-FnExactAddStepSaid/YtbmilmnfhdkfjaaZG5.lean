import Derived.Test.YtbmilmnfhdkfjaaZG4
section
/- Contracts: the program's planOf; IsPlan; plans that the laws make and compare. -/
set_option linter.unusedVariables false
set_option linter.unusedSimpArgs false
set_option maxRecDepth 100000
set_option maxHeartbeats 4000000
namespace Go.Proofs.Ytbmilmnfhdkfjaa
open Go Go.RowKit Go.Proofs.Ytbmilmnfhdkfjaa.Abs
variable {W0 : World} {σ : List Blk}
theorem c_planOf (a b c d e f : Int) (v1 v2 : Value) (xs ys : List (List Int)) (h1 : Sli W0 [] 6 enI (.lit v1) xs) (h2 : Sli W0 [] 4 enI (.lit v2) ys) (hx : ∀ x ∈ xs, x.length = 6) (hy : ∀ x ∈ ys, x.length = 4) (K : Cont)
    (h0 : planB a b c d e f xs ys = true → ∀ σ', PlanSt σ' 2 (stN [a, b, c, d, e, f]) (fsOf xs ys) → K (.tup [.ptr 2 0 0, Bo true]) σ') (h00 : planB a b c d e f xs ys = false → K (.tup [nilP, Bo false]) []) : ACall Try.prog W0 56 [PlA a b c d e f (.lit v1) (.lit v2)] [] K := by
  by_cases hg : shB6 a b c d e f = true ∧ xs.length ≤ 4 ∧ ys.length ≤ 40
  · exact c_planOfG a b c d e f v1 v2 xs ys h1 h2 hx hy hg.1 hg.2.1 hg.2.2 K h0 h00
  · have hpf : planB a b c d e f xs ys = false := by
      rw [Bool.eq_false_iff]; intro h
      have := planB_iff.1 h
      exact hg ⟨this.1, this.2.1, this.2.2.1⟩
    have hnp := h00 hpf
    refine by56 (Nat.le_of_ble_eq_true rfl) ?_
    obtain ⟨o1, n1, cap1, hv1, hn1, hc1, hm1, hf1⟩ := sli_form h1
    obtain ⟨o2, n2, cap2, hv2, hn2, hc2, hm2, hf2⟩ := sli_form h2
    cases hv1; cases hv2
    subst hn1; subst hn2
    cases hs : shB6 a b c d e f with
    | true =>
      obtain ⟨n, hn, rfl, rfl, rfl, rfl, rfl, rfl, hst⟩ := st_parts hs
      have hg2 : 4 < xs.length ∨ 40 < ys.length := by
        by_cases h4 : xs.length ≤ 4
        · right
          by_cases h5 : ys.length ≤ 40
          · exact absurd ⟨hs, h4, h5⟩ hg
          · omega
        · left; omega
      repeat' ((conv => whnf); first
        | (refine And.intro rfl ?_)
        | (refine And.intro (by decide +kernel) ?_)
        | (refine And.intro trivial ?_)
        | (refine d_setOfN (n := n) (hn := hn) (h0 := ?_) ..)
        | (refine Exists.intro _ (And.intro rfl (And.intro rfl (And.intro (Nat.le_of_ble_eq_true rfl) ?_))))
        | (refine Exists.intro _ (And.intro rfl (And.intro rfl (And.intro rfl (And.intro (Nat.le_of_ble_eq_true rfl) ?_)))))
        | (refine And.intro (Exists.intro _ (And.intro rfl rfl)) ?_)
        | (exact fun hW => absurd hW (by decide +kernel))
        | (intro hW; (try simp only [Bool.not_true, Bool.not_false, Bool.not_eq_true', Bool.not_eq_false', decide_eq_true_eq, decide_eq_false_iff_not, reduceCtorEq, Bool.true_eq_false, Bool.false_eq_true, mk_size, List.size_toArray, ByteArray.size_append, ByteArray.size_extract, List.length_cons, List.length_nil, ba_get, ba_empty, Int.toNat_natCast] at hW))
        | (refine And.intro (?_ : _ → _) (?_ : _ → _))
        | (refine FinR.drop 0 (Nat.zero_le _) (Closed.zero _) rfl ?_)
        | (refine FinR.keep ?_)
        | (refine And.intro (det3_agg rfl) ?_)
        | (refine fL_mk ?_)
        | (refine And.intro (by (try simp only [mk_size, List.size_toArray, ByteArray.size_append, ByteArray.size_extract, List.length_cons, List.length_nil]); omega) ?_)
        | (refine And.intro (by (try simp only [mk_size, List.size_toArray, ByteArray.size_append, ByteArray.size_extract, List.length_cons, List.length_nil, wrap64_eq]); omega) ?_)
        | fail)
      all_goals first | (exfalso; omega) | (exfalso; simp_all; done) | exact hnp
    | false =>
      repeat' ((conv => whnf); first
        | (refine And.intro rfl ?_)
        | (refine And.intro (by decide +kernel) ?_)
        | (refine And.intro trivial ?_)
        | (refine d_setOfF (hb := hs) (h0 := ?_) ..)
        | (refine Exists.intro _ (And.intro rfl (And.intro rfl (And.intro (Nat.le_of_ble_eq_true rfl) ?_))))
        | (refine Exists.intro _ (And.intro rfl (And.intro rfl (And.intro rfl (And.intro (Nat.le_of_ble_eq_true rfl) ?_)))))
        | (refine And.intro (Exists.intro _ (And.intro rfl rfl)) ?_)
        | (exact fun hW => absurd hW (by decide +kernel))
        | (intro hW; (try simp only [Bool.not_true, Bool.not_false, Bool.not_eq_true', Bool.not_eq_false', decide_eq_true_eq, decide_eq_false_iff_not, reduceCtorEq, Bool.true_eq_false, Bool.false_eq_true, mk_size, List.size_toArray, ByteArray.size_append, ByteArray.size_extract, List.length_cons, List.length_nil, ba_get, ba_empty, Int.toNat_natCast] at hW))
        | (refine And.intro (?_ : _ → _) (?_ : _ → _))
        | (refine FinR.drop 0 (Nat.zero_le _) (Closed.zero _) rfl ?_)
        | (refine FinR.keep ?_)
        | (refine And.intro (det3_agg rfl) ?_)
        | (refine fL_mk ?_)
        | (refine And.intro (by (try simp only [mk_size, List.size_toArray, ByteArray.size_append, ByteArray.size_extract, List.length_cons, List.length_nil]); omega) ?_)
        | (refine And.intro (by (try simp only [mk_size, List.size_toArray, ByteArray.size_append, ByteArray.size_extract, List.length_cons, List.length_nil, wrap64_eq]); omega) ?_)
        | fail)
      all_goals first | (exfalso; omega) | (exfalso; simp_all; done) | exact hnp
/-! plans moved -/
theorem StepsSt.sh {σ τ : List Blk} {s : AV} {fs : List (Nat × Nat)} (h : StepsSt τ s fs) : StepsSt (σ ++ shB σ.length τ) (sh1 σ.length s) fs := by
  cases h with
  | nil => exact .nil
  | own r ver cap cs fs hr hl hc =>
    refine .own (σ.length + r) ver cap (cs.map (sh1 σ.length)) fs (get_sh hr) (by rw [List.length_map]; exact hl) fun j k m hj => ?_
    obtain ⟨a, b, q1, q2, q3⟩ := hc j k m hj
    refine ⟨σ.length + a, σ.length + b, by rw [List.getElem?_map, q1]; rfl, ?_, get_sh q3⟩
    have := get_sh (σ := σ) q2
    rw [this]
    show some (⟨[sh1 σ.length (doA k)], _, _, _, _, _⟩ : Blk) = _
    have e : sh1 σ.length (doA k) = doA k := by unfold doA; split <;> rfl
    rw [e]
theorem PlanSt.sh {σ τ : List Blk} {p n : Nat} {fs : List (Nat × Nat)} (h : PlanSt τ p n fs) : PlanSt (σ ++ shB σ.length τ) (σ.length + p) n fs := by
  obtain ⟨s, h1, h2⟩ := h.ex
  exact ⟨sh1 σ.length s, get_sh h1, h2.sh⟩
theorem StepsSt.add {σ τ : List Blk} {s : AV} {fs : List (Nat × Nat)} (h : StepsSt σ s fs) : StepsSt (σ ++ τ) s fs := by
  cases h with
  | nil => exact .nil
  | own r ver cap cs fs hr hl hc =>
    exact .own r ver cap cs fs (getx1 hr) hl fun j k m hj => let ⟨a, b, q1, q2, q3⟩ := hc j k m hj; ⟨a, b, q1, getx1 q2, getx1 q3⟩
theorem PlanSt.add {σ τ : List Blk} {p n : Nat} {fs : List (Nat × Nat)} (h : PlanSt σ p n fs) : PlanSt (σ ++ τ) p n fs := by
  obtain ⟨s, h1, h2⟩ := h.ex
  exact ⟨s, getx1 h1, h2.add⟩
theorem d_planOf (a b c d e f : Int) (s1 s2 : AV) (xs ys : List (List Int)) (h1 : Sli W0 σ 6 enI s1 xs) (h2 : Sli W0 σ 4 enI s2 ys) (hx : ∀ x ∈ xs, x.length = 6) (hy : ∀ x ∈ ys, x.length = 4) (K : Cont)
    (h0 : planB a b c d e f xs ys = true → ∀ τ, PlanSt (σ ++ τ) (σ.length + 2) (stN [a, b, c, d, e, f]) (fsOf xs ys) → K (.tup [.ptr (σ.length + 2) 0 0, Bo true]) (σ ++ τ)) (h00 : planB a b c d e f xs ys = false → K (.tup [nilP, Bo false]) σ) : ACall Try.prog W0 56 [PlA a b c d e f s1 s2] σ K := by
  cases hg : planB a b c d e f xs ys with
  | true =>
    exact lift_Pl (rest := []) (ι := { τ : List Blk // PlanSt τ 2 (stN [a, b, c, d, e, f]) (fsOf xs ys) }) (fun _ => .tup [.ptr 2 0 0, Bo true]) (fun τ => τ.1) (by kernel_rfl) rfl h1 h2
      (fun W1 v1 v2 q1 q2 K hK => c_planOf a b c d e f v1 v2 xs ys q1 q2 hx hy K (fun _ σ' hp => hK ⟨σ', hp⟩) (fun hf => by rw [hg] at hf; cases hf)) K (fun τ => h0 hg _ τ.2.sh)
  | false =>
    exact lift_Pl (rest := []) (ι := Unit) (fun _ => .tup [nilP, Bo false]) (fun τ => []) (by kernel_rfl) rfl h1 h2
      (fun W1 v1 v2 q1 q2 K hK => c_planOf a b c d e f v1 v2 xs ys q1 q2 hx hy K (fun hf => by rw [hg] at hf; cases hf) (fun _ => hK ())) K (fun τ => by
        rw [show shB σ.length [] = [] from rfl, List.append_nil]; exact h00 hg)
theorem d_l11Plan (a b c d e f : Int) (s1 s2 : AV) (xs ys : List (List Int)) (h1 : Sli W0 σ 6 enI s1 xs) (h2 : Sli W0 σ 4 enI s2 ys) (hx : ∀ x ∈ xs, x.length = 6) (hy : ∀ x ∈ ys, x.length = 4) (hl : xs.length ≤ 1048576) (hl2 : ys.length ≤ 1048576) (K : Cont) (h0 : K (Bo (planB a b c d e f xs ys)) σ) : ACall Try.prog W0 52 [PlA a b c d e f s1 s2] σ K :=
  lift_Pl (rest := []) (ι := Unit) (fun _ => Bo (planB a b c d e f xs ys)) (fun τ => []) (by kernel_rfl) rfl h1 h2 (fun W1 v1 v2 q1 q2 K hK => c_l11Plan a b c d e f v1 v2 xs ys q1 q2 hx hy hl hl2 K (hK ())) K (fun _ => by
    rw [show shB σ.length [] = [] from rfl, List.append_nil]; exact h0)
theorem c_IsPlan (a b c d e f : Int) (v1 v2 : Value) (xs ys : List (List Int)) (h1 : Sli W0 [] 6 enI (.lit v1) xs) (h2 : Sli W0 [] 4 enI (.lit v2) ys) (hx : ∀ x ∈ xs, x.length = 6) (hy : ∀ x ∈ ys, x.length = 4) (K : Cont) (h0 : K (Bo (planB a b c d e f xs ys)) []) : ACall Try.prog W0 18 [PlA a b c d e f (.lit v1) (.lit v2)] [] K := by
  refine by18 (Nat.le_of_ble_eq_true rfl) ?_
  repeat' ((conv => whnf); first
    | (refine And.intro rfl ?_)
    | (refine And.intro (by decide +kernel) ?_)
    | (refine And.intro trivial ?_)
    | (refine d_planOf (h1 := sli_up h1) (h2 := sli_up h2) (hx := hx) (hy := hy) (h0 := fun hg τ hp => ?_) (h00 := fun hg => ?_) ..)
    | (refine Exists.intro _ (And.intro rfl (And.intro rfl (And.intro (Nat.le_of_ble_eq_true rfl) ?_))))
    | (refine Exists.intro _ (And.intro rfl (And.intro rfl (And.intro rfl (And.intro (Nat.le_of_ble_eq_true rfl) ?_)))))
    | (refine And.intro (Exists.intro _ (And.intro rfl rfl)) ?_)
    | (exact fun hW => absurd hW (by decide +kernel))
    | (intro hW; (try simp only [Bool.not_true, Bool.not_false, Bool.not_eq_true', Bool.not_eq_false', decide_eq_true_eq, decide_eq_false_iff_not, reduceCtorEq, Bool.true_eq_false, Bool.false_eq_true, mk_size, List.size_toArray, ByteArray.size_append, ByteArray.size_extract, List.length_cons, List.length_nil, ba_get, ba_empty, Int.toNat_natCast] at hW))
    | (refine And.intro (?_ : _ → _) (?_ : _ → _))
    | (refine FinR.drop 0 (Nat.zero_le _) (Closed.zero _) rfl ?_)
    | (refine FinR.keep ?_)
    | (refine And.intro (det3_agg rfl) ?_)
    | (refine fL_mk ?_)
    | (refine And.intro (by (try simp only [mk_size, List.size_toArray, ByteArray.size_append, ByteArray.size_extract, List.length_cons, List.length_nil]); omega) ?_)
    | (refine And.intro (by (try simp only [mk_size, List.size_toArray, ByteArray.size_append, ByteArray.size_extract, List.length_cons, List.length_nil, wrap64_eq]); omega) ?_)
    | fail)
  all_goals (rw [hg] at h0; exact h0)
theorem d_IsPlan (a b c d e f : Int) (s1 s2 : AV) (xs ys : List (List Int)) (h1 : Sli W0 σ 6 enI s1 xs) (h2 : Sli W0 σ 4 enI s2 ys) (hx : ∀ x ∈ xs, x.length = 6) (hy : ∀ x ∈ ys, x.length = 4) (K : Cont) (h0 : K (Bo (planB a b c d e f xs ys)) σ) : ACall Try.prog W0 18 [PlA a b c d e f s1 s2] σ K :=
  lift_Pl (rest := []) (ι := Unit) (fun _ => Bo (planB a b c d e f xs ys)) (fun τ => []) (by kernel_rfl) rfl h1 h2 (fun W1 v1 v2 q1 q2 K hK => c_IsPlan a b c d e f v1 v2 xs ys q1 q2 hx hy K (hK ())) K (fun _ => by
    rw [show shB σ.length [] = [] from rfl, List.append_nil]; exact h0)
/-! the laws' plans -/
abbrev shSB (xs : List (List Int)) : Blk := ⟨jc xs, 0, 31, 6, true, true⟩
abbrev stSB (ys : List (List Int)) : Blk := ⟨jc ys, 0, 54, 4, true, true⟩
theorem c_toPlan (a b c d e f : Int) (v1 v2 : Value) (xs ys : List (List Int)) (h1 : Sli W0 [] 6 enI (.lit v1) xs) (h2 : Sli W0 [] 4 enI (.lit v2) ys) (hx : ∀ x ∈ xs, x.length = 6) (hy : ∀ x ∈ ys, x.length = 4) (hl : xs.length ≤ 1048576) (hl2 : ys.length ≤ 1048576) (K : Cont)
    (h0 : ∀ τ, τ.length = 3 → K (PlA a b c d e f (.sl 3 0 0 xs.length xs.length) (.sl 4 0 0 ys.length ys.length)) (τ ++ [shSB xs, stSB ys])) : ACall Try.prog W0 17 [PlA a b c d e f (.lit v1) (.lit v2)] [] K := by
  refine by17 (Nat.le_of_ble_eq_true rfl) ?_
  repeat' ((conv => whnf); first
    | (refine And.intro rfl ?_)
    | (refine And.intro (by decide +kernel) ?_)
    | (refine And.intro trivial ?_)
    | (refine d_toSheet (h0 := ?_) ..)
    | (refine Exists.intro _ (And.intro (fun τ => callW_fn (d_toSheet (h0 := And.intro rfl rfl) ..)) ?_))
    | (refine Exists.intro _ (And.intro (callW_fn (d_toSheet (h0 := And.intro rfl rfl) ..)) (And.intro trivial ?_)))
    | (refine Exists.intro _ (And.intro (callW_fn (d_toSheet (h0 := And.intro rfl rfl) ..)) ?_))
    | (refine Exists.intro _ (And.intro (fun τ _ => callW_fn (d_toSheet (h0 := And.intro rfl rfl) ..)) ?_))
    | (refine d_toSheetS (hs := sli_up h1) (hx := hx) (hl := hl) (h0 := ?_) ..)
    | (refine d_toStepS (hs := sli_up h2) (hx := hy) (hl := hl2) (h0 := ?_) ..)
    | (refine Exists.intro _ (And.intro rfl (And.intro rfl (And.intro (Nat.le_of_ble_eq_true rfl) ?_))))
    | (refine Exists.intro _ (And.intro rfl (And.intro rfl (And.intro rfl (And.intro (Nat.le_of_ble_eq_true rfl) ?_)))))
    | (refine And.intro (Exists.intro _ (And.intro rfl rfl)) ?_)
    | (exact fun hW => absurd hW (by decide +kernel))
    | (intro hW; (try simp only [Bool.not_true, Bool.not_false, Bool.not_eq_true', Bool.not_eq_false', decide_eq_true_eq, decide_eq_false_iff_not, reduceCtorEq, Bool.true_eq_false, Bool.false_eq_true, mk_size, List.size_toArray, ByteArray.size_append, ByteArray.size_extract, List.length_cons, List.length_nil, ba_get, ba_empty, Int.toNat_natCast] at hW))
    | (refine And.intro (?_ : _ → _) (?_ : _ → _))
    | (refine FinR.drop 0 (Nat.zero_le _) (Closed.zero _) rfl ?_)
    | (refine FinR.keep ?_)
    | (refine And.intro (det3_agg rfl) ?_)
    | (refine fL_mk ?_)
    | (refine And.intro (by (try simp only [mk_size, List.size_toArray, ByteArray.size_append, ByteArray.size_extract, List.length_cons, List.length_nil]); omega) ?_)
    | (refine And.intro (by (try simp only [mk_size, List.size_toArray, ByteArray.size_append, ByteArray.size_extract, List.length_cons, List.length_nil, wrap64_eq]); omega) ?_)
    | fail)
  all_goals exact h0 [_, _, _] rfl
theorem len3 {τ : List Blk} (h : τ.length = 3) : ∃ A B C, τ = [A, B, C] := by
  match τ, h with
  | [A, B, C], _ => exact ⟨A, B, C, rfl⟩
/-- a plan that a law made: new, its slices behind three blocks -/
theorem d_toPlan (a b c d e f : Int) (s1 s2 : AV) (xs ys : List (List Int)) (h1 : Sli W0 σ 6 enI s1 xs) (h2 : Sli W0 σ 4 enI s2 ys) (hx : ∀ x ∈ xs, x.length = 6) (hy : ∀ x ∈ ys, x.length = 4) (hl : xs.length ≤ 1048576) (hl2 : ys.length ≤ 1048576) (K : Cont)
    (h0 : ∀ A B C, K (PlA a b c d e f (.sl (σ.length + 3) 0 0 xs.length xs.length) (.sl (σ.length + 4) 0 0 ys.length ys.length)) (σ ++ [A, B, C, shSB xs, stSB ys])) : ACall Try.prog W0 17 [PlA a b c d e f s1 s2] σ K :=
  lift_Pl (rest := []) (ι := { τ : List Blk // τ.length = 3 }) (fun _ => PlA a b c d e f (.sl 3 0 0 xs.length xs.length) (.sl 4 0 0 ys.length ys.length)) (fun τ => τ.1 ++ [shSB xs, stSB ys]) (by kernel_rfl) rfl h1 h2
    (fun W1 v1 v2 q1 q2 K hK => c_toPlan a b c d e f v1 v2 xs ys q1 q2 hx hy hl hl2 K (fun τ hτ => hK ⟨τ, hτ⟩)) K (fun τ => by
      obtain ⟨τ, hτ⟩ := τ
      obtain ⟨A, B, C, rfl⟩ := len3 hτ
      show K _ (σ ++ [_, _, _, (⟨(jc xs).map (sh1 σ.length), _, _, _, _, _⟩ : Blk), (⟨(jc ys).map (sh1 σ.length), _, _, _, _, _⟩ : Blk)])
      rw [jc_sh, jc_sh]
      exact h0 _ _ _)
theorem c_szPlan (a b c d e f : Int) (v1 v2 : Value) (xs ys : List (List Int)) (m : Int) (h1 : Sli W0 [] 6 enI (.lit v1) xs) (h2 : Sli W0 [] 4 enI (.lit v2) ys) (hl : xs.length ≤ 9223372036854775807) (hl2 : ys.length ≤ 9223372036854775807) (hm : 0 ≤ m ∧ m ≤ 1048576) (K : Cont) (h0 : 0 ≤ m - xs.length - ys.length → K (I (m - xs.length - ys.length)) []) (h00 : m - xs.length - ys.length < 0 → K (I (-1)) []) : ACall Try.prog W0 15 [PlA a b c d e f (.lit v1) (.lit v2), I m] [] K := by
  refine by15 (Nat.le_of_ble_eq_true rfl) ?_
  by_cases hz : m - (xs.length : Nat) < 0
  · have hn := h00 (by omega)
    repeat' ((conv => whnf); first
      | (refine And.intro rfl ?_)
      | (refine And.intro (by decide +kernel) ?_)
      | (refine And.intro trivial ?_)
      | (refine d_szSheetS (ha := sli_up h1) (hl := hl) (hm := hm) (h0 := ?_) ..; rw [if_pos hz])
      | (refine Exists.intro _ (And.intro rfl (And.intro rfl (And.intro (Nat.le_of_ble_eq_true rfl) ?_))))
      | (refine Exists.intro _ (And.intro rfl (And.intro rfl (And.intro rfl (And.intro (Nat.le_of_ble_eq_true rfl) ?_)))))
      | (refine And.intro (Exists.intro _ (And.intro rfl rfl)) ?_)
      | (exact fun hW => absurd hW (by decide +kernel))
      | (intro hW; (try simp only [Bool.not_true, Bool.not_false, Bool.not_eq_true', Bool.not_eq_false', decide_eq_true_eq, decide_eq_false_iff_not, reduceCtorEq, Bool.true_eq_false, Bool.false_eq_true, mk_size, List.size_toArray, ByteArray.size_append, ByteArray.size_extract, List.length_cons, List.length_nil, ba_get, ba_empty, Int.toNat_natCast] at hW))
      | (refine And.intro (?_ : _ → _) (?_ : _ → _))
      | (refine FinR.drop 0 (Nat.zero_le _) (Closed.zero _) rfl ?_)
      | (refine FinR.keep ?_)
      | (refine And.intro (det3_agg rfl) ?_)
      | (refine fL_mk ?_)
      | (refine And.intro (by (try simp only [mk_size, List.size_toArray, ByteArray.size_append, ByteArray.size_extract, List.length_cons, List.length_nil]); omega) ?_)
      | (refine And.intro (by (try simp only [mk_size, List.size_toArray, ByteArray.size_append, ByteArray.size_extract, List.length_cons, List.length_nil, wrap64_eq]); omega) ?_)
      | fail)
    all_goals first | exact hn | (exfalso; omega)
  · by_cases hz2 : m - (xs.length : Nat) - (ys.length : Nat) < 0
    · have hn := h00 hz2
      repeat' ((conv => whnf); first
        | (refine And.intro rfl ?_)
        | (refine And.intro (by decide +kernel) ?_)
        | (refine And.intro trivial ?_)
        | (refine d_szSheetS (ha := sli_up h1) (hl := hl) (hm := hm) (h0 := ?_) ..; rw [if_neg hz])
        | (refine d_szStepS (ha := sli_up h2) (hl := hl2) (hm := by omega) (h0 := ?_) ..; rw [if_pos hz2])
        | (refine Exists.intro _ (And.intro rfl (And.intro rfl (And.intro (Nat.le_of_ble_eq_true rfl) ?_))))
        | (refine Exists.intro _ (And.intro rfl (And.intro rfl (And.intro rfl (And.intro (Nat.le_of_ble_eq_true rfl) ?_)))))
        | (refine And.intro (Exists.intro _ (And.intro rfl rfl)) ?_)
        | (exact fun hW => absurd hW (by decide +kernel))
        | (intro hW; (try simp only [Bool.not_true, Bool.not_false, Bool.not_eq_true', Bool.not_eq_false', decide_eq_true_eq, decide_eq_false_iff_not, reduceCtorEq, Bool.true_eq_false, Bool.false_eq_true, mk_size, List.size_toArray, ByteArray.size_append, ByteArray.size_extract, List.length_cons, List.length_nil, ba_get, ba_empty, Int.toNat_natCast] at hW))
        | (refine And.intro (?_ : _ → _) (?_ : _ → _))
        | (refine FinR.drop 0 (Nat.zero_le _) (Closed.zero _) rfl ?_)
        | (refine FinR.keep ?_)
        | (refine And.intro (det3_agg rfl) ?_)
        | (refine fL_mk ?_)
        | (refine And.intro (by (try simp only [mk_size, List.size_toArray, ByteArray.size_append, ByteArray.size_extract, List.length_cons, List.length_nil]); omega) ?_)
        | (refine And.intro (by (try simp only [mk_size, List.size_toArray, ByteArray.size_append, ByteArray.size_extract, List.length_cons, List.length_nil, wrap64_eq]); omega) ?_)
        | fail)
      all_goals first | exact hn | (exfalso; omega)
    · have hn := h0 (by omega)
      repeat' ((conv => whnf); first
        | (refine And.intro rfl ?_)
        | (refine And.intro (by decide +kernel) ?_)
        | (refine And.intro trivial ?_)
        | (refine d_szSheetS (ha := sli_up h1) (hl := hl) (hm := hm) (h0 := ?_) ..; rw [if_neg hz])
        | (refine d_szStepS (ha := sli_up h2) (hl := hl2) (hm := by omega) (h0 := ?_) ..; rw [if_neg hz2])
        | (refine Exists.intro _ (And.intro rfl (And.intro rfl (And.intro (Nat.le_of_ble_eq_true rfl) ?_))))
        | (refine Exists.intro _ (And.intro rfl (And.intro rfl (And.intro rfl (And.intro (Nat.le_of_ble_eq_true rfl) ?_)))))
        | (refine And.intro (Exists.intro _ (And.intro rfl rfl)) ?_)
        | (exact fun hW => absurd hW (by decide +kernel))
        | (intro hW; (try simp only [Bool.not_true, Bool.not_false, Bool.not_eq_true', Bool.not_eq_false', decide_eq_true_eq, decide_eq_false_iff_not, reduceCtorEq, Bool.true_eq_false, Bool.false_eq_true, mk_size, List.size_toArray, ByteArray.size_append, ByteArray.size_extract, List.length_cons, List.length_nil, ba_get, ba_empty, Int.toNat_natCast] at hW))
        | (refine And.intro (?_ : _ → _) (?_ : _ → _))
        | (refine FinR.drop 0 (Nat.zero_le _) (Closed.zero _) rfl ?_)
        | (refine FinR.keep ?_)
        | (refine And.intro (det3_agg rfl) ?_)
        | (refine fL_mk ?_)
        | (refine And.intro (by (try simp only [mk_size, List.size_toArray, ByteArray.size_append, ByteArray.size_extract, List.length_cons, List.length_nil]); omega) ?_)
        | (refine And.intro (by (try simp only [mk_size, List.size_toArray, ByteArray.size_append, ByteArray.size_extract, List.length_cons, List.length_nil, wrap64_eq]); omega) ?_)
        | fail)
      all_goals first | exact hn | (exfalso; omega)
theorem d_szPlan (a b c d e f : Int) (s1 s2 : AV) (xs ys : List (List Int)) (m : Int) (h1 : Sli W0 σ 6 enI s1 xs) (h2 : Sli W0 σ 4 enI s2 ys) (hl : xs.length ≤ 9223372036854775807) (hl2 : ys.length ≤ 9223372036854775807) (hm : 0 ≤ m ∧ m ≤ 1048576) (K : Cont) (h0 : 0 ≤ m - xs.length - ys.length → K (I (m - xs.length - ys.length)) σ) (h00 : m - xs.length - ys.length < 0 → K (I (-1)) σ) : ACall Try.prog W0 15 [PlA a b c d e f s1 s2, I m] σ K := by
  by_cases hz : m - xs.length - ys.length < 0
  · exact lift_Pl (rest := [I m]) (ι := Unit) (fun _ => I (-1)) (fun _ => []) (by kernel_rfl) rfl h1 h2 (fun W1 v1 v2 q1 q2 K hK => c_szPlan a b c d e f v1 v2 xs ys m q1 q2 hl hl2 hm K (fun h => by omega) (fun _ => hK ())) K (fun _ => by
      rw [show shB σ.length [] = [] from rfl, List.append_nil]; exact h00 hz)
  · exact lift_Pl (rest := [I m]) (ι := Unit) (fun _ => I (m - xs.length - ys.length)) (fun _ => []) (by kernel_rfl) rfl h1 h2 (fun W1 v1 v2 q1 q2 K hK => c_szPlan a b c d e f v1 v2 xs ys m q1 q2 hl hl2 hm K (fun _ => hK ()) (fun h => by omega)) K (fun _ => by
      rw [show shB σ.length [] = [] from rfl, List.append_nil]; exact h0 (by omega))
theorem c_eqPlan (a b c d e f : Int) (v1 v2 u1 u2 : Value) (xs ys : List (List Int)) (h1 : Sli W0 [] 6 enI (.lit v1) xs) (h2 : Sli W0 [] 4 enI (.lit v2) ys) (g1 : Sli W0 [] 6 enI (.lit u1) xs) (g2 : Sli W0 [] 4 enI (.lit u2) ys) (hx : ∀ x ∈ xs, x.length = 6) (hy : ∀ x ∈ ys, x.length = 4) (hl : xs.length ≤ 1048576) (hl2 : ys.length ≤ 1048576) (K : Cont) (h0 : K (Bo true) []) : ACall Try.prog W0 19 [PlA a b c d e f (.lit v1) (.lit v2), PlA a b c d e f (.lit u1) (.lit u2)] [] K := by
  refine by19 (Nat.le_of_ble_eq_true rfl) ?_
  repeat' ((conv => whnf); first
    | (refine And.intro rfl ?_)
    | (refine And.intro (by decide +kernel) ?_)
    | (refine And.intro trivial ?_)
    | (refine d_eqSheet (h0 := ?_) ..)
    | (refine Exists.intro _ (And.intro (fun τ => callW_fn (d_eqSheet (h0 := And.intro rfl rfl) ..)) ?_))
    | (refine Exists.intro _ (And.intro (callW_fn (d_eqSheet (h0 := And.intro rfl rfl) ..)) (And.intro trivial ?_)))
    | (refine Exists.intro _ (And.intro (callW_fn (d_eqSheet (h0 := And.intro rfl rfl) ..)) ?_))
    | (refine Exists.intro _ (And.intro (fun τ _ => callW_fn (d_eqSheet (h0 := And.intro rfl rfl) ..)) ?_))
    | (refine d_eqSheetS (ha := sli_up h1) (hb' := sli_up g1) (hx := hx) (hl := hl) (h0 := ?_) ..)
    | (refine d_eqStepS (ha := sli_up h2) (hb' := sli_up g2) (hx := hy) (hl := hl2) (h0 := ?_) ..)
    | (refine Exists.intro _ (And.intro rfl (And.intro rfl (And.intro (Nat.le_of_ble_eq_true rfl) ?_))))
    | (refine Exists.intro _ (And.intro rfl (And.intro rfl (And.intro rfl (And.intro (Nat.le_of_ble_eq_true rfl) ?_)))))
    | (refine And.intro (Exists.intro _ (And.intro rfl rfl)) ?_)
    | (exact fun hW => absurd hW (by decide +kernel))
    | (intro hW; (try simp only [Bool.not_true, Bool.not_false, Bool.not_eq_true', Bool.not_eq_false', decide_eq_true_eq, decide_eq_false_iff_not, reduceCtorEq, Bool.true_eq_false, Bool.false_eq_true, mk_size, List.size_toArray, ByteArray.size_append, ByteArray.size_extract, List.length_cons, List.length_nil, ba_get, ba_empty, Int.toNat_natCast] at hW))
    | (refine And.intro (?_ : _ → _) (?_ : _ → _))
    | (refine FinR.drop 0 (Nat.zero_le _) (Closed.zero _) rfl ?_)
    | (refine FinR.keep ?_)
    | (refine And.intro (det3_agg rfl) ?_)
    | (refine fL_mk ?_)
    | (refine And.intro (by (try simp only [mk_size, List.size_toArray, ByteArray.size_append, ByteArray.size_extract, List.length_cons, List.length_nil]); omega) ?_)
    | (refine And.intro (by (try simp only [mk_size, List.size_toArray, ByteArray.size_append, ByteArray.size_extract, List.length_cons, List.length_nil, wrap64_eq]); omega) ?_)
    | fail)
  all_goals first | exact h0 | (exfalso; simp_all [eq6]; done)
theorem lift_PlPl {g : FuncId} {a b c d e f a' b' c' d' e' f' : Int} {s1 s2 t1 t2 : AV} {xs ys zs ws : List (List Int)} {r : AV} (hok : callOK Try.prog g = true) (hr : ∀ k, sh3 k r = r) (h1 : Sli W0 σ 6 enI s1 xs) (h2 : Sli W0 σ 4 enI s2 ys) (g1 : Sli W0 σ 6 enI t1 zs) (g2 : Sli W0 σ 4 enI t2 ws)
    (h : ∀ (W1 : World) (v1 v2 u1 u2 : Value), Sli W1 [] 6 enI (.lit v1) xs → Sli W1 [] 4 enI (.lit v2) ys → Sli W1 [] 6 enI (.lit u1) zs → Sli W1 [] 4 enI (.lit u2) ws → ∀ K : Cont, K r [] → ACall Try.prog W1 g [PlA a b c d e f (.lit v1) (.lit v2), PlA a' b' c' d' e' f' (.lit u1) (.lit u2)] [] K) (K : Cont) (h0 : K r σ) : ACall Try.prog W0 g [PlA a b c d e f s1 s2, PlA a' b' c' d' e' f' t1 t2] σ K := by
  refine ACall.frameA (K0 := fun v σ' => v = r ∧ σ' = []) hok (fun W1 ι vs hh hrr => ?_) ?_
  · obtain ⟨v1, vs', rfl, hr1, hr2⟩ := Rels.uncons hrr
    obtain ⟨v2, vs'', rfl, hr3, hr4⟩ := Rels.uncons hr2
    obtain rfl := hr4.nil_inv
    obtain ⟨q1, q2, p1, p2, p3⟩ := plA_conc h1 h2 hh hr1
    obtain ⟨w1, w2, o1, o2, o3⟩ := plA_conc g1 g2 hh hr3
    obtain ⟨u1, rfl⟩ := sli_lit p1
    obtain ⟨u2, rfl⟩ := sli_lit p2
    obtain ⟨u3, rfl⟩ := sli_lit o1
    obtain ⟨u4, rfl⟩ := sli_lit o2
    exact ⟨[_, _], Rels.cons p3 (Rels.cons o3 Rels.nil), h W1 _ _ _ _ p1 p2 o1 o2 _ ⟨rfl, rfl⟩⟩
  · rintro v σ' ⟨rfl, rfl⟩
    have e : σ ++ shB σ.length [] = σ := by simp [shB]
    rw [e, hr]; exact h0
theorem d_eqPlan (a b c d e f : Int) (s1 s2 t1 t2 : AV) (xs ys : List (List Int)) (h1 : Sli W0 σ 6 enI s1 xs) (h2 : Sli W0 σ 4 enI s2 ys) (g1 : Sli W0 σ 6 enI t1 xs) (g2 : Sli W0 σ 4 enI t2 ys) (hx : ∀ x ∈ xs, x.length = 6) (hy : ∀ x ∈ ys, x.length = 4) (hl : xs.length ≤ 1048576) (hl2 : ys.length ≤ 1048576) (K : Cont) (h0 : K (Bo true) σ) : ACall Try.prog W0 19 [PlA a b c d e f s1 s2, PlA a b c d e f t1 t2] σ K :=
  lift_PlPl (by kernel_rfl) (fun _ => rfl) h1 h2 g1 g2 (fun W1 v1 v2 u1 u2 q1 q2 q3 q4 K hK => c_eqPlan a b c d e f v1 v2 u1 u2 xs ys q1 q2 q3 q4 hx hy hl hl2 K hK) K h0
end Go.Proofs.Ytbmilmnfhdkfjaa
end

section
/- Contracts: plans that run. -/
set_option linter.unusedVariables false
set_option linter.unusedSimpArgs false
set_option maxRecDepth 100000
set_option maxHeartbeats 4000000
namespace Go.Proofs.Ytbmilmnfhdkfjaa
open Go Go.RowKit Go.Proofs.Ytbmilmnfhdkfjaa.Abs
variable {W0 : World} {σ : List Blk}
/-- a step by sets; many -/
def stepF (k m n : Nat) : Nat := if k = 1 then n ^^^ m else if k = 2 then n ||| m else n &&& (fullN ^^^ m)
def runN (fs : List (Nat × Nat)) (n : Nat) : Nat := fs.foldl (fun n s => stepF s.1 s.2 n) n
/-- steps that are valid -/
def FsOk (fs : List (Nat × Nat)) : Prop := ∀ s ∈ fs, (1 ≤ s.1 ∧ s.1 ≤ 3) ∧ s.2 < 2 ^ 36
theorem FsOk.take {fs : List (Nat × Nat)} (h : FsOk fs) (i : Nat) : FsOk (fs.take i) := fun s hs => h s (List.mem_of_mem_take hs)
abbrev ruB (l : List Nat) : Blk := ⟨l.map (fun n : Nat => U n), l.length - 1, 82, 1, true, true⟩
end Go.Proofs.Ytbmilmnfhdkfjaa
end

section
/- Contracts: plans marked and held. -/
set_option linter.unusedVariables false
set_option linter.unusedSimpArgs false
set_option maxRecDepth 100000
set_option maxHeartbeats 4000000
namespace Go.Proofs.Ytbmilmnfhdkfjaa
open Go Go.RowKit Go.Proofs.Ytbmilmnfhdkfjaa.Abs
variable {W0 : World} {σ : List Blk}
theorem d_markSheetS (b ver n cap : Nat) (B : Blk) (hB : σ[b]? = some B) (hv : B.ver = ver) (hn : n * 6 ≤ B.cells.length) (hn2 : n ≤ 1048576) (k : Int) (hk : 0 ≤ k ∧ k ≤ 16777216) (K : Cont) (h0 : K (I (k + (n * 6 : Nat))) (σ.set b (mB B k (n * 6)))) : ACall Try.prog W0 68 [.sl b ver 0 n cap, I k] σ K := by
  refine by68 (Nat.le_of_ble_eq_true rfl) ?_
  repeat' ((conv => whnf); first
    | (refine And.intro rfl ?_)
    | (refine And.intro (by decide +kernel) ?_)
    | (refine And.intro trivial ?_)
    | (refine Exists.intro _ (And.intro rfl (And.intro rfl (And.intro (Nat.le_of_ble_eq_true rfl) ?_))))
    | (refine Exists.intro _ (And.intro rfl (And.intro rfl (And.intro rfl (And.intro (Nat.le_of_ble_eq_true rfl) ?_)))))
    | (refine And.intro (Exists.intro _ (And.intro rfl rfl)) ?_)
    | (exact fun hW => absurd hW (by decide +kernel))
    | (intro hW; (try simp only [Bool.not_true, Bool.not_false, Bool.not_eq_true', Bool.not_eq_false', decide_eq_true_eq, decide_eq_false_iff_not, reduceCtorEq, Bool.true_eq_false, Bool.false_eq_true, mk_size, List.size_toArray, ByteArray.size_append, ByteArray.size_extract, List.length_cons, List.length_nil, ba_get, ba_empty, Int.toNat_natCast] at hW))
    | (refine And.intro (?_ : _ → _) (?_ : _ → _))
    | (refine FinR.drop 0 (Nat.zero_le _) (Closed.zero _) rfl ?_)
    | (refine FinR.keep ?_)
    | (refine And.intro (det3_agg rfl) ?_)
    | (refine fL_mk ?_)
    | (refine And.intro (by (try simp only [mk_size, List.size_toArray, ByteArray.size_append, ByteArray.size_extract, List.length_cons, List.length_nil]); omega) ?_)
    | (refine And.intro (by (try simp only [mk_size, List.size_toArray, ByteArray.size_append, ByteArray.size_extract, List.length_cons, List.length_nil, wrap64_eq]); omega) ?_)
    | fail)
  refine LoopR.live (fun i : Nat => [(0, .sl b ver 0 n cap), (1, I (k + (i * 6 : Nat))), (5, I i)]) (fun i => σ.set b (mB B k (i * 6))) (fun i => i ≤ n) (fun i => n - i) 0 ⟨rfl, slI' (by omega), rfl, trivial⟩ (.keep (by show σ.set b (mB B k (0 * 6)) = σ; rw [Nat.zero_mul, mB_zero, set_self hB])) (Nat.zero_le _) ?_
  intro i hi
  have hcur : ∃ B', (σ.set b (mB B k (i * 6)))[b]? = some B' ∧ B'.ver = ver := ⟨_, get_set hB, hv⟩
  by_cases hlt : i < n
  · skip
    repeat' ((conv => whnf); first
      | (refine And.intro rfl ?_)
      | (refine And.intro (by decide +kernel) ?_)
      | (refine And.intro trivial ?_)
      | (refine And.intro hcur ?_)
      | (refine Exists.intro _ (And.intro rfl (And.intro rfl (And.intro (Nat.le_of_ble_eq_true rfl) ?_))))
      | (refine Exists.intro _ (And.intro rfl (And.intro rfl (And.intro rfl (And.intro (Nat.le_of_ble_eq_true rfl) ?_)))))
      | (refine And.intro (Exists.intro _ (And.intro rfl rfl)) ?_)
      | (exact fun hW => absurd hW (by decide +kernel))
      | (intro hW; (try simp only [Bool.not_true, Bool.not_false, Bool.not_eq_true', Bool.not_eq_false', decide_eq_true_eq, decide_eq_false_iff_not, reduceCtorEq, Bool.true_eq_false, Bool.false_eq_true, mk_size, List.size_toArray, ByteArray.size_append, ByteArray.size_extract, List.length_cons, List.length_nil, ba_get, ba_empty, Int.toNat_natCast] at hW))
      | (refine And.intro (?_ : _ → _) (?_ : _ → _))
      | (refine FinR.drop 0 (Nat.zero_le _) (Closed.zero _) rfl ?_)
      | (refine FinR.keep ?_)
      | (refine And.intro (det3_agg rfl) ?_)
      | (refine fL_mk ?_)
      | (refine And.intro (by (try simp only [mk_size, List.size_toArray, ByteArray.size_append, ByteArray.size_extract, List.length_cons, List.length_nil]); omega) ?_)
      | (refine And.intro (by (try simp only [mk_size, List.size_toArray, ByteArray.size_append, ByteArray.size_extract, List.length_cons, List.length_nil, wrap64_eq]); omega) ?_)
      | fail)
    all_goals first | (exfalso; omega) | skip
    refine LoopR.live (fun j : Nat => [(0, .sl b ver 0 n cap), (1, I (k + (i * 6 + j : Nat))), (5, I i), (6, I j)]) (fun j => σ.set b (mB B k (i * 6 + j))) (fun j => j ≤ 6) (fun j => 6 - j) 0 ⟨rfl, rfl, rfl, rfl, trivial⟩ (.keep rfl) (Nat.zero_le _) ?_
    intro j hj
    have hcur2 : ∃ B', (σ.set b (mB B k (i * 6 + j)))[b]? = some B' ∧ B'.ver = ver := ⟨_, get_set hB, hv⟩
    by_cases hlt2 : j < 6
    · skip
      repeat' ((conv => whnf); first
        | (refine And.intro rfl ?_)
        | (refine And.intro (by decide +kernel) ?_)
        | (refine And.intro trivial ?_)
        | (refine And.intro hcur2 ?_)
        | (refine st_mark hB hv (i * 6 + j) _ _ (by omega) rfl (by omega) ?_)
        | (refine Exists.intro _ (And.intro rfl (And.intro rfl (And.intro (Nat.le_of_ble_eq_true rfl) ?_))))
        | (refine Exists.intro _ (And.intro rfl (And.intro rfl (And.intro rfl (And.intro (Nat.le_of_ble_eq_true rfl) ?_)))))
        | (refine And.intro (Exists.intro _ (And.intro rfl rfl)) ?_)
        | (exact fun hW => absurd hW (by decide +kernel))
        | (intro hW; (try simp only [Bool.not_true, Bool.not_false, Bool.not_eq_true', Bool.not_eq_false', decide_eq_true_eq, decide_eq_false_iff_not, reduceCtorEq, Bool.true_eq_false, Bool.false_eq_true, mk_size, List.size_toArray, ByteArray.size_append, ByteArray.size_extract, List.length_cons, List.length_nil, ba_get, ba_empty, Int.toNat_natCast] at hW))
        | (refine And.intro (?_ : _ → _) (?_ : _ → _))
        | (refine FinR.drop 0 (Nat.zero_le _) (Closed.zero _) rfl ?_)
        | (refine FinR.keep ?_)
        | (refine And.intro (det3_agg rfl) ?_)
        | (refine fL_mk ?_)
        | (refine And.intro (by (try simp only [mk_size, List.size_toArray, ByteArray.size_append, ByteArray.size_extract, List.length_cons, List.length_nil]); omega) ?_)
        | (refine And.intro (by (try simp only [mk_size, List.size_toArray, ByteArray.size_append, ByteArray.size_extract, List.length_cons, List.length_nil, wrap64_eq]); omega) ?_)
        | fail)
      all_goals first | (exfalso; omega) | skip
      exact Again.go (j + 1) ⟨rfl, slI' (wadd k _ (by omega)), rfl, slI' (wsucc' j (by omega)), trivial⟩ (.keep rfl) (by omega) (by omega)
    · obtain rfl : j = 6 := by omega
      repeat' ((conv => whnf); first
        | (refine And.intro rfl ?_)
        | (refine And.intro (by decide +kernel) ?_)
        | (refine And.intro trivial ?_)
        | (refine Exists.intro _ (And.intro rfl (And.intro rfl (And.intro (Nat.le_of_ble_eq_true rfl) ?_))))
        | (refine Exists.intro _ (And.intro rfl (And.intro rfl (And.intro rfl (And.intro (Nat.le_of_ble_eq_true rfl) ?_)))))
        | (refine And.intro (Exists.intro _ (And.intro rfl rfl)) ?_)
        | (exact fun hW => absurd hW (by decide +kernel))
        | (intro hW; (try simp only [Bool.not_true, Bool.not_false, Bool.not_eq_true', Bool.not_eq_false', decide_eq_true_eq, decide_eq_false_iff_not, reduceCtorEq, Bool.true_eq_false, Bool.false_eq_true, mk_size, List.size_toArray, ByteArray.size_append, ByteArray.size_extract, List.length_cons, List.length_nil, ba_get, ba_empty, Int.toNat_natCast] at hW))
        | (refine And.intro (?_ : _ → _) (?_ : _ → _))
        | (refine FinR.drop 0 (Nat.zero_le _) (Closed.zero _) rfl ?_)
        | (refine FinR.keep ?_)
        | (refine And.intro (det3_agg rfl) ?_)
        | (refine fL_mk ?_)
        | (refine And.intro (by (try simp only [mk_size, List.size_toArray, ByteArray.size_append, ByteArray.size_extract, List.length_cons, List.length_nil]); omega) ?_)
        | (refine And.intro (by (try simp only [mk_size, List.size_toArray, ByteArray.size_append, ByteArray.size_extract, List.length_cons, List.length_nil, wrap64_eq]); omega) ?_)
        | fail)
      all_goals first | (exfalso; omega) | skip
      exact Again.go (i + 1) ⟨rfl, slI' (by omega), slI' (wsucc' i (by omega)), trivial⟩ (.keep (by rw [Nat.add_mul])) (by omega) (by omega)
  · obtain rfl : i = n := by omega
    repeat' ((conv => whnf); first
      | (refine And.intro rfl ?_)
      | (refine And.intro (by decide +kernel) ?_)
      | (refine And.intro trivial ?_)
      | (refine And.intro hcur ?_)
      | (refine Exists.intro _ (And.intro rfl (And.intro rfl (And.intro (Nat.le_of_ble_eq_true rfl) ?_))))
      | (refine Exists.intro _ (And.intro rfl (And.intro rfl (And.intro rfl (And.intro (Nat.le_of_ble_eq_true rfl) ?_)))))
      | (refine And.intro (Exists.intro _ (And.intro rfl rfl)) ?_)
      | (exact fun hW => absurd hW (by decide +kernel))
      | (intro hW; (try simp only [Bool.not_true, Bool.not_false, Bool.not_eq_true', Bool.not_eq_false', decide_eq_true_eq, decide_eq_false_iff_not, reduceCtorEq, Bool.true_eq_false, Bool.false_eq_true, mk_size, List.size_toArray, ByteArray.size_append, ByteArray.size_extract, List.length_cons, List.length_nil, ba_get, ba_empty, Int.toNat_natCast] at hW))
      | (refine And.intro (?_ : _ → _) (?_ : _ → _))
      | (refine FinR.drop 0 (Nat.zero_le _) (Closed.zero _) rfl ?_)
      | (refine FinR.keep ?_)
      | (refine And.intro (det3_agg rfl) ?_)
      | (refine fL_mk ?_)
      | (refine And.intro (by (try simp only [mk_size, List.size_toArray, ByteArray.size_append, ByteArray.size_extract, List.length_cons, List.length_nil]); omega) ?_)
      | (refine And.intro (by (try simp only [mk_size, List.size_toArray, ByteArray.size_append, ByteArray.size_extract, List.length_cons, List.length_nil, wrap64_eq]); omega) ?_)
      | fail)
    all_goals first | (exfalso; omega) | exact h0
theorem d_markStepS (b ver n cap : Nat) (B : Blk) (hB : σ[b]? = some B) (hv : B.ver = ver) (hn : n * 4 ≤ B.cells.length) (hn2 : n ≤ 1048576) (k : Int) (hk : 0 ≤ k ∧ k ≤ 16777216) (K : Cont) (h0 : K (I (k + (n * 4 : Nat))) (σ.set b (mB B k (n * 4)))) : ACall Try.prog W0 69 [.sl b ver 0 n cap, I k] σ K := by
  refine by69 (Nat.le_of_ble_eq_true rfl) ?_
  repeat' ((conv => whnf); first
    | (refine And.intro rfl ?_)
    | (refine And.intro (by decide +kernel) ?_)
    | (refine And.intro trivial ?_)
    | (refine Exists.intro _ (And.intro rfl (And.intro rfl (And.intro (Nat.le_of_ble_eq_true rfl) ?_))))
    | (refine Exists.intro _ (And.intro rfl (And.intro rfl (And.intro rfl (And.intro (Nat.le_of_ble_eq_true rfl) ?_)))))
    | (refine And.intro (Exists.intro _ (And.intro rfl rfl)) ?_)
    | (exact fun hW => absurd hW (by decide +kernel))
    | (intro hW; (try simp only [Bool.not_true, Bool.not_false, Bool.not_eq_true', Bool.not_eq_false', decide_eq_true_eq, decide_eq_false_iff_not, reduceCtorEq, Bool.true_eq_false, Bool.false_eq_true, mk_size, List.size_toArray, ByteArray.size_append, ByteArray.size_extract, List.length_cons, List.length_nil, ba_get, ba_empty, Int.toNat_natCast] at hW))
    | (refine And.intro (?_ : _ → _) (?_ : _ → _))
    | (refine FinR.drop 0 (Nat.zero_le _) (Closed.zero _) rfl ?_)
    | (refine FinR.keep ?_)
    | (refine And.intro (det3_agg rfl) ?_)
    | (refine fL_mk ?_)
    | (refine And.intro (by (try simp only [mk_size, List.size_toArray, ByteArray.size_append, ByteArray.size_extract, List.length_cons, List.length_nil]); omega) ?_)
    | (refine And.intro (by (try simp only [mk_size, List.size_toArray, ByteArray.size_append, ByteArray.size_extract, List.length_cons, List.length_nil, wrap64_eq]); omega) ?_)
    | fail)
  refine LoopR.live (fun i : Nat => [(0, .sl b ver 0 n cap), (1, I (k + (i * 4 : Nat))), (5, I i)]) (fun i => σ.set b (mB B k (i * 4))) (fun i => i ≤ n) (fun i => n - i) 0 ⟨rfl, slI' (by omega), rfl, trivial⟩ (.keep (by show σ.set b (mB B k (0 * 4)) = σ; rw [Nat.zero_mul, mB_zero, set_self hB])) (Nat.zero_le _) ?_
  intro i hi
  have hcur : ∃ B', (σ.set b (mB B k (i * 4)))[b]? = some B' ∧ B'.ver = ver := ⟨_, get_set hB, hv⟩
  have hcur1 : ∃ B', (σ.set b (mB B k (i * 4 + 1)))[b]? = some B' ∧ B'.ver = ver := ⟨_, get_set hB, hv⟩
  by_cases hlt : i < n
  · have ew : IntKind.i64.wrap (k + (i * 4 : Nat) + 1) = k + (i * 4 + 1 : Nat) := by rw [wrap_i64 _ (by omega) (by omega)]; omega
    repeat' ((conv => whnf); first
      | (refine And.intro rfl ?_)
      | (refine And.intro (by decide +kernel) ?_)
      | (refine And.intro trivial ?_)
      | (refine And.intro hcur ?_)
      | (refine And.intro hcur1 ?_)
      | (refine st_mark hB hv (i * 4) _ _ (by omega) rfl (by omega) ?_)
      | (refine st_mark hB hv (i * 4 + 1) _ _ (by omega) ew (by omega) ?_)
      | (refine Exists.intro _ (And.intro rfl (And.intro rfl (And.intro (Nat.le_of_ble_eq_true rfl) ?_))))
      | (refine Exists.intro _ (And.intro rfl (And.intro rfl (And.intro rfl (And.intro (Nat.le_of_ble_eq_true rfl) ?_)))))
      | (refine And.intro (Exists.intro _ (And.intro rfl rfl)) ?_)
      | (exact fun hW => absurd hW (by decide +kernel))
      | (intro hW; (try simp only [Bool.not_true, Bool.not_false, Bool.not_eq_true', Bool.not_eq_false', decide_eq_true_eq, decide_eq_false_iff_not, reduceCtorEq, Bool.true_eq_false, Bool.false_eq_true, mk_size, List.size_toArray, ByteArray.size_append, ByteArray.size_extract, List.length_cons, List.length_nil, ba_get, ba_empty, Int.toNat_natCast] at hW))
      | (refine And.intro (?_ : _ → _) (?_ : _ → _))
      | (refine FinR.drop 0 (Nat.zero_le _) (Closed.zero _) rfl ?_)
      | (refine FinR.keep ?_)
      | (refine And.intro (det3_agg rfl) ?_)
      | (refine fL_mk ?_)
      | (refine And.intro (by (try simp only [mk_size, List.size_toArray, ByteArray.size_append, ByteArray.size_extract, List.length_cons, List.length_nil]); omega) ?_)
      | (refine And.intro (by (try simp only [mk_size, List.size_toArray, ByteArray.size_append, ByteArray.size_extract, List.length_cons, List.length_nil, wrap64_eq]); omega) ?_)
      | fail)
    all_goals first | (exfalso; omega) | skip
    refine LoopR.live (fun j : Nat => [(0, .sl b ver 0 n cap), (1, I (k + (i * 4 + 2 + j : Nat))), (5, I i), (6, I j)]) (fun j => σ.set b (mB B k (i * 4 + 2 + j))) (fun j => j ≤ 2) (fun j => 2 - j) 0 ⟨rfl, slI' (by rw [ew, wadd k _ (by omega)]), rfl, rfl, trivial⟩ (.keep rfl) (Nat.zero_le _) ?_
    intro j hj
    have hcur2 : ∃ B', (σ.set b (mB B k (i * 4 + 2 + j)))[b]? = some B' ∧ B'.ver = ver := ⟨_, get_set hB, hv⟩
    by_cases hlt2 : j < 2
    · skip
      repeat' ((conv => whnf); first
        | (refine And.intro rfl ?_)
        | (refine And.intro (by decide +kernel) ?_)
        | (refine And.intro trivial ?_)
        | (refine And.intro hcur2 ?_)
        | (refine st_mark hB hv (i * 4 + 2 + j) _ _ (by omega) rfl (by omega) ?_)
        | (refine Exists.intro _ (And.intro rfl (And.intro rfl (And.intro (Nat.le_of_ble_eq_true rfl) ?_))))
        | (refine Exists.intro _ (And.intro rfl (And.intro rfl (And.intro rfl (And.intro (Nat.le_of_ble_eq_true rfl) ?_)))))
        | (refine And.intro (Exists.intro _ (And.intro rfl rfl)) ?_)
        | (exact fun hW => absurd hW (by decide +kernel))
        | (intro hW; (try simp only [Bool.not_true, Bool.not_false, Bool.not_eq_true', Bool.not_eq_false', decide_eq_true_eq, decide_eq_false_iff_not, reduceCtorEq, Bool.true_eq_false, Bool.false_eq_true, mk_size, List.size_toArray, ByteArray.size_append, ByteArray.size_extract, List.length_cons, List.length_nil, ba_get, ba_empty, Int.toNat_natCast] at hW))
        | (refine And.intro (?_ : _ → _) (?_ : _ → _))
        | (refine FinR.drop 0 (Nat.zero_le _) (Closed.zero _) rfl ?_)
        | (refine FinR.keep ?_)
        | (refine And.intro (det3_agg rfl) ?_)
        | (refine fL_mk ?_)
        | (refine And.intro (by (try simp only [mk_size, List.size_toArray, ByteArray.size_append, ByteArray.size_extract, List.length_cons, List.length_nil]); omega) ?_)
        | (refine And.intro (by (try simp only [mk_size, List.size_toArray, ByteArray.size_append, ByteArray.size_extract, List.length_cons, List.length_nil, wrap64_eq]); omega) ?_)
        | fail)
      all_goals first | (exfalso; omega) | skip
      exact Again.go (j + 1) ⟨rfl, slI' (wadd k _ (by omega)), rfl, slI' (wsucc' j (by omega)), trivial⟩ (.keep rfl) (by omega) (by omega)
    · obtain rfl : j = 2 := by omega
      repeat' ((conv => whnf); first
        | (refine And.intro rfl ?_)
        | (refine And.intro (by decide +kernel) ?_)
        | (refine And.intro trivial ?_)
        | (refine Exists.intro _ (And.intro rfl (And.intro rfl (And.intro (Nat.le_of_ble_eq_true rfl) ?_))))
        | (refine Exists.intro _ (And.intro rfl (And.intro rfl (And.intro rfl (And.intro (Nat.le_of_ble_eq_true rfl) ?_)))))
        | (refine And.intro (Exists.intro _ (And.intro rfl rfl)) ?_)
        | (exact fun hW => absurd hW (by decide +kernel))
        | (intro hW; (try simp only [Bool.not_true, Bool.not_false, Bool.not_eq_true', Bool.not_eq_false', decide_eq_true_eq, decide_eq_false_iff_not, reduceCtorEq, Bool.true_eq_false, Bool.false_eq_true, mk_size, List.size_toArray, ByteArray.size_append, ByteArray.size_extract, List.length_cons, List.length_nil, ba_get, ba_empty, Int.toNat_natCast] at hW))
        | (refine And.intro (?_ : _ → _) (?_ : _ → _))
        | (refine FinR.drop 0 (Nat.zero_le _) (Closed.zero _) rfl ?_)
        | (refine FinR.keep ?_)
        | (refine And.intro (det3_agg rfl) ?_)
        | (refine fL_mk ?_)
        | (refine And.intro (by (try simp only [mk_size, List.size_toArray, ByteArray.size_append, ByteArray.size_extract, List.length_cons, List.length_nil]); omega) ?_)
        | (refine And.intro (by (try simp only [mk_size, List.size_toArray, ByteArray.size_append, ByteArray.size_extract, List.length_cons, List.length_nil, wrap64_eq]); omega) ?_)
        | fail)
      all_goals first | (exfalso; omega) | skip
      exact Again.go (i + 1) ⟨rfl, slI' (by omega), slI' (wsucc' i (by omega)), trivial⟩ (.keep (by rw [Nat.add_mul])) (by omega) (by omega)
  · obtain rfl : i = n := by omega
    repeat' ((conv => whnf); first
      | (refine And.intro rfl ?_)
      | (refine And.intro (by decide +kernel) ?_)
      | (refine And.intro trivial ?_)
      | (refine And.intro hcur ?_)
      | (refine Exists.intro _ (And.intro rfl (And.intro rfl (And.intro (Nat.le_of_ble_eq_true rfl) ?_))))
      | (refine Exists.intro _ (And.intro rfl (And.intro rfl (And.intro rfl (And.intro (Nat.le_of_ble_eq_true rfl) ?_)))))
      | (refine And.intro (Exists.intro _ (And.intro rfl rfl)) ?_)
      | (exact fun hW => absurd hW (by decide +kernel))
      | (intro hW; (try simp only [Bool.not_true, Bool.not_false, Bool.not_eq_true', Bool.not_eq_false', decide_eq_true_eq, decide_eq_false_iff_not, reduceCtorEq, Bool.true_eq_false, Bool.false_eq_true, mk_size, List.size_toArray, ByteArray.size_append, ByteArray.size_extract, List.length_cons, List.length_nil, ba_get, ba_empty, Int.toNat_natCast] at hW))
      | (refine And.intro (?_ : _ → _) (?_ : _ → _))
      | (refine FinR.drop 0 (Nat.zero_le _) (Closed.zero _) rfl ?_)
      | (refine FinR.keep ?_)
      | (refine And.intro (det3_agg rfl) ?_)
      | (refine fL_mk ?_)
      | (refine And.intro (by (try simp only [mk_size, List.size_toArray, ByteArray.size_append, ByteArray.size_extract, List.length_cons, List.length_nil]); omega) ?_)
      | (refine And.intro (by (try simp only [mk_size, List.size_toArray, ByteArray.size_append, ByteArray.size_extract, List.length_cons, List.length_nil, wrap64_eq]); omega) ?_)
      | fail)
    all_goals first | (exfalso; omega) | exact h0
theorem c_heldSheetS (a : AV) (n : Nat) (k : Int) (ha : Sli W0 [] 6 enI a (rowsM k 6 n)) (hn2 : n ≤ 1048576) (hk : 0 ≤ k ∧ k ≤ 16777216) (K : Cont) (h0 : K (I (k + (n * 6 : Nat))) []) : ACall Try.prog W0 70 [a, I k] [] K := by
  refine by70 (Nat.le_of_ble_eq_true rfl) ?_
  have hl := rowsM_len k 6 n
  generalize hm : rowsM k 6 n = xs at ha hl
  obtain ⟨o, n', cap, rfl, hn, hc, hcm, hf⟩ := sli_form ha
  rw [hl] at hn
  subst hn
  repeat' ((conv => whnf); first
    | (refine And.intro rfl ?_)
    | (refine And.intro (by decide +kernel) ?_)
    | (refine And.intro trivial ?_)
    | (refine Exists.intro _ (And.intro rfl (And.intro rfl (And.intro (Nat.le_of_ble_eq_true rfl) ?_))))
    | (refine Exists.intro _ (And.intro rfl (And.intro rfl (And.intro rfl (And.intro (Nat.le_of_ble_eq_true rfl) ?_)))))
    | (refine And.intro (Exists.intro _ (And.intro rfl rfl)) ?_)
    | (exact fun hW => absurd hW (by decide +kernel))
    | (intro hW; (try simp only [Bool.not_true, Bool.not_false, Bool.not_eq_true', Bool.not_eq_false', decide_eq_true_eq, decide_eq_false_iff_not, reduceCtorEq, Bool.true_eq_false, Bool.false_eq_true, mk_size, List.size_toArray, ByteArray.size_append, ByteArray.size_extract, List.length_cons, List.length_nil, ba_get, ba_empty, Int.toNat_natCast] at hW))
    | (refine And.intro (?_ : _ → _) (?_ : _ → _))
    | (refine FinR.drop 0 (Nat.zero_le _) (Closed.zero _) rfl ?_)
    | (refine FinR.keep ?_)
    | (refine And.intro (det3_agg rfl) ?_)
    | (refine fL_mk ?_)
    | (refine And.intro (by (try simp only [mk_size, List.size_toArray, ByteArray.size_append, ByteArray.size_extract, List.length_cons, List.length_nil]); omega) ?_)
    | (refine And.intro (by (try simp only [mk_size, List.size_toArray, ByteArray.size_append, ByteArray.size_extract, List.length_cons, List.length_nil, wrap64_eq]); omega) ?_)
    | fail)
  refine LoopR.live (fun i : Nat => [(0, .lit (.slice o n' cap)), (1, I (k + (i * 6 : Nat))), (5, I i)]) (fun i => []) (fun i => i ≤ n') (fun i => n' - i) 0 ⟨rfl, slI' (by omega), rfl, trivial⟩ (.keep rfl) (Nat.zero_le _) ?_
  intro i hi
  by_cases hlt : i < n'
  · have hxi : xs[i]? = some [k + (i * 6 : Nat), k + (i * 6 : Nat) + 1, k + (i * 6 : Nat) + 2, k + (i * 6 : Nat) + 3, k + (i * 6 : Nat) + 4, k + (i * 6 : Nat) + 5] := by rw [← hm, rowsM_get k 6 hlt]; simp [marks, List.range_succ]
    obtain ⟨ad, rfl, hb, hxx⟩ := hf i _ hxi
    have hld0 := fun C h => ldInF (W0 := W0) (s := 6) (enc := enI) hb hxx (k := i) hxi 0 1 rfl (C := C) h
    have hld1 := fun C h => ldInF (W0 := W0) (s := 6) (enc := enI) hb hxx (k := i) hxi 1 1 rfl (C := C) h
    have hld2 := fun C h => ldInF (W0 := W0) (s := 6) (enc := enI) hb hxx (k := i) hxi 2 1 rfl (C := C) h
    have hld3 := fun C h => ldInF (W0 := W0) (s := 6) (enc := enI) hb hxx (k := i) hxi 3 1 rfl (C := C) h
    have hld4 := fun C h => ldInF (W0 := W0) (s := 6) (enc := enI) hb hxx (k := i) hxi 4 1 rfl (C := C) h
    have hld5 := fun C h => ldInF (W0 := W0) (s := 6) (enc := enI) hb hxx (k := i) hxi 5 1 rfl (C := C) h
    repeat' ((conv => whnf); first
      | (refine And.intro rfl ?_)
      | (refine And.intro (by decide +kernel) ?_)
      | (refine And.intro trivial ?_)
      | (refine Exists.intro _ (And.intro rfl (And.intro rfl (And.intro (Nat.le_of_ble_eq_true rfl) ?_))))
      | (refine Exists.intro _ (And.intro rfl (And.intro rfl (And.intro rfl (And.intro (Nat.le_of_ble_eq_true rfl) ?_)))))
      | (refine And.intro (Exists.intro _ (And.intro rfl rfl)) ?_)
      | (exact fun hW => absurd hW (by decide +kernel))
      | (intro hW; (try simp only [Bool.not_true, Bool.not_false, Bool.not_eq_true', Bool.not_eq_false', decide_eq_true_eq, decide_eq_false_iff_not, reduceCtorEq, Bool.true_eq_false, Bool.false_eq_true, mk_size, List.size_toArray, ByteArray.size_append, ByteArray.size_extract, List.length_cons, List.length_nil, ba_get, ba_empty, Int.toNat_natCast] at hW))
      | (refine And.intro (?_ : _ → _) (?_ : _ → _))
      | (refine FinR.drop 0 (Nat.zero_le _) (Closed.zero _) rfl ?_)
      | (refine FinR.keep ?_)
      | (refine And.intro (det3_agg rfl) ?_)
      | (refine fL_mk ?_)
      | (refine And.intro (by (try simp only [mk_size, List.size_toArray, ByteArray.size_append, ByteArray.size_extract, List.length_cons, List.length_nil]); omega) ?_)
      | (refine And.intro (by (try simp only [mk_size, List.size_toArray, ByteArray.size_append, ByteArray.size_extract, List.length_cons, List.length_nil, wrap64_eq]); omega) ?_)
      | fail)
    all_goals first | (exfalso; omega) | skip
    refine LoopR.live (fun j : Nat => [(0, .lit (.slice (some ad) n' cap)), (1, I (k + (i * 6 + j : Nat))), (5, I i), (6, I j)]) (fun j => []) (fun j => j ≤ 6) (fun j => 6 - j) 0 ⟨rfl, rfl, rfl, rfl, trivial⟩ (.keep rfl) (Nat.zero_le _) ?_
    intro j hj
    have hj7 : j = 0 ∨ j = 1 ∨ j = 2 ∨ j = 3 ∨ j = 4 ∨ j = 5 ∨ j = 6 := by omega
    obtain rfl | rfl | rfl | rfl | rfl | rfl | rfl := hj7
    · skip
      repeat' ((conv => whnf); first
        | (refine And.intro rfl ?_)
        | (refine And.intro (by decide +kernel) ?_)
        | (refine And.intro trivial ?_)
        | (refine hld0 _ ?_)
        | (refine Exists.intro _ (And.intro rfl (And.intro rfl (And.intro (Nat.le_of_ble_eq_true rfl) ?_))))
        | (refine Exists.intro _ (And.intro rfl (And.intro rfl (And.intro rfl (And.intro (Nat.le_of_ble_eq_true rfl) ?_)))))
        | (refine And.intro (Exists.intro _ (And.intro rfl rfl)) ?_)
        | (exact fun hW => absurd hW (by decide +kernel))
        | (intro hW; (try simp only [Bool.not_true, Bool.not_false, Bool.not_eq_true', Bool.not_eq_false', decide_eq_true_eq, decide_eq_false_iff_not, reduceCtorEq, Bool.true_eq_false, Bool.false_eq_true, mk_size, List.size_toArray, ByteArray.size_append, ByteArray.size_extract, List.length_cons, List.length_nil, ba_get, ba_empty, Int.toNat_natCast] at hW))
        | (refine And.intro (?_ : _ → _) (?_ : _ → _))
        | (refine FinR.drop 0 (Nat.zero_le _) (Closed.zero _) rfl ?_)
        | (refine FinR.keep ?_)
        | (refine And.intro (det3_agg rfl) ?_)
        | (refine fL_mk ?_)
        | (refine And.intro (by (try simp only [mk_size, List.size_toArray, ByteArray.size_append, ByteArray.size_extract, List.length_cons, List.length_nil]); omega) ?_)
        | (refine And.intro (by (try simp only [mk_size, List.size_toArray, ByteArray.size_append, ByteArray.size_extract, List.length_cons, List.length_nil, wrap64_eq]); omega) ?_)
        | fail)
      all_goals first | (exfalso; omega) | exact Again.go 1 ⟨rfl, slI' (wadd k _ (by omega)), rfl, rfl, trivial⟩ (.keep rfl) (by omega) (by omega)
    · skip
      repeat' ((conv => whnf); first
        | (refine And.intro rfl ?_)
        | (refine And.intro (by decide +kernel) ?_)
        | (refine And.intro trivial ?_)
        | (refine hld1 _ ?_)
        | (refine Exists.intro _ (And.intro rfl (And.intro rfl (And.intro (Nat.le_of_ble_eq_true rfl) ?_))))
        | (refine Exists.intro _ (And.intro rfl (And.intro rfl (And.intro rfl (And.intro (Nat.le_of_ble_eq_true rfl) ?_)))))
        | (refine And.intro (Exists.intro _ (And.intro rfl rfl)) ?_)
        | (exact fun hW => absurd hW (by decide +kernel))
        | (intro hW; (try simp only [Bool.not_true, Bool.not_false, Bool.not_eq_true', Bool.not_eq_false', decide_eq_true_eq, decide_eq_false_iff_not, reduceCtorEq, Bool.true_eq_false, Bool.false_eq_true, mk_size, List.size_toArray, ByteArray.size_append, ByteArray.size_extract, List.length_cons, List.length_nil, ba_get, ba_empty, Int.toNat_natCast] at hW))
        | (refine And.intro (?_ : _ → _) (?_ : _ → _))
        | (refine FinR.drop 0 (Nat.zero_le _) (Closed.zero _) rfl ?_)
        | (refine FinR.keep ?_)
        | (refine And.intro (det3_agg rfl) ?_)
        | (refine fL_mk ?_)
        | (refine And.intro (by (try simp only [mk_size, List.size_toArray, ByteArray.size_append, ByteArray.size_extract, List.length_cons, List.length_nil]); omega) ?_)
        | (refine And.intro (by (try simp only [mk_size, List.size_toArray, ByteArray.size_append, ByteArray.size_extract, List.length_cons, List.length_nil, wrap64_eq]); omega) ?_)
        | fail)
      all_goals first | (exfalso; omega) | exact Again.go 2 ⟨rfl, slI' (wadd k _ (by omega)), rfl, rfl, trivial⟩ (.keep rfl) (by omega) (by omega)
    · skip
      repeat' ((conv => whnf); first
        | (refine And.intro rfl ?_)
        | (refine And.intro (by decide +kernel) ?_)
        | (refine And.intro trivial ?_)
        | (refine hld2 _ ?_)
        | (refine Exists.intro _ (And.intro rfl (And.intro rfl (And.intro (Nat.le_of_ble_eq_true rfl) ?_))))
        | (refine Exists.intro _ (And.intro rfl (And.intro rfl (And.intro rfl (And.intro (Nat.le_of_ble_eq_true rfl) ?_)))))
        | (refine And.intro (Exists.intro _ (And.intro rfl rfl)) ?_)
        | (exact fun hW => absurd hW (by decide +kernel))
        | (intro hW; (try simp only [Bool.not_true, Bool.not_false, Bool.not_eq_true', Bool.not_eq_false', decide_eq_true_eq, decide_eq_false_iff_not, reduceCtorEq, Bool.true_eq_false, Bool.false_eq_true, mk_size, List.size_toArray, ByteArray.size_append, ByteArray.size_extract, List.length_cons, List.length_nil, ba_get, ba_empty, Int.toNat_natCast] at hW))
        | (refine And.intro (?_ : _ → _) (?_ : _ → _))
        | (refine FinR.drop 0 (Nat.zero_le _) (Closed.zero _) rfl ?_)
        | (refine FinR.keep ?_)
        | (refine And.intro (det3_agg rfl) ?_)
        | (refine fL_mk ?_)
        | (refine And.intro (by (try simp only [mk_size, List.size_toArray, ByteArray.size_append, ByteArray.size_extract, List.length_cons, List.length_nil]); omega) ?_)
        | (refine And.intro (by (try simp only [mk_size, List.size_toArray, ByteArray.size_append, ByteArray.size_extract, List.length_cons, List.length_nil, wrap64_eq]); omega) ?_)
        | fail)
      all_goals first | (exfalso; omega) | exact Again.go 3 ⟨rfl, slI' (wadd k _ (by omega)), rfl, rfl, trivial⟩ (.keep rfl) (by omega) (by omega)
    · skip
      repeat' ((conv => whnf); first
        | (refine And.intro rfl ?_)
        | (refine And.intro (by decide +kernel) ?_)
        | (refine And.intro trivial ?_)
        | (refine hld3 _ ?_)
        | (refine Exists.intro _ (And.intro rfl (And.intro rfl (And.intro (Nat.le_of_ble_eq_true rfl) ?_))))
        | (refine Exists.intro _ (And.intro rfl (And.intro rfl (And.intro rfl (And.intro (Nat.le_of_ble_eq_true rfl) ?_)))))
        | (refine And.intro (Exists.intro _ (And.intro rfl rfl)) ?_)
        | (exact fun hW => absurd hW (by decide +kernel))
        | (intro hW; (try simp only [Bool.not_true, Bool.not_false, Bool.not_eq_true', Bool.not_eq_false', decide_eq_true_eq, decide_eq_false_iff_not, reduceCtorEq, Bool.true_eq_false, Bool.false_eq_true, mk_size, List.size_toArray, ByteArray.size_append, ByteArray.size_extract, List.length_cons, List.length_nil, ba_get, ba_empty, Int.toNat_natCast] at hW))
        | (refine And.intro (?_ : _ → _) (?_ : _ → _))
        | (refine FinR.drop 0 (Nat.zero_le _) (Closed.zero _) rfl ?_)
        | (refine FinR.keep ?_)
        | (refine And.intro (det3_agg rfl) ?_)
        | (refine fL_mk ?_)
        | (refine And.intro (by (try simp only [mk_size, List.size_toArray, ByteArray.size_append, ByteArray.size_extract, List.length_cons, List.length_nil]); omega) ?_)
        | (refine And.intro (by (try simp only [mk_size, List.size_toArray, ByteArray.size_append, ByteArray.size_extract, List.length_cons, List.length_nil, wrap64_eq]); omega) ?_)
        | fail)
      all_goals first | (exfalso; omega) | exact Again.go 4 ⟨rfl, slI' (wadd k _ (by omega)), rfl, rfl, trivial⟩ (.keep rfl) (by omega) (by omega)
    · skip
      repeat' ((conv => whnf); first
        | (refine And.intro rfl ?_)
        | (refine And.intro (by decide +kernel) ?_)
        | (refine And.intro trivial ?_)
        | (refine hld4 _ ?_)
        | (refine Exists.intro _ (And.intro rfl (And.intro rfl (And.intro (Nat.le_of_ble_eq_true rfl) ?_))))
        | (refine Exists.intro _ (And.intro rfl (And.intro rfl (And.intro rfl (And.intro (Nat.le_of_ble_eq_true rfl) ?_)))))
        | (refine And.intro (Exists.intro _ (And.intro rfl rfl)) ?_)
        | (exact fun hW => absurd hW (by decide +kernel))
        | (intro hW; (try simp only [Bool.not_true, Bool.not_false, Bool.not_eq_true', Bool.not_eq_false', decide_eq_true_eq, decide_eq_false_iff_not, reduceCtorEq, Bool.true_eq_false, Bool.false_eq_true, mk_size, List.size_toArray, ByteArray.size_append, ByteArray.size_extract, List.length_cons, List.length_nil, ba_get, ba_empty, Int.toNat_natCast] at hW))
        | (refine And.intro (?_ : _ → _) (?_ : _ → _))
        | (refine FinR.drop 0 (Nat.zero_le _) (Closed.zero _) rfl ?_)
        | (refine FinR.keep ?_)
        | (refine And.intro (det3_agg rfl) ?_)
        | (refine fL_mk ?_)
        | (refine And.intro (by (try simp only [mk_size, List.size_toArray, ByteArray.size_append, ByteArray.size_extract, List.length_cons, List.length_nil]); omega) ?_)
        | (refine And.intro (by (try simp only [mk_size, List.size_toArray, ByteArray.size_append, ByteArray.size_extract, List.length_cons, List.length_nil, wrap64_eq]); omega) ?_)
        | fail)
      all_goals first | (exfalso; omega) | exact Again.go 5 ⟨rfl, slI' (wadd k _ (by omega)), rfl, rfl, trivial⟩ (.keep rfl) (by omega) (by omega)
    · skip
      repeat' ((conv => whnf); first
        | (refine And.intro rfl ?_)
        | (refine And.intro (by decide +kernel) ?_)
        | (refine And.intro trivial ?_)
        | (refine hld5 _ ?_)
        | (refine Exists.intro _ (And.intro rfl (And.intro rfl (And.intro (Nat.le_of_ble_eq_true rfl) ?_))))
        | (refine Exists.intro _ (And.intro rfl (And.intro rfl (And.intro rfl (And.intro (Nat.le_of_ble_eq_true rfl) ?_)))))
        | (refine And.intro (Exists.intro _ (And.intro rfl rfl)) ?_)
        | (exact fun hW => absurd hW (by decide +kernel))
        | (intro hW; (try simp only [Bool.not_true, Bool.not_false, Bool.not_eq_true', Bool.not_eq_false', decide_eq_true_eq, decide_eq_false_iff_not, reduceCtorEq, Bool.true_eq_false, Bool.false_eq_true, mk_size, List.size_toArray, ByteArray.size_append, ByteArray.size_extract, List.length_cons, List.length_nil, ba_get, ba_empty, Int.toNat_natCast] at hW))
        | (refine And.intro (?_ : _ → _) (?_ : _ → _))
        | (refine FinR.drop 0 (Nat.zero_le _) (Closed.zero _) rfl ?_)
        | (refine FinR.keep ?_)
        | (refine And.intro (det3_agg rfl) ?_)
        | (refine fL_mk ?_)
        | (refine And.intro (by (try simp only [mk_size, List.size_toArray, ByteArray.size_append, ByteArray.size_extract, List.length_cons, List.length_nil]); omega) ?_)
        | (refine And.intro (by (try simp only [mk_size, List.size_toArray, ByteArray.size_append, ByteArray.size_extract, List.length_cons, List.length_nil, wrap64_eq]); omega) ?_)
        | fail)
      all_goals first | (exfalso; omega) | exact Again.go 6 ⟨rfl, slI' (wadd k _ (by omega)), rfl, rfl, trivial⟩ (.keep rfl) (by omega) (by omega)
    · skip
      repeat' ((conv => whnf); first
        | (refine And.intro rfl ?_)
        | (refine And.intro (by decide +kernel) ?_)
        | (refine And.intro trivial ?_)
        | (refine Exists.intro _ (And.intro rfl (And.intro rfl (And.intro (Nat.le_of_ble_eq_true rfl) ?_))))
        | (refine Exists.intro _ (And.intro rfl (And.intro rfl (And.intro rfl (And.intro (Nat.le_of_ble_eq_true rfl) ?_)))))
        | (refine And.intro (Exists.intro _ (And.intro rfl rfl)) ?_)
        | (exact fun hW => absurd hW (by decide +kernel))
        | (intro hW; (try simp only [Bool.not_true, Bool.not_false, Bool.not_eq_true', Bool.not_eq_false', decide_eq_true_eq, decide_eq_false_iff_not, reduceCtorEq, Bool.true_eq_false, Bool.false_eq_true, mk_size, List.size_toArray, ByteArray.size_append, ByteArray.size_extract, List.length_cons, List.length_nil, ba_get, ba_empty, Int.toNat_natCast] at hW))
        | (refine And.intro (?_ : _ → _) (?_ : _ → _))
        | (refine FinR.drop 0 (Nat.zero_le _) (Closed.zero _) rfl ?_)
        | (refine FinR.keep ?_)
        | (refine And.intro (det3_agg rfl) ?_)
        | (refine fL_mk ?_)
        | (refine And.intro (by (try simp only [mk_size, List.size_toArray, ByteArray.size_append, ByteArray.size_extract, List.length_cons, List.length_nil]); omega) ?_)
        | (refine And.intro (by (try simp only [mk_size, List.size_toArray, ByteArray.size_append, ByteArray.size_extract, List.length_cons, List.length_nil, wrap64_eq]); omega) ?_)
        | fail)
      all_goals first | (exfalso; omega) | exact Again.go (i + 1) ⟨rfl, slI' (by omega), slI' (wsucc' i (by omega)), trivial⟩ (.keep rfl) (by omega) (by omega)
  · obtain rfl : i = n' := by omega
    repeat' ((conv => whnf); first
      | (refine And.intro rfl ?_)
      | (refine And.intro (by decide +kernel) ?_)
      | (refine And.intro trivial ?_)
      | (refine Exists.intro _ (And.intro rfl (And.intro rfl (And.intro (Nat.le_of_ble_eq_true rfl) ?_))))
      | (refine Exists.intro _ (And.intro rfl (And.intro rfl (And.intro rfl (And.intro (Nat.le_of_ble_eq_true rfl) ?_)))))
      | (refine And.intro (Exists.intro _ (And.intro rfl rfl)) ?_)
      | (exact fun hW => absurd hW (by decide +kernel))
      | (intro hW; (try simp only [Bool.not_true, Bool.not_false, Bool.not_eq_true', Bool.not_eq_false', decide_eq_true_eq, decide_eq_false_iff_not, reduceCtorEq, Bool.true_eq_false, Bool.false_eq_true, mk_size, List.size_toArray, ByteArray.size_append, ByteArray.size_extract, List.length_cons, List.length_nil, ba_get, ba_empty, Int.toNat_natCast] at hW))
      | (refine And.intro (?_ : _ → _) (?_ : _ → _))
      | (refine FinR.drop 0 (Nat.zero_le _) (Closed.zero _) rfl ?_)
      | (refine FinR.keep ?_)
      | (refine And.intro (det3_agg rfl) ?_)
      | (refine fL_mk ?_)
      | (refine And.intro (by (try simp only [mk_size, List.size_toArray, ByteArray.size_append, ByteArray.size_extract, List.length_cons, List.length_nil]); omega) ?_)
      | (refine And.intro (by (try simp only [mk_size, List.size_toArray, ByteArray.size_append, ByteArray.size_extract, List.length_cons, List.length_nil, wrap64_eq]); omega) ?_)
      | fail)
    all_goals first | (exfalso; omega) | exact h0
theorem d_heldSheetS (a : AV) (n : Nat) (k : Int) (ha : Sli W0 σ 6 enI a (rowsM k 6 n)) (hn2 : n ≤ 1048576) (hk : 0 ≤ k ∧ k ≤ 16777216) (K : Cont) (h0 : K (I (k + (n * 6 : Nat))) σ) : ACall Try.prog W0 70 [a, I k] σ K :=
  lift_Sp (by kernel_rfl) rfl (fun _ => rfl) ha (fun W1 a' h K hK => c_heldSheetS a' n k h hn2 hk K hK) K h0
theorem c_heldStepS (a : AV) (n : Nat) (k : Int) (ha : Sli W0 [] 4 enI a (rowsM k 4 n)) (hn2 : n ≤ 1048576) (hk : 0 ≤ k ∧ k ≤ 16777216) (K : Cont) (h0 : K (I (k + (n * 4 : Nat))) []) : ACall Try.prog W0 71 [a, I k] [] K := by
  refine by71 (Nat.le_of_ble_eq_true rfl) ?_
  have hl := rowsM_len k 4 n
  generalize hm : rowsM k 4 n = xs at ha hl
  obtain ⟨o, n', cap, rfl, hn, hc, hcm, hf⟩ := sli_form ha
  rw [hl] at hn
  subst hn
  repeat' ((conv => whnf); first
    | (refine And.intro rfl ?_)
    | (refine And.intro (by decide +kernel) ?_)
    | (refine And.intro trivial ?_)
    | (refine Exists.intro _ (And.intro rfl (And.intro rfl (And.intro (Nat.le_of_ble_eq_true rfl) ?_))))
    | (refine Exists.intro _ (And.intro rfl (And.intro rfl (And.intro rfl (And.intro (Nat.le_of_ble_eq_true rfl) ?_)))))
    | (refine And.intro (Exists.intro _ (And.intro rfl rfl)) ?_)
    | (exact fun hW => absurd hW (by decide +kernel))
    | (intro hW; (try simp only [Bool.not_true, Bool.not_false, Bool.not_eq_true', Bool.not_eq_false', decide_eq_true_eq, decide_eq_false_iff_not, reduceCtorEq, Bool.true_eq_false, Bool.false_eq_true, mk_size, List.size_toArray, ByteArray.size_append, ByteArray.size_extract, List.length_cons, List.length_nil, ba_get, ba_empty, Int.toNat_natCast] at hW))
    | (refine And.intro (?_ : _ → _) (?_ : _ → _))
    | (refine FinR.drop 0 (Nat.zero_le _) (Closed.zero _) rfl ?_)
    | (refine FinR.keep ?_)
    | (refine And.intro (det3_agg rfl) ?_)
    | (refine fL_mk ?_)
    | (refine And.intro (by (try simp only [mk_size, List.size_toArray, ByteArray.size_append, ByteArray.size_extract, List.length_cons, List.length_nil]); omega) ?_)
    | (refine And.intro (by (try simp only [mk_size, List.size_toArray, ByteArray.size_append, ByteArray.size_extract, List.length_cons, List.length_nil, wrap64_eq]); omega) ?_)
    | fail)
  refine LoopR.live (fun i : Nat => [(0, .lit (.slice o n' cap)), (1, I (k + (i * 4 : Nat))), (5, I i)]) (fun i => []) (fun i => i ≤ n') (fun i => n' - i) 0 ⟨rfl, slI' (by omega), rfl, trivial⟩ (.keep rfl) (Nat.zero_le _) ?_
  intro i hi
  by_cases hlt : i < n'
  · have hxi : xs[i]? = some [k + (i * 4 : Nat), k + (i * 4 : Nat) + 1, k + (i * 4 : Nat) + 2, k + (i * 4 : Nat) + 3] := by rw [← hm, rowsM_get k 4 hlt]; simp [marks, List.range_succ]
    obtain ⟨ad, rfl, hb, hxx⟩ := hf i _ hxi
    have hld0 := fun C h => ldInF (W0 := W0) (s := 4) (enc := enI) hb hxx (k := i) hxi 0 1 rfl (C := C) h
    have hld1 := fun C h => ldInF (W0 := W0) (s := 4) (enc := enI) hb hxx (k := i) hxi 1 1 rfl (C := C) h
    have hld2 := fun C h => ldInF (W0 := W0) (s := 4) (enc := enI) hb hxx (k := i) hxi 2 1 rfl (C := C) h
    have hld3 := fun C h => ldInF (W0 := W0) (s := 4) (enc := enI) hb hxx (k := i) hxi 3 1 rfl (C := C) h
    have ew : IntKind.i64.wrap (k + (i * 4 : Nat) + 1) = k + (i * 4 + 1 : Nat) := by rw [wrap_i64 _ (by omega) (by omega)]; omega
    repeat' ((conv => whnf); first
      | (refine And.intro rfl ?_)
      | (refine And.intro (by decide +kernel) ?_)
      | (refine And.intro trivial ?_)
      | (refine hld0 _ ?_)
      | (refine hld1 _ ?_)
      | (refine Exists.intro _ (And.intro rfl (And.intro rfl (And.intro (Nat.le_of_ble_eq_true rfl) ?_))))
      | (refine Exists.intro _ (And.intro rfl (And.intro rfl (And.intro rfl (And.intro (Nat.le_of_ble_eq_true rfl) ?_)))))
      | (refine And.intro (Exists.intro _ (And.intro rfl rfl)) ?_)
      | (exact fun hW => absurd hW (by decide +kernel))
      | (intro hW; (try simp only [Bool.not_true, Bool.not_false, Bool.not_eq_true', Bool.not_eq_false', decide_eq_true_eq, decide_eq_false_iff_not, reduceCtorEq, Bool.true_eq_false, Bool.false_eq_true, mk_size, List.size_toArray, ByteArray.size_append, ByteArray.size_extract, List.length_cons, List.length_nil, ba_get, ba_empty, Int.toNat_natCast] at hW))
      | (refine And.intro (?_ : _ → _) (?_ : _ → _))
      | (refine FinR.drop 0 (Nat.zero_le _) (Closed.zero _) rfl ?_)
      | (refine FinR.keep ?_)
      | (refine And.intro (det3_agg rfl) ?_)
      | (refine fL_mk ?_)
      | (refine And.intro (by (try simp only [mk_size, List.size_toArray, ByteArray.size_append, ByteArray.size_extract, List.length_cons, List.length_nil]); omega) ?_)
      | (refine And.intro (by (try simp only [mk_size, List.size_toArray, ByteArray.size_append, ByteArray.size_extract, List.length_cons, List.length_nil, wrap64_eq]); omega) ?_)
      | fail)
    all_goals first | (exfalso; omega) | (exfalso; exact hW trivial) | (exfalso; simp_all; done) | skip
    refine LoopR.live (fun j : Nat => [(0, .lit (.slice (some ad) n' cap)), (1, I (k + (i * 4 + 2 + j : Nat))), (5, I i), (6, I j)]) (fun j => []) (fun j => j ≤ 2) (fun j => 2 - j) 0 ⟨rfl, slI' (by rw [ew, wadd k _ (by omega)]), rfl, rfl, trivial⟩ (.keep rfl) (Nat.zero_le _) ?_
    intro j hj
    have hj7 : j = 0 ∨ j = 1 ∨ j = 2 := by omega
    obtain rfl | rfl | rfl := hj7
    · skip
      repeat' ((conv => whnf); first
        | (refine And.intro rfl ?_)
        | (refine And.intro (by decide +kernel) ?_)
        | (refine And.intro trivial ?_)
        | (refine hld2 _ ?_)
        | (refine Exists.intro _ (And.intro rfl (And.intro rfl (And.intro (Nat.le_of_ble_eq_true rfl) ?_))))
        | (refine Exists.intro _ (And.intro rfl (And.intro rfl (And.intro rfl (And.intro (Nat.le_of_ble_eq_true rfl) ?_)))))
        | (refine And.intro (Exists.intro _ (And.intro rfl rfl)) ?_)
        | (exact fun hW => absurd hW (by decide +kernel))
        | (intro hW; (try simp only [Bool.not_true, Bool.not_false, Bool.not_eq_true', Bool.not_eq_false', decide_eq_true_eq, decide_eq_false_iff_not, reduceCtorEq, Bool.true_eq_false, Bool.false_eq_true, mk_size, List.size_toArray, ByteArray.size_append, ByteArray.size_extract, List.length_cons, List.length_nil, ba_get, ba_empty, Int.toNat_natCast] at hW))
        | (refine And.intro (?_ : _ → _) (?_ : _ → _))
        | (refine FinR.drop 0 (Nat.zero_le _) (Closed.zero _) rfl ?_)
        | (refine FinR.keep ?_)
        | (refine And.intro (det3_agg rfl) ?_)
        | (refine fL_mk ?_)
        | (refine And.intro (by (try simp only [mk_size, List.size_toArray, ByteArray.size_append, ByteArray.size_extract, List.length_cons, List.length_nil]); omega) ?_)
        | (refine And.intro (by (try simp only [mk_size, List.size_toArray, ByteArray.size_append, ByteArray.size_extract, List.length_cons, List.length_nil, wrap64_eq]); omega) ?_)
        | fail)
      all_goals first | (exfalso; omega) | exact Again.go 1 ⟨rfl, slI' (wadd k _ (by omega)), rfl, rfl, trivial⟩ (.keep rfl) (by omega) (by omega)
    · skip
      repeat' ((conv => whnf); first
        | (refine And.intro rfl ?_)
        | (refine And.intro (by decide +kernel) ?_)
        | (refine And.intro trivial ?_)
        | (refine hld3 _ ?_)
        | (refine Exists.intro _ (And.intro rfl (And.intro rfl (And.intro (Nat.le_of_ble_eq_true rfl) ?_))))
        | (refine Exists.intro _ (And.intro rfl (And.intro rfl (And.intro rfl (And.intro (Nat.le_of_ble_eq_true rfl) ?_)))))
        | (refine And.intro (Exists.intro _ (And.intro rfl rfl)) ?_)
        | (exact fun hW => absurd hW (by decide +kernel))
        | (intro hW; (try simp only [Bool.not_true, Bool.not_false, Bool.not_eq_true', Bool.not_eq_false', decide_eq_true_eq, decide_eq_false_iff_not, reduceCtorEq, Bool.true_eq_false, Bool.false_eq_true, mk_size, List.size_toArray, ByteArray.size_append, ByteArray.size_extract, List.length_cons, List.length_nil, ba_get, ba_empty, Int.toNat_natCast] at hW))
        | (refine And.intro (?_ : _ → _) (?_ : _ → _))
        | (refine FinR.drop 0 (Nat.zero_le _) (Closed.zero _) rfl ?_)
        | (refine FinR.keep ?_)
        | (refine And.intro (det3_agg rfl) ?_)
        | (refine fL_mk ?_)
        | (refine And.intro (by (try simp only [mk_size, List.size_toArray, ByteArray.size_append, ByteArray.size_extract, List.length_cons, List.length_nil]); omega) ?_)
        | (refine And.intro (by (try simp only [mk_size, List.size_toArray, ByteArray.size_append, ByteArray.size_extract, List.length_cons, List.length_nil, wrap64_eq]); omega) ?_)
        | fail)
      all_goals first | (exfalso; omega) | exact Again.go 2 ⟨rfl, slI' (wadd k _ (by omega)), rfl, rfl, trivial⟩ (.keep rfl) (by omega) (by omega)
    · skip
      repeat' ((conv => whnf); first
        | (refine And.intro rfl ?_)
        | (refine And.intro (by decide +kernel) ?_)
        | (refine And.intro trivial ?_)
        | (refine Exists.intro _ (And.intro rfl (And.intro rfl (And.intro (Nat.le_of_ble_eq_true rfl) ?_))))
        | (refine Exists.intro _ (And.intro rfl (And.intro rfl (And.intro rfl (And.intro (Nat.le_of_ble_eq_true rfl) ?_)))))
        | (refine And.intro (Exists.intro _ (And.intro rfl rfl)) ?_)
        | (exact fun hW => absurd hW (by decide +kernel))
        | (intro hW; (try simp only [Bool.not_true, Bool.not_false, Bool.not_eq_true', Bool.not_eq_false', decide_eq_true_eq, decide_eq_false_iff_not, reduceCtorEq, Bool.true_eq_false, Bool.false_eq_true, mk_size, List.size_toArray, ByteArray.size_append, ByteArray.size_extract, List.length_cons, List.length_nil, ba_get, ba_empty, Int.toNat_natCast] at hW))
        | (refine And.intro (?_ : _ → _) (?_ : _ → _))
        | (refine FinR.drop 0 (Nat.zero_le _) (Closed.zero _) rfl ?_)
        | (refine FinR.keep ?_)
        | (refine And.intro (det3_agg rfl) ?_)
        | (refine fL_mk ?_)
        | (refine And.intro (by (try simp only [mk_size, List.size_toArray, ByteArray.size_append, ByteArray.size_extract, List.length_cons, List.length_nil]); omega) ?_)
        | (refine And.intro (by (try simp only [mk_size, List.size_toArray, ByteArray.size_append, ByteArray.size_extract, List.length_cons, List.length_nil, wrap64_eq]); omega) ?_)
        | fail)
      all_goals first | (exfalso; omega) | exact Again.go (i + 1) ⟨rfl, slI' (by omega), slI' (wsucc' i (by omega)), trivial⟩ (.keep rfl) (by omega) (by omega)
  · obtain rfl : i = n' := by omega
    repeat' ((conv => whnf); first
      | (refine And.intro rfl ?_)
      | (refine And.intro (by decide +kernel) ?_)
      | (refine And.intro trivial ?_)
      | (refine Exists.intro _ (And.intro rfl (And.intro rfl (And.intro (Nat.le_of_ble_eq_true rfl) ?_))))
      | (refine Exists.intro _ (And.intro rfl (And.intro rfl (And.intro rfl (And.intro (Nat.le_of_ble_eq_true rfl) ?_)))))
      | (refine And.intro (Exists.intro _ (And.intro rfl rfl)) ?_)
      | (exact fun hW => absurd hW (by decide +kernel))
      | (intro hW; (try simp only [Bool.not_true, Bool.not_false, Bool.not_eq_true', Bool.not_eq_false', decide_eq_true_eq, decide_eq_false_iff_not, reduceCtorEq, Bool.true_eq_false, Bool.false_eq_true, mk_size, List.size_toArray, ByteArray.size_append, ByteArray.size_extract, List.length_cons, List.length_nil, ba_get, ba_empty, Int.toNat_natCast] at hW))
      | (refine And.intro (?_ : _ → _) (?_ : _ → _))
      | (refine FinR.drop 0 (Nat.zero_le _) (Closed.zero _) rfl ?_)
      | (refine FinR.keep ?_)
      | (refine And.intro (det3_agg rfl) ?_)
      | (refine fL_mk ?_)
      | (refine And.intro (by (try simp only [mk_size, List.size_toArray, ByteArray.size_append, ByteArray.size_extract, List.length_cons, List.length_nil]); omega) ?_)
      | (refine And.intro (by (try simp only [mk_size, List.size_toArray, ByteArray.size_append, ByteArray.size_extract, List.length_cons, List.length_nil, wrap64_eq]); omega) ?_)
      | fail)
    all_goals first | (exfalso; omega) | exact h0
theorem d_heldStepS (a : AV) (n : Nat) (k : Int) (ha : Sli W0 σ 4 enI a (rowsM k 4 n)) (hn2 : n ≤ 1048576) (hk : 0 ≤ k ∧ k ≤ 16777216) (K : Cont) (h0 : K (I (k + (n * 4 : Nat))) σ) : ACall Try.prog W0 71 [a, I k] σ K :=
  lift_Sp (by kernel_rfl) rfl (fun _ => rfl) ha (fun W1 a' h K hK => c_heldStepS a' n k h hn2 hk K hK) K h0
end Go.Proofs.Ytbmilmnfhdkfjaa
end

section
/- Contracts: vain steps, by both sides; plans marked and held. -/
set_option linter.unusedVariables false
set_option linter.unusedSimpArgs false
set_option maxRecDepth 100000
set_option maxHeartbeats 4000000
namespace Go.Proofs.Ytbmilmnfhdkfjaa
open Go Go.RowKit Go.Proofs.Ytbmilmnfhdkfjaa.Abs
variable {W0 : World} {σ : List Blk}
theorem d_markPlan (a b c d e f : Int) (b1 r1 n1 cap1 b2 r2 n2 cap2 : Nat) (B1 B2 : Blk) (hB1 : σ[b1]? = some B1) (hB2 : σ[b2]? = some B2) (hv1 : B1.ver = r1) (hv2 : B2.ver = r2) (hne : b1 ≠ b2) (hn1 : n1 * 6 ≤ B1.cells.length) (hn2 : n2 * 4 ≤ B2.cells.length) (hm1 : n1 ≤ 1048576) (hm2 : n2 ≤ 1048576) (k : Int) (hk : 0 ≤ k ∧ k ≤ 1000) (K : Cont)
    (h0 : ∀ A, K (I (k + (n1 * 6 : Nat) + (n2 * 4 : Nat))) (((σ ++ [A]).set b1 (mB B1 k (n1 * 6))).set b2 (mB B2 (k + (n1 * 6 : Nat)) (n2 * 4)))) : ACall Try.prog W0 29 [PlA a b c d e f (.sl b1 r1 0 n1 cap1) (.sl b2 r2 0 n2 cap2), I k] σ K := by
  refine by29 (Nat.le_of_ble_eq_true rfl) ?_
  have hl1 := getElem?_lt hB1
  have hl2 := getElem?_lt hB2
  repeat' ((conv => whnf); first
    | (refine And.intro rfl ?_)
    | (refine And.intro (by decide +kernel) ?_)
    | (refine And.intro trivial ?_)
    | (refine fS_mk ?_)
    | (refine And.intro ⟨_, getl, rfl⟩ ?_)
    | (refine And.intro ⟨_, get_ne getl (by omega), rfl⟩ ?_)
    | (refine Exists.intro _ (And.intro getl (And.intro rfl (And.intro (Nat.le_of_ble_eq_true rfl) ?_))))
    | (refine Exists.intro _ (And.intro (get_ne getl (by omega)) (And.intro rfl (And.intro (Nat.le_of_ble_eq_true rfl) ?_))))
    | (refine d_markSheetS (B := B1) (hB := getx1 hB1) (hv := hv1) (hn := hn1) (hn2 := hm1) (hk := by omega) (h0 := ?_) ..)
    | (refine d_markStepS (B := B2) (hB := get_ne (getx1 hB2) hne) (hv := hv2) (hn := hn2) (hn2 := hm2) (hk := by omega) (h0 := ?_) ..)
    | (refine Exists.intro _ (And.intro rfl (And.intro rfl (And.intro (Nat.le_of_ble_eq_true rfl) ?_))))
    | (refine Exists.intro _ (And.intro rfl (And.intro rfl (And.intro rfl (And.intro (Nat.le_of_ble_eq_true rfl) ?_)))))
    | (refine And.intro (Exists.intro _ (And.intro rfl rfl)) ?_)
    | (exact fun hW => absurd hW (by decide +kernel))
    | (intro hW; (try simp only [Bool.not_true, Bool.not_false, Bool.not_eq_true', Bool.not_eq_false', decide_eq_true_eq, decide_eq_false_iff_not, reduceCtorEq, Bool.true_eq_false, Bool.false_eq_true, mk_size, List.size_toArray, ByteArray.size_append, ByteArray.size_extract, List.length_cons, List.length_nil, ba_get, ba_empty, Int.toNat_natCast] at hW))
    | (refine And.intro (?_ : _ → _) (?_ : _ → _))
    | (refine FinR.drop 0 (Nat.zero_le _) (Closed.zero _) rfl ?_)
    | (refine FinR.keep ?_)
    | (refine And.intro (det3_agg rfl) ?_)
    | (refine fL_mk ?_)
    | (refine And.intro (by (try simp only [mk_size, List.size_toArray, ByteArray.size_append, ByteArray.size_extract, List.length_cons, List.length_nil]); omega) ?_)
    | (refine And.intro (by (try simp only [mk_size, List.size_toArray, ByteArray.size_append, ByteArray.size_extract, List.length_cons, List.length_nil, wrap64_eq]); omega) ?_)
    | fail)
  all_goals first | exact h0 _ | exact FinR.keep (h0 _)
theorem c_heldPlan (a b c d e f : Int) (v1 v2 : Value) (n1 n2 : Nat) (k : Int) (h1 : Sli W0 [] 6 enI (.lit v1) (rowsM k 6 n1)) (h2 : Sli W0 [] 4 enI (.lit v2) (rowsM (k + (n1 * 6 : Nat)) 4 n2)) (hm1 : n1 ≤ 1048576) (hm2 : n2 ≤ 1048576) (hk : 0 ≤ k ∧ k ≤ 1000) (K : Cont) (h0 : K (I (k + (n1 * 6 : Nat) + (n2 * 4 : Nat))) []) : ACall Try.prog W0 30 [PlA a b c d e f (.lit v1) (.lit v2), I k] [] K := by
  refine by30 (Nat.le_of_ble_eq_true rfl) ?_
  repeat' ((conv => whnf); first
    | (refine And.intro rfl ?_)
    | (refine And.intro (by decide +kernel) ?_)
    | (refine And.intro trivial ?_)
    | (refine d_heldSheetS (n := n1) (ha := sli_up h1) (hn2 := hm1) (hk := by omega) (h0 := ?_) ..)
    | (refine d_heldStepS (n := n2) (ha := sli_up h2) (hn2 := hm2) (hk := by omega) (h0 := ?_) ..)
    | (refine Exists.intro _ (And.intro rfl (And.intro rfl (And.intro (Nat.le_of_ble_eq_true rfl) ?_))))
    | (refine Exists.intro _ (And.intro rfl (And.intro rfl (And.intro rfl (And.intro (Nat.le_of_ble_eq_true rfl) ?_)))))
    | (refine And.intro (Exists.intro _ (And.intro rfl rfl)) ?_)
    | (exact fun hW => absurd hW (by decide +kernel))
    | (intro hW; (try simp only [Bool.not_true, Bool.not_false, Bool.not_eq_true', Bool.not_eq_false', decide_eq_true_eq, decide_eq_false_iff_not, reduceCtorEq, Bool.true_eq_false, Bool.false_eq_true, mk_size, List.size_toArray, ByteArray.size_append, ByteArray.size_extract, List.length_cons, List.length_nil, ba_get, ba_empty, Int.toNat_natCast] at hW))
    | (refine And.intro (?_ : _ → _) (?_ : _ → _))
    | (refine FinR.drop 0 (Nat.zero_le _) (Closed.zero _) rfl ?_)
    | (refine FinR.keep ?_)
    | (refine And.intro (det3_agg rfl) ?_)
    | (refine fL_mk ?_)
    | (refine And.intro (by (try simp only [mk_size, List.size_toArray, ByteArray.size_append, ByteArray.size_extract, List.length_cons, List.length_nil]); omega) ?_)
    | (refine And.intro (by (try simp only [mk_size, List.size_toArray, ByteArray.size_append, ByteArray.size_extract, List.length_cons, List.length_nil, wrap64_eq]); omega) ?_)
    | fail)
  all_goals first | exact h0 | (exfalso; omega)
theorem d_heldPlan (a b c d e f : Int) (s1 s2 : AV) (n1 n2 : Nat) (k : Int) (h1 : Sli W0 σ 6 enI s1 (rowsM k 6 n1)) (h2 : Sli W0 σ 4 enI s2 (rowsM (k + (n1 * 6 : Nat)) 4 n2)) (hm1 : n1 ≤ 1048576) (hm2 : n2 ≤ 1048576) (hk : 0 ≤ k ∧ k ≤ 1000) (K : Cont) (h0 : K (I (k + (n1 * 6 : Nat) + (n2 * 4 : Nat))) σ) : ACall Try.prog W0 30 [PlA a b c d e f s1 s2, I k] σ K :=
  lift_Pl (rest := [I k]) (ι := Unit) (fun _ => I (k + (n1 * 6 : Nat) + (n2 * 4 : Nat))) (fun τ => []) (by kernel_rfl) rfl h1 h2 (fun W1 v1 v2 q1 q2 K hK => c_heldPlan a b c d e f v1 v2 n1 n2 k q1 q2 hm1 hm2 hk K (hK ())) K (fun _ => by
    rw [show shB σ.length [] = [] from rfl, List.append_nil]; exact h0)
/-! vain steps -/
def vainQ (fs : List (Nat × Nat)) (n i : Nat) : Bool := decide (runN (fs.take (i + 1)) n = runN (fs.take i) n)
abbrev vainL (xs ys : List (List Int)) (n : Nat) : List Int := selN (vainQ (fsOf xs ys) n) ys.length
end Go.Proofs.Ytbmilmnfhdkfjaa
end

section
/- Contracts: the law of vain steps. -/
set_option linter.unusedVariables false
set_option linter.unusedSimpArgs false
set_option maxRecDepth 100000
set_option maxHeartbeats 4000000
namespace Go.Proofs.Ytbmilmnfhdkfjaa
open Go Go.RowKit Go.Proofs.Ytbmilmnfhdkfjaa.Abs
variable {W0 : World} {σ : List Blk}
theorem shSB_len {xs : List (List Int)} (hx : ∀ x ∈ xs, x.length = 6) : xs.length * 6 ≤ (shSB xs).cells.length := by rw [jc_len (s := 6) hx]; exact Nat.le_refl _
theorem stSB_len {xs : List (List Int)} (hx : ∀ x ∈ xs, x.length = 4) : xs.length * 4 ≤ (stSB xs).cells.length := by rw [jc_len (s := 4) hx]; exact Nat.le_refl _
theorem varC_app {F : List Nat} {R : Prop} {τ : List Blk} : ∀ {σ : List Blk} {k : Nat}, R → varC F σ R k (σ ++ τ)
  | [], _, h => h
  | B :: σ, k, h => by
    show (match memB k F with
      | true => B.ver = B.ver ∧ B.esz = B.esz ∧ B.row = B.row ∧ varC F σ R (k + 1) (σ ++ τ)
      | false => B = B ∧ varC F σ R (k + 1) (σ ++ τ) : Prop)
    cases memB k F with
    | true => exact ⟨rfl, rfl, rfl, varC_app h⟩
    | false => exact ⟨rfl, varC_app h⟩
theorem g5a {σ : List Blk} {A B C X Y : Blk} : (σ ++ [A, B, C, X, Y])[σ.length + 3]? = some X := by rw [List.getElem?_append_right (by omega), Nat.add_sub_cancel_left]; rfl
theorem g5b {σ : List Blk} {A B C X Y : Blk} : (σ ++ [A, B, C, X, Y])[σ.length + 4]? = some Y := by rw [List.getElem?_append_right (by omega), Nat.add_sub_cancel_left]; rfl
end Go.Proofs.Ytbmilmnfhdkfjaa
end

section
/- Contracts: plans in new memory. -/
set_option linter.unusedVariables false
set_option linter.unusedSimpArgs false
set_option maxRecDepth 100000
set_option maxHeartbeats 4000000
namespace Go.Proofs.Ytbmilmnfhdkfjaa
open Go Go.RowKit Go.Proofs.Ytbmilmnfhdkfjaa.Abs
variable {W0 : World} {σ : List Blk}
theorem jc_flat (xs : List (List Int)) : ((xs.map enI).flatten).map AV.lit = jc xs := by
  unfold jc
  rw [List.map_flatten, List.map_map]
  congr 1
  refine List.map_congr_left fun x _ => ?_
  simp
theorem flat_at {s : Nat} : ∀ {xs : List (List Int)}, (∀ x ∈ xs, x.length = s) → ∀ {j : Nat} {v : Value}, ((xs.map enI).flatten)[j]? = some v → ∃ i r x, j = i * s + r ∧ xs[i]? = some x ∧ (enI x)[r]? = some v
  | [], _, j, v, h => by simp at h
  | x :: xs, hx, j, v, h => by
    have hl : (enI x).length = s := by rw [List.length_map]; exact hx x List.mem_cons_self
    have h' : (enI x ++ (xs.map enI).flatten)[j]? = some v := h
    rw [List.getElem?_append] at h'
    split at h'
    · exact ⟨0, j, x, by omega, rfl, h'⟩
    · rename_i hj
      obtain ⟨i, r, y, e, hi, hr⟩ := flat_at (s := s) (fun y hy => hx y (List.mem_cons_of_mem _ hy)) h'
      exact ⟨i + 1, r, y, by rw [Nat.add_mul]; omega, hi, hr⟩
theorem flat_len {s : Nat} {xs : List (List Int)} (hx : ∀ x ∈ xs, x.length = s) : ((xs.map enI).flatten).length = xs.length * s := by
  have := jc_len hx
  rw [← jc_flat, List.length_map] at this
  exact this
/-- all rows of a slice that came in, to be appended -/
theorem sli_src {s : Nat} {ad : Addr} {n cap : Nat} {xs : List (List Int)} (h : Sli W0 [] s enI (.lit (.slice (some ad) n cap)) xs) (hx : ∀ x ∈ xs, x.length = s) {C : List Value → Prop} (hc : C ((xs.map enI).flatten)) :
    ∃ cs : List Value, cs.length = n * s ∧ (∀ (j : Nat) (v : Value), cs[j]? = some v → W0.cell? (ad.add j) = some v ∧ v.oneCell' = true) ∧ ad.block < W0.heap.size ∧ C cs := by
  cases h with
  | inn ad n cap xs hn hcc hm hb hxx =>
    refine ⟨_, by rw [flat_len hx, hn], fun j v hj => ?_, hb, hc⟩
    obtain ⟨i, r, x, rfl, hi, hr⟩ := flat_at hx hj
    have := hxx i x hi r v hr
    rw [add_add] at this
    exact this
/-- a slice that is not nil, as the callee sees it -/
theorem sli_concN {s : Nat} {a : AV} {xs : List (List Int)} {ι : Abs.Loc} {W1 : World} {x : Value} (h : Sli W0 σ s enI a xs) (hn : a ≠ nilA) (hh : HRel W0 ι σ W1) (hr : rel3 ι σ a x) :
    ∃ o n c, x = .slice (some o) n c ∧ Sli W1 [] s enI (.lit (.slice (some o) n c)) xs := by
  have hx : ∃ o n c, x = .slice (some o) n c := by
    cases h with
    | nil => exact absurd rfl hn
    | inn ad n cap xs hn hc hm hb hx => exact ⟨ad, n, cap, hr⟩
    | own b ver off n cap B xs hB hv hn hx =>
      obtain ⟨c, t, _, e, _⟩ := slRel_now hr hB hv
      exact ⟨_, _, _, e⟩
  obtain ⟨o, n, c, rfl⟩ := hx
  obtain ⟨a', ha, hs⟩ := h.conc hh ⟨_, hr⟩
  obtain ⟨v, rfl⟩ := sli_lit hs
  have e : (.slice (some o) n c : Value) = v := ha _ hr
  subst e
  exact ⟨o, n, c, rfl, hs⟩
theorem sl_nn {b v o n c : Nat} : AV.sl b v o n c ≠ nilA := by intro h; cases h
theorem lit_nn {o : Addr} {n c : Nat} : AV.lit (.slice (some o) n c) ≠ nilA := by intro h; cases h
theorem plA_concN {a b c d e f : Int} {s1 s2 : AV} {xs ys : List (List Int)} {ι : Abs.Loc} {W1 : World} {x : Value} (h1 : Sli W0 σ 6 enI s1 xs) (h2 : Sli W0 σ 4 enI s2 ys) (n1 : s1 ≠ nilA) (n2 : s2 ≠ nilA) (hh : HRel W0 ι σ W1) (hr : rel3 ι σ (PlA a b c d e f s1 s2) x) :
    ∃ o1 m1 c1 o2 m2 c2, Sli W1 [] 6 enI (.lit (.slice (some o1) m1 c1)) xs ∧ Sli W1 [] 4 enI (.lit (.slice (some o2) m2 c2)) ys ∧ rel3 [] [] (PlA a b c d e f (.lit (.slice (some o1) m1 c1)) (.lit (.slice (some o2) m2 c2))) x := by
  obtain ⟨l, rfl, hl⟩ := (show ∃ l : List Value, x = .agg l.toArray ∧ Rels (crel ι σ) [I a, I b, I c, I d, I e, I f, s1, s2] l from hr)
  obtain ⟨x0, l0, rfl, q0, r0⟩ := Rels.uncons hl
  obtain ⟨x1, l1, rfl, q1, r1⟩ := Rels.uncons r0
  obtain ⟨x2, l2, rfl, q2, r2⟩ := Rels.uncons r1
  obtain ⟨x3, l3, rfl, q3, r3⟩ := Rels.uncons r2
  obtain ⟨x4, l4, rfl, q4, r4⟩ := Rels.uncons r3
  obtain ⟨x5, l5, rfl, q5, r5⟩ := Rels.uncons r4
  obtain ⟨x6, l6, rfl, q6, r6⟩ := Rels.uncons r5
  obtain ⟨x7, l7, rfl, q7, r7⟩ := Rels.uncons r6
  obtain rfl := r7.nil_inv
  obtain ⟨o1, m1, c1, e1, hs1⟩ := sli_concN h1 n1 hh (sli_r31 h1 q6.1)
  obtain ⟨o2, m2, c2, e2, hs2⟩ := sli_concN h2 n2 hh (sli_r31 h2 q7.1)
  subst e1; subst e2
  refine ⟨_, _, _, _, _, _, hs1, hs2, _, rfl, ?_⟩
  exact Rels.cons ⟨q0.1, q0.2⟩ (Rels.cons ⟨q1.1, q1.2⟩ (Rels.cons ⟨q2.1, q2.2⟩ (Rels.cons ⟨q3.1, q3.2⟩ (Rels.cons ⟨q4.1, q4.2⟩ (Rels.cons ⟨q5.1, q5.2⟩ (Rels.cons ⟨rfl, q6.2⟩ (Rels.cons ⟨rfl, q7.2⟩ Rels.nil)))))))
theorem lift_PlN {g : FuncId} {a b c d e f : Int} {s1 s2 : AV} {rest : List AV} {xs ys : List (List Int)} {ι : Type} (r : ι → AV) (β : ι → List Blk) (hok : callOK Try.prog g = true) (hrest : rest.all pure3 = true) (h1 : Sli W0 σ 6 enI s1 xs) (h2 : Sli W0 σ 4 enI s2 ys) (n1 : s1 ≠ nilA) (n2 : s2 ≠ nilA)
    (h : ∀ (W1 : World) (o1 : Addr) (m1 c1 : Nat) (o2 : Addr) (m2 c2 : Nat), Sli W1 [] 6 enI (.lit (.slice (some o1) m1 c1)) xs → Sli W1 [] 4 enI (.lit (.slice (some o2) m2 c2)) ys → ∀ K : Cont, (∀ i, K (r i) (β i)) → ACall Try.prog W1 g (PlA a b c d e f (.lit (.slice (some o1) m1 c1)) (.lit (.slice (some o2) m2 c2)) :: rest) [] K) (K : Cont) (h0 : ∀ i, K (sh3 σ.length (r i)) (σ ++ shB σ.length (β i))) : ACall Try.prog W0 g (PlA a b c d e f s1 s2 :: rest) σ K := by
  refine ACall.frameA (K0 := fun v σ' => ∃ i, v = r i ∧ σ' = β i) hok (fun W1 ι vs hh hrr => ?_) ?_
  · obtain ⟨v1, vs', rfl, hr1, hr2⟩ := Rels.uncons hrr
    obtain ⟨o1, m1, c1, o2, m2, c2, q1, q2, q3⟩ := plA_concN h1 h2 n1 n2 hh hr1
    exact ⟨_ :: rest, Rels.cons q3 (rels_pure hrest hr2), h W1 _ _ _ _ _ _ q1 q2 _ (fun i => ⟨i, rfl, rfl⟩)⟩
  · rintro v σ' ⟨i, rfl, rfl⟩; exact h0 i
theorem lift_PlSN {g : FuncId} {a b c d e f : Int} {s1 s2 s3 : AV} {xs ys zs : List (List Int)} {ι : Type} (r : ι → AV) (β : ι → List Blk) (hok : callOK Try.prog g = true) (h1 : Sli W0 σ 6 enI s1 xs) (h2 : Sli W0 σ 4 enI s2 ys) (h3 : Sli W0 σ 4 enI s3 zs) (n1 : s1 ≠ nilA) (n2 : s2 ≠ nilA) (n3 : s3 ≠ nilA)
    (h : ∀ (W1 : World) (o1 : Addr) (m1 c1 : Nat) (o2 : Addr) (m2 c2 : Nat) (o3 : Addr) (m3 c3 : Nat), Sli W1 [] 6 enI (.lit (.slice (some o1) m1 c1)) xs → Sli W1 [] 4 enI (.lit (.slice (some o2) m2 c2)) ys → Sli W1 [] 4 enI (.lit (.slice (some o3) m3 c3)) zs → ∀ K : Cont, (∀ i, K (r i) (β i)) → ACall Try.prog W1 g [PlA a b c d e f (.lit (.slice (some o1) m1 c1)) (.lit (.slice (some o2) m2 c2)), .lit (.slice (some o3) m3 c3)] [] K) (K : Cont) (h0 : ∀ i, K (sh3 σ.length (r i)) (σ ++ shB σ.length (β i))) : ACall Try.prog W0 g [PlA a b c d e f s1 s2, s3] σ K := by
  refine ACall.frameA (K0 := fun v σ' => ∃ i, v = r i ∧ σ' = β i) hok (fun W1 ι vs hh hrr => ?_) ?_
  · obtain ⟨v1, vs', rfl, hr1, hr2⟩ := Rels.uncons hrr
    obtain ⟨v2, vs'', rfl, hr3, hr4⟩ := Rels.uncons hr2
    obtain rfl := hr4.nil_inv
    obtain ⟨o1, m1, c1, o2, m2, c2, q1, q2, q3⟩ := plA_concN h1 h2 n1 n2 hh hr1
    obtain ⟨o3, m3, c3, rfl, q4⟩ := sli_concN h3 n3 hh hr3
    exact ⟨[_, .lit (.slice (some o3) m3 c3)], Rels.cons q3 (Rels.cons rfl Rels.nil), h W1 _ _ _ _ _ _ _ _ _ q1 q2 q4 _ (fun i => ⟨i, rfl, rfl⟩)⟩
  · rintro v σ' ⟨i, rfl, rfl⟩; exact h0 i
theorem lift_SN {g : FuncId} {s : Nat} {a : AV} {xs : List (List Int)} {ι : Type} (r : ι → AV) (β : ι → List Blk) (hok : callOK Try.prog g = true) (h1 : Sli W0 σ s enI a xs) (n1 : a ≠ nilA)
    (h : ∀ (W1 : World) (o1 : Addr) (m1 c1 : Nat), Sli W1 [] s enI (.lit (.slice (some o1) m1 c1)) xs → ∀ K : Cont, (∀ i, K (r i) (β i)) → ACall Try.prog W1 g [.lit (.slice (some o1) m1 c1)] [] K) (K : Cont) (h0 : ∀ i, K (sh3 σ.length (r i)) (σ ++ shB σ.length (β i))) : ACall Try.prog W0 g [a] σ K := by
  refine ACall.frameA (K0 := fun v σ' => ∃ i, v = r i ∧ σ' = β i) hok (fun W1 ι vs hh hrr => ?_) ?_
  · obtain ⟨v1, vs', rfl, hr1, hr2⟩ := Rels.uncons hrr
    obtain rfl := hr2.nil_inv
    obtain ⟨o1, m1, c1, rfl, q1⟩ := sli_concN h1 n1 hh hr1
    exact ⟨[.lit (.slice (some o1) m1 c1)], Rels.cons rfl Rels.nil, h W1 _ _ _ q1 _ (fun i => ⟨i, rfl, rfl⟩)⟩
  · rintro v σ' ⟨i, rfl, rfl⟩; exact h0 i
abbrev shK (xs : List (List Int)) (r : Nat) : Blk := ⟨jc xs, r, 31, 6, true, true⟩
abbrev stK (ys : List (List Int)) (r : Nat) : Blk := ⟨jc ys, r, 54, 4, true, true⟩
theorem c_CloneSheet (o : Addr) (n c : Nat) (xs : List (List Int)) (h1 : Sli W0 [] 6 enI (.lit (.slice (some o) n c)) xs) (hx : ∀ x ∈ xs, x.length = 6) (hl : xs.length ≤ 2097152) (K : Cont) (h0 : ∀ c', K (.sl 0 1 0 xs.length c') [shK xs 1]) : ACall Try.prog W0 100 [.lit (.slice (some o) n c)] [] K := by
  refine by100 (Nat.le_of_ble_eq_true rfl) ?_
  have hn : n = xs.length := by cases h1 with | inn ad n cap xs hn hc hm hb hxx => exact hn
  subst hn
  have hj : (((xs.map enI).flatten).map AV.lit).length = xs.length * 6 := by rw [jc_flat]; exact jc_len hx
  repeat' ((conv => whnf); first
    | (refine And.intro rfl ?_)
    | (refine And.intro (by decide +kernel) ?_)
    | (refine And.intro trivial ?_)
    | (refine sli_src h1 hx ?_)
    | (refine Exists.intro _ (And.intro rfl (And.intro rfl (And.intro rfl (And.intro rfl (And.intro rfl (And.intro rfl (And.intro (by decide) (And.intro rfl (And.intro hj (And.intro (by unfold maxLen; omega) (And.intro (by omega) (fun cap' hcap1 hcap2 => ?_)))))))))))))
    | (refine Exists.intro _ (And.intro rfl (And.intro rfl (And.intro (Nat.le_of_ble_eq_true rfl) ?_))))
    | (refine Exists.intro _ (And.intro rfl (And.intro rfl (And.intro rfl (And.intro (Nat.le_of_ble_eq_true rfl) ?_)))))
    | (refine And.intro (Exists.intro _ (And.intro rfl rfl)) ?_)
    | (exact fun hW => absurd hW (by decide +kernel))
    | (intro hW; (try simp only [Bool.not_true, Bool.not_false, Bool.not_eq_true', Bool.not_eq_false', decide_eq_true_eq, decide_eq_false_iff_not, reduceCtorEq, Bool.true_eq_false, Bool.false_eq_true, mk_size, List.size_toArray, ByteArray.size_append, ByteArray.size_extract, List.length_cons, List.length_nil, ba_get, ba_empty, Int.toNat_natCast] at hW))
    | (refine And.intro (?_ : _ → _) (?_ : _ → _))
    | (refine FinR.drop 0 (Nat.zero_le _) (Closed.zero _) rfl ?_)
    | (refine FinR.keep ?_)
    | (refine And.intro (det3_agg rfl) ?_)
    | (refine fL_mk ?_)
    | (refine And.intro (by (try simp only [mk_size, List.size_toArray, ByteArray.size_append, ByteArray.size_extract, List.length_cons, List.length_nil]); omega) ?_)
    | (refine And.intro (by (try simp only [mk_size, List.size_toArray, ByteArray.size_append, ByteArray.size_extract, List.length_cons, List.length_nil, wrap64_eq]); omega) ?_)
    | fail)
  all_goals first | (exfalso; simp_all; done) | skip
  all_goals (rw [Nat.zero_add xs.length, jc_flat]; exact h0 _)
theorem d_CloneSheet (a : AV) (xs : List (List Int)) (h1 : Sli W0 σ 6 enI a xs) (n1 : a ≠ nilA) (hx : ∀ x ∈ xs, x.length = 6) (hl : xs.length ≤ 2097152) (K : Cont) (h0 : ∀ c', K (.sl σ.length 1 0 xs.length c') (σ ++ [shK xs 1])) : ACall Try.prog W0 100 [a] σ K :=
  lift_SN (ι := Nat) (fun c' => .sl 0 1 0 xs.length c') (fun _ => [shK xs 1]) (by kernel_rfl) h1 n1 (fun W1 o1 m1 c1 q K hK => c_CloneSheet o1 m1 c1 xs q hx hl K hK) K (fun c' => by
    rw [show shB σ.length [shK xs 1] = [shK xs 1] by simp [shB, jc_sh]]; exact h0 c')
theorem c_CloneStep (o : Addr) (n c : Nat) (xs : List (List Int)) (h1 : Sli W0 [] 4 enI (.lit (.slice (some o) n c)) xs) (hx : ∀ x ∈ xs, x.length = 4) (hl : xs.length ≤ 2097152) (K : Cont) (h0 : ∀ c', K (.sl 0 1 0 xs.length c') [stK xs 1]) : ACall Try.prog W0 74 [.lit (.slice (some o) n c)] [] K := by
  refine by74 (Nat.le_of_ble_eq_true rfl) ?_
  have hn : n = xs.length := by cases h1 with | inn ad n cap xs hn hc hm hb hxx => exact hn
  subst hn
  have hj : (((xs.map enI).flatten).map AV.lit).length = xs.length * 4 := by rw [jc_flat]; exact jc_len hx
  repeat' ((conv => whnf); first
    | (refine And.intro rfl ?_)
    | (refine And.intro (by decide +kernel) ?_)
    | (refine And.intro trivial ?_)
    | (refine sli_src h1 hx ?_)
    | (refine Exists.intro _ (And.intro rfl (And.intro rfl (And.intro rfl (And.intro rfl (And.intro rfl (And.intro rfl (And.intro (by decide) (And.intro rfl (And.intro hj (And.intro (by unfold maxLen; omega) (And.intro (by omega) (fun cap' hcap1 hcap2 => ?_)))))))))))))
    | (refine Exists.intro _ (And.intro rfl (And.intro rfl (And.intro (Nat.le_of_ble_eq_true rfl) ?_))))
    | (refine Exists.intro _ (And.intro rfl (And.intro rfl (And.intro rfl (And.intro (Nat.le_of_ble_eq_true rfl) ?_)))))
    | (refine And.intro (Exists.intro _ (And.intro rfl rfl)) ?_)
    | (exact fun hW => absurd hW (by decide +kernel))
    | (intro hW; (try simp only [Bool.not_true, Bool.not_false, Bool.not_eq_true', Bool.not_eq_false', decide_eq_true_eq, decide_eq_false_iff_not, reduceCtorEq, Bool.true_eq_false, Bool.false_eq_true, mk_size, List.size_toArray, ByteArray.size_append, ByteArray.size_extract, List.length_cons, List.length_nil, ba_get, ba_empty, Int.toNat_natCast] at hW))
    | (refine And.intro (?_ : _ → _) (?_ : _ → _))
    | (refine FinR.drop 0 (Nat.zero_le _) (Closed.zero _) rfl ?_)
    | (refine FinR.keep ?_)
    | (refine And.intro (det3_agg rfl) ?_)
    | (refine fL_mk ?_)
    | (refine And.intro (by (try simp only [mk_size, List.size_toArray, ByteArray.size_append, ByteArray.size_extract, List.length_cons, List.length_nil]); omega) ?_)
    | (refine And.intro (by (try simp only [mk_size, List.size_toArray, ByteArray.size_append, ByteArray.size_extract, List.length_cons, List.length_nil, wrap64_eq]); omega) ?_)
    | fail)
  all_goals first | (exfalso; simp_all; done) | skip
  all_goals (rw [Nat.zero_add xs.length, jc_flat]; exact h0 _)
theorem d_CloneStep (a : AV) (xs : List (List Int)) (h1 : Sli W0 σ 4 enI a xs) (n1 : a ≠ nilA) (hx : ∀ x ∈ xs, x.length = 4) (hl : xs.length ≤ 2097152) (K : Cont) (h0 : ∀ c', K (.sl σ.length 1 0 xs.length c') (σ ++ [stK xs 1])) : ACall Try.prog W0 74 [a] σ K :=
  lift_SN (ι := Nat) (fun c' => .sl 0 1 0 xs.length c') (fun _ => [stK xs 1]) (by kernel_rfl) h1 n1 (fun W1 o1 m1 c1 q K hK => c_CloneStep o1 m1 c1 xs q hx hl K hK) K (fun c' => by
    rw [show shB σ.length [stK xs 1] = [stK xs 1] by simp [shB, jc_sh]]; exact h0 c')
/-- a plan in new memory -/
structure NewP (xs ys : List (List Int)) where
  τ : List Blk
  b1 : Nat
  r1 : Nat
  c1 : Nat
  b2 : Nat
  r2 : Nat
  c2 : Nat
  h1 : τ[b1]? = some (shK xs r1)
  h2 : τ[b2]? = some (stK ys r2)
theorem newP_sh1 {xs ys : List (List Int)} (x : NewP xs ys) : (σ ++ shB σ.length x.τ)[σ.length + x.b1]? = some (shK xs x.r1) := by
  rw [get_sh x.h1]
  show some (⟨(jc xs).map (sh1 σ.length), _, _, _, _, _⟩ : Blk) = _
  rw [jc_sh]
theorem newP_sh2 {xs ys : List (List Int)} (x : NewP xs ys) : (σ ++ shB σ.length x.τ)[σ.length + x.b2]? = some (stK ys x.r2) := by
  rw [get_sh x.h2]
  show some (⟨(jc ys).map (sh1 σ.length), _, _, _, _, _⟩ : Blk) = _
  rw [jc_sh]
theorem newP_raw {a b c d e f : Int} {xs ys : List (List Int)} {K : Cont} (h0 : ∀ x : NewP xs ys, K (PlA a b c d e f (.sl x.b1 x.r1 0 xs.length x.c1) (.sl x.b2 x.r2 0 ys.length x.c2)) x.τ) (τ : List Blk) (b1 r1 c1 b2 r2 c2 n1 n2 : Nat) (C1 C2 : List AV) (e1 : n1 = xs.length) (e2 : n2 = ys.length) (h1 : τ[b1]? = some ⟨C1, r1, 31, 6, true, true⟩) (j1 : C1 = jc xs) (h2 : τ[b2]? = some ⟨C2, r2, 54, 4, true, true⟩) (j2 : C2 = jc ys) : K (PlA a b c d e f (.sl b1 r1 0 n1 c1) (.sl b2 r2 0 n2 c2)) τ := by
  subst e1; subst e2; subst j1; subst j2
  exact h0 ⟨τ, b1, r1, c1, b2, r2, c2, h1, h2⟩
abbrev plN (a b c d e f : Int) {xs ys : List (List Int)} (x : NewP xs ys) : AV := PlA a b c d e f (.sl x.b1 x.r1 0 xs.length x.c1) (.sl x.b2 x.r2 0 ys.length x.c2)
theorem c_copied (a b c d e f : Int) (o1 : Addr) (m1 c1 : Nat) (o2 : Addr) (m2 c2 : Nat) (o3 : Addr) (m3 c3 : Nat) (xs ys zs : List (List Int)) (h1 : Sli W0 [] 6 enI (.lit (.slice (some o1) m1 c1)) xs) (h2 : Sli W0 [] 4 enI (.lit (.slice (some o2) m2 c2)) ys) (h3 : Sli W0 [] 4 enI (.lit (.slice (some o3) m3 c3)) zs) (hx : ∀ x ∈ xs, x.length = 6) (hz : ∀ x ∈ zs, x.length = 4) (hl : xs.length ≤ 2097152) (hl2 : zs.length ≤ 2097152) (K : Cont) (h0 : ∀ x : NewP xs zs, K (plN a b c d e f x) x.τ) : ACall Try.prog W0 67 [PlA a b c d e f (.lit (.slice (some o1) m1 c1)) (.lit (.slice (some o2) m2 c2)), .lit (.slice (some o3) m3 c3)] [] K := by
  refine by67 (Nat.le_of_ble_eq_true rfl) ?_
  repeat' ((conv => whnf); first
    | (refine And.intro rfl ?_)
    | (refine And.intro (by decide +kernel) ?_)
    | (refine And.intro trivial ?_)
    | (refine d_CloneSheet (h1 := sli_up h1) (n1 := lit_nn) (hx := hx) (hl := hl) (h0 := fun c' => ?_) ..)
    | (refine d_CloneStep (h1 := sli_up h3) (n1 := lit_nn) (hx := hz) (hl := hl2) (h0 := fun c' => ?_) ..)
    | (refine Exists.intro _ (And.intro rfl (And.intro rfl (And.intro (Nat.le_of_ble_eq_true rfl) ?_))))
    | (refine Exists.intro _ (And.intro rfl (And.intro rfl (And.intro rfl (And.intro (Nat.le_of_ble_eq_true rfl) ?_)))))
    | (refine And.intro (Exists.intro _ (And.intro rfl rfl)) ?_)
    | (exact fun hW => absurd hW (by decide +kernel))
    | (intro hW; (try simp only [Bool.not_true, Bool.not_false, Bool.not_eq_true', Bool.not_eq_false', decide_eq_true_eq, decide_eq_false_iff_not, reduceCtorEq, Bool.true_eq_false, Bool.false_eq_true, mk_size, List.size_toArray, ByteArray.size_append, ByteArray.size_extract, List.length_cons, List.length_nil, ba_get, ba_empty, Int.toNat_natCast] at hW))
    | (refine And.intro (?_ : _ → _) (?_ : _ → _))
    | (refine FinR.drop 0 (Nat.zero_le _) (Closed.zero _) rfl ?_)
    | (refine FinR.keep ?_)
    | (refine And.intro (det3_agg rfl) ?_)
    | (refine fL_mk ?_)
    | (refine And.intro (by (try simp only [mk_size, List.size_toArray, ByteArray.size_append, ByteArray.size_extract, List.length_cons, List.length_nil]); omega) ?_)
    | (refine And.intro (by (try simp only [mk_size, List.size_toArray, ByteArray.size_append, ByteArray.size_extract, List.length_cons, List.length_nil, wrap64_eq]); omega) ?_)
    | fail)
  exact h0 ⟨_, _, _, _, _, _, _, rfl, rfl⟩
theorem c_l11Own (a b c d e f : Int) (o1 : Addr) (m1 c1 : Nat) (o2 : Addr) (m2 c2 : Nat) (o3 : Addr) (m3 c3 : Nat) (xs ys zs : List (List Int)) (h1 : Sli W0 [] 6 enI (.lit (.slice (some o1) m1 c1)) xs) (h2 : Sli W0 [] 4 enI (.lit (.slice (some o2) m2 c2)) ys) (h3 : Sli W0 [] 4 enI (.lit (.slice (some o3) m3 c3)) zs) (hx : ∀ x ∈ xs, x.length = 6) (hz : ∀ x ∈ zs, x.length = 4) (hl : xs.length ≤ 2097152) (hl2 : zs.length ≤ 2097152) (K : Cont) (h0 : ∀ x : NewP xs zs, K (plN a b c d e f x) x.τ) : ACall Try.prog W0 66 [PlA a b c d e f (.lit (.slice (some o1) m1 c1)) (.lit (.slice (some o2) m2 c2)), .lit (.slice (some o3) m3 c3)] [] K := by
  refine by66 (Nat.le_of_ble_eq_true rfl) ?_
  have hn1 : m1 = xs.length := by cases h1 with | inn ad n cap xs hn hc hm hb hxx => exact hn
  have hn3 : m3 = zs.length := by cases h3 with | inn ad n cap xs hn hc hm hb hxx => exact hn
  subst hn1; subst hn3
  have hj1 : (((xs.map enI).flatten).map AV.lit).length = xs.length * 6 := by rw [jc_flat]; exact jc_len hx
  have hj3 : (((zs.map enI).flatten).map AV.lit).length = zs.length * 4 := by rw [jc_flat]; exact jc_len hz
  repeat' ((conv => whnf); first
    | (refine And.intro rfl ?_)
    | (refine And.intro (by decide +kernel) ?_)
    | (refine And.intro trivial ?_)
    | (refine sli_src h1 hx ?_)
    | (refine sli_src h3 hz ?_)
    | (refine Exists.intro _ (And.intro rfl (And.intro rfl (And.intro rfl (And.intro rfl (And.intro rfl (And.intro rfl (And.intro (by decide) (And.intro rfl (And.intro hj1 (And.intro (by unfold maxLen; omega) (And.intro (by omega) (fun cap' hcap1 hcap2 => ?_)))))))))))))
    | (refine Exists.intro _ (And.intro rfl (And.intro rfl (And.intro rfl (And.intro rfl (And.intro rfl (And.intro rfl (And.intro (by decide) (And.intro rfl (And.intro hj3 (And.intro (by unfold maxLen; omega) (And.intro (by omega) (fun cap' hcap1 hcap2 => ?_)))))))))))))
    | (first | (refine And.intro (Exists.intro _ (And.intro rfl rfl)) ?_) | (refine And.intro (?_ : _ → _) (?_ : _ → _)) | (refine And.intro (det3_agg rfl) ?_) | (refine And.intro (by (try simp only [List.length_cons, List.length_nil]); omega) ?_) | (refine And.intro ?_ ?_))
    | (refine Exists.intro _ (And.intro rfl (And.intro rfl (And.intro (Nat.le_of_ble_eq_true rfl) ?_))))
    | (refine Exists.intro _ (And.intro rfl (And.intro rfl (And.intro rfl (And.intro (Nat.le_of_ble_eq_true rfl) ?_)))))
    | (refine And.intro (Exists.intro _ (And.intro rfl rfl)) ?_)
    | (exact fun hW => absurd hW (by decide +kernel))
    | (intro hW; (try simp only [Bool.not_true, Bool.not_false, Bool.not_eq_true', Bool.not_eq_false', decide_eq_true_eq, decide_eq_false_iff_not, reduceCtorEq, Bool.true_eq_false, Bool.false_eq_true, mk_size, List.size_toArray, ByteArray.size_append, ByteArray.size_extract, List.length_cons, List.length_nil, ba_get, ba_empty, Int.toNat_natCast] at hW))
    | (refine And.intro (?_ : _ → _) (?_ : _ → _))
    | (refine FinR.drop 0 (Nat.zero_le _) (Closed.zero _) rfl ?_)
    | (refine FinR.keep ?_)
    | (refine And.intro (det3_agg rfl) ?_)
    | (refine fL_mk ?_)
    | (refine And.intro (by (try simp only [mk_size, List.size_toArray, ByteArray.size_append, ByteArray.size_extract, List.length_cons, List.length_nil]); omega) ?_)
    | (refine And.intro (by (try simp only [mk_size, List.size_toArray, ByteArray.size_append, ByteArray.size_extract, List.length_cons, List.length_nil, wrap64_eq]); omega) ?_)
    | fail)
  all_goals exact newP_raw h0 _ _ _ _ _ _ _ _ _ _ _ (Nat.zero_add _) (Nat.zero_add _) rfl (jc_flat xs) rfl (jc_flat zs)
theorem d_copied (a b c d e f : Int) (s1 s2 s3 : AV) (xs ys zs : List (List Int)) (h1 : Sli W0 σ 6 enI s1 xs) (h2 : Sli W0 σ 4 enI s2 ys) (h3 : Sli W0 σ 4 enI s3 zs) (n1 : s1 ≠ nilA) (n2 : s2 ≠ nilA) (n3 : s3 ≠ nilA) (hx : ∀ x ∈ xs, x.length = 6) (hz : ∀ x ∈ zs, x.length = 4) (hl : xs.length ≤ 2097152) (hl2 : zs.length ≤ 2097152) (K : Cont)
    (h0 : ∀ S b1 r1 c1 b2 r2 c2, S[b1]? = some (shK xs r1) → S[b2]? = some (stK zs r2) → σ.length ≤ b1 → σ.length ≤ b2 → (∀ (j : Nat) (B : Blk), σ[j]? = some B → S[j]? = some B) → K (PlA a b c d e f (.sl b1 r1 0 xs.length c1) (.sl b2 r2 0 zs.length c2)) S) : ACall Try.prog W0 67 [PlA a b c d e f s1 s2, s3] σ K :=
  lift_PlSN (ι := NewP xs zs) (fun x => plN a b c d e f x) (fun x => x.τ) (by kernel_rfl) h1 h2 h3 n1 n2 n3 (fun W1 o1 m1 c1 o2 m2 c2 o3 m3 c3 q1 q2 q3 K hK => c_copied a b c d e f o1 m1 c1 o2 m2 c2 o3 m3 c3 xs ys zs q1 q2 q3 hx hz hl hl2 K hK) K (fun x => h0 _ _ _ _ _ _ _ (newP_sh1 x) (newP_sh2 x) (Nat.le_add_right _ _) (Nat.le_add_right _ _) (fun j B hj => getx1 hj))
theorem d_l11Own (a b c d e f : Int) (s1 s2 s3 : AV) (xs ys zs : List (List Int)) (h1 : Sli W0 σ 6 enI s1 xs) (h2 : Sli W0 σ 4 enI s2 ys) (h3 : Sli W0 σ 4 enI s3 zs) (n1 : s1 ≠ nilA) (n2 : s2 ≠ nilA) (n3 : s3 ≠ nilA) (hx : ∀ x ∈ xs, x.length = 6) (hz : ∀ x ∈ zs, x.length = 4) (hl : xs.length ≤ 2097152) (hl2 : zs.length ≤ 2097152) (K : Cont)
    (h0 : ∀ S b1 r1 c1 b2 r2 c2, S[b1]? = some (shK xs r1) → S[b2]? = some (stK zs r2) → σ.length ≤ b1 → σ.length ≤ b2 → (∀ (j : Nat) (B : Blk), σ[j]? = some B → S[j]? = some B) → K (PlA a b c d e f (.sl b1 r1 0 xs.length c1) (.sl b2 r2 0 zs.length c2)) S) : ACall Try.prog W0 66 [PlA a b c d e f s1 s2, s3] σ K :=
  lift_PlSN (ι := NewP xs zs) (fun x => plN a b c d e f x) (fun x => x.τ) (by kernel_rfl) h1 h2 h3 n1 n2 n3 (fun W1 o1 m1 c1 o2 m2 c2 o3 m3 c3 q1 q2 q3 K hK => c_l11Own a b c d e f o1 m1 c1 o2 m2 c2 o3 m3 c3 xs ys zs q1 q2 q3 hx hz hl hl2 K hK) K (fun x => h0 _ _ _ _ _ _ _ (newP_sh1 x) (newP_sh2 x) (Nat.le_add_right _ _) (Nat.le_add_right _ _) (fun j B hj => getx1 hj))
end Go.Proofs.Ytbmilmnfhdkfjaa
end

section
/- Contracts: steps undone, by both sides. -/
set_option linter.unusedVariables false
set_option linter.unusedSimpArgs false
set_option maxRecDepth 100000
set_option maxHeartbeats 4000000
namespace Go.Proofs.Ytbmilmnfhdkfjaa
open Go Go.RowKit Go.Proofs.Ytbmilmnfhdkfjaa.Abs
variable {W0 : World} {σ : List Blk}
abbrev plZ : AV := PlA 0 0 0 0 0 0 nilA nilA
end Go.Proofs.Ytbmilmnfhdkfjaa
end

section
/- Contracts: plans of the laws with the state as a variable; plans without slices. -/
set_option linter.unusedVariables false
set_option linter.unusedSimpArgs false
set_option maxRecDepth 100000
set_option maxHeartbeats 4000000
namespace Go.Proofs.Ytbmilmnfhdkfjaa
open Go Go.RowKit Go.Proofs.Ytbmilmnfhdkfjaa.Abs
variable {W0 : World} {σ : List Blk}
theorem sli_rowsM3 {b ver n cap s m : Nat} {B : Blk} {k : Int} (hm : m = n * s) (hB : σ[b]? = some (mB B k m)) (hv : B.ver = ver) : Sli W0 σ s enI (.sl b ver 0 n cap) (rowsM k s n) :=
  .own b ver 0 _ cap _ _ hB hv (rowsM_len k s n).symm fun i x hi j v hj => by
    subst hm
    have hlt : i < n := by have := getElem?_lt hi; rwa [rowsM_len] at this
    rw [rowsM_get k s hlt] at hi
    cases hi
    rw [List.getElem?_map, Option.map_eq_some_iff] at hj
    obtain ⟨m, hm, rfl⟩ := hj
    have hj2 : j < s := by have := getElem?_lt hm; rwa [marks_len] at this
    rw [marks_get _ hj2] at hm
    cases hm
    have hb : i * s + j < n * s := by
      have : (i + 1) * s ≤ n * s := Nat.mul_le_mul_right s (by omega)
      rw [Nat.add_mul] at this; omega
    show ((marks k (n * s)).map I ++ B.cells.drop (n * s))[0 + i * s + j]? = _
    rw [Nat.zero_add, List.getElem?_append_left (by rw [List.length_map, marks_len]; exact hb), List.getElem?_map, marks_get k hb]
    show some (I (k + ((i * s + j : Nat) : Int))) = some (I (k + ((i * s : Nat) : Int) + (j : Int)))
    rw [Int.natCast_add, Int.add_assoc]
theorem ne_of_64 {b1 b2 r1 r2 : Nat} {xs ys : List (List Int)} (h1 : σ[b1]? = some (shK xs r1)) (h2 : σ[b2]? = some (stK ys r2)) : b1 ≠ b2 := by
  rintro rfl
  rw [h1] at h2
  injection h2 with h
  injection h with _ _ _ h
  cases h
theorem d_toPlanS (a b c d e f : Int) (s1 s2 : AV) (xs ys : List (List Int)) (h1 : Sli W0 σ 6 enI s1 xs) (h2 : Sli W0 σ 4 enI s2 ys) (hx : ∀ x ∈ xs, x.length = 6) (hy : ∀ x ∈ ys, x.length = 4) (hl : xs.length ≤ 1048576) (hl2 : ys.length ≤ 1048576) (K : Cont)
    (h0 : ∀ S b1 b2, S[b1]? = some (shSB xs) → S[b2]? = some (stSB ys) → σ.length ≤ b1 → σ.length ≤ b2 → b1 ≠ b2 → (∀ (j : Nat) (B : Blk), σ[j]? = some B → S[j]? = some B) → K (PlA a b c d e f (.sl b1 0 0 xs.length xs.length) (.sl b2 0 0 ys.length ys.length)) S) : ACall Try.prog W0 17 [PlA a b c d e f s1 s2] σ K :=
  d_toPlan a b c d e f s1 s2 xs ys h1 h2 hx hy hl hl2 K (fun A B C => h0 _ _ _ g5a g5b (Nat.le_add_right _ _) (Nat.le_add_right _ _) (by omega) (fun j B hj => getx1 hj))
theorem d_markPlanS (a b c d e f : Int) (b1 r1 n1 cap1 b2 r2 n2 cap2 : Nat) (B1 B2 : Blk) (hB1 : σ[b1]? = some B1) (hB2 : σ[b2]? = some B2) (hv1 : B1.ver = r1) (hv2 : B2.ver = r2) (hne : b1 ≠ b2) (hn1 : n1 * 6 ≤ B1.cells.length) (hn2 : n2 * 4 ≤ B2.cells.length) (hm1 : n1 ≤ 1048576) (hm2 : n2 ≤ 1048576) (k : Int) (hk : 0 ≤ k ∧ k ≤ 1000) (K : Cont)
    (h0 : ∀ S, S[b1]? = some (mB B1 k (n1 * 6)) → S[b2]? = some (mB B2 (k + (n1 * 6 : Nat)) (n2 * 4)) → (∀ (j : Nat) (B : Blk), j ≠ b1 → j ≠ b2 → σ[j]? = some B → S[j]? = some B) → K (I (k + (n1 * 6 : Nat) + (n2 * 4 : Nat))) S) : ACall Try.prog W0 29 [PlA a b c d e f (.sl b1 r1 0 n1 cap1) (.sl b2 r2 0 n2 cap2), I k] σ K :=
  d_markPlan a b c d e f b1 r1 n1 cap1 b2 r2 n2 cap2 B1 B2 hB1 hB2 hv1 hv2 hne hn1 hn2 hm1 hm2 k hk K (fun A => h0 _ (get_ne (get_set (getx1 hB1)) (by omega)) (get_set (get_ne (getx1 hB2) hne)) (fun j B j1 j2 hj => get_ne (get_ne (getx1 hj) (by omega)) (by omega)))
theorem c_markPlan0 (k : Int) (K : Cont) (h0 : K (I k) []) : ACall Try.prog W0 29 [plZ, I k] [] K := by
  have hs : ∀ {σ : List Blk} (K : Cont) (h0 : K (I k) σ), ACall Try.prog W0 68 [nilA, I k] σ K := fun {σ} K h0 => by
    refine by68 (Nat.le_of_ble_eq_true rfl) ?_
    repeat' ((conv => whnf); first
      | (refine And.intro rfl ?_)
      | (refine And.intro (by decide +kernel) ?_)
      | (refine And.intro trivial ?_)
      | (refine LoopR.unroll 1 ?_)
      | (refine Exists.intro _ (And.intro rfl (And.intro rfl (And.intro (Nat.le_of_ble_eq_true rfl) ?_))))
      | (refine Exists.intro _ (And.intro rfl (And.intro rfl (And.intro rfl (And.intro (Nat.le_of_ble_eq_true rfl) ?_)))))
      | (refine And.intro (Exists.intro _ (And.intro rfl rfl)) ?_)
      | (exact fun hW => absurd hW (by decide +kernel))
      | (intro hW; (try simp only [Bool.not_true, Bool.not_false, Bool.not_eq_true', Bool.not_eq_false', decide_eq_true_eq, decide_eq_false_iff_not, reduceCtorEq, Bool.true_eq_false, Bool.false_eq_true, mk_size, List.size_toArray, ByteArray.size_append, ByteArray.size_extract, List.length_cons, List.length_nil, ba_get, ba_empty, Int.toNat_natCast] at hW))
      | (refine And.intro (?_ : _ → _) (?_ : _ → _))
      | (refine FinR.drop 0 (Nat.zero_le _) (Closed.zero _) rfl ?_)
      | (refine FinR.keep ?_)
      | (refine And.intro (det3_agg rfl) ?_)
      | (refine fL_mk ?_)
      | (refine And.intro (by (try simp only [mk_size, List.size_toArray, ByteArray.size_append, ByteArray.size_extract, List.length_cons, List.length_nil]); omega) ?_)
      | (refine And.intro (by (try simp only [mk_size, List.size_toArray, ByteArray.size_append, ByteArray.size_extract, List.length_cons, List.length_nil, wrap64_eq]); omega) ?_)
      | fail)
    all_goals first | exact h0 | (exfalso; omega)
  have ht : ∀ {σ : List Blk} (K : Cont) (h0 : K (I k) σ), ACall Try.prog W0 69 [nilA, I k] σ K := fun {σ} K h0 => by
    refine by69 (Nat.le_of_ble_eq_true rfl) ?_
    repeat' ((conv => whnf); first
      | (refine And.intro rfl ?_)
      | (refine And.intro (by decide +kernel) ?_)
      | (refine And.intro trivial ?_)
      | (refine LoopR.unroll 1 ?_)
      | (refine Exists.intro _ (And.intro rfl (And.intro rfl (And.intro (Nat.le_of_ble_eq_true rfl) ?_))))
      | (refine Exists.intro _ (And.intro rfl (And.intro rfl (And.intro rfl (And.intro (Nat.le_of_ble_eq_true rfl) ?_)))))
      | (refine And.intro (Exists.intro _ (And.intro rfl rfl)) ?_)
      | (exact fun hW => absurd hW (by decide +kernel))
      | (intro hW; (try simp only [Bool.not_true, Bool.not_false, Bool.not_eq_true', Bool.not_eq_false', decide_eq_true_eq, decide_eq_false_iff_not, reduceCtorEq, Bool.true_eq_false, Bool.false_eq_true, mk_size, List.size_toArray, ByteArray.size_append, ByteArray.size_extract, List.length_cons, List.length_nil, ba_get, ba_empty, Int.toNat_natCast] at hW))
      | (refine And.intro (?_ : _ → _) (?_ : _ → _))
      | (refine FinR.drop 0 (Nat.zero_le _) (Closed.zero _) rfl ?_)
      | (refine FinR.keep ?_)
      | (refine And.intro (det3_agg rfl) ?_)
      | (refine fL_mk ?_)
      | (refine And.intro (by (try simp only [mk_size, List.size_toArray, ByteArray.size_append, ByteArray.size_extract, List.length_cons, List.length_nil]); omega) ?_)
      | (refine And.intro (by (try simp only [mk_size, List.size_toArray, ByteArray.size_append, ByteArray.size_extract, List.length_cons, List.length_nil, wrap64_eq]); omega) ?_)
      | fail)
    all_goals first | exact h0 | (exfalso; omega)
  refine by29 (Nat.le_of_ble_eq_true rfl) ?_
  repeat' ((conv => whnf); first
    | (refine And.intro rfl ?_)
    | (refine And.intro (by decide +kernel) ?_)
    | (refine And.intro trivial ?_)
    | (refine hs _ ?_)
    | (refine ht _ ?_)
    | (refine Exists.intro _ (And.intro rfl (And.intro rfl (And.intro (Nat.le_of_ble_eq_true rfl) ?_))))
    | (refine Exists.intro _ (And.intro rfl (And.intro rfl (And.intro rfl (And.intro (Nat.le_of_ble_eq_true rfl) ?_)))))
    | (refine And.intro (Exists.intro _ (And.intro rfl rfl)) ?_)
    | (exact fun hW => absurd hW (by decide +kernel))
    | (intro hW; (try simp only [Bool.not_true, Bool.not_false, Bool.not_eq_true', Bool.not_eq_false', decide_eq_true_eq, decide_eq_false_iff_not, reduceCtorEq, Bool.true_eq_false, Bool.false_eq_true, mk_size, List.size_toArray, ByteArray.size_append, ByteArray.size_extract, List.length_cons, List.length_nil, ba_get, ba_empty, Int.toNat_natCast] at hW))
    | (refine And.intro (?_ : _ → _) (?_ : _ → _))
    | (refine FinR.drop 0 (Nat.zero_le _) (Closed.zero _) rfl ?_)
    | (refine FinR.keep ?_)
    | (refine And.intro (det3_agg rfl) ?_)
    | (refine fL_mk ?_)
    | (refine And.intro (by (try simp only [mk_size, List.size_toArray, ByteArray.size_append, ByteArray.size_extract, List.length_cons, List.length_nil]); omega) ?_)
    | (refine And.intro (by (try simp only [mk_size, List.size_toArray, ByteArray.size_append, ByteArray.size_extract, List.length_cons, List.length_nil, wrap64_eq]); omega) ?_)
    | fail)
  all_goals first | exact h0 | (exfalso; omega)
theorem d_markPlan0 (k : Int) (K : Cont) (h0 : K (I k) σ) : ACall Try.prog W0 29 [plZ, I k] σ K :=
  ACall.lift (by kernel_rfl) (fun _ => rfl) (fun W1 K _ hK => c_markPlan0 k K hK) h0
end Go.Proofs.Ytbmilmnfhdkfjaa
end

section
/- Contracts: plans that lead back, by both sides. -/
set_option linter.unusedVariables false
set_option linter.unusedSimpArgs false
set_option maxRecDepth 100000
set_option maxHeartbeats 4000000
namespace Go.Proofs.Ytbmilmnfhdkfjaa
open Go Go.RowKit Go.Proofs.Ytbmilmnfhdkfjaa.Abs
variable {W0 : World} {σ : List Blk}
abbrev fnT : AV := .lit (.func (.func 81) #[] #[])
end Go.Proofs.Ytbmilmnfhdkfjaa
end

section
/- Contracts: BackPlan by the reference. -/
set_option linter.unusedVariables false
set_option linter.unusedSimpArgs false
set_option maxRecDepth 100000
set_option maxHeartbeats 4000000
namespace Go.Proofs.Ytbmilmnfhdkfjaa
open Go Go.RowKit Go.Proofs.Ytbmilmnfhdkfjaa.Abs
variable {W0 : World} {σ : List Blk}
theorem sli_rowsE {xs : List (List Int)} {b ver s n cap : Nat} {C : List AV} {e : TypeId} {z : Nat} {r m : Bool} (hx : ∀ x ∈ xs, x.length = s) (hb : σ[b]? = some ⟨C, ver, e, z, r, m⟩) (hC : C = jc xs) (hn : n = xs.length) : Sli W0 σ s enI (.sl b ver 0 n cap) xs := by
  subst hC; subst hn; exact sli_rows hx hb
end Go.Proofs.Ytbmilmnfhdkfjaa
end

section
/- Contracts: effects of a plan by the reference. -/
set_option linter.unusedVariables false
set_option linter.unusedSimpArgs false
set_option maxRecDepth 100000
set_option maxHeartbeats 4000000
namespace Go.Proofs.Ytbmilmnfhdkfjaa
open Go Go.RowKit Go.Proofs.Ytbmilmnfhdkfjaa.Abs
variable {W0 : World} {σ : List Blk}
/-- what becomes of a cell: by the ends of the empty and of the full sheet -/
def efv (w b k : Nat) : Int := if w.testBit k then (if b.testBit k then 2 else 1) else if b.testBit k then 0 else 3
def effN (w b k : Nat) : List Int := (List.range k).map (efv w b) ++ List.replicate (36 - k) 0
abbrev efL (xs ys : List (List Int)) : List Int := effN (runN (fsOf xs ys) 0) (runN (fsOf xs ys) fullN) 36
end Go.Proofs.Ytbmilmnfhdkfjaa
end

section
/- Contracts: two steps exchanged, by the program. -/
set_option linter.unusedVariables false
set_option linter.unusedSimpArgs false
set_option maxRecDepth 100000
set_option maxHeartbeats 4000000
namespace Go.Proofs.Ytbmilmnfhdkfjaa
open Go Go.RowKit Go.Proofs.Ytbmilmnfhdkfjaa.Abs
variable {W0 : World} {σ : List Blk}
theorem varC_keep {F : List Nat} {R : Prop} : ∀ {σ σ' : List Blk} {k : Nat}, (∀ (j : Nat) (B : Blk), σ[j]? = some B → σ'[j]? = some B) → R → varC F σ R k σ'
  | [], _, _, _, h => h
  | B :: σ, [], k, hk, h => by have := hk 0 B rfl; cases this
  | B :: σ, B' :: σ', k, hk, h => by
    have e : B' = B := Option.some.inj (hk 0 B rfl)
    have ih : varC F σ R (k + 1) σ' := varC_keep (fun j X hj => hk (j + 1) X hj) h
    show (match memB k F with
      | true => B'.ver = B.ver ∧ B'.esz = B.esz ∧ B'.row = B.row ∧ varC F σ R (k + 1) σ'
      | false => B' = B ∧ varC F σ R (k + 1) σ' : Prop)
    subst e
    cases memB k F with
    | true => exact ⟨rfl, rfl, rfl, ih⟩
    | false => exact ⟨rfl, ih⟩
end Go.Proofs.Ytbmilmnfhdkfjaa
end

section
/- Contracts: a step more, by both sides. -/
set_option linter.unusedVariables false
set_option linter.unusedSimpArgs false
set_option maxRecDepth 100000
set_option maxHeartbeats 4000000
namespace Go.Proofs.Ytbmilmnfhdkfjaa
open Go Go.RowKit Go.Proofs.Ytbmilmnfhdkfjaa.Abs
variable {W0 : World} {σ : List Blk}
theorem planB_snoc {a b c d e f : Int} {xs ys : List (List Int)} {r : List Int} : planB a b c d e f xs (ys ++ [r]) = true ↔ planB a b c d e f xs ys = true ∧ ys.length < 40 ∧ stOk xs.length r = true := by
  rw [planB_iff, planB_iff, List.length_append, List.all_append]
  simp only [List.length_cons, List.length_nil, List.all_cons, List.all_nil, Bool.and_true, Bool.and_eq_true]
  constructor
  · rintro ⟨h1, h2, h3, h4, h5, h6⟩; exact ⟨⟨h1, h2, by omega, h4, h5⟩, by omega, h6⟩
  · rintro ⟨⟨h1, h2, h3, h4, h5⟩, h7, h6⟩; exact ⟨h1, h2, by omega, h4, h5, h6⟩
theorem c_sAddST (a b c d e f : Int) (o1 : Addr) (m1 c1 : Nat) (o2 : Addr) (m2 c2 : Nat) (xs ys : List (List Int)) (L : List (List Int)) (k s x y : Int) (hL : L = ys ++ [[k, s, x, y]]) (h1 : Sli W0 [] 6 enI (.lit (.slice (some o1) m1 c1)) xs) (h2 : Sli W0 [] 4 enI (.lit (.slice (some o2) m2 c2)) ys) (hx : ∀ x ∈ xs, x.length = 6) (hy : ∀ x ∈ ys, x.length = 4) (hl : xs.length ≤ 1048576) (hl2 : ys.length ≤ 1048576) (hg : planB a b c d e f xs (ys ++ [[k, s, x, y]]) = true) (K : Cont) (h0 : ∀ x : NewP xs L, K (.tup [plN a b c d e f x, Bo true]) x.τ) : ACall Try.prog W0 31 [PlA a b c d e f (.lit (.slice (some o1) m1 c1)) (.lit (.slice (some o2) m2 c2)), Ste k s x y] [] K := by
  refine by31 (Nat.le_of_ble_eq_true rfl) ?_
  subst hL
  obtain ⟨hg1, h40, hok⟩ := planB_snoc.1 hg
  have hn1 : m1 = xs.length := by cases h1 with | inn ad n cap xs hn hc hm hb hxx => exact hn
  have hn2 : m2 = ys.length := by cases h2 with | inn ad n cap xs hn hc hm hb hxx => exact hn
  subst hn1; subst hn2
  have hml : ys.length * 4 = (jc ys).length := (jc_len (s := 4) hy).symm
  repeat' ((conv => whnf); first
    | (refine And.intro rfl ?_)
    | (refine And.intro (by decide +kernel) ?_)
    | (refine And.intro trivial ?_)
    | (refine fS_mk ?_)
    | (refine d_l11Plan (h1 := sli_up h1) (h2 := sli_up h2) (hx := hx) (hy := hy) (hl := hl) (hl2 := hl2) (h0 := ?_) ..; rw [hg1])
    | (refine d_l11Step (hm := hl) (h0 := ?_) ..)
    | (refine Exists.intro _ (And.intro (fun τ => callW_fn (d_l11Step (hm := hl) (h0 := And.intro rfl rfl) ..)) ?_))
    | (refine Exists.intro _ (And.intro (callW_fn (d_l11Step (hm := hl) (h0 := And.intro rfl rfl) ..)) (And.intro trivial ?_)))
    | (refine Exists.intro _ (And.intro (callW_fn (d_l11Step (hm := hl) (h0 := And.intro rfl rfl) ..)) ?_))
    | (refine Exists.intro _ (And.intro (fun τ _ => callW_fn (d_l11Step (hm := hl) (h0 := And.intro rfl rfl) ..)) ?_))
    | (refine d_l11Own (h1 := sli_up h1) (h2 := sli_up h2) (h3 := sli_up h2) (n1 := lit_nn) (n2 := lit_nn) (n3 := lit_nn) (hx := hx) (hz := hy) (hl := by omega) (hl2 := by omega) (h0 := fun S b1 w1 z1 b2 w2 z2 e1 e2 g1 g2 hkk => ?_) ..; have k0 := hkk 0 _ rfl; have k1 := hkk 1 _ rfl; have k2 := hkk 2 _ rfl; have l1 := getElem?_lt e1; have l2 := getElem?_lt e2; simp only [List.length_cons, List.length_nil] at g1 g2; have hb12 := ne_of_64 e1 e2)
    | (refine And.intro ⟨_, getl, rfl⟩ ?_)
    | (refine And.intro ⟨_, get_ne getl (by omega), rfl⟩ ?_)
    | (refine Exists.intro _ (And.intro (getx1 e2) (And.intro rfl (And.intro rfl (And.intro rfl (And.intro rfl (And.intro rfl (And.intro (by decide) (And.intro hml (And.intro rfl (And.intro (by unfold maxLen; omega) (And.intro (by omega) (fun cap' hcap1 hcap2 => ?_)))))))))))))
    | (refine Exists.intro _ (And.intro getl (And.intro rfl (And.intro rfl (And.intro (Nat.le_of_ble_eq_true rfl) ?_)))); rw [set_last])
    | (refine Exists.intro _ (And.intro (get_ne getl (by omega)) (And.intro rfl (And.intro rfl (And.intro (Nat.le_of_ble_eq_true rfl) ?_)))))
    | (refine Exists.intro _ (And.intro getl (And.intro rfl (And.intro (Nat.le_of_ble_eq_true rfl) ?_))))
    | (refine Exists.intro _ (And.intro (getx1 k1) (And.intro rfl (And.intro (Nat.le_of_ble_eq_true rfl) ?_))))
    | (refine Exists.intro _ (And.intro (get_set (get_ne getl (by omega))) (And.intro rfl (And.intro (Nat.le_of_ble_eq_true rfl) ?_))))
    | (refine Exists.intro _ (And.intro (get_ne (get_ne (getx1 k2) (show b2 ≠ 2 by omega)) (show S.length ≠ 2 by omega)) (And.intro rfl (And.intro rfl (And.intro (Nat.le_of_ble_eq_true rfl) ?_)))))
    | (refine Exists.intro _ (And.intro (get_set (get_ne (get_ne (getx1 k2) (show b2 ≠ 2 by omega)) (show S.length ≠ 2 by omega))) (And.intro rfl (And.intro (Nat.le_of_ble_eq_true rfl) ?_))))
    | (refine Exists.intro _ (And.intro rfl (And.intro rfl (And.intro (Nat.le_of_ble_eq_true rfl) ?_))))
    | (refine Exists.intro _ (And.intro rfl (And.intro rfl (And.intro rfl (And.intro (Nat.le_of_ble_eq_true rfl) ?_)))))
    | (refine And.intro (Exists.intro _ (And.intro rfl rfl)) ?_)
    | (exact fun hW => absurd hW (by decide +kernel))
    | (intro hW; (try simp only [Bool.not_true, Bool.not_false, Bool.not_eq_true', Bool.not_eq_false', decide_eq_true_eq, decide_eq_false_iff_not, reduceCtorEq, Bool.true_eq_false, Bool.false_eq_true, mk_size, List.size_toArray, ByteArray.size_append, ByteArray.size_extract, List.length_cons, List.length_nil, ba_get, ba_empty, Int.toNat_natCast] at hW))
    | (refine And.intro (?_ : _ → _) (?_ : _ → _))
    | (refine FinR.drop 0 (Nat.zero_le _) (Closed.zero _) rfl ?_)
    | (refine FinR.keep ?_)
    | (refine And.intro (det3_agg rfl) ?_)
    | (refine fL_mk ?_)
    | (refine And.intro (by (try simp only [mk_size, List.size_toArray, ByteArray.size_append, ByteArray.size_extract, List.length_cons, List.length_nil]); omega) ?_)
    | (refine And.intro (by (try simp only [mk_size, List.size_toArray, ByteArray.size_append, ByteArray.size_extract, List.length_cons, List.length_nil, wrap64_eq]); omega) ?_)
    | fail)
  all_goals first | (exfalso; omega) | (exfalso; simp_all; done) | skip
  all_goals exact newP_raw (K := fun v S => K (.tup [v, Bo true]) S) h0 _ _ _ _ _ _ _ _ _ _ _ rfl (by rw [List.length_append]; rfl) (get_ne (get_ne (get_ne (getx1 e1) hb12.symm) (show S.length ≠ b1 by omega)) (show 2 ≠ b1 by omega)) rfl (get_ne (get_ne (get_set (getx1 e2)) (show S.length ≠ b2 by omega)) (show 2 ≠ b2 by omega)) (jc_snoc ys [k, s, x, y]).symm
theorem c_sAddSF (a b c d e f : Int) (o1 : Addr) (m1 c1 : Nat) (o2 : Addr) (m2 c2 : Nat) (xs ys : List (List Int)) (k s x y : Int) (h1 : Sli W0 [] 6 enI (.lit (.slice (some o1) m1 c1)) xs) (h2 : Sli W0 [] 4 enI (.lit (.slice (some o2) m2 c2)) ys) (hx : ∀ x ∈ xs, x.length = 6) (hy : ∀ x ∈ ys, x.length = 4) (hl : xs.length ≤ 1048576) (hl2 : ys.length ≤ 1048576) (hg : planB a b c d e f xs (ys ++ [[k, s, x, y]]) = false) (K : Cont) (h0 : K (.tup [plZ, Bo false]) []) : ACall Try.prog W0 31 [PlA a b c d e f (.lit (.slice (some o1) m1 c1)) (.lit (.slice (some o2) m2 c2)), Ste k s x y] [] K := by
  refine by31 (Nat.le_of_ble_eq_true rfl) ?_
  have hn1 : m1 = xs.length := by cases h1 with | inn ad n cap xs hn hc hm hb hxx => exact hn
  have hn2 : m2 = ys.length := by cases h2 with | inn ad n cap xs hn hc hm hb hxx => exact hn
  subst hn1; subst hn2
  cases hp : planB a b c d e f xs ys with
  | false =>
    repeat' ((conv => whnf); first
      | (refine And.intro rfl ?_)
      | (refine And.intro (by decide +kernel) ?_)
      | (refine And.intro trivial ?_)
      | (refine d_l11Plan (h1 := sli_up h1) (h2 := sli_up h2) (hx := hx) (hy := hy) (hl := hl) (hl2 := hl2) (h0 := ?_) ..; rw [hp])
      | (refine Exists.intro _ (And.intro rfl (And.intro rfl (And.intro (Nat.le_of_ble_eq_true rfl) ?_))))
      | (refine Exists.intro _ (And.intro rfl (And.intro rfl (And.intro rfl (And.intro (Nat.le_of_ble_eq_true rfl) ?_)))))
      | (refine And.intro (Exists.intro _ (And.intro rfl rfl)) ?_)
      | (exact fun hW => absurd hW (by decide +kernel))
      | (intro hW; (try simp only [Bool.not_true, Bool.not_false, Bool.not_eq_true', Bool.not_eq_false', decide_eq_true_eq, decide_eq_false_iff_not, reduceCtorEq, Bool.true_eq_false, Bool.false_eq_true, mk_size, List.size_toArray, ByteArray.size_append, ByteArray.size_extract, List.length_cons, List.length_nil, ba_get, ba_empty, Int.toNat_natCast] at hW))
      | (refine And.intro (?_ : _ → _) (?_ : _ → _))
      | (refine FinR.drop 0 (Nat.zero_le _) (Closed.zero _) rfl ?_)
      | (refine FinR.keep ?_)
      | (refine And.intro (det3_agg rfl) ?_)
      | (refine fL_mk ?_)
      | (refine And.intro (by (try simp only [mk_size, List.size_toArray, ByteArray.size_append, ByteArray.size_extract, List.length_cons, List.length_nil]); omega) ?_)
      | (refine And.intro (by (try simp only [mk_size, List.size_toArray, ByteArray.size_append, ByteArray.size_extract, List.length_cons, List.length_nil, wrap64_eq]); omega) ?_)
      | fail)
    all_goals first | exact h0 | (exfalso; omega) | (exfalso; simp_all; done)
  | true =>
    have hno : ¬ (ys.length < 40 ∧ stOk xs.length [k, s, x, y] = true) := fun h => by rw [planB_snoc.2 ⟨hp, h⟩] at hg; cases hg
    by_cases h40 : ys.length < 40
    · have hst : stOk xs.length [k, s, x, y] = false := by rw [Bool.eq_false_iff]; exact fun h => hno ⟨h40, h⟩
      repeat' ((conv => whnf); first
        | (refine And.intro rfl ?_)
        | (refine And.intro (by decide +kernel) ?_)
        | (refine And.intro trivial ?_)
        | (refine d_l11Plan (h1 := sli_up h1) (h2 := sli_up h2) (hx := hx) (hy := hy) (hl := hl) (hl2 := hl2) (h0 := ?_) ..; rw [hp])
        | (refine d_l11Step (hm := hl) (h0 := ?_) ..)
        | (refine Exists.intro _ (And.intro (fun τ => callW_fn (d_l11Step (hm := hl) (h0 := And.intro rfl rfl) ..)) ?_))
        | (refine Exists.intro _ (And.intro (callW_fn (d_l11Step (hm := hl) (h0 := And.intro rfl rfl) ..)) (And.intro trivial ?_)))
        | (refine Exists.intro _ (And.intro (callW_fn (d_l11Step (hm := hl) (h0 := And.intro rfl rfl) ..)) ?_))
        | (refine Exists.intro _ (And.intro (fun τ _ => callW_fn (d_l11Step (hm := hl) (h0 := And.intro rfl rfl) ..)) ?_))
        | (refine Exists.intro _ (And.intro rfl (And.intro rfl (And.intro (Nat.le_of_ble_eq_true rfl) ?_))))
        | (refine Exists.intro _ (And.intro rfl (And.intro rfl (And.intro rfl (And.intro (Nat.le_of_ble_eq_true rfl) ?_)))))
        | (refine And.intro (Exists.intro _ (And.intro rfl rfl)) ?_)
        | (exact fun hW => absurd hW (by decide +kernel))
        | (intro hW; (try simp only [Bool.not_true, Bool.not_false, Bool.not_eq_true', Bool.not_eq_false', decide_eq_true_eq, decide_eq_false_iff_not, reduceCtorEq, Bool.true_eq_false, Bool.false_eq_true, mk_size, List.size_toArray, ByteArray.size_append, ByteArray.size_extract, List.length_cons, List.length_nil, ba_get, ba_empty, Int.toNat_natCast] at hW))
        | (refine And.intro (?_ : _ → _) (?_ : _ → _))
        | (refine FinR.drop 0 (Nat.zero_le _) (Closed.zero _) rfl ?_)
        | (refine FinR.keep ?_)
        | (refine And.intro (det3_agg rfl) ?_)
        | (refine fL_mk ?_)
        | (refine And.intro (by (try simp only [mk_size, List.size_toArray, ByteArray.size_append, ByteArray.size_extract, List.length_cons, List.length_nil]); omega) ?_)
        | (refine And.intro (by (try simp only [mk_size, List.size_toArray, ByteArray.size_append, ByteArray.size_extract, List.length_cons, List.length_nil, wrap64_eq]); omega) ?_)
        | fail)
      all_goals first | exact h0 | (exfalso; omega) | (exfalso; simp_all; done)
    · skip
      repeat' ((conv => whnf); first
        | (refine And.intro rfl ?_)
        | (refine And.intro (by decide +kernel) ?_)
        | (refine And.intro trivial ?_)
        | (refine d_l11Plan (h1 := sli_up h1) (h2 := sli_up h2) (hx := hx) (hy := hy) (hl := hl) (hl2 := hl2) (h0 := ?_) ..; rw [hp])
        | (refine d_l11Step (hm := hl) (h0 := ?_) ..)
        | (refine Exists.intro _ (And.intro (fun τ => callW_fn (d_l11Step (hm := hl) (h0 := And.intro rfl rfl) ..)) ?_))
        | (refine Exists.intro _ (And.intro (callW_fn (d_l11Step (hm := hl) (h0 := And.intro rfl rfl) ..)) (And.intro trivial ?_)))
        | (refine Exists.intro _ (And.intro (callW_fn (d_l11Step (hm := hl) (h0 := And.intro rfl rfl) ..)) ?_))
        | (refine Exists.intro _ (And.intro (fun τ _ => callW_fn (d_l11Step (hm := hl) (h0 := And.intro rfl rfl) ..)) ?_))
        | (refine Exists.intro _ (And.intro rfl (And.intro rfl (And.intro (Nat.le_of_ble_eq_true rfl) ?_))))
        | (refine Exists.intro _ (And.intro rfl (And.intro rfl (And.intro rfl (And.intro (Nat.le_of_ble_eq_true rfl) ?_)))))
        | (refine And.intro (Exists.intro _ (And.intro rfl rfl)) ?_)
        | (exact fun hW => absurd hW (by decide +kernel))
        | (intro hW; (try simp only [Bool.not_true, Bool.not_false, Bool.not_eq_true', Bool.not_eq_false', decide_eq_true_eq, decide_eq_false_iff_not, reduceCtorEq, Bool.true_eq_false, Bool.false_eq_true, mk_size, List.size_toArray, ByteArray.size_append, ByteArray.size_extract, List.length_cons, List.length_nil, ba_get, ba_empty, Int.toNat_natCast] at hW))
        | (refine And.intro (?_ : _ → _) (?_ : _ → _))
        | (refine FinR.drop 0 (Nat.zero_le _) (Closed.zero _) rfl ?_)
        | (refine FinR.keep ?_)
        | (refine And.intro (det3_agg rfl) ?_)
        | (refine fL_mk ?_)
        | (refine And.intro (by (try simp only [mk_size, List.size_toArray, ByteArray.size_append, ByteArray.size_extract, List.length_cons, List.length_nil]); omega) ?_)
        | (refine And.intro (by (try simp only [mk_size, List.size_toArray, ByteArray.size_append, ByteArray.size_extract, List.length_cons, List.length_nil, wrap64_eq]); omega) ?_)
        | fail)
      all_goals first | exact h0 | (exfalso; omega) | (exfalso; simp_all; done)
theorem st_varS {C : List Blk → Prop} {b ver off n : Nat} {cs : List AV} {B : Blk} (hB : σ[b]? = some B) (hv : B.ver = ver) (hn : cs.length = n) (hle : off + n ≤ B.cells.length) (h : ∀ Q, Q[b]? = some { B with cells := B.cells.take off ++ cs ++ B.cells.drop (off + n) } → (∀ (j : Nat) (X : Blk), b ≠ j → σ[j]? = some X → Q[j]? = some X) → C Q) :
    ∃ B', σ[b]? = some B' ∧ B'.ver = ver ∧ cs.length = n ∧ off + n ≤ B'.cells.length ∧ fS (σ.set b { B' with cells := B'.cells.take off ++ cs ++ B'.cells.drop (off + n) }) C :=
  ⟨B, hB, hv, hn, hle, by rw [fS_eq]; exact h _ (get_set hB) (fun j X hj hX => get_ne hX hj)⟩
theorem keep3 {A B C : Blk} {τ S : List Blk} (h : ∀ (j : Nat) (X : Blk), (A :: B :: C :: τ)[j]? = some X → S[j]? = some X) {j : Nat} {X : Blk} (hj : [A, B, C][j]? = some X) : S[j]? = some X := by
  match j, hj with
  | 0, hj => exact h 0 X hj
  | 1, hj => exact h 1 X hj
  | 2, hj => exact h 2 X hj
theorem c_AddST (a b c d e f : Int) (o1 : Addr) (m1 c1 : Nat) (o2 : Addr) (m2 c2 : Nat) (xs ys : List (List Int)) (L : List (List Int)) (k s x y : Int) (hL : L = ys ++ [[k, s, x, y]]) (h1 : Sli W0 [] 6 enI (.lit (.slice (some o1) m1 c1)) xs) (h2 : Sli W0 [] 4 enI (.lit (.slice (some o2) m2 c2)) ys) (hx : ∀ x ∈ xs, x.length = 6) (hy : ∀ x ∈ ys, x.length = 4) (hg : planB a b c d e f xs (ys ++ [[k, s, x, y]]) = true) (K : Cont) (h0 : ∀ x : NewP xs L, K (.tup [plN a b c d e f x, Bo true]) x.τ) : ACall Try.prog W0 33 [PlA a b c d e f (.lit (.slice (some o1) m1 c1)) (.lit (.slice (some o2) m2 c2)), Ste k s x y] [] K := by
  refine by33 (Nat.le_of_ble_eq_true rfl) ?_
  subst hL
  obtain ⟨hg1, h40, hok⟩ := planB_snoc.1 hg
  obtain ⟨_, hx4, hy40, hxa, hya⟩ := planB_iff.1 hg1
  have hn1 : m1 = xs.length := by cases h1 with | inn ad n cap xs hn hc hm hb hxx => exact hn
  have hn2 : m2 = ys.length := by cases h2 with | inn ad n cap xs hn hc hm hb hxx => exact hn
  subst hn1; subst hn2
  have hml : ys.length * 4 = (jc ys).length := (jc_len (s := 4) hy).symm
  have hzL : ∀ z ∈ ys ++ [[k, s, x, y]], z.length = 4 := fun z hz => by
    rcases List.mem_append.1 hz with h | h
    · exact hy z h
    · rw [List.mem_singleton.1 h]; rfl
  have hzl : (ys ++ [[k, s, x, y]]).length = ys.length + 1 := by rw [List.length_append]; rfl
  repeat' ((conv => whnf); first
    | (refine And.intro rfl ?_)
    | (refine And.intro (by decide +kernel) ?_)
    | (refine And.intro trivial ?_)
    | (refine fS_mk ?_)
    | (refine d_CloneStep (h1 := sli_up h2) (n1 := lit_nn) (hx := hy) (hl := by omega) (h0 := fun c' => ?_) ..)
    | (refine Exists.intro _ (And.intro rfl (And.intro rfl (And.intro rfl (And.intro rfl (And.intro rfl (And.intro rfl (And.intro (by decide) (And.intro hml (And.intro rfl (And.intro (by unfold maxLen; omega) (And.intro (by omega) (fun cap' hcap1 hcap2 => ?_)))))))))))))
    | (refine d_copied (h1 := sli_up h1) (h2 := sli_up h2) (h3 := sli_rowsE hzL rfl (jc_snoc ys [k, s, x, y]).symm hzl.symm) (n1 := lit_nn) (n2 := lit_nn) (n3 := sl_nn) (hx := hx) (hz := hzL) (hl := by omega) (hl2 := by omega) (h0 := fun S b1 w1 z1 b2 w2 z2 e1 e2 g1 g2 hkk => varC_keep (fun j B hj => keep3 hkk hj) ?_) ..)
    | (first | (refine And.intro (Exists.intro _ (And.intro rfl rfl)) ?_) | (refine And.intro (?_ : _ → _) (?_ : _ → _)) | (refine And.intro (det3_agg rfl) ?_) | (refine And.intro (by (try simp only [List.length_cons, List.length_nil]); omega) ?_) | (refine And.intro ?_ ?_))
    | (refine Exists.intro _ (And.intro rfl (And.intro rfl (And.intro (Nat.le_of_ble_eq_true rfl) ?_))))
    | (refine Exists.intro _ (And.intro rfl (And.intro rfl (And.intro rfl (And.intro (Nat.le_of_ble_eq_true rfl) ?_)))))
    | (refine And.intro (Exists.intro _ (And.intro rfl rfl)) ?_)
    | (exact fun hW => absurd hW (by decide +kernel))
    | (intro hW; (try simp only [Bool.not_true, Bool.not_false, Bool.not_eq_true', Bool.not_eq_false', decide_eq_true_eq, decide_eq_false_iff_not, reduceCtorEq, Bool.true_eq_false, Bool.false_eq_true, mk_size, List.size_toArray, ByteArray.size_append, ByteArray.size_extract, List.length_cons, List.length_nil, ba_get, ba_empty, Int.toNat_natCast] at hW))
    | (refine And.intro (?_ : _ → _) (?_ : _ → _))
    | (refine FinR.drop 0 (Nat.zero_le _) (Closed.zero _) rfl ?_)
    | (refine FinR.keep ?_)
    | (refine And.intro (det3_agg rfl) ?_)
    | (refine fL_mk ?_)
    | (refine And.intro (by (try simp only [mk_size, List.size_toArray, ByteArray.size_append, ByteArray.size_extract, List.length_cons, List.length_nil]); omega) ?_)
    | (refine And.intro (by (try simp only [mk_size, List.size_toArray, ByteArray.size_append, ByteArray.size_extract, List.length_cons, List.length_nil, wrap64_eq]); omega) ?_)
    | fail)
  all_goals first | (exfalso; omega) | (exfalso; simp_all; done) | skip
  all_goals (try (refine varC_keep (fun j B hj => getx1 (keep3 hkk hj)) ?_))
  all_goals (have k0 := hkk 0 _ rfl; have k1 := hkk 1 _ rfl; have k2 := hkk 2 _ rfl; have l1 := getElem?_lt e1; have l2 := getElem?_lt e2)
  repeat' ((conv => whnf); first
    | (refine And.intro rfl ?_)
    | (refine And.intro (by decide +kernel) ?_)
    | (refine And.intro trivial ?_)
    | (refine st_varS (hkk _ _ rfl) rfl rfl (Nat.le_of_ble_eq_true rfl) (fun Q zt hq => varC_keep (fun j B hj => hq j B (by have := getElem?_lt hj; simp only [List.length_set, List.length_append, List.length_cons, List.length_nil] at this ⊢; omega) (keep3 hkk hj)) ?_); have e1 := hq _ _ (by have g1' := g1; have g2' := g2; simp only [List.length_set, List.length_append, List.length_cons, List.length_nil] at g1' g2' ⊢; omega) e1; have e2 := hq _ _ (by have g1' := g1; have g2' := g2; simp only [List.length_set, List.length_append, List.length_cons, List.length_nil] at g1' g2' ⊢; omega) e2; have k2 := hq 2 _ (by have g1' := g1; have g2' := g2; simp only [List.length_set, List.length_append, List.length_cons, List.length_nil] at g1' g2' ⊢; omega) k2)
    | (refine st_varS getl rfl rfl (Nat.le_of_ble_eq_true rfl) (fun Q zt hq => varC_keep (fun j B hj => hq j B (by have := getElem?_lt (keep3 hkk hj); omega) (getx1 (keep3 hkk hj))) ?_); have l3 := getElem?_lt k2; have e1 := hq _ _ (by omega) (getx1 e1); have e2 := hq _ _ (by omega) (getx1 e2); have k2 := hq 2 _ (by omega) (getx1 k2))
    | (refine Exists.intro _ (And.intro rfl (And.intro rfl (And.intro (Nat.le_of_ble_eq_true rfl) ?_))))
    | (refine Exists.intro _ (And.intro rfl (And.intro rfl (And.intro rfl (And.intro (Nat.le_of_ble_eq_true rfl) ?_)))))
    | (refine And.intro (Exists.intro _ (And.intro rfl rfl)) ?_)
    | (exact fun hW => absurd hW (by decide +kernel))
    | (intro hW; (try simp only [Bool.not_true, Bool.not_false, Bool.not_eq_true', Bool.not_eq_false', decide_eq_true_eq, decide_eq_false_iff_not, reduceCtorEq, Bool.true_eq_false, Bool.false_eq_true, mk_size, List.size_toArray, ByteArray.size_append, ByteArray.size_extract, List.length_cons, List.length_nil, ba_get, ba_empty, Int.toNat_natCast] at hW))
    | (refine And.intro (?_ : _ → _) (?_ : _ → _))
    | (refine FinR.drop 0 (Nat.zero_le _) (Closed.zero _) rfl ?_)
    | (refine FinR.keep ?_)
    | (refine And.intro (det3_agg rfl) ?_)
    | (refine fL_mk ?_)
    | (refine And.intro (by (try simp only [mk_size, List.size_toArray, ByteArray.size_append, ByteArray.size_extract, List.length_cons, List.length_nil]); omega) ?_)
    | (refine And.intro (by (try simp only [mk_size, List.size_toArray, ByteArray.size_append, ByteArray.size_extract, List.length_cons, List.length_nil, wrap64_eq]); omega) ?_)
    | fail)
  repeat' ((conv => whnf); first
    | (refine And.intro rfl ?_)
    | (refine And.intro (by decide +kernel) ?_)
    | (refine And.intro trivial ?_)
    | (refine fS_mk ?_)
    | (refine d_IsPlan (h1 := sli_rows hx e1) (h2 := sli_rows hzL e2) (hx := hx) (hy := hzL) (h0 := ?_) ..; rw [hg])
    | (refine Exists.intro _ (And.intro zt (And.intro rfl (And.intro (Nat.le_of_ble_eq_true rfl) ?_))))
    | (refine Exists.intro _ (And.intro k2 (And.intro rfl (And.intro rfl (And.intro (Nat.le_of_ble_eq_true rfl) ?_)))))
    | (refine Exists.intro _ (And.intro (get_set k2) (And.intro rfl (And.intro (Nat.le_of_ble_eq_true rfl) ?_))))
    | (refine Exists.intro _ (And.intro rfl (And.intro rfl (And.intro (Nat.le_of_ble_eq_true rfl) ?_))))
    | (refine Exists.intro _ (And.intro rfl (And.intro rfl (And.intro rfl (And.intro (Nat.le_of_ble_eq_true rfl) ?_)))))
    | (refine And.intro (Exists.intro _ (And.intro rfl rfl)) ?_)
    | (exact fun hW => absurd hW (by decide +kernel))
    | (intro hW; (try simp only [Bool.not_true, Bool.not_false, Bool.not_eq_true', Bool.not_eq_false', decide_eq_true_eq, decide_eq_false_iff_not, reduceCtorEq, Bool.true_eq_false, Bool.false_eq_true, mk_size, List.size_toArray, ByteArray.size_append, ByteArray.size_extract, List.length_cons, List.length_nil, ba_get, ba_empty, Int.toNat_natCast] at hW))
    | (refine And.intro (?_ : _ → _) (?_ : _ → _))
    | (refine FinR.drop 0 (Nat.zero_le _) (Closed.zero _) rfl ?_)
    | (refine FinR.keep ?_)
    | (refine And.intro (det3_agg rfl) ?_)
    | (refine fL_mk ?_)
    | (refine And.intro (by (try simp only [mk_size, List.size_toArray, ByteArray.size_append, ByteArray.size_extract, List.length_cons, List.length_nil]); omega) ?_)
    | (refine And.intro (by (try simp only [mk_size, List.size_toArray, ByteArray.size_append, ByteArray.size_extract, List.length_cons, List.length_nil, wrap64_eq]); omega) ?_)
    | fail)
  all_goals first | (exfalso; omega) | (exfalso; simp_all; done) | skip
  all_goals exact h0 ⟨_, _, _, _, _, _, _, get_ne e1 (by have g1' := g1; have g2' := g2; simp only [List.length_set, List.length_append, List.length_cons, List.length_nil] at g1' g2' ⊢; omega), get_ne e2 (by have g1' := g1; have g2' := g2; simp only [List.length_set, List.length_append, List.length_cons, List.length_nil] at g1' g2' ⊢; omega)⟩
theorem c_AddSF (a b c d e f : Int) (o1 : Addr) (m1 c1 : Nat) (o2 : Addr) (m2 c2 : Nat) (xs ys : List (List Int)) (k s x y : Int) (h1 : Sli W0 [] 6 enI (.lit (.slice (some o1) m1 c1)) xs) (h2 : Sli W0 [] 4 enI (.lit (.slice (some o2) m2 c2)) ys) (hx : ∀ x ∈ xs, x.length = 6) (hy : ∀ x ∈ ys, x.length = 4) (hl : xs.length ≤ 1048576) (hl2 : ys.length ≤ 1048576) (hg : planB a b c d e f xs (ys ++ [[k, s, x, y]]) = false) (K : Cont) (h0 : K (.tup [plZ, Bo false]) []) : ACall Try.prog W0 33 [PlA a b c d e f (.lit (.slice (some o1) m1 c1)) (.lit (.slice (some o2) m2 c2)), Ste k s x y] [] K := by
  refine by33 (Nat.le_of_ble_eq_true rfl) ?_
  have hn1 : m1 = xs.length := by cases h1 with | inn ad n cap xs hn hc hm hb hxx => exact hn
  have hn2 : m2 = ys.length := by cases h2 with | inn ad n cap xs hn hc hm hb hxx => exact hn
  subst hn1; subst hn2
  have hml : ys.length * 4 = (jc ys).length := (jc_len (s := 4) hy).symm
  have hzL : ∀ z ∈ ys ++ [[k, s, x, y]], z.length = 4 := fun z hz => by
    rcases List.mem_append.1 hz with h | h
    · exact hy z h
    · rw [List.mem_singleton.1 h]; rfl
  have hzl : (ys ++ [[k, s, x, y]]).length = ys.length + 1 := by rw [List.length_append]; rfl
  repeat' ((conv => whnf); first
    | (refine And.intro rfl ?_)
    | (refine And.intro (by decide +kernel) ?_)
    | (refine And.intro trivial ?_)
    | (refine fS_mk ?_)
    | (refine d_CloneStep (h1 := sli_up h2) (n1 := lit_nn) (hx := hy) (hl := by omega) (h0 := fun c' => ?_) ..)
    | (refine Exists.intro _ (And.intro rfl (And.intro rfl (And.intro rfl (And.intro rfl (And.intro rfl (And.intro rfl (And.intro (by decide) (And.intro hml (And.intro rfl (And.intro (by unfold maxLen; omega) (And.intro (by omega) (fun cap' hcap1 hcap2 => ?_)))))))))))))
    | (refine d_copied (h1 := sli_up h1) (h2 := sli_up h2) (h3 := sli_rowsE hzL rfl (jc_snoc ys [k, s, x, y]).symm hzl.symm) (n1 := lit_nn) (n2 := lit_nn) (n3 := sl_nn) (hx := hx) (hz := hzL) (hl := by omega) (hl2 := by omega) (h0 := fun S b1 w1 z1 b2 w2 z2 e1 e2 g1 g2 hkk => varC_keep (fun j B hj => keep3 hkk hj) ?_) ..)
    | (first | (refine And.intro (Exists.intro _ (And.intro rfl rfl)) ?_) | (refine And.intro (?_ : _ → _) (?_ : _ → _)) | (refine And.intro (det3_agg rfl) ?_) | (refine And.intro (by (try simp only [List.length_cons, List.length_nil]); omega) ?_) | (refine And.intro ?_ ?_))
    | (refine Exists.intro _ (And.intro rfl (And.intro rfl (And.intro (Nat.le_of_ble_eq_true rfl) ?_))))
    | (refine Exists.intro _ (And.intro rfl (And.intro rfl (And.intro rfl (And.intro (Nat.le_of_ble_eq_true rfl) ?_)))))
    | (refine And.intro (Exists.intro _ (And.intro rfl rfl)) ?_)
    | (exact fun hW => absurd hW (by decide +kernel))
    | (intro hW; (try simp only [Bool.not_true, Bool.not_false, Bool.not_eq_true', Bool.not_eq_false', decide_eq_true_eq, decide_eq_false_iff_not, reduceCtorEq, Bool.true_eq_false, Bool.false_eq_true, mk_size, List.size_toArray, ByteArray.size_append, ByteArray.size_extract, List.length_cons, List.length_nil, ba_get, ba_empty, Int.toNat_natCast] at hW))
    | (refine And.intro (?_ : _ → _) (?_ : _ → _))
    | (refine FinR.drop 0 (Nat.zero_le _) (Closed.zero _) rfl ?_)
    | (refine FinR.keep ?_)
    | (refine And.intro (det3_agg rfl) ?_)
    | (refine fL_mk ?_)
    | (refine And.intro (by (try simp only [mk_size, List.size_toArray, ByteArray.size_append, ByteArray.size_extract, List.length_cons, List.length_nil]); omega) ?_)
    | (refine And.intro (by (try simp only [mk_size, List.size_toArray, ByteArray.size_append, ByteArray.size_extract, List.length_cons, List.length_nil, wrap64_eq]); omega) ?_)
    | fail)
  all_goals first | (exfalso; omega) | (exfalso; simp_all; done) | skip
  all_goals (try (refine varC_keep (fun j B hj => getx1 (keep3 hkk hj)) ?_))
  all_goals (have k0 := hkk 0 _ rfl; have k1 := hkk 1 _ rfl; have k2 := hkk 2 _ rfl; have l1 := getElem?_lt e1; have l2 := getElem?_lt e2)
  repeat' ((conv => whnf); first
    | (refine And.intro rfl ?_)
    | (refine And.intro (by decide +kernel) ?_)
    | (refine And.intro trivial ?_)
    | (refine st_varS (hkk _ _ rfl) rfl rfl (Nat.le_of_ble_eq_true rfl) (fun Q zt hq => varC_keep (fun j B hj => hq j B (by have := getElem?_lt hj; simp only [List.length_set, List.length_append, List.length_cons, List.length_nil] at this ⊢; omega) (keep3 hkk hj)) ?_); have e1 := hq _ _ (by have g1' := g1; have g2' := g2; simp only [List.length_set, List.length_append, List.length_cons, List.length_nil] at g1' g2' ⊢; omega) e1; have e2 := hq _ _ (by have g1' := g1; have g2' := g2; simp only [List.length_set, List.length_append, List.length_cons, List.length_nil] at g1' g2' ⊢; omega) e2; have k2 := hq 2 _ (by have g1' := g1; have g2' := g2; simp only [List.length_set, List.length_append, List.length_cons, List.length_nil] at g1' g2' ⊢; omega) k2)
    | (refine st_varS getl rfl rfl (Nat.le_of_ble_eq_true rfl) (fun Q zt hq => varC_keep (fun j B hj => hq j B (by have := getElem?_lt (keep3 hkk hj); omega) (getx1 (keep3 hkk hj))) ?_); have l3 := getElem?_lt k2; have e1 := hq _ _ (by omega) (getx1 e1); have e2 := hq _ _ (by omega) (getx1 e2); have k2 := hq 2 _ (by omega) (getx1 k2))
    | (refine Exists.intro _ (And.intro rfl (And.intro rfl (And.intro (Nat.le_of_ble_eq_true rfl) ?_))))
    | (refine Exists.intro _ (And.intro rfl (And.intro rfl (And.intro rfl (And.intro (Nat.le_of_ble_eq_true rfl) ?_)))))
    | (refine And.intro (Exists.intro _ (And.intro rfl rfl)) ?_)
    | (exact fun hW => absurd hW (by decide +kernel))
    | (intro hW; (try simp only [Bool.not_true, Bool.not_false, Bool.not_eq_true', Bool.not_eq_false', decide_eq_true_eq, decide_eq_false_iff_not, reduceCtorEq, Bool.true_eq_false, Bool.false_eq_true, mk_size, List.size_toArray, ByteArray.size_append, ByteArray.size_extract, List.length_cons, List.length_nil, ba_get, ba_empty, Int.toNat_natCast] at hW))
    | (refine And.intro (?_ : _ → _) (?_ : _ → _))
    | (refine FinR.drop 0 (Nat.zero_le _) (Closed.zero _) rfl ?_)
    | (refine FinR.keep ?_)
    | (refine And.intro (det3_agg rfl) ?_)
    | (refine fL_mk ?_)
    | (refine And.intro (by (try simp only [mk_size, List.size_toArray, ByteArray.size_append, ByteArray.size_extract, List.length_cons, List.length_nil]); omega) ?_)
    | (refine And.intro (by (try simp only [mk_size, List.size_toArray, ByteArray.size_append, ByteArray.size_extract, List.length_cons, List.length_nil, wrap64_eq]); omega) ?_)
    | fail)
  repeat' ((conv => whnf); first
    | (refine And.intro rfl ?_)
    | (refine And.intro (by decide +kernel) ?_)
    | (refine And.intro trivial ?_)
    | (refine fS_mk ?_)
    | (refine d_IsPlan (h1 := sli_rows hx e1) (h2 := sli_rows hzL e2) (hx := hx) (hy := hzL) (h0 := ?_) ..; rw [hg])
    | (refine Exists.intro _ (And.intro zt (And.intro rfl (And.intro (Nat.le_of_ble_eq_true rfl) ?_))))
    | (refine Exists.intro _ (And.intro k2 (And.intro rfl (And.intro rfl (And.intro (Nat.le_of_ble_eq_true rfl) ?_)))))
    | (refine Exists.intro _ (And.intro (get_set k2) (And.intro rfl (And.intro (Nat.le_of_ble_eq_true rfl) ?_))))
    | (refine Exists.intro _ (And.intro rfl (And.intro rfl (And.intro (Nat.le_of_ble_eq_true rfl) ?_))))
    | (refine Exists.intro _ (And.intro rfl (And.intro rfl (And.intro rfl (And.intro (Nat.le_of_ble_eq_true rfl) ?_)))))
    | (refine And.intro (Exists.intro _ (And.intro rfl rfl)) ?_)
    | (exact fun hW => absurd hW (by decide +kernel))
    | (intro hW; (try simp only [Bool.not_true, Bool.not_false, Bool.not_eq_true', Bool.not_eq_false', decide_eq_true_eq, decide_eq_false_iff_not, reduceCtorEq, Bool.true_eq_false, Bool.false_eq_true, mk_size, List.size_toArray, ByteArray.size_append, ByteArray.size_extract, List.length_cons, List.length_nil, ba_get, ba_empty, Int.toNat_natCast] at hW))
    | (refine And.intro (?_ : _ → _) (?_ : _ → _))
    | (refine FinR.drop 0 (Nat.zero_le _) (Closed.zero _) rfl ?_)
    | (refine FinR.keep ?_)
    | (refine And.intro (det3_agg rfl) ?_)
    | (refine fL_mk ?_)
    | (refine And.intro (by (try simp only [mk_size, List.size_toArray, ByteArray.size_append, ByteArray.size_extract, List.length_cons, List.length_nil]); omega) ?_)
    | (refine And.intro (by (try simp only [mk_size, List.size_toArray, ByteArray.size_append, ByteArray.size_extract, List.length_cons, List.length_nil, wrap64_eq]); omega) ?_)
    | fail)
  all_goals first | exact h0 | (exfalso; omega) | (exfalso; simp_all; done) | skip
end Go.Proofs.Ytbmilmnfhdkfjaa
end

section
/- Contracts: the law AddStep. -/
set_option linter.unusedVariables false
set_option linter.unusedSimpArgs false
set_option maxRecDepth 100000
set_option maxHeartbeats 40000000
namespace Go.Proofs.Ytbmilmnfhdkfjaa
open Go Go.RowKit Go.Proofs.Ytbmilmnfhdkfjaa.Abs
variable {W0 : World} {σ : List Blk}
theorem d_sAddSL (a b c d e f : Int) (s1 s2 : AV) (xs ys L : List (List Int)) (k s x y : Int) (hL : L = ys ++ [[k, s, x, y]]) (h1 : Sli W0 σ 6 enI s1 xs) (h2 : Sli W0 σ 4 enI s2 ys) (n1 : s1 ≠ nilA) (n2 : s2 ≠ nilA) (hx : ∀ x ∈ xs, x.length = 6) (hy : ∀ x ∈ ys, x.length = 4) (hl : xs.length ≤ 1048576) (hl2 : ys.length ≤ 1048576) (hg : planB a b c d e f xs (ys ++ [[k, s, x, y]]) = true) (K : Cont)
    (h0 : ∀ S b1 r1 c1 b2 r2 c2, S[b1]? = some (shK xs r1) → S[b2]? = some (stK L r2) → σ.length ≤ b1 → σ.length ≤ b2 → (∀ (j : Nat) (B : Blk), σ[j]? = some B → S[j]? = some B) → K (.tup [PlA a b c d e f (.sl b1 r1 0 xs.length c1) (.sl b2 r2 0 L.length c2), Bo true]) S) : ACall Try.prog W0 31 [PlA a b c d e f s1 s2, Ste k s x y] σ K :=
  lift_PlN (rest := [Ste k s x y]) (ι := NewP xs L) (fun x => .tup [plN a b c d e f x, Bo true]) (fun x => x.τ) (by kernel_rfl) rfl h1 h2 n1 n2 (fun W1 o1 m1 c1 o2 m2 c2 q1 q2 K hK => c_sAddST a b c d e f o1 m1 c1 o2 m2 c2 xs ys L k s x y hL q1 q2 hx hy hl hl2 hg K hK) K (fun x => h0 _ _ _ _ _ _ _ (newP_sh1 x) (newP_sh2 x) (Nat.le_add_right _ _) (Nat.le_add_right _ _) (fun j B hj => getx1 hj))
theorem d_AddSL (a b c d e f : Int) (s1 s2 : AV) (xs ys L : List (List Int)) (k s x y : Int) (hL : L = ys ++ [[k, s, x, y]]) (h1 : Sli W0 σ 6 enI s1 xs) (h2 : Sli W0 σ 4 enI s2 ys) (n1 : s1 ≠ nilA) (n2 : s2 ≠ nilA) (hx : ∀ x ∈ xs, x.length = 6) (hy : ∀ x ∈ ys, x.length = 4) (hg : planB a b c d e f xs (ys ++ [[k, s, x, y]]) = true) (K : Cont)
    (h0 : ∀ S b1 r1 c1 b2 r2 c2, S[b1]? = some (shK xs r1) → S[b2]? = some (stK L r2) → σ.length ≤ b1 → σ.length ≤ b2 → (∀ (j : Nat) (B : Blk), σ[j]? = some B → S[j]? = some B) → K (.tup [PlA a b c d e f (.sl b1 r1 0 xs.length c1) (.sl b2 r2 0 L.length c2), Bo true]) S) : ACall Try.prog W0 33 [PlA a b c d e f s1 s2, Ste k s x y] σ K :=
  lift_PlN (rest := [Ste k s x y]) (ι := NewP xs L) (fun x => .tup [plN a b c d e f x, Bo true]) (fun x => x.τ) (by kernel_rfl) rfl h1 h2 n1 n2 (fun W1 o1 m1 c1 o2 m2 c2 q1 q2 K hK => c_AddST a b c d e f o1 m1 c1 o2 m2 c2 xs ys L k s x y hL q1 q2 hx hy hg K hK) K (fun x => h0 _ _ _ _ _ _ _ (newP_sh1 x) (newP_sh2 x) (Nat.le_add_right _ _) (Nat.le_add_right _ _) (fun j B hj => getx1 hj))
theorem d_sAddSF (a b c d e f : Int) (s1 s2 : AV) (xs ys : List (List Int)) (k s x y : Int) (h1 : Sli W0 σ 6 enI s1 xs) (h2 : Sli W0 σ 4 enI s2 ys) (n1 : s1 ≠ nilA) (n2 : s2 ≠ nilA) (hx : ∀ x ∈ xs, x.length = 6) (hy : ∀ x ∈ ys, x.length = 4) (hl : xs.length ≤ 1048576) (hl2 : ys.length ≤ 1048576) (hg : planB a b c d e f xs (ys ++ [[k, s, x, y]]) = false) (K : Cont) (h0 : K (.tup [plZ, Bo false]) σ) : ACall Try.prog W0 31 [PlA a b c d e f s1 s2, Ste k s x y] σ K :=
  lift_PlN (rest := [Ste k s x y]) (ι := Unit) (fun _ => .tup [plZ, Bo false]) (fun _ => []) (by kernel_rfl) rfl h1 h2 n1 n2 (fun W1 o1 m1 c1 o2 m2 c2 q1 q2 K hK => c_sAddSF a b c d e f o1 m1 c1 o2 m2 c2 xs ys k s x y q1 q2 hx hy hl hl2 hg K (hK ())) K (fun _ => by
    rw [show shB σ.length [] = [] from rfl, List.append_nil]; exact h0)
theorem d_AddSF (a b c d e f : Int) (s1 s2 : AV) (xs ys : List (List Int)) (k s x y : Int) (h1 : Sli W0 σ 6 enI s1 xs) (h2 : Sli W0 σ 4 enI s2 ys) (n1 : s1 ≠ nilA) (n2 : s2 ≠ nilA) (hx : ∀ x ∈ xs, x.length = 6) (hy : ∀ x ∈ ys, x.length = 4) (hl : xs.length ≤ 1048576) (hl2 : ys.length ≤ 1048576) (hg : planB a b c d e f xs (ys ++ [[k, s, x, y]]) = false) (K : Cont) (h0 : K (.tup [plZ, Bo false]) σ) : ACall Try.prog W0 33 [PlA a b c d e f s1 s2, Ste k s x y] σ K :=
  lift_PlN (rest := [Ste k s x y]) (ι := Unit) (fun _ => .tup [plZ, Bo false]) (fun _ => []) (by kernel_rfl) rfl h1 h2 n1 n2 (fun W1 o1 m1 c1 o2 m2 c2 q1 q2 K hK => c_AddSF a b c d e f o1 m1 c1 o2 m2 c2 xs ys k s x y q1 q2 hx hy hl hl2 hg K (hK ())) K (fun _ => by
    rw [show shB σ.length [] = [] from rfl, List.append_nil]; exact h0)
theorem keep2z {A B : Blk} {S : List Blk} (h0 : S[0]? = some A) (h1 : S[1]? = some B) (j : Nat) (X : Blk) (hj : [A, B][j]? = some X) : S[j]? = some X := by
  match j, hj with
  | 0, hj => cases hj; exact h0
  | 1, hj => cases hj; exact h1
end Go.Proofs.Ytbmilmnfhdkfjaa
end

section
/- Contracts: the law AddStep at refused steps. -/
set_option linter.unusedVariables false
set_option linter.unusedSimpArgs false
set_option maxRecDepth 100000
set_option maxHeartbeats 40000000
namespace Go.Proofs.Ytbmilmnfhdkfjaa
open Go Go.RowKit Go.Proofs.Ytbmilmnfhdkfjaa.Abs
variable {W0 : World} {σ : List Blk}
theorem c_law_AddStepF (a b c d e f : Int) (v1 v2 : Value) (xs ys : List (List Int)) (k s x y : Int) (h1 : Sli W0 [] 6 enI (.lit v1) xs) (h2 : Sli W0 [] 4 enI (.lit v2) ys) (hx : ∀ x ∈ xs, x.length = 6) (hy : ∀ x ∈ ys, x.length = 4) (hl : xs.length ≤ 1048576) (hl2 : ys.length ≤ 1048576) (hz : ¬ ((1048576 : Int) - xs.length - ys.length < 0)) (hg : planB a b c d e f xs (ys ++ [[k, s, x, y]]) = false) (K : Cont) (h0 : K (Bo true) []) : ACall Try.prog W0 8 [PlA a b c d e f (.lit v1) (.lit v2), Ste k s x y] [] K := by
  have hm' : xs.length ≤ 9223372036854775807 := by omega
  have hm2' : ys.length ≤ 9223372036854775807 := by omega
  have h6 := shSB_len hx
  have h4 := stSB_len hy
  refine by8 (Nat.le_of_ble_eq_true rfl) ?_
  repeat' ((conv => whnf); first
    | (refine And.intro rfl ?_)
    | (refine And.intro (by decide +kernel) ?_)
    | (refine And.intro trivial ?_)
    | (refine d_szPlan (h1 := sli_up h1) (h2 := sli_up h2) (hl := hm') (hl2 := hm2') (hm := by decide) (h0 := fun h => ?_) (h00 := fun h => absurd h hz) ..)
    | (refine d_toStep (h0 := ?_) ..)
    | (refine Exists.intro _ (And.intro (fun τ => callW_fn (d_toStep (h0 := And.intro rfl rfl) ..)) ?_))
    | (refine Exists.intro _ (And.intro (callW_fn (d_toStep (h0 := And.intro rfl rfl) ..)) (And.intro trivial ?_)))
    | (refine Exists.intro _ (And.intro (callW_fn (d_toStep (h0 := And.intro rfl rfl) ..)) ?_))
    | (refine Exists.intro _ (And.intro (fun τ _ => callW_fn (d_toStep (h0 := And.intro rfl rfl) ..)) ?_))
    | (refine d_toPlan (h1 := sli_up h1) (h2 := sli_up h2) (hx := hx) (hy := hy) (hl := hl) (hl2 := hl2) (h0 := fun A B C => ?_) ..)
    | (refine d_sAddSF (h1 := sli_rows hx rfl) (h2 := sli_rows hy rfl) (n1 := sl_nn) (n2 := sl_nn) (hx := hx) (hy := hy) (hl := hl) (hl2 := hl2) (hg := hg) (h0 := ?_) ..)
    | (refine d_AddSF (h1 := sli_rows hx rfl) (h2 := sli_rows hy rfl) (n1 := sl_nn) (n2 := sl_nn) (hx := hx) (hy := hy) (hl := hl) (hl2 := hl2) (hg := hg) (h0 := ?_) ..)
    | (refine d_markPlan0 (h0 := ?_) ..)
    | (refine d_heldPlan (n1 := 0) (n2 := 0) (h1 := .nil) (h2 := .nil) (hm1 := by omega) (hm2 := by omega) (hk := by omega) (h0 := ?_) ..)
    | (refine d_eqPlan (xs := []) (ys := []) (h1 := .nil) (h2 := .nil) (g1 := .nil) (g2 := .nil) (hx := by simp) (hy := by simp) (hl := by decide) (hl2 := by decide) (h0 := ?_) ..)
    | (refine Exists.intro _ (And.intro (callW_fn (d_eqPlan (h1 := sli_rows hx rfl) (h2 := sli_rows hy rfl) (g1 := sli_rows hx rfl) (g2 := sli_rows hy rfl) (hx := hx) (hy := hy) (hl := hl) (hl2 := hl2) (h0 := And.intro rfl rfl) ..)) ?_))
    | (refine d_markPlan (B1 := shSB xs) (B2 := stSB ys) (hB1 := rfl) (hB2 := rfl) (hv1 := rfl) (hv2 := rfl) (hne := by simp) (hn1 := h6) (hn2 := h4) (hm1 := hl) (hm2 := hl2) (hk := by omega) (h0 := fun A => ?_) ..)
    | (first | (refine And.intro (Exists.intro _ (And.intro rfl rfl)) ?_) | (refine And.intro (?_ : _ → _) (?_ : _ → _)) | (refine And.intro (det3_agg rfl) ?_) | (refine And.intro (by (try simp only [List.length_cons, List.length_nil]); omega) ?_) | (refine And.intro ?_ ?_))
    | (refine Exists.intro _ (And.intro rfl (And.intro rfl (And.intro (Nat.le_of_ble_eq_true rfl) ?_))))
    | (refine Exists.intro _ (And.intro rfl (And.intro rfl (And.intro rfl (And.intro (Nat.le_of_ble_eq_true rfl) ?_)))))
    | (refine And.intro (Exists.intro _ (And.intro rfl rfl)) ?_)
    | (exact fun hW => absurd hW (by decide +kernel))
    | (intro hW; (try simp only [Bool.not_true, Bool.not_false, Bool.not_eq_true', Bool.not_eq_false', decide_eq_true_eq, decide_eq_false_iff_not, reduceCtorEq, Bool.true_eq_false, Bool.false_eq_true, mk_size, List.size_toArray, ByteArray.size_append, ByteArray.size_extract, List.length_cons, List.length_nil, ba_get, ba_empty, Int.toNat_natCast] at hW))
    | (refine And.intro (?_ : _ → _) (?_ : _ → _))
    | (refine FinR.drop 0 (Nat.zero_le _) (Closed.zero _) rfl ?_)
    | (refine FinR.keep ?_)
    | (refine And.intro (det3_agg rfl) ?_)
    | (refine fL_mk ?_)
    | (refine And.intro (by (try simp only [mk_size, List.size_toArray, ByteArray.size_append, ByteArray.size_extract, List.length_cons, List.length_nil]); omega) ?_)
    | (refine And.intro (by (try simp only [mk_size, List.size_toArray, ByteArray.size_append, ByteArray.size_extract, List.length_cons, List.length_nil, wrap64_eq]); omega) ?_)
    | fail)
  all_goals first | exact h0 | (exfalso; omega) | (exfalso; simp_all; done) | skip
end Go.Proofs.Ytbmilmnfhdkfjaa
end
