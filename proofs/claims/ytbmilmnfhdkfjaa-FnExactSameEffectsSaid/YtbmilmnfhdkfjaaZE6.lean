import Derived.Test.YtbmilmnfhdkfjaaZE5
section
/- Contracts: the law EffectsOf. -/
set_option linter.unusedVariables false
set_option linter.unusedSimpArgs false
set_option maxRecDepth 100000
set_option maxHeartbeats 4000000
namespace Go.Proofs.Ytbmilmnfhdkfjaa
open Go Go.RowKit Go.Proofs.Ytbmilmnfhdkfjaa.Abs
variable {W0 : World} {σ : List Blk}
theorem efR_form (a b c d e f : Int) (xs ys : List (List Int)) : ∃ q bb, q.length = 36 ∧ efR a b c d e f xs ys = .tup [Pi q, Bo bb] := by
  unfold efR
  cases planB a b c d e f xs ys with
  | true => exact ⟨_, true, effN_len _ _ (Nat.le_refl _), rfl⟩
  | false => exact ⟨z36, false, rfl, rfl⟩
theorem efR_sh (k : Nat) (a b c d e f : Int) (xs ys : List (List Int)) : sh3 k (efR a b c d e f xs ys) = efR a b c d e f xs ys := by
  obtain ⟨q, bb, hq, e⟩ := efR_form a b c d e f xs ys
  rw [e]
  show AV.tup [AV.agg ((q.map I).map (sh1 k)), Bo bb] = _
  rw [sh_I]
theorem c_EffectsOf (a b c d e f : Int) (v1 v2 : Value) (xs ys : List (List Int)) (h1 : Sli W0 [] 6 enI (.lit v1) xs) (h2 : Sli W0 [] 4 enI (.lit v2) ys) (hx : ∀ x ∈ xs, x.length = 6) (hy : ∀ x ∈ ys, x.length = 4) (K : Cont) (h0 : K (efR a b c d e f xs ys) []) : ACall Try.prog W0 37 [PlA a b c d e f (.lit v1) (.lit v2)] [] K := by
  cases hg : planB a b c d e f xs ys with
  | false => rw [efR, hg] at h0; exact c_EffectsOfF a b c d e f v1 v2 xs ys h1 h2 hx hy hg K h0
  | true => rw [efR, hg] at h0; exact c_EffectsOfT a b c d e f v1 v2 xs ys h1 h2 hx hy hg K h0
theorem d_sEffectsOf (a b c d e f : Int) (s1 s2 : AV) (xs ys : List (List Int)) (h1 : Sli W0 σ 6 enI s1 xs) (h2 : Sli W0 σ 4 enI s2 ys) (hx : ∀ x ∈ xs, x.length = 6) (hy : ∀ x ∈ ys, x.length = 4) (hl : xs.length ≤ 1048576) (hl2 : ys.length ≤ 1048576) (K : Cont) (h0 : K (efR a b c d e f xs ys) σ) : ACall Try.prog W0 36 [PlA a b c d e f s1 s2] σ K :=
  lift_Pl (rest := []) (ι := Unit) (fun _ => efR a b c d e f xs ys) (fun τ => []) (by kernel_rfl) rfl h1 h2 (fun W1 v1 v2 q1 q2 K hK => c_sEffectsOf a b c d e f v1 v2 xs ys q1 q2 hx hy hl hl2 K (hK ())) K (fun _ => by
    rw [show shB σ.length [] = [] from rfl, List.append_nil, efR_sh]; exact h0)
theorem d_EffectsOf (a b c d e f : Int) (s1 s2 : AV) (xs ys : List (List Int)) (h1 : Sli W0 σ 6 enI s1 xs) (h2 : Sli W0 σ 4 enI s2 ys) (hx : ∀ x ∈ xs, x.length = 6) (hy : ∀ x ∈ ys, x.length = 4) (K : Cont) (h0 : K (efR a b c d e f xs ys) σ) : ACall Try.prog W0 37 [PlA a b c d e f s1 s2] σ K :=
  lift_Pl (rest := []) (ι := Unit) (fun _ => efR a b c d e f xs ys) (fun τ => []) (by kernel_rfl) rfl h1 h2 (fun W1 v1 v2 q1 q2 K hK => c_EffectsOf a b c d e f v1 v2 xs ys q1 q2 hx hy K (hK ())) K (fun _ => by
    rw [show shB σ.length [] = [] from rfl, List.append_nil, efR_sh]; exact h0)
theorem c_law_EffectsOfQ (a b c d e f : Int) (v1 v2 : Value) (xs ys : List (List Int)) (h1 : Sli W0 [] 6 enI (.lit v1) xs) (h2 : Sli W0 [] 4 enI (.lit v2) ys) (hx : ∀ x ∈ xs, x.length = 6) (hy : ∀ x ∈ ys, x.length = 4) (hm : xs.length ≤ maxLen) (hm2 : ys.length ≤ maxLen) (K : Cont) (h0 : K (Bo true) []) : ACall Try.prog W0 10 [PlA a b c d e f (.lit v1) (.lit v2)] [] K := by
  have hm' : xs.length ≤ 9223372036854775807 := hm
  have hm2' : ys.length ≤ 9223372036854775807 := hm2
  refine by10 (Nat.le_of_ble_eq_true rfl) ?_
  by_cases hz : (1048576 : Int) - xs.length - ys.length < 0
  · skip
    repeat' ((conv => whnf); first
      | (refine And.intro rfl ?_)
      | (refine And.intro (by decide +kernel) ?_)
      | (refine And.intro trivial ?_)
      | (refine d_szPlan (h1 := sli_up h1) (h2 := sli_up h2) (hl := hm') (hl2 := hm2') (hm := by decide) (h0 := fun h => ?_) (h00 := fun h => ?_) ..)
      | (refine Exists.intro _ (And.intro rfl (And.intro rfl (And.intro (Nat.le_of_ble_eq_true rfl) ?_))))
      | (refine Exists.intro _ (And.intro rfl (And.intro rfl (And.intro rfl (And.intro (Nat.le_of_ble_eq_true rfl) ?_)))))
      | (refine And.intro (Exists.intro _ (And.intro rfl rfl)) ?_)
      | (exact fun hW => absurd hW (by decide +kernel))
      | (intro hW; (try simp only [Bool.not_true, Bool.not_false, Bool.not_eq_true', Bool.not_eq_false', decide_eq_true_eq, decide_eq_false_iff_not, reduceCtorEq, Bool.true_eq_false, Bool.false_eq_true, mk_size, List.size_toArray, ByteArray.size_append, ByteArray.size_extract, List.length_cons, List.length_nil, ba_get, ba_empty, Int.toNat_natCast] at hW))
      | (refine And.intro (?_ : _ → _) (?_ : _ → _))
      | (refine FinR.drop 0 (Nat.zero_le _) (Closed.zero _) rfl ?_)
      | (refine FinR.keep ?_)
      | (refine And.intro (det3_agg rfl) ?_)
      | (refine fL_mk ?_)
      | (refine And.intro (by (try simp only [mk_size, List.size_toArray, ByteArray.size_append, ByteArray.size_extract, List.length_cons, List.length_nil]); omega) ?_)
      | (refine And.intro (by (try simp only [mk_size, List.size_toArray, ByteArray.size_append, ByteArray.size_extract, List.length_cons, List.length_nil, wrap64_eq]); omega) ?_)
      | fail)
    all_goals first | exact h0 | (exfalso; omega) | (exfalso; simp_all; done)
  · have hl : xs.length ≤ 1048576 := by omega
    have hl2 : ys.length ≤ 1048576 := by omega
    obtain ⟨q, bb, hq, hef⟩ := efR_form a b c d e f xs ys
    repeat' ((conv => whnf); first
      | (refine Exists.intro _ (And.intro rfl (And.intro rfl (And.intro (pic_len hq) (And.intro (Nat.le_of_ble_eq_true rfl) ?_)))))
      | (refine Exists.intro _ (And.intro rfl (And.intro rfl (And.intro (pic_rle hq _) ?_))); rw [pic_res hq _])
      | (refine And.intro rfl ?_)
      | (refine And.intro (by decide +kernel) ?_)
      | (refine And.intro trivial ?_)
      | (refine d_szPlan (h1 := sli_up h1) (h2 := sli_up h2) (hl := hm') (hl2 := hm2') (hm := by decide) (h0 := fun h => ?_) (h00 := fun h => absurd h hz) ..)
      | (refine d_toPlan (h1 := sli_up h1) (h2 := sli_up h2) (hx := hx) (hy := hy) (hl := hl) (hl2 := hl2) (h0 := fun A B C => ?_) ..)
      | (refine d_sEffectsOf (h1 := sli_rows hx rfl) (h2 := sli_rows hy rfl) (hx := hx) (hy := hy) (hl := hl) (hl2 := hl2) (h0 := ?_) ..; rw [hef])
      | (refine d_EffectsOf (h1 := sli_rows hx rfl) (h2 := sli_rows hy rfl) (hx := hx) (hy := hy) (h0 := ?_) ..; rw [hef])
      | (refine d_eqIntA6A6 (hq := hq) (h0 := ?_) ..)
      | (refine Exists.intro _ (And.intro (fun τ => callW_fn (d_eqIntA6A6 (hq := hq) (h0 := And.intro rfl rfl) ..)) ?_))
      | (refine Exists.intro _ (And.intro (callW_fn (d_eqIntA6A6 (hq := hq) (h0 := And.intro rfl rfl) ..)) (And.intro trivial ?_)))
      | (refine Exists.intro _ (And.intro (callW_fn (d_eqIntA6A6 (hq := hq) (h0 := And.intro rfl rfl) ..)) ?_))
      | (refine Exists.intro _ (And.intro (fun τ _ => callW_fn (d_eqIntA6A6 (hq := hq) (h0 := And.intro rfl rfl) ..)) ?_))
      | (refine Exists.intro _ (And.intro (callW_fn (d_eqPlan (h1 := sli_rows hx rfl) (h2 := sli_rows hy rfl) (g1 := sli_rows hx rfl) (g2 := sli_rows hy rfl) (hx := hx) (hy := hy) (hl := hl) (hl2 := hl2) (h0 := And.intro rfl rfl) ..)) ?_))
      | (refine Exists.intro _ (And.intro rfl (And.intro rfl (And.intro (Nat.le_of_ble_eq_true rfl) ?_))))
      | (refine Exists.intro _ (And.intro rfl (And.intro rfl (And.intro rfl (And.intro (Nat.le_of_ble_eq_true rfl) ?_)))))
      | (refine And.intro (Exists.intro _ (And.intro rfl rfl)) ?_)
      | (exact fun hW => absurd hW (by decide +kernel))
      | (intro hW; (try simp only [Bool.not_true, Bool.not_false, Bool.not_eq_true', Bool.not_eq_false', decide_eq_true_eq, decide_eq_false_iff_not, reduceCtorEq, Bool.true_eq_false, Bool.false_eq_true, mk_size, List.size_toArray, ByteArray.size_append, ByteArray.size_extract, List.length_cons, List.length_nil, ba_get, ba_empty, Int.toNat_natCast] at hW))
      | (refine And.intro (?_ : _ → _) (?_ : _ → _))
      | (refine FinR.drop 0 (Nat.zero_le _) (Closed.zero _) rfl ?_)
      | (refine FinR.keep ?_)
      | (refine And.intro (det3_agg rfl) ?_)
      | (refine fL_mk ?_)
      | (refine And.intro (by (try simp only [mk_size, List.size_toArray, ByteArray.size_append, ByteArray.size_extract, List.length_cons, List.length_nil]); omega) ?_)
      | (refine And.intro (by (try simp only [mk_size, List.size_toArray, ByteArray.size_append, ByteArray.size_extract, List.length_cons, List.length_nil, wrap64_eq]); omega) ?_)
      | fail)
    all_goals first | exact h0 | (exfalso; omega) | (exfalso; simp_all; done) | (exfalso; simp_all [eq6]; done) | skip
theorem c_law_EffectsOf (a0 : Int) (ha0 : IntKind.i64.has a0) (a1 : Int) (ha1 : IntKind.i64.has a1) (a2 : Int) (ha2 : IntKind.i64.has a2) (a3 : Int) (ha3 : IntKind.i64.has a3) (a4 : Int) (ha4 : IntKind.i64.has a4) (a5 : Int) (ha5 : IntKind.i64.has a5) (v : Value) (xs : List (List Int)) (sv : Sli W0 [] 6 enI (.lit v) xs) (hv : ∀ x ∈ xs, x.length = 6 ∧ ∀ n ∈ x, IntKind.i64.has n) (mv : xs.length ≤ maxLen) (u : Value) (ys : List (List Int)) (su : Sli W0 [] 4 enI (.lit u) ys) (hu : ∀ x ∈ ys, x.length = 4 ∧ ∀ n ∈ x, IntKind.i64.has n) (mu : ys.length ≤ maxLen) (K : Cont) (h0 : K (Bo true) []) : ACall Try.prog W0 10 [PlA a0 a1 a2 a3 a4 a5 (.lit v) (.lit u)] [] K :=
  c_law_EffectsOfQ a0 a1 a2 a3 a4 a5 v u xs ys sv su (fun x h => (hv x h).1) (fun x h => (hu x h).1) mv mu K h0
end Go.Proofs.Ytbmilmnfhdkfjaa
end

section
/- Contracts: the law SameEffects. -/
set_option linter.unusedVariables false
set_option linter.unusedSimpArgs false
set_option maxRecDepth 100000
set_option maxHeartbeats 4000000
namespace Go.Proofs.Ytbmilmnfhdkfjaa
open Go Go.RowKit Go.Proofs.Ytbmilmnfhdkfjaa.Abs
variable {W0 : World} {σ : List Blk}
theorem litsA_pic : ∀ q : List Int, litsA (q.map I) = some (q.map (Value.int .i64))
  | [] => rfl
  | x :: q => by
    show litsA (I x :: q.map I) = _
    unfold litsA
    rw [litsA_pic q]; rfl
theorem eqC_pic : ∀ (q q' : List Int), q.length = q'.length → eqC (List.replicate q.length .int) (q.map (Value.int .i64)) (q'.map (Value.int .i64)) = some (decide (q = q'))
  | [], [], _ => rfl
  | x :: q, y :: q', h => by
    have ih := eqC_pic q q' (by simpa using h)
    show eqC (.int :: List.replicate q.length .int) (.int .i64 x :: q.map (Value.int .i64)) (.int .i64 y :: q'.map (Value.int .i64)) = _
    unfold eqC
    rw [if_pos rfl, ih]
    show some (decide (x = y) && decide (q = q')) = _
    rw [← Bool.decide_and]
    congr 1
    simp
theorem eqC36b {q q' : List Int} (hq : q.length = 36) (hq' : q'.length = 36) : eqC [.int, .int, .int, .int, .int, .int, .int, .int, .int, .int, .int, .int, .int, .int, .int, .int, .int, .int, .int, .int, .int, .int, .int, .int, .int, .int, .int, .int, .int, .int, .int, .int, .int, .int, .int, .int] (q.map (Value.int .i64)) (q'.map (Value.int .i64)) = some (decide (q = q')) := by
  have := eqC_pic q q' (by omega)
  rw [hq] at this
  exact this
theorem c_sSameEffectsT (a b c d e f a' b' c' d' e' f' : Int) (v1 v2 u1 u2 : Value) (xs ys xs' ys' : List (List Int)) (h1 : Sli W0 [] 6 enI (.lit v1) xs) (h2 : Sli W0 [] 4 enI (.lit v2) ys) (g1 : Sli W0 [] 6 enI (.lit u1) xs') (g2 : Sli W0 [] 4 enI (.lit u2) ys') (hx : ∀ x ∈ xs, x.length = 6) (hy : ∀ x ∈ ys, x.length = 4) (hx' : ∀ x ∈ xs', x.length = 6) (hy' : ∀ x ∈ ys', x.length = 4) (hl : xs.length ≤ 1048576) (hl2 : ys.length ≤ 1048576) (hl' : xs'.length ≤ 1048576) (hl2' : ys'.length ≤ 1048576) (hg1 : planB a b c d e f xs ys = true) (hg2 : planB a' b' c' d' e' f' xs' ys' = true) (K : Cont) (h0 : K (.tup [Bo (decide (efL xs ys = efL xs' ys')), Bo true]) []) : ACall Try.prog W0 25 [PlA a b c d e f (.lit v1) (.lit v2), PlA a' b' c' d' e' f' (.lit u1) (.lit u2)] [] K := by
  refine by25 (Nat.le_of_ble_eq_true rfl) ?_
  obtain ⟨_, hx4, hy40, hxa, hya⟩ := planB_iff.1 hg1
  obtain ⟨_, hx4', hy40', hxa', hya'⟩ := planB_iff.1 hg2
  have hq : (efL xs ys).length = 36 := effN_len _ _ (Nat.le_refl _)
  have hq' : (efL xs' ys').length = 36 := effN_len _ _ (Nat.le_refl _)
  have hc := fun (W : World) (σ : List Blk) K h => d_l11Effects (W0 := W) (σ := σ) (s1 := .lit v1) (s2 := .lit v2) (xs := xs) (ys := ys) (K := K) (h0 := h) (a := a) (b := b) (c := c) (d := d) (e := e) (f := f) (hx := hx) (hy := hy) (hxa := hxa) (hya := hya) (hl2 := hl2)
  have hc' := fun (W : World) (σ : List Blk) K h => d_l11Effects (W0 := W) (σ := σ) (s1 := .lit u1) (s2 := .lit u2) (xs := xs') (ys := ys') (K := K) (h0 := h) (a := a') (b := b') (c := c') (d := d') (e := e') (f := f') (hx := hx') (hy := hy') (hxa := hxa') (hya := hya') (hl2 := hl2')
  generalize efL xs ys = q at h0 hq hc
  generalize efL xs' ys' = q' at h0 hq' hc'
  repeat' ((conv => whnf); first
    | (refine And.intro rfl ?_)
    | (refine And.intro (by decide +kernel) ?_)
    | (refine And.intro trivial ?_)
    | (refine d_l11Plan (h1 := sli_up h1) (h2 := sli_up h2) (hx := hx) (hy := hy) (hl := hl) (hl2 := hl2) (h0 := ?_) ..; rw [hg1])
    | (refine d_l11Plan (h1 := sli_up g1) (h2 := sli_up g2) (hx := hx') (hy := hy') (hl := hl') (hl2 := hl2') (h0 := ?_) ..; rw [hg2])
    | (refine Exists.intro _ (And.intro (fun τ => callW_fn (hc _ _ _ (And.intro rfl rfl) (sli_up h1) (sli_up h2))) ?_))
    | (refine Exists.intro _ (And.intro (fun τ => callW_fn (hc' _ _ _ (And.intro rfl rfl) (sli_up g1) (sli_up g2))) ?_))
    | (rw [litsA_pic, litsA_pic])
    | (rw [eqC36b hq hq'])
    | (refine Exists.intro _ (And.intro rfl (And.intro rfl (And.intro (Nat.le_of_ble_eq_true rfl) ?_))))
    | (refine Exists.intro _ (And.intro rfl (And.intro rfl (And.intro rfl (And.intro (Nat.le_of_ble_eq_true rfl) ?_)))))
    | (refine And.intro (Exists.intro _ (And.intro rfl rfl)) ?_)
    | (exact fun hW => absurd hW (by decide +kernel))
    | (intro hW; (try simp only [Bool.not_true, Bool.not_false, Bool.not_eq_true', Bool.not_eq_false', decide_eq_true_eq, decide_eq_false_iff_not, reduceCtorEq, Bool.true_eq_false, Bool.false_eq_true, mk_size, List.size_toArray, ByteArray.size_append, ByteArray.size_extract, List.length_cons, List.length_nil, ba_get, ba_empty, Int.toNat_natCast] at hW))
    | (refine And.intro (?_ : _ → _) (?_ : _ → _))
    | (refine FinR.drop 0 (Nat.zero_le _) (Closed.zero _) rfl ?_)
    | (refine FinR.keep ?_)
    | (refine And.intro (det3_agg rfl) ?_)
    | (refine fL_mk ?_)
    | (refine And.intro (by (try simp only [mk_size, List.size_toArray, ByteArray.size_append, ByteArray.size_extract, List.length_cons, List.length_nil]); omega) ?_)
    | (refine And.intro (by (try simp only [mk_size, List.size_toArray, ByteArray.size_append, ByteArray.size_extract, List.length_cons, List.length_nil, wrap64_eq]); omega) ?_)
    | fail)
  all_goals first | exact h0 | (exfalso; omega) | (exfalso; simp_all; done) | skip
theorem same_eq (xs ys xs' ys' : List (List Int)) (hx : ∀ x ∈ xs, x.length = 6) (hy : ∀ x ∈ ys, x.length = 4) (hx' : ∀ x ∈ xs', x.length = 6) (hy' : ∀ x ∈ ys', x.length = 4) {m m' : Nat} (hxa : xs.all shRow = true) (hya : ys.all (stOk xs.length) = true) (hxa' : xs'.all shRow = true) (hya' : ys'.all (stOk xs'.length) = true) :
    decide (efL xs ys = efL xs' ys') = (decide (((runN (fsOf xs ys) 0 : Nat) : Int) = (runN (fsOf xs' ys') 0 : Nat)) && (decide (((runN (fsOf xs ys) fullN : Nat) : Int) = (runN (fsOf xs' ys') fullN : Nat)) && true)) := by
  have hfo := fsOf_ok hx hy hxa hya
  have hfo' := fsOf_ok hx' hy' hxa' hya'
  have hh := effN_eq (runN_lt hfo (show 0 < 2 ^ 36 by decide)) (runN_lt hfo (show fullN < 2 ^ 36 by decide)) (runN_lt hfo' (show 0 < 2 ^ 36 by decide)) (runN_lt hfo' (show fullN < 2 ^ 36 by decide))
  rw [Bool.and_true, ← Bool.decide_and]
  refine decide_eq_decide.2 (hh.trans ?_)
  rw [Int.ofNat_inj, Int.ofNat_inj]
theorem sameR_sh (k : Nat) (g g' : Bool) (xs ys xs' ys' : List (List Int)) : sh3 k (sameR g g' xs ys xs' ys') = sameR g g' xs ys xs' ys' := by unfold sameR; split <;> rfl
theorem c_sSameEffects (a b c d e f a' b' c' d' e' f' : Int) (v1 v2 u1 u2 : Value) (xs ys xs' ys' : List (List Int)) (h1 : Sli W0 [] 6 enI (.lit v1) xs) (h2 : Sli W0 [] 4 enI (.lit v2) ys) (g1 : Sli W0 [] 6 enI (.lit u1) xs') (g2 : Sli W0 [] 4 enI (.lit u2) ys') (hx : ∀ x ∈ xs, x.length = 6) (hy : ∀ x ∈ ys, x.length = 4) (hx' : ∀ x ∈ xs', x.length = 6) (hy' : ∀ x ∈ ys', x.length = 4) (hl : xs.length ≤ 1048576) (hl2 : ys.length ≤ 1048576) (hl' : xs'.length ≤ 1048576) (hl2' : ys'.length ≤ 1048576) (K : Cont) (h0 : K (sameR (planB a b c d e f xs ys) (planB a' b' c' d' e' f' xs' ys') xs ys xs' ys') []) : ACall Try.prog W0 25 [PlA a b c d e f (.lit v1) (.lit v2), PlA a' b' c' d' e' f' (.lit u1) (.lit u2)] [] K := by
  cases hg1 : planB a b c d e f xs ys with
  | false => exact c_sSameEffectsF a b c d e f a' b' c' d' e' f' v1 v2 u1 u2 xs ys xs' ys' h1 h2 g1 g2 hx hy hx' hy' hl hl2 hl' hl2' (by rw [hg1]; rfl) K (by rw [hg1] at h0; exact h0)
  | true =>
    cases hg2 : planB a' b' c' d' e' f' xs' ys' with
    | false => exact c_sSameEffectsF a b c d e f a' b' c' d' e' f' v1 v2 u1 u2 xs ys xs' ys' h1 h2 g1 g2 hx hy hx' hy' hl hl2 hl' hl2' (by rw [hg1, hg2]; rfl) K (by rw [hg1, hg2] at h0; exact h0)
    | true =>
      obtain ⟨_, hx4, hy40, hxa, hya⟩ := planB_iff.1 hg1
      obtain ⟨_, hx4', hy40', hxa', hya'⟩ := planB_iff.1 hg2
      rw [hg1, hg2] at h0
      refine c_sSameEffectsT a b c d e f a' b' c' d' e' f' v1 v2 u1 u2 xs ys xs' ys' h1 h2 g1 g2 hx hy hx' hy' hl hl2 hl' hl2' hg1 hg2 K ?_
      rw [same_eq (m := 0) (m' := 0) xs ys xs' ys' hx hy hx' hy' hxa hya hxa' hya']
      exact h0
theorem d_sSameEffects (a b c d e f a' b' c' d' e' f' : Int) (s1 s2 t1 t2 : AV) (xs ys xs' ys' : List (List Int)) (h1 : Sli W0 σ 6 enI s1 xs) (h2 : Sli W0 σ 4 enI s2 ys) (g1 : Sli W0 σ 6 enI t1 xs') (g2 : Sli W0 σ 4 enI t2 ys') (hx : ∀ x ∈ xs, x.length = 6) (hy : ∀ x ∈ ys, x.length = 4) (hx' : ∀ x ∈ xs', x.length = 6) (hy' : ∀ x ∈ ys', x.length = 4) (hl : xs.length ≤ 1048576) (hl2 : ys.length ≤ 1048576) (hl' : xs'.length ≤ 1048576) (hl2' : ys'.length ≤ 1048576) (K : Cont) (h0 : K (sameR (planB a b c d e f xs ys) (planB a' b' c' d' e' f' xs' ys') xs ys xs' ys') σ) : ACall Try.prog W0 25 [PlA a b c d e f s1 s2, PlA a' b' c' d' e' f' t1 t2] σ K :=
  lift_PlPl (by kernel_rfl) (fun k => sameR_sh k _ _ _ _ _ _) h1 h2 g1 g2 (fun W1 v1 v2 u1 u2 q1 q2 q3 q4 K hK => c_sSameEffects a b c d e f a' b' c' d' e' f' v1 v2 u1 u2 xs ys xs' ys' q1 q2 q3 q4 hx hy hx' hy' hl hl2 hl' hl2' K hK) K h0
theorem d_SameEffects (a b c d e f a' b' c' d' e' f' : Int) (s1 s2 t1 t2 : AV) (xs ys xs' ys' : List (List Int)) (h1 : Sli W0 σ 6 enI s1 xs) (h2 : Sli W0 σ 4 enI s2 ys) (g1 : Sli W0 σ 6 enI t1 xs') (g2 : Sli W0 σ 4 enI t2 ys') (hx : ∀ x ∈ xs, x.length = 6) (hy : ∀ x ∈ ys, x.length = 4) (hx' : ∀ x ∈ xs', x.length = 6) (hy' : ∀ x ∈ ys', x.length = 4) (K : Cont) (h0 : K (sameR (planB a b c d e f xs ys) (planB a' b' c' d' e' f' xs' ys') xs ys xs' ys') σ) : ACall Try.prog W0 26 [PlA a b c d e f s1 s2, PlA a' b' c' d' e' f' t1 t2] σ K :=
  lift_PlPl (by kernel_rfl) (fun k => sameR_sh k _ _ _ _ _ _) h1 h2 g1 g2 (fun W1 v1 v2 u1 u2 q1 q2 q3 q4 K hK => c_SameEffects a b c d e f a' b' c' d' e' f' v1 v2 u1 u2 xs ys xs' ys' q1 q2 q3 q4 hx hy hx' hy' K hK) K h0
theorem sameR_form (g g' : Bool) (xs ys xs' ys' : List (List Int)) : ∃ p q, sameR g g' xs ys xs' ys' = .tup [Bo p, Bo q] := by
  unfold sameR
  split
  · exact ⟨_, _, rfl⟩
  · exact ⟨_, _, rfl⟩
theorem c_law_SameEffectsQ (a b c d e f a' b' c' d' e' f' : Int) (v1 v2 u1 u2 : Value) (xs ys xs' ys' : List (List Int)) (h1 : Sli W0 [] 6 enI (.lit v1) xs) (h2 : Sli W0 [] 4 enI (.lit v2) ys) (g1 : Sli W0 [] 6 enI (.lit u1) xs') (g2 : Sli W0 [] 4 enI (.lit u2) ys') (hx : ∀ x ∈ xs, x.length = 6) (hy : ∀ x ∈ ys, x.length = 4) (hx' : ∀ x ∈ xs', x.length = 6) (hy' : ∀ x ∈ ys', x.length = 4) (hm : xs.length ≤ maxLen) (hm2 : ys.length ≤ maxLen) (hm3 : xs'.length ≤ maxLen) (hm4 : ys'.length ≤ maxLen) (K : Cont) (h0 : K (Bo true) []) : ACall Try.prog W0 6 [PlA a b c d e f (.lit v1) (.lit v2), PlA a' b' c' d' e' f' (.lit u1) (.lit u2)] [] K := by
  have hm' : xs.length ≤ 9223372036854775807 := hm
  have hm2' : ys.length ≤ 9223372036854775807 := hm2
  have hm3' : xs'.length ≤ 9223372036854775807 := hm3
  have hm4' : ys'.length ≤ 9223372036854775807 := hm4
  refine by6 (Nat.le_of_ble_eq_true rfl) ?_
  by_cases hz : (1048576 : Int) - xs.length - ys.length < 0
  · skip
    repeat' ((conv => whnf); first
      | (refine And.intro rfl ?_)
      | (refine And.intro (by decide +kernel) ?_)
      | (refine And.intro trivial ?_)
      | (refine d_szPlan (h1 := sli_up h1) (h2 := sli_up h2) (hl := hm') (hl2 := hm2') (hm := by decide) (h0 := fun h => ?_) (h00 := fun h => ?_) ..)
      | (refine Exists.intro _ (And.intro rfl (And.intro rfl (And.intro (Nat.le_of_ble_eq_true rfl) ?_))))
      | (refine Exists.intro _ (And.intro rfl (And.intro rfl (And.intro rfl (And.intro (Nat.le_of_ble_eq_true rfl) ?_)))))
      | (refine And.intro (Exists.intro _ (And.intro rfl rfl)) ?_)
      | (exact fun hW => absurd hW (by decide +kernel))
      | (intro hW; (try simp only [Bool.not_true, Bool.not_false, Bool.not_eq_true', Bool.not_eq_false', decide_eq_true_eq, decide_eq_false_iff_not, reduceCtorEq, Bool.true_eq_false, Bool.false_eq_true, mk_size, List.size_toArray, ByteArray.size_append, ByteArray.size_extract, List.length_cons, List.length_nil, ba_get, ba_empty, Int.toNat_natCast] at hW))
      | (refine And.intro (?_ : _ → _) (?_ : _ → _))
      | (refine FinR.drop 0 (Nat.zero_le _) (Closed.zero _) rfl ?_)
      | (refine FinR.keep ?_)
      | (refine And.intro (det3_agg rfl) ?_)
      | (refine fL_mk ?_)
      | (refine And.intro (by (try simp only [mk_size, List.size_toArray, ByteArray.size_append, ByteArray.size_extract, List.length_cons, List.length_nil]); omega) ?_)
      | (refine And.intro (by (try simp only [mk_size, List.size_toArray, ByteArray.size_append, ByteArray.size_extract, List.length_cons, List.length_nil, wrap64_eq]); omega) ?_)
      | fail)
    all_goals first | exact h0 | (exfalso; omega) | (exfalso; simp_all; done)
  · have hl : xs.length ≤ 1048576 := by omega
    have hl2 : ys.length ≤ 1048576 := by omega
    by_cases hz2 : (1048576 : Int) - xs.length - ys.length - xs'.length - ys'.length < 0
    · skip
      repeat' ((conv => whnf); first
        | (refine And.intro rfl ?_)
        | (refine And.intro (by decide +kernel) ?_)
        | (refine And.intro trivial ?_)
        | (refine d_szPlan (h1 := sli_up h1) (h2 := sli_up h2) (hl := hm') (hl2 := hm2') (hm := by decide) (h0 := fun h => ?_) (h00 := fun h => absurd h hz) ..)
        | (refine d_szPlan (h1 := sli_up g1) (h2 := sli_up g2) (hl := hm3') (hl2 := hm4') (hm := by omega) (h0 := fun h => ?_) (h00 := fun h => ?_) ..)
        | (refine Exists.intro _ (And.intro rfl (And.intro rfl (And.intro (Nat.le_of_ble_eq_true rfl) ?_))))
        | (refine Exists.intro _ (And.intro rfl (And.intro rfl (And.intro rfl (And.intro (Nat.le_of_ble_eq_true rfl) ?_)))))
        | (refine And.intro (Exists.intro _ (And.intro rfl rfl)) ?_)
        | (exact fun hW => absurd hW (by decide +kernel))
        | (intro hW; (try simp only [Bool.not_true, Bool.not_false, Bool.not_eq_true', Bool.not_eq_false', decide_eq_true_eq, decide_eq_false_iff_not, reduceCtorEq, Bool.true_eq_false, Bool.false_eq_true, mk_size, List.size_toArray, ByteArray.size_append, ByteArray.size_extract, List.length_cons, List.length_nil, ba_get, ba_empty, Int.toNat_natCast] at hW))
        | (refine And.intro (?_ : _ → _) (?_ : _ → _))
        | (refine FinR.drop 0 (Nat.zero_le _) (Closed.zero _) rfl ?_)
        | (refine FinR.keep ?_)
        | (refine And.intro (det3_agg rfl) ?_)
        | (refine fL_mk ?_)
        | (refine And.intro (by (try simp only [mk_size, List.size_toArray, ByteArray.size_append, ByteArray.size_extract, List.length_cons, List.length_nil]); omega) ?_)
        | (refine And.intro (by (try simp only [mk_size, List.size_toArray, ByteArray.size_append, ByteArray.size_extract, List.length_cons, List.length_nil, wrap64_eq]); omega) ?_)
        | fail)
      all_goals first | exact h0 | (exfalso; omega) | (exfalso; simp_all; done)
    · have hl' : xs'.length ≤ 1048576 := by omega
      have hl2' : ys'.length ≤ 1048576 := by omega
      obtain ⟨p, q, hsr⟩ := sameR_form (planB a b c d e f xs ys) (planB a' b' c' d' e' f' xs' ys') xs ys xs' ys'
      repeat' ((conv => whnf); first
        | (refine And.intro rfl ?_)
        | (refine And.intro (by decide +kernel) ?_)
        | (refine And.intro trivial ?_)
        | (refine d_szPlan (h1 := sli_up h1) (h2 := sli_up h2) (hl := hm') (hl2 := hm2') (hm := by decide) (h0 := fun h => ?_) (h00 := fun h => absurd h hz) ..)
        | (refine d_szPlan (h1 := sli_up g1) (h2 := sli_up g2) (hl := hm3') (hl2 := hm4') (hm := by omega) (h0 := fun h => ?_) (h00 := fun h => absurd h hz2) ..)
        | (refine d_toPlan (h1 := sli_up h1) (h2 := sli_up h2) (hx := hx) (hy := hy) (hl := hl) (hl2 := hl2) (h0 := fun A B C => ?_) ..)
        | (refine d_toPlan (h1 := sli_up g1) (h2 := sli_up g2) (hx := hx') (hy := hy') (hl := hl') (hl2 := hl2') (h0 := fun A B C => ?_) ..)
        | (refine Exists.intro _ (And.intro (callW_fn (d_sSameEffects (h1 := sli_rows hx rfl) (h2 := sli_rows hy rfl) (g1 := sli_rows hx' rfl) (g2 := sli_rows hy' rfl) (hx := hx) (hy := hy) (hx' := hx') (hy' := hy') (hl := hl) (hl2 := hl2) (hl' := hl') (hl2' := hl2') (h0 := And.intro rfl rfl) ..)) ?_); rw [hsr])
        | (refine d_SameEffects (h1 := sli_rows hx rfl) (h2 := sli_rows hy rfl) (g1 := sli_rows hx' rfl) (g2 := sli_rows hy' rfl) (hx := hx) (hy := hy) (hx' := hx') (hy' := hy') (h0 := ?_) ..; rw [hsr])
        | (refine Exists.intro _ (And.intro (callW_fn (d_eqPlan (h1 := sli_rows hx rfl) (h2 := sli_rows hy rfl) (g1 := sli_rows hx rfl) (g2 := sli_rows hy rfl) (hx := hx) (hy := hy) (hl := hl) (hl2 := hl2) (h0 := And.intro rfl rfl) ..)) ?_))
        | (refine Exists.intro _ (And.intro (callW_fn (d_eqPlan (h1 := sli_rows hx' rfl) (h2 := sli_rows hy' rfl) (g1 := sli_rows hx' rfl) (g2 := sli_rows hy' rfl) (hx := hx') (hy := hy') (hl := hl') (hl2 := hl2') (h0 := And.intro rfl rfl) ..)) ?_))
        | (refine Exists.intro _ (And.intro rfl (And.intro rfl (And.intro (Nat.le_of_ble_eq_true rfl) ?_))))
        | (refine Exists.intro _ (And.intro rfl (And.intro rfl (And.intro rfl (And.intro (Nat.le_of_ble_eq_true rfl) ?_)))))
        | (refine And.intro (Exists.intro _ (And.intro rfl rfl)) ?_)
        | (exact fun hW => absurd hW (by decide +kernel))
        | (intro hW; (try simp only [Bool.not_true, Bool.not_false, Bool.not_eq_true', Bool.not_eq_false', decide_eq_true_eq, decide_eq_false_iff_not, reduceCtorEq, Bool.true_eq_false, Bool.false_eq_true, mk_size, List.size_toArray, ByteArray.size_append, ByteArray.size_extract, List.length_cons, List.length_nil, ba_get, ba_empty, Int.toNat_natCast] at hW))
        | (refine And.intro (?_ : _ → _) (?_ : _ → _))
        | (refine FinR.drop 0 (Nat.zero_le _) (Closed.zero _) rfl ?_)
        | (refine FinR.keep ?_)
        | (refine And.intro (det3_agg rfl) ?_)
        | (refine fL_mk ?_)
        | (refine And.intro (by (try simp only [mk_size, List.size_toArray, ByteArray.size_append, ByteArray.size_extract, List.length_cons, List.length_nil]); omega) ?_)
        | (refine And.intro (by (try simp only [mk_size, List.size_toArray, ByteArray.size_append, ByteArray.size_extract, List.length_cons, List.length_nil, wrap64_eq]); omega) ?_)
        | fail)
      all_goals first | exact h0 | (exfalso; omega) | (exfalso; simp_all; done) | skip
theorem c_law_SameEffects (a0 : Int) (ha0 : IntKind.i64.has a0) (a1 : Int) (ha1 : IntKind.i64.has a1) (a2 : Int) (ha2 : IntKind.i64.has a2) (a3 : Int) (ha3 : IntKind.i64.has a3) (a4 : Int) (ha4 : IntKind.i64.has a4) (a5 : Int) (ha5 : IntKind.i64.has a5) (v : Value) (xs : List (List Int)) (sv : Sli W0 [] 6 enI (.lit v) xs) (hv : ∀ x ∈ xs, x.length = 6 ∧ ∀ n ∈ x, IntKind.i64.has n) (mv : xs.length ≤ maxLen) (u : Value) (ys : List (List Int)) (su : Sli W0 [] 4 enI (.lit u) ys) (hu : ∀ x ∈ ys, x.length = 4 ∧ ∀ n ∈ x, IntKind.i64.has n) (mu : ys.length ≤ maxLen) (c0 : Int) (hc0 : IntKind.i64.has c0) (c1 : Int) (hc1 : IntKind.i64.has c1) (c2 : Int) (hc2 : IntKind.i64.has c2) (c3 : Int) (hc3 : IntKind.i64.has c3) (c4 : Int) (hc4 : IntKind.i64.has c4) (c5 : Int) (hc5 : IntKind.i64.has c5) (vv : Value) (xs1 : List (List Int)) (svv : Sli W0 [] 6 enI (.lit vv) xs1) (hvv : ∀ x ∈ xs1, x.length = 6 ∧ ∀ n ∈ x, IntKind.i64.has n) (mvv : xs1.length ≤ maxLen) (uu : Value) (ys1 : List (List Int)) (suu : Sli W0 [] 4 enI (.lit uu) ys1) (huu : ∀ x ∈ ys1, x.length = 4 ∧ ∀ n ∈ x, IntKind.i64.has n) (muu : ys1.length ≤ maxLen) (K : Cont) (h0 : K (Bo true) []) : ACall Try.prog W0 6 [PlA a0 a1 a2 a3 a4 a5 (.lit v) (.lit u), PlA c0 c1 c2 c3 c4 c5 (.lit vv) (.lit uu)] [] K :=
  c_law_SameEffectsQ a0 a1 a2 a3 a4 a5 c0 c1 c2 c3 c4 c5 v u vv uu xs ys xs1 ys1 sv su svv suu (fun x h => (hv x h).1) (fun x h => (hu x h).1) (fun x h => (hvv x h).1) (fun x h => (huu x h).1) mv mu mvv muu K h0
end Go.Proofs.Ytbmilmnfhdkfjaa
end
