import Derived.Test.YtbmilmnfhdkfjaaZU4
section
/- Contracts: plans marked and held. -/
set_option linter.unusedVariables false
set_option linter.unusedSimpArgs false
set_option maxRecDepth 100000
set_option maxHeartbeats 4000000
namespace Go.Proofs.Ytbmilmnfhdkfjaa
open Go Go.RowKit Go.Proofs.Ytbmilmnfhdkfjaa.Abs
variable {W0 : World} {σ : List Blk}
theorem d_markSheetS (b ver n cap : Nat) (B : Blk) (hB : σ[b]? = some B) (hv : B.ver = ver) (hn : n * 6 ≤ B.cells.length) (hn2 : n ≤ 1048576) (k : Int) (hk : 0 ≤ k ∧ k ≤ 16777216) (K : Cont) (h0 : K (I (k + (n * 6 : Nat))) (σ.set b (mB B k (n * 6)))) : ACall Try.prog W0 68 [.sl b ver 0 n cap, I k] σ K := by
  refine by68 (Nat.le_of_ble_eq_true rfl) ?_
  repeat' ((conv => whnf); first
    | (refine And.intro rfl ?_)
    | (refine And.intro (by decide +kernel) ?_)
    | (refine And.intro trivial ?_)
    | (refine Exists.intro _ (And.intro rfl (And.intro rfl (And.intro (Nat.le_of_ble_eq_true rfl) ?_))))
    | (refine Exists.intro _ (And.intro rfl (And.intro rfl (And.intro rfl (And.intro (Nat.le_of_ble_eq_true rfl) ?_)))))
    | (refine And.intro (Exists.intro _ (And.intro rfl rfl)) ?_)
    | (exact fun hW => absurd hW (by decide +kernel))
    | (intro hW; (try simp only [Bool.not_true, Bool.not_false, Bool.not_eq_true', Bool.not_eq_false', decide_eq_true_eq, decide_eq_false_iff_not, reduceCtorEq, Bool.true_eq_false, Bool.false_eq_true, mk_size, List.size_toArray, ByteArray.size_append, ByteArray.size_extract, List.length_cons, List.length_nil, ba_get, ba_empty, Int.toNat_natCast] at hW))
    | (refine And.intro (?_ : _ → _) (?_ : _ → _))
    | (refine FinR.drop 0 (Nat.zero_le _) (Closed.zero _) rfl ?_)
    | (refine FinR.keep ?_)
    | (refine And.intro (det3_agg rfl) ?_)
    | (refine fL_mk ?_)
    | (refine And.intro (by (try simp only [mk_size, List.size_toArray, ByteArray.size_append, ByteArray.size_extract, List.length_cons, List.length_nil]); omega) ?_)
    | (refine And.intro (by (try simp only [mk_size, List.size_toArray, ByteArray.size_append, ByteArray.size_extract, List.length_cons, List.length_nil, wrap64_eq]); omega) ?_)
    | fail)
  refine LoopR.live (fun i : Nat => [(0, .sl b ver 0 n cap), (1, I (k + (i * 6 : Nat))), (5, I i)]) (fun i => σ.set b (mB B k (i * 6))) (fun i => i ≤ n) (fun i => n - i) 0 ⟨rfl, slI' (by omega), rfl, trivial⟩ (.keep (by show σ.set b (mB B k (0 * 6)) = σ; rw [Nat.zero_mul, mB_zero, set_self hB])) (Nat.zero_le _) ?_
  intro i hi
  have hcur : ∃ B', (σ.set b (mB B k (i * 6)))[b]? = some B' ∧ B'.ver = ver := ⟨_, get_set hB, hv⟩
  by_cases hlt : i < n
  · skip
    repeat' ((conv => whnf); first
      | (refine And.intro rfl ?_)
      | (refine And.intro (by decide +kernel) ?_)
      | (refine And.intro trivial ?_)
      | (refine And.intro hcur ?_)
      | (refine Exists.intro _ (And.intro rfl (And.intro rfl (And.intro (Nat.le_of_ble_eq_true rfl) ?_))))
      | (refine Exists.intro _ (And.intro rfl (And.intro rfl (And.intro rfl (And.intro (Nat.le_of_ble_eq_true rfl) ?_)))))
      | (refine And.intro (Exists.intro _ (And.intro rfl rfl)) ?_)
      | (exact fun hW => absurd hW (by decide +kernel))
      | (intro hW; (try simp only [Bool.not_true, Bool.not_false, Bool.not_eq_true', Bool.not_eq_false', decide_eq_true_eq, decide_eq_false_iff_not, reduceCtorEq, Bool.true_eq_false, Bool.false_eq_true, mk_size, List.size_toArray, ByteArray.size_append, ByteArray.size_extract, List.length_cons, List.length_nil, ba_get, ba_empty, Int.toNat_natCast] at hW))
      | (refine And.intro (?_ : _ → _) (?_ : _ → _))
      | (refine FinR.drop 0 (Nat.zero_le _) (Closed.zero _) rfl ?_)
      | (refine FinR.keep ?_)
      | (refine And.intro (det3_agg rfl) ?_)
      | (refine fL_mk ?_)
      | (refine And.intro (by (try simp only [mk_size, List.size_toArray, ByteArray.size_append, ByteArray.size_extract, List.length_cons, List.length_nil]); omega) ?_)
      | (refine And.intro (by (try simp only [mk_size, List.size_toArray, ByteArray.size_append, ByteArray.size_extract, List.length_cons, List.length_nil, wrap64_eq]); omega) ?_)
      | fail)
    all_goals first | (exfalso; omega) | skip
    refine LoopR.live (fun j : Nat => [(0, .sl b ver 0 n cap), (1, I (k + (i * 6 + j : Nat))), (5, I i), (6, I j)]) (fun j => σ.set b (mB B k (i * 6 + j))) (fun j => j ≤ 6) (fun j => 6 - j) 0 ⟨rfl, rfl, rfl, rfl, trivial⟩ (.keep rfl) (Nat.zero_le _) ?_
    intro j hj
    have hcur2 : ∃ B', (σ.set b (mB B k (i * 6 + j)))[b]? = some B' ∧ B'.ver = ver := ⟨_, get_set hB, hv⟩
    by_cases hlt2 : j < 6
    · skip
      repeat' ((conv => whnf); first
        | (refine And.intro rfl ?_)
        | (refine And.intro (by decide +kernel) ?_)
        | (refine And.intro trivial ?_)
        | (refine And.intro hcur2 ?_)
        | (refine st_mark hB hv (i * 6 + j) _ _ (by omega) rfl (by omega) ?_)
        | (refine Exists.intro _ (And.intro rfl (And.intro rfl (And.intro (Nat.le_of_ble_eq_true rfl) ?_))))
        | (refine Exists.intro _ (And.intro rfl (And.intro rfl (And.intro rfl (And.intro (Nat.le_of_ble_eq_true rfl) ?_)))))
        | (refine And.intro (Exists.intro _ (And.intro rfl rfl)) ?_)
        | (exact fun hW => absurd hW (by decide +kernel))
        | (intro hW; (try simp only [Bool.not_true, Bool.not_false, Bool.not_eq_true', Bool.not_eq_false', decide_eq_true_eq, decide_eq_false_iff_not, reduceCtorEq, Bool.true_eq_false, Bool.false_eq_true, mk_size, List.size_toArray, ByteArray.size_append, ByteArray.size_extract, List.length_cons, List.length_nil, ba_get, ba_empty, Int.toNat_natCast] at hW))
        | (refine And.intro (?_ : _ → _) (?_ : _ → _))
        | (refine FinR.drop 0 (Nat.zero_le _) (Closed.zero _) rfl ?_)
        | (refine FinR.keep ?_)
        | (refine And.intro (det3_agg rfl) ?_)
        | (refine fL_mk ?_)
        | (refine And.intro (by (try simp only [mk_size, List.size_toArray, ByteArray.size_append, ByteArray.size_extract, List.length_cons, List.length_nil]); omega) ?_)
        | (refine And.intro (by (try simp only [mk_size, List.size_toArray, ByteArray.size_append, ByteArray.size_extract, List.length_cons, List.length_nil, wrap64_eq]); omega) ?_)
        | fail)
      all_goals first | (exfalso; omega) | skip
      exact Again.go (j + 1) ⟨rfl, slI' (wadd k _ (by omega)), rfl, slI' (wsucc' j (by omega)), trivial⟩ (.keep rfl) (by omega) (by omega)
    · obtain rfl : j = 6 := by omega
      repeat' ((conv => whnf); first
        | (refine And.intro rfl ?_)
        | (refine And.intro (by decide +kernel) ?_)
        | (refine And.intro trivial ?_)
        | (refine Exists.intro _ (And.intro rfl (And.intro rfl (And.intro (Nat.le_of_ble_eq_true rfl) ?_))))
        | (refine Exists.intro _ (And.intro rfl (And.intro rfl (And.intro rfl (And.intro (Nat.le_of_ble_eq_true rfl) ?_)))))
        | (refine And.intro (Exists.intro _ (And.intro rfl rfl)) ?_)
        | (exact fun hW => absurd hW (by decide +kernel))
        | (intro hW; (try simp only [Bool.not_true, Bool.not_false, Bool.not_eq_true', Bool.not_eq_false', decide_eq_true_eq, decide_eq_false_iff_not, reduceCtorEq, Bool.true_eq_false, Bool.false_eq_true, mk_size, List.size_toArray, ByteArray.size_append, ByteArray.size_extract, List.length_cons, List.length_nil, ba_get, ba_empty, Int.toNat_natCast] at hW))
        | (refine And.intro (?_ : _ → _) (?_ : _ → _))
        | (refine FinR.drop 0 (Nat.zero_le _) (Closed.zero _) rfl ?_)
        | (refine FinR.keep ?_)
        | (refine And.intro (det3_agg rfl) ?_)
        | (refine fL_mk ?_)
        | (refine And.intro (by (try simp only [mk_size, List.size_toArray, ByteArray.size_append, ByteArray.size_extract, List.length_cons, List.length_nil]); omega) ?_)
        | (refine And.intro (by (try simp only [mk_size, List.size_toArray, ByteArray.size_append, ByteArray.size_extract, List.length_cons, List.length_nil, wrap64_eq]); omega) ?_)
        | fail)
      all_goals first | (exfalso; omega) | skip
      exact Again.go (i + 1) ⟨rfl, slI' (by omega), slI' (wsucc' i (by omega)), trivial⟩ (.keep (by rw [Nat.add_mul])) (by omega) (by omega)
  · obtain rfl : i = n := by omega
    repeat' ((conv => whnf); first
      | (refine And.intro rfl ?_)
      | (refine And.intro (by decide +kernel) ?_)
      | (refine And.intro trivial ?_)
      | (refine And.intro hcur ?_)
      | (refine Exists.intro _ (And.intro rfl (And.intro rfl (And.intro (Nat.le_of_ble_eq_true rfl) ?_))))
      | (refine Exists.intro _ (And.intro rfl (And.intro rfl (And.intro rfl (And.intro (Nat.le_of_ble_eq_true rfl) ?_)))))
      | (refine And.intro (Exists.intro _ (And.intro rfl rfl)) ?_)
      | (exact fun hW => absurd hW (by decide +kernel))
      | (intro hW; (try simp only [Bool.not_true, Bool.not_false, Bool.not_eq_true', Bool.not_eq_false', decide_eq_true_eq, decide_eq_false_iff_not, reduceCtorEq, Bool.true_eq_false, Bool.false_eq_true, mk_size, List.size_toArray, ByteArray.size_append, ByteArray.size_extract, List.length_cons, List.length_nil, ba_get, ba_empty, Int.toNat_natCast] at hW))
      | (refine And.intro (?_ : _ → _) (?_ : _ → _))
      | (refine FinR.drop 0 (Nat.zero_le _) (Closed.zero _) rfl ?_)
      | (refine FinR.keep ?_)
      | (refine And.intro (det3_agg rfl) ?_)
      | (refine fL_mk ?_)
      | (refine And.intro (by (try simp only [mk_size, List.size_toArray, ByteArray.size_append, ByteArray.size_extract, List.length_cons, List.length_nil]); omega) ?_)
      | (refine And.intro (by (try simp only [mk_size, List.size_toArray, ByteArray.size_append, ByteArray.size_extract, List.length_cons, List.length_nil, wrap64_eq]); omega) ?_)
      | fail)
    all_goals first | (exfalso; omega) | exact h0
theorem d_markStepS (b ver n cap : Nat) (B : Blk) (hB : σ[b]? = some B) (hv : B.ver = ver) (hn : n * 4 ≤ B.cells.length) (hn2 : n ≤ 1048576) (k : Int) (hk : 0 ≤ k ∧ k ≤ 16777216) (K : Cont) (h0 : K (I (k + (n * 4 : Nat))) (σ.set b (mB B k (n * 4)))) : ACall Try.prog W0 69 [.sl b ver 0 n cap, I k] σ K := by
  refine by69 (Nat.le_of_ble_eq_true rfl) ?_
  repeat' ((conv => whnf); first
    | (refine And.intro rfl ?_)
    | (refine And.intro (by decide +kernel) ?_)
    | (refine And.intro trivial ?_)
    | (refine Exists.intro _ (And.intro rfl (And.intro rfl (And.intro (Nat.le_of_ble_eq_true rfl) ?_))))
    | (refine Exists.intro _ (And.intro rfl (And.intro rfl (And.intro rfl (And.intro (Nat.le_of_ble_eq_true rfl) ?_)))))
    | (refine And.intro (Exists.intro _ (And.intro rfl rfl)) ?_)
    | (exact fun hW => absurd hW (by decide +kernel))
    | (intro hW; (try simp only [Bool.not_true, Bool.not_false, Bool.not_eq_true', Bool.not_eq_false', decide_eq_true_eq, decide_eq_false_iff_not, reduceCtorEq, Bool.true_eq_false, Bool.false_eq_true, mk_size, List.size_toArray, ByteArray.size_append, ByteArray.size_extract, List.length_cons, List.length_nil, ba_get, ba_empty, Int.toNat_natCast] at hW))
    | (refine And.intro (?_ : _ → _) (?_ : _ → _))
    | (refine FinR.drop 0 (Nat.zero_le _) (Closed.zero _) rfl ?_)
    | (refine FinR.keep ?_)
    | (refine And.intro (det3_agg rfl) ?_)
    | (refine fL_mk ?_)
    | (refine And.intro (by (try simp only [mk_size, List.size_toArray, ByteArray.size_append, ByteArray.size_extract, List.length_cons, List.length_nil]); omega) ?_)
    | (refine And.intro (by (try simp only [mk_size, List.size_toArray, ByteArray.size_append, ByteArray.size_extract, List.length_cons, List.length_nil, wrap64_eq]); omega) ?_)
    | fail)
  refine LoopR.live (fun i : Nat => [(0, .sl b ver 0 n cap), (1, I (k + (i * 4 : Nat))), (5, I i)]) (fun i => σ.set b (mB B k (i * 4))) (fun i => i ≤ n) (fun i => n - i) 0 ⟨rfl, slI' (by omega), rfl, trivial⟩ (.keep (by show σ.set b (mB B k (0 * 4)) = σ; rw [Nat.zero_mul, mB_zero, set_self hB])) (Nat.zero_le _) ?_
  intro i hi
  have hcur : ∃ B', (σ.set b (mB B k (i * 4)))[b]? = some B' ∧ B'.ver = ver := ⟨_, get_set hB, hv⟩
  have hcur1 : ∃ B', (σ.set b (mB B k (i * 4 + 1)))[b]? = some B' ∧ B'.ver = ver := ⟨_, get_set hB, hv⟩
  by_cases hlt : i < n
  · have ew : IntKind.i64.wrap (k + (i * 4 : Nat) + 1) = k + (i * 4 + 1 : Nat) := by rw [wrap_i64 _ (by omega) (by omega)]; omega
    repeat' ((conv => whnf); first
      | (refine And.intro rfl ?_)
      | (refine And.intro (by decide +kernel) ?_)
      | (refine And.intro trivial ?_)
      | (refine And.intro hcur ?_)
      | (refine And.intro hcur1 ?_)
      | (refine st_mark hB hv (i * 4) _ _ (by omega) rfl (by omega) ?_)
      | (refine st_mark hB hv (i * 4 + 1) _ _ (by omega) ew (by omega) ?_)
      | (refine Exists.intro _ (And.intro rfl (And.intro rfl (And.intro (Nat.le_of_ble_eq_true rfl) ?_))))
      | (refine Exists.intro _ (And.intro rfl (And.intro rfl (And.intro rfl (And.intro (Nat.le_of_ble_eq_true rfl) ?_)))))
      | (refine And.intro (Exists.intro _ (And.intro rfl rfl)) ?_)
      | (exact fun hW => absurd hW (by decide +kernel))
      | (intro hW; (try simp only [Bool.not_true, Bool.not_false, Bool.not_eq_true', Bool.not_eq_false', decide_eq_true_eq, decide_eq_false_iff_not, reduceCtorEq, Bool.true_eq_false, Bool.false_eq_true, mk_size, List.size_toArray, ByteArray.size_append, ByteArray.size_extract, List.length_cons, List.length_nil, ba_get, ba_empty, Int.toNat_natCast] at hW))
      | (refine And.intro (?_ : _ → _) (?_ : _ → _))
      | (refine FinR.drop 0 (Nat.zero_le _) (Closed.zero _) rfl ?_)
      | (refine FinR.keep ?_)
      | (refine And.intro (det3_agg rfl) ?_)
      | (refine fL_mk ?_)
      | (refine And.intro (by (try simp only [mk_size, List.size_toArray, ByteArray.size_append, ByteArray.size_extract, List.length_cons, List.length_nil]); omega) ?_)
      | (refine And.intro (by (try simp only [mk_size, List.size_toArray, ByteArray.size_append, ByteArray.size_extract, List.length_cons, List.length_nil, wrap64_eq]); omega) ?_)
      | fail)
    all_goals first | (exfalso; omega) | skip
    refine LoopR.live (fun j : Nat => [(0, .sl b ver 0 n cap), (1, I (k + (i * 4 + 2 + j : Nat))), (5, I i), (6, I j)]) (fun j => σ.set b (mB B k (i * 4 + 2 + j))) (fun j => j ≤ 2) (fun j => 2 - j) 0 ⟨rfl, slI' (by rw [ew, wadd k _ (by omega)]), rfl, rfl, trivial⟩ (.keep rfl) (Nat.zero_le _) ?_
    intro j hj
    have hcur2 : ∃ B', (σ.set b (mB B k (i * 4 + 2 + j)))[b]? = some B' ∧ B'.ver = ver := ⟨_, get_set hB, hv⟩
    by_cases hlt2 : j < 2
    · skip
      repeat' ((conv => whnf); first
        | (refine And.intro rfl ?_)
        | (refine And.intro (by decide +kernel) ?_)
        | (refine And.intro trivial ?_)
        | (refine And.intro hcur2 ?_)
        | (refine st_mark hB hv (i * 4 + 2 + j) _ _ (by omega) rfl (by omega) ?_)
        | (refine Exists.intro _ (And.intro rfl (And.intro rfl (And.intro (Nat.le_of_ble_eq_true rfl) ?_))))
        | (refine Exists.intro _ (And.intro rfl (And.intro rfl (And.intro rfl (And.intro (Nat.le_of_ble_eq_true rfl) ?_)))))
        | (refine And.intro (Exists.intro _ (And.intro rfl rfl)) ?_)
        | (exact fun hW => absurd hW (by decide +kernel))
        | (intro hW; (try simp only [Bool.not_true, Bool.not_false, Bool.not_eq_true', Bool.not_eq_false', decide_eq_true_eq, decide_eq_false_iff_not, reduceCtorEq, Bool.true_eq_false, Bool.false_eq_true, mk_size, List.size_toArray, ByteArray.size_append, ByteArray.size_extract, List.length_cons, List.length_nil, ba_get, ba_empty, Int.toNat_natCast] at hW))
        | (refine And.intro (?_ : _ → _) (?_ : _ → _))
        | (refine FinR.drop 0 (Nat.zero_le _) (Closed.zero _) rfl ?_)
        | (refine FinR.keep ?_)
        | (refine And.intro (det3_agg rfl) ?_)
        | (refine fL_mk ?_)
        | (refine And.intro (by (try simp only [mk_size, List.size_toArray, ByteArray.size_append, ByteArray.size_extract, List.length_cons, List.length_nil]); omega) ?_)
        | (refine And.intro (by (try simp only [mk_size, List.size_toArray, ByteArray.size_append, ByteArray.size_extract, List.length_cons, List.length_nil, wrap64_eq]); omega) ?_)
        | fail)
      all_goals first | (exfalso; omega) | skip
      exact Again.go (j + 1) ⟨rfl, slI' (wadd k _ (by omega)), rfl, slI' (wsucc' j (by omega)), trivial⟩ (.keep rfl) (by omega) (by omega)
    · obtain rfl : j = 2 := by omega
      repeat' ((conv => whnf); first
        | (refine And.intro rfl ?_)
        | (refine And.intro (by decide +kernel) ?_)
        | (refine And.intro trivial ?_)
        | (refine Exists.intro _ (And.intro rfl (And.intro rfl (And.intro (Nat.le_of_ble_eq_true rfl) ?_))))
        | (refine Exists.intro _ (And.intro rfl (And.intro rfl (And.intro rfl (And.intro (Nat.le_of_ble_eq_true rfl) ?_)))))
        | (refine And.intro (Exists.intro _ (And.intro rfl rfl)) ?_)
        | (exact fun hW => absurd hW (by decide +kernel))
        | (intro hW; (try simp only [Bool.not_true, Bool.not_false, Bool.not_eq_true', Bool.not_eq_false', decide_eq_true_eq, decide_eq_false_iff_not, reduceCtorEq, Bool.true_eq_false, Bool.false_eq_true, mk_size, List.size_toArray, ByteArray.size_append, ByteArray.size_extract, List.length_cons, List.length_nil, ba_get, ba_empty, Int.toNat_natCast] at hW))
        | (refine And.intro (?_ : _ → _) (?_ : _ → _))
        | (refine FinR.drop 0 (Nat.zero_le _) (Closed.zero _) rfl ?_)
        | (refine FinR.keep ?_)
        | (refine And.intro (det3_agg rfl) ?_)
        | (refine fL_mk ?_)
        | (refine And.intro (by (try simp only [mk_size, List.size_toArray, ByteArray.size_append, ByteArray.size_extract, List.length_cons, List.length_nil]); omega) ?_)
        | (refine And.intro (by (try simp only [mk_size, List.size_toArray, ByteArray.size_append, ByteArray.size_extract, List.length_cons, List.length_nil, wrap64_eq]); omega) ?_)
        | fail)
      all_goals first | (exfalso; omega) | skip
      exact Again.go (i + 1) ⟨rfl, slI' (by omega), slI' (wsucc' i (by omega)), trivial⟩ (.keep (by rw [Nat.add_mul])) (by omega) (by omega)
  · obtain rfl : i = n := by omega
    repeat' ((conv => whnf); first
      | (refine And.intro rfl ?_)
      | (refine And.intro (by decide +kernel) ?_)
      | (refine And.intro trivial ?_)
      | (refine And.intro hcur ?_)
      | (refine Exists.intro _ (And.intro rfl (And.intro rfl (And.intro (Nat.le_of_ble_eq_true rfl) ?_))))
      | (refine Exists.intro _ (And.intro rfl (And.intro rfl (And.intro rfl (And.intro (Nat.le_of_ble_eq_true rfl) ?_)))))
      | (refine And.intro (Exists.intro _ (And.intro rfl rfl)) ?_)
      | (exact fun hW => absurd hW (by decide +kernel))
      | (intro hW; (try simp only [Bool.not_true, Bool.not_false, Bool.not_eq_true', Bool.not_eq_false', decide_eq_true_eq, decide_eq_false_iff_not, reduceCtorEq, Bool.true_eq_false, Bool.false_eq_true, mk_size, List.size_toArray, ByteArray.size_append, ByteArray.size_extract, List.length_cons, List.length_nil, ba_get, ba_empty, Int.toNat_natCast] at hW))
      | (refine And.intro (?_ : _ → _) (?_ : _ → _))
      | (refine FinR.drop 0 (Nat.zero_le _) (Closed.zero _) rfl ?_)
      | (refine FinR.keep ?_)
      | (refine And.intro (det3_agg rfl) ?_)
      | (refine fL_mk ?_)
      | (refine And.intro (by (try simp only [mk_size, List.size_toArray, ByteArray.size_append, ByteArray.size_extract, List.length_cons, List.length_nil]); omega) ?_)
      | (refine And.intro (by (try simp only [mk_size, List.size_toArray, ByteArray.size_append, ByteArray.size_extract, List.length_cons, List.length_nil, wrap64_eq]); omega) ?_)
      | fail)
    all_goals first | (exfalso; omega) | exact h0
theorem c_heldSheetS (a : AV) (n : Nat) (k : Int) (ha : Sli W0 [] 6 enI a (rowsM k 6 n)) (hn2 : n ≤ 1048576) (hk : 0 ≤ k ∧ k ≤ 16777216) (K : Cont) (h0 : K (I (k + (n * 6 : Nat))) []) : ACall Try.prog W0 70 [a, I k] [] K := by
  refine by70 (Nat.le_of_ble_eq_true rfl) ?_
  have hl := rowsM_len k 6 n
  generalize hm : rowsM k 6 n = xs at ha hl
  obtain ⟨o, n', cap, rfl, hn, hc, hcm, hf⟩ := sli_form ha
  rw [hl] at hn
  subst hn
  repeat' ((conv => whnf); first
    | (refine And.intro rfl ?_)
    | (refine And.intro (by decide +kernel) ?_)
    | (refine And.intro trivial ?_)
    | (refine Exists.intro _ (And.intro rfl (And.intro rfl (And.intro (Nat.le_of_ble_eq_true rfl) ?_))))
    | (refine Exists.intro _ (And.intro rfl (And.intro rfl (And.intro rfl (And.intro (Nat.le_of_ble_eq_true rfl) ?_)))))
    | (refine And.intro (Exists.intro _ (And.intro rfl rfl)) ?_)
    | (exact fun hW => absurd hW (by decide +kernel))
    | (intro hW; (try simp only [Bool.not_true, Bool.not_false, Bool.not_eq_true', Bool.not_eq_false', decide_eq_true_eq, decide_eq_false_iff_not, reduceCtorEq, Bool.true_eq_false, Bool.false_eq_true, mk_size, List.size_toArray, ByteArray.size_append, ByteArray.size_extract, List.length_cons, List.length_nil, ba_get, ba_empty, Int.toNat_natCast] at hW))
    | (refine And.intro (?_ : _ → _) (?_ : _ → _))
    | (refine FinR.drop 0 (Nat.zero_le _) (Closed.zero _) rfl ?_)
    | (refine FinR.keep ?_)
    | (refine And.intro (det3_agg rfl) ?_)
    | (refine fL_mk ?_)
    | (refine And.intro (by (try simp only [mk_size, List.size_toArray, ByteArray.size_append, ByteArray.size_extract, List.length_cons, List.length_nil]); omega) ?_)
    | (refine And.intro (by (try simp only [mk_size, List.size_toArray, ByteArray.size_append, ByteArray.size_extract, List.length_cons, List.length_nil, wrap64_eq]); omega) ?_)
    | fail)
  refine LoopR.live (fun i : Nat => [(0, .lit (.slice o n' cap)), (1, I (k + (i * 6 : Nat))), (5, I i)]) (fun i => []) (fun i => i ≤ n') (fun i => n' - i) 0 ⟨rfl, slI' (by omega), rfl, trivial⟩ (.keep rfl) (Nat.zero_le _) ?_
  intro i hi
  by_cases hlt : i < n'
  · have hxi : xs[i]? = some [k + (i * 6 : Nat), k + (i * 6 : Nat) + 1, k + (i * 6 : Nat) + 2, k + (i * 6 : Nat) + 3, k + (i * 6 : Nat) + 4, k + (i * 6 : Nat) + 5] := by rw [← hm, rowsM_get k 6 hlt]; simp [marks, List.range_succ]
    obtain ⟨ad, rfl, hb, hxx⟩ := hf i _ hxi
    have hld0 := fun C h => ldInF (W0 := W0) (s := 6) (enc := enI) hb hxx (k := i) hxi 0 1 rfl (C := C) h
    have hld1 := fun C h => ldInF (W0 := W0) (s := 6) (enc := enI) hb hxx (k := i) hxi 1 1 rfl (C := C) h
    have hld2 := fun C h => ldInF (W0 := W0) (s := 6) (enc := enI) hb hxx (k := i) hxi 2 1 rfl (C := C) h
    have hld3 := fun C h => ldInF (W0 := W0) (s := 6) (enc := enI) hb hxx (k := i) hxi 3 1 rfl (C := C) h
    have hld4 := fun C h => ldInF (W0 := W0) (s := 6) (enc := enI) hb hxx (k := i) hxi 4 1 rfl (C := C) h
    have hld5 := fun C h => ldInF (W0 := W0) (s := 6) (enc := enI) hb hxx (k := i) hxi 5 1 rfl (C := C) h
    repeat' ((conv => whnf); first
      | (refine And.intro rfl ?_)
      | (refine And.intro (by decide +kernel) ?_)
      | (refine And.intro trivial ?_)
      | (refine Exists.intro _ (And.intro rfl (And.intro rfl (And.intro (Nat.le_of_ble_eq_true rfl) ?_))))
      | (refine Exists.intro _ (And.intro rfl (And.intro rfl (And.intro rfl (And.intro (Nat.le_of_ble_eq_true rfl) ?_)))))
      | (refine And.intro (Exists.intro _ (And.intro rfl rfl)) ?_)
      | (exact fun hW => absurd hW (by decide +kernel))
      | (intro hW; (try simp only [Bool.not_true, Bool.not_false, Bool.not_eq_true', Bool.not_eq_false', decide_eq_true_eq, decide_eq_false_iff_not, reduceCtorEq, Bool.true_eq_false, Bool.false_eq_true, mk_size, List.size_toArray, ByteArray.size_append, ByteArray.size_extract, List.length_cons, List.length_nil, ba_get, ba_empty, Int.toNat_natCast] at hW))
      | (refine And.intro (?_ : _ → _) (?_ : _ → _))
      | (refine FinR.drop 0 (Nat.zero_le _) (Closed.zero _) rfl ?_)
      | (refine FinR.keep ?_)
      | (refine And.intro (det3_agg rfl) ?_)
      | (refine fL_mk ?_)
      | (refine And.intro (by (try simp only [mk_size, List.size_toArray, ByteArray.size_append, ByteArray.size_extract, List.length_cons, List.length_nil]); omega) ?_)
      | (refine And.intro (by (try simp only [mk_size, List.size_toArray, ByteArray.size_append, ByteArray.size_extract, List.length_cons, List.length_nil, wrap64_eq]); omega) ?_)
      | fail)
    all_goals first | (exfalso; omega) | skip
    refine LoopR.live (fun j : Nat => [(0, .lit (.slice (some ad) n' cap)), (1, I (k + (i * 6 + j : Nat))), (5, I i), (6, I j)]) (fun j => []) (fun j => j ≤ 6) (fun j => 6 - j) 0 ⟨rfl, rfl, rfl, rfl, trivial⟩ (.keep rfl) (Nat.zero_le _) ?_
    intro j hj
    have hj7 : j = 0 ∨ j = 1 ∨ j = 2 ∨ j = 3 ∨ j = 4 ∨ j = 5 ∨ j = 6 := by omega
    obtain rfl | rfl | rfl | rfl | rfl | rfl | rfl := hj7
    · skip
      repeat' ((conv => whnf); first
        | (refine And.intro rfl ?_)
        | (refine And.intro (by decide +kernel) ?_)
        | (refine And.intro trivial ?_)
        | (refine hld0 _ ?_)
        | (refine Exists.intro _ (And.intro rfl (And.intro rfl (And.intro (Nat.le_of_ble_eq_true rfl) ?_))))
        | (refine Exists.intro _ (And.intro rfl (And.intro rfl (And.intro rfl (And.intro (Nat.le_of_ble_eq_true rfl) ?_)))))
        | (refine And.intro (Exists.intro _ (And.intro rfl rfl)) ?_)
        | (exact fun hW => absurd hW (by decide +kernel))
        | (intro hW; (try simp only [Bool.not_true, Bool.not_false, Bool.not_eq_true', Bool.not_eq_false', decide_eq_true_eq, decide_eq_false_iff_not, reduceCtorEq, Bool.true_eq_false, Bool.false_eq_true, mk_size, List.size_toArray, ByteArray.size_append, ByteArray.size_extract, List.length_cons, List.length_nil, ba_get, ba_empty, Int.toNat_natCast] at hW))
        | (refine And.intro (?_ : _ → _) (?_ : _ → _))
        | (refine FinR.drop 0 (Nat.zero_le _) (Closed.zero _) rfl ?_)
        | (refine FinR.keep ?_)
        | (refine And.intro (det3_agg rfl) ?_)
        | (refine fL_mk ?_)
        | (refine And.intro (by (try simp only [mk_size, List.size_toArray, ByteArray.size_append, ByteArray.size_extract, List.length_cons, List.length_nil]); omega) ?_)
        | (refine And.intro (by (try simp only [mk_size, List.size_toArray, ByteArray.size_append, ByteArray.size_extract, List.length_cons, List.length_nil, wrap64_eq]); omega) ?_)
        | fail)
      all_goals first | (exfalso; omega) | exact Again.go 1 ⟨rfl, slI' (wadd k _ (by omega)), rfl, rfl, trivial⟩ (.keep rfl) (by omega) (by omega)
    · skip
      repeat' ((conv => whnf); first
        | (refine And.intro rfl ?_)
        | (refine And.intro (by decide +kernel) ?_)
        | (refine And.intro trivial ?_)
        | (refine hld1 _ ?_)
        | (refine Exists.intro _ (And.intro rfl (And.intro rfl (And.intro (Nat.le_of_ble_eq_true rfl) ?_))))
        | (refine Exists.intro _ (And.intro rfl (And.intro rfl (And.intro rfl (And.intro (Nat.le_of_ble_eq_true rfl) ?_)))))
        | (refine And.intro (Exists.intro _ (And.intro rfl rfl)) ?_)
        | (exact fun hW => absurd hW (by decide +kernel))
        | (intro hW; (try simp only [Bool.not_true, Bool.not_false, Bool.not_eq_true', Bool.not_eq_false', decide_eq_true_eq, decide_eq_false_iff_not, reduceCtorEq, Bool.true_eq_false, Bool.false_eq_true, mk_size, List.size_toArray, ByteArray.size_append, ByteArray.size_extract, List.length_cons, List.length_nil, ba_get, ba_empty, Int.toNat_natCast] at hW))
        | (refine And.intro (?_ : _ → _) (?_ : _ → _))
        | (refine FinR.drop 0 (Nat.zero_le _) (Closed.zero _) rfl ?_)
        | (refine FinR.keep ?_)
        | (refine And.intro (det3_agg rfl) ?_)
        | (refine fL_mk ?_)
        | (refine And.intro (by (try simp only [mk_size, List.size_toArray, ByteArray.size_append, ByteArray.size_extract, List.length_cons, List.length_nil]); omega) ?_)
        | (refine And.intro (by (try simp only [mk_size, List.size_toArray, ByteArray.size_append, ByteArray.size_extract, List.length_cons, List.length_nil, wrap64_eq]); omega) ?_)
        | fail)
      all_goals first | (exfalso; omega) | exact Again.go 2 ⟨rfl, slI' (wadd k _ (by omega)), rfl, rfl, trivial⟩ (.keep rfl) (by omega) (by omega)
    · skip
      repeat' ((conv => whnf); first
        | (refine And.intro rfl ?_)
        | (refine And.intro (by decide +kernel) ?_)
        | (refine And.intro trivial ?_)
        | (refine hld2 _ ?_)
        | (refine Exists.intro _ (And.intro rfl (And.intro rfl (And.intro (Nat.le_of_ble_eq_true rfl) ?_))))
        | (refine Exists.intro _ (And.intro rfl (And.intro rfl (And.intro rfl (And.intro (Nat.le_of_ble_eq_true rfl) ?_)))))
        | (refine And.intro (Exists.intro _ (And.intro rfl rfl)) ?_)
        | (exact fun hW => absurd hW (by decide +kernel))
        | (intro hW; (try simp only [Bool.not_true, Bool.not_false, Bool.not_eq_true', Bool.not_eq_false', decide_eq_true_eq, decide_eq_false_iff_not, reduceCtorEq, Bool.true_eq_false, Bool.false_eq_true, mk_size, List.size_toArray, ByteArray.size_append, ByteArray.size_extract, List.length_cons, List.length_nil, ba_get, ba_empty, Int.toNat_natCast] at hW))
        | (refine And.intro (?_ : _ → _) (?_ : _ → _))
        | (refine FinR.drop 0 (Nat.zero_le _) (Closed.zero _) rfl ?_)
        | (refine FinR.keep ?_)
        | (refine And.intro (det3_agg rfl) ?_)
        | (refine fL_mk ?_)
        | (refine And.intro (by (try simp only [mk_size, List.size_toArray, ByteArray.size_append, ByteArray.size_extract, List.length_cons, List.length_nil]); omega) ?_)
        | (refine And.intro (by (try simp only [mk_size, List.size_toArray, ByteArray.size_append, ByteArray.size_extract, List.length_cons, List.length_nil, wrap64_eq]); omega) ?_)
        | fail)
      all_goals first | (exfalso; omega) | exact Again.go 3 ⟨rfl, slI' (wadd k _ (by omega)), rfl, rfl, trivial⟩ (.keep rfl) (by omega) (by omega)
    · skip
      repeat' ((conv => whnf); first
        | (refine And.intro rfl ?_)
        | (refine And.intro (by decide +kernel) ?_)
        | (refine And.intro trivial ?_)
        | (refine hld3 _ ?_)
        | (refine Exists.intro _ (And.intro rfl (And.intro rfl (And.intro (Nat.le_of_ble_eq_true rfl) ?_))))
        | (refine Exists.intro _ (And.intro rfl (And.intro rfl (And.intro rfl (And.intro (Nat.le_of_ble_eq_true rfl) ?_)))))
        | (refine And.intro (Exists.intro _ (And.intro rfl rfl)) ?_)
        | (exact fun hW => absurd hW (by decide +kernel))
        | (intro hW; (try simp only [Bool.not_true, Bool.not_false, Bool.not_eq_true', Bool.not_eq_false', decide_eq_true_eq, decide_eq_false_iff_not, reduceCtorEq, Bool.true_eq_false, Bool.false_eq_true, mk_size, List.size_toArray, ByteArray.size_append, ByteArray.size_extract, List.length_cons, List.length_nil, ba_get, ba_empty, Int.toNat_natCast] at hW))
        | (refine And.intro (?_ : _ → _) (?_ : _ → _))
        | (refine FinR.drop 0 (Nat.zero_le _) (Closed.zero _) rfl ?_)
        | (refine FinR.keep ?_)
        | (refine And.intro (det3_agg rfl) ?_)
        | (refine fL_mk ?_)
        | (refine And.intro (by (try simp only [mk_size, List.size_toArray, ByteArray.size_append, ByteArray.size_extract, List.length_cons, List.length_nil]); omega) ?_)
        | (refine And.intro (by (try simp only [mk_size, List.size_toArray, ByteArray.size_append, ByteArray.size_extract, List.length_cons, List.length_nil, wrap64_eq]); omega) ?_)
        | fail)
      all_goals first | (exfalso; omega) | exact Again.go 4 ⟨rfl, slI' (wadd k _ (by omega)), rfl, rfl, trivial⟩ (.keep rfl) (by omega) (by omega)
    · skip
      repeat' ((conv => whnf); first
        | (refine And.intro rfl ?_)
        | (refine And.intro (by decide +kernel) ?_)
        | (refine And.intro trivial ?_)
        | (refine hld4 _ ?_)
        | (refine Exists.intro _ (And.intro rfl (And.intro rfl (And.intro (Nat.le_of_ble_eq_true rfl) ?_))))
        | (refine Exists.intro _ (And.intro rfl (And.intro rfl (And.intro rfl (And.intro (Nat.le_of_ble_eq_true rfl) ?_)))))
        | (refine And.intro (Exists.intro _ (And.intro rfl rfl)) ?_)
        | (exact fun hW => absurd hW (by decide +kernel))
        | (intro hW; (try simp only [Bool.not_true, Bool.not_false, Bool.not_eq_true', Bool.not_eq_false', decide_eq_true_eq, decide_eq_false_iff_not, reduceCtorEq, Bool.true_eq_false, Bool.false_eq_true, mk_size, List.size_toArray, ByteArray.size_append, ByteArray.size_extract, List.length_cons, List.length_nil, ba_get, ba_empty, Int.toNat_natCast] at hW))
        | (refine And.intro (?_ : _ → _) (?_ : _ → _))
        | (refine FinR.drop 0 (Nat.zero_le _) (Closed.zero _) rfl ?_)
        | (refine FinR.keep ?_)
        | (refine And.intro (det3_agg rfl) ?_)
        | (refine fL_mk ?_)
        | (refine And.intro (by (try simp only [mk_size, List.size_toArray, ByteArray.size_append, ByteArray.size_extract, List.length_cons, List.length_nil]); omega) ?_)
        | (refine And.intro (by (try simp only [mk_size, List.size_toArray, ByteArray.size_append, ByteArray.size_extract, List.length_cons, List.length_nil, wrap64_eq]); omega) ?_)
        | fail)
      all_goals first | (exfalso; omega) | exact Again.go 5 ⟨rfl, slI' (wadd k _ (by omega)), rfl, rfl, trivial⟩ (.keep rfl) (by omega) (by omega)
    · skip
      repeat' ((conv => whnf); first
        | (refine And.intro rfl ?_)
        | (refine And.intro (by decide +kernel) ?_)
        | (refine And.intro trivial ?_)
        | (refine hld5 _ ?_)
        | (refine Exists.intro _ (And.intro rfl (And.intro rfl (And.intro (Nat.le_of_ble_eq_true rfl) ?_))))
        | (refine Exists.intro _ (And.intro rfl (And.intro rfl (And.intro rfl (And.intro (Nat.le_of_ble_eq_true rfl) ?_)))))
        | (refine And.intro (Exists.intro _ (And.intro rfl rfl)) ?_)
        | (exact fun hW => absurd hW (by decide +kernel))
        | (intro hW; (try simp only [Bool.not_true, Bool.not_false, Bool.not_eq_true', Bool.not_eq_false', decide_eq_true_eq, decide_eq_false_iff_not, reduceCtorEq, Bool.true_eq_false, Bool.false_eq_true, mk_size, List.size_toArray, ByteArray.size_append, ByteArray.size_extract, List.length_cons, List.length_nil, ba_get, ba_empty, Int.toNat_natCast] at hW))
        | (refine And.intro (?_ : _ → _) (?_ : _ → _))
        | (refine FinR.drop 0 (Nat.zero_le _) (Closed.zero _) rfl ?_)
        | (refine FinR.keep ?_)
        | (refine And.intro (det3_agg rfl) ?_)
        | (refine fL_mk ?_)
        | (refine And.intro (by (try simp only [mk_size, List.size_toArray, ByteArray.size_append, ByteArray.size_extract, List.length_cons, List.length_nil]); omega) ?_)
        | (refine And.intro (by (try simp only [mk_size, List.size_toArray, ByteArray.size_append, ByteArray.size_extract, List.length_cons, List.length_nil, wrap64_eq]); omega) ?_)
        | fail)
      all_goals first | (exfalso; omega) | exact Again.go 6 ⟨rfl, slI' (wadd k _ (by omega)), rfl, rfl, trivial⟩ (.keep rfl) (by omega) (by omega)
    · skip
      repeat' ((conv => whnf); first
        | (refine And.intro rfl ?_)
        | (refine And.intro (by decide +kernel) ?_)
        | (refine And.intro trivial ?_)
        | (refine Exists.intro _ (And.intro rfl (And.intro rfl (And.intro (Nat.le_of_ble_eq_true rfl) ?_))))
        | (refine Exists.intro _ (And.intro rfl (And.intro rfl (And.intro rfl (And.intro (Nat.le_of_ble_eq_true rfl) ?_)))))
        | (refine And.intro (Exists.intro _ (And.intro rfl rfl)) ?_)
        | (exact fun hW => absurd hW (by decide +kernel))
        | (intro hW; (try simp only [Bool.not_true, Bool.not_false, Bool.not_eq_true', Bool.not_eq_false', decide_eq_true_eq, decide_eq_false_iff_not, reduceCtorEq, Bool.true_eq_false, Bool.false_eq_true, mk_size, List.size_toArray, ByteArray.size_append, ByteArray.size_extract, List.length_cons, List.length_nil, ba_get, ba_empty, Int.toNat_natCast] at hW))
        | (refine And.intro (?_ : _ → _) (?_ : _ → _))
        | (refine FinR.drop 0 (Nat.zero_le _) (Closed.zero _) rfl ?_)
        | (refine FinR.keep ?_)
        | (refine And.intro (det3_agg rfl) ?_)
        | (refine fL_mk ?_)
        | (refine And.intro (by (try simp only [mk_size, List.size_toArray, ByteArray.size_append, ByteArray.size_extract, List.length_cons, List.length_nil]); omega) ?_)
        | (refine And.intro (by (try simp only [mk_size, List.size_toArray, ByteArray.size_append, ByteArray.size_extract, List.length_cons, List.length_nil, wrap64_eq]); omega) ?_)
        | fail)
      all_goals first | (exfalso; omega) | exact Again.go (i + 1) ⟨rfl, slI' (by omega), slI' (wsucc' i (by omega)), trivial⟩ (.keep rfl) (by omega) (by omega)
  · obtain rfl : i = n' := by omega
    repeat' ((conv => whnf); first
      | (refine And.intro rfl ?_)
      | (refine And.intro (by decide +kernel) ?_)
      | (refine And.intro trivial ?_)
      | (refine Exists.intro _ (And.intro rfl (And.intro rfl (And.intro (Nat.le_of_ble_eq_true rfl) ?_))))
      | (refine Exists.intro _ (And.intro rfl (And.intro rfl (And.intro rfl (And.intro (Nat.le_of_ble_eq_true rfl) ?_)))))
      | (refine And.intro (Exists.intro _ (And.intro rfl rfl)) ?_)
      | (exact fun hW => absurd hW (by decide +kernel))
      | (intro hW; (try simp only [Bool.not_true, Bool.not_false, Bool.not_eq_true', Bool.not_eq_false', decide_eq_true_eq, decide_eq_false_iff_not, reduceCtorEq, Bool.true_eq_false, Bool.false_eq_true, mk_size, List.size_toArray, ByteArray.size_append, ByteArray.size_extract, List.length_cons, List.length_nil, ba_get, ba_empty, Int.toNat_natCast] at hW))
      | (refine And.intro (?_ : _ → _) (?_ : _ → _))
      | (refine FinR.drop 0 (Nat.zero_le _) (Closed.zero _) rfl ?_)
      | (refine FinR.keep ?_)
      | (refine And.intro (det3_agg rfl) ?_)
      | (refine fL_mk ?_)
      | (refine And.intro (by (try simp only [mk_size, List.size_toArray, ByteArray.size_append, ByteArray.size_extract, List.length_cons, List.length_nil]); omega) ?_)
      | (refine And.intro (by (try simp only [mk_size, List.size_toArray, ByteArray.size_append, ByteArray.size_extract, List.length_cons, List.length_nil, wrap64_eq]); omega) ?_)
      | fail)
    all_goals first | (exfalso; omega) | exact h0
theorem d_heldSheetS (a : AV) (n : Nat) (k : Int) (ha : Sli W0 σ 6 enI a (rowsM k 6 n)) (hn2 : n ≤ 1048576) (hk : 0 ≤ k ∧ k ≤ 16777216) (K : Cont) (h0 : K (I (k + (n * 6 : Nat))) σ) : ACall Try.prog W0 70 [a, I k] σ K :=
  lift_Sp (by kernel_rfl) rfl (fun _ => rfl) ha (fun W1 a' h K hK => c_heldSheetS a' n k h hn2 hk K hK) K h0
theorem c_heldStepS (a : AV) (n : Nat) (k : Int) (ha : Sli W0 [] 4 enI a (rowsM k 4 n)) (hn2 : n ≤ 1048576) (hk : 0 ≤ k ∧ k ≤ 16777216) (K : Cont) (h0 : K (I (k + (n * 4 : Nat))) []) : ACall Try.prog W0 71 [a, I k] [] K := by
  refine by71 (Nat.le_of_ble_eq_true rfl) ?_
  have hl := rowsM_len k 4 n
  generalize hm : rowsM k 4 n = xs at ha hl
  obtain ⟨o, n', cap, rfl, hn, hc, hcm, hf⟩ := sli_form ha
  rw [hl] at hn
  subst hn
  repeat' ((conv => whnf); first
    | (refine And.intro rfl ?_)
    | (refine And.intro (by decide +kernel) ?_)
    | (refine And.intro trivial ?_)
    | (refine Exists.intro _ (And.intro rfl (And.intro rfl (And.intro (Nat.le_of_ble_eq_true rfl) ?_))))
    | (refine Exists.intro _ (And.intro rfl (And.intro rfl (And.intro rfl (And.intro (Nat.le_of_ble_eq_true rfl) ?_)))))
    | (refine And.intro (Exists.intro _ (And.intro rfl rfl)) ?_)
    | (exact fun hW => absurd hW (by decide +kernel))
    | (intro hW; (try simp only [Bool.not_true, Bool.not_false, Bool.not_eq_true', Bool.not_eq_false', decide_eq_true_eq, decide_eq_false_iff_not, reduceCtorEq, Bool.true_eq_false, Bool.false_eq_true, mk_size, List.size_toArray, ByteArray.size_append, ByteArray.size_extract, List.length_cons, List.length_nil, ba_get, ba_empty, Int.toNat_natCast] at hW))
    | (refine And.intro (?_ : _ → _) (?_ : _ → _))
    | (refine FinR.drop 0 (Nat.zero_le _) (Closed.zero _) rfl ?_)
    | (refine FinR.keep ?_)
    | (refine And.intro (det3_agg rfl) ?_)
    | (refine fL_mk ?_)
    | (refine And.intro (by (try simp only [mk_size, List.size_toArray, ByteArray.size_append, ByteArray.size_extract, List.length_cons, List.length_nil]); omega) ?_)
    | (refine And.intro (by (try simp only [mk_size, List.size_toArray, ByteArray.size_append, ByteArray.size_extract, List.length_cons, List.length_nil, wrap64_eq]); omega) ?_)
    | fail)
  refine LoopR.live (fun i : Nat => [(0, .lit (.slice o n' cap)), (1, I (k + (i * 4 : Nat))), (5, I i)]) (fun i => []) (fun i => i ≤ n') (fun i => n' - i) 0 ⟨rfl, slI' (by omega), rfl, trivial⟩ (.keep rfl) (Nat.zero_le _) ?_
  intro i hi
  by_cases hlt : i < n'
  · have hxi : xs[i]? = some [k + (i * 4 : Nat), k + (i * 4 : Nat) + 1, k + (i * 4 : Nat) + 2, k + (i * 4 : Nat) + 3] := by rw [← hm, rowsM_get k 4 hlt]; simp [marks, List.range_succ]
    obtain ⟨ad, rfl, hb, hxx⟩ := hf i _ hxi
    have hld0 := fun C h => ldInF (W0 := W0) (s := 4) (enc := enI) hb hxx (k := i) hxi 0 1 rfl (C := C) h
    have hld1 := fun C h => ldInF (W0 := W0) (s := 4) (enc := enI) hb hxx (k := i) hxi 1 1 rfl (C := C) h
    have hld2 := fun C h => ldInF (W0 := W0) (s := 4) (enc := enI) hb hxx (k := i) hxi 2 1 rfl (C := C) h
    have hld3 := fun C h => ldInF (W0 := W0) (s := 4) (enc := enI) hb hxx (k := i) hxi 3 1 rfl (C := C) h
    have ew : IntKind.i64.wrap (k + (i * 4 : Nat) + 1) = k + (i * 4 + 1 : Nat) := by rw [wrap_i64 _ (by omega) (by omega)]; omega
    repeat' ((conv => whnf); first
      | (refine And.intro rfl ?_)
      | (refine And.intro (by decide +kernel) ?_)
      | (refine And.intro trivial ?_)
      | (refine hld0 _ ?_)
      | (refine hld1 _ ?_)
      | (refine Exists.intro _ (And.intro rfl (And.intro rfl (And.intro (Nat.le_of_ble_eq_true rfl) ?_))))
      | (refine Exists.intro _ (And.intro rfl (And.intro rfl (And.intro rfl (And.intro (Nat.le_of_ble_eq_true rfl) ?_)))))
      | (refine And.intro (Exists.intro _ (And.intro rfl rfl)) ?_)
      | (exact fun hW => absurd hW (by decide +kernel))
      | (intro hW; (try simp only [Bool.not_true, Bool.not_false, Bool.not_eq_true', Bool.not_eq_false', decide_eq_true_eq, decide_eq_false_iff_not, reduceCtorEq, Bool.true_eq_false, Bool.false_eq_true, mk_size, List.size_toArray, ByteArray.size_append, ByteArray.size_extract, List.length_cons, List.length_nil, ba_get, ba_empty, Int.toNat_natCast] at hW))
      | (refine And.intro (?_ : _ → _) (?_ : _ → _))
      | (refine FinR.drop 0 (Nat.zero_le _) (Closed.zero _) rfl ?_)
      | (refine FinR.keep ?_)
      | (refine And.intro (det3_agg rfl) ?_)
      | (refine fL_mk ?_)
      | (refine And.intro (by (try simp only [mk_size, List.size_toArray, ByteArray.size_append, ByteArray.size_extract, List.length_cons, List.length_nil]); omega) ?_)
      | (refine And.intro (by (try simp only [mk_size, List.size_toArray, ByteArray.size_append, ByteArray.size_extract, List.length_cons, List.length_nil, wrap64_eq]); omega) ?_)
      | fail)
    all_goals first | (exfalso; omega) | (exfalso; exact hW trivial) | (exfalso; simp_all; done) | skip
    refine LoopR.live (fun j : Nat => [(0, .lit (.slice (some ad) n' cap)), (1, I (k + (i * 4 + 2 + j : Nat))), (5, I i), (6, I j)]) (fun j => []) (fun j => j ≤ 2) (fun j => 2 - j) 0 ⟨rfl, slI' (by rw [ew, wadd k _ (by omega)]), rfl, rfl, trivial⟩ (.keep rfl) (Nat.zero_le _) ?_
    intro j hj
    have hj7 : j = 0 ∨ j = 1 ∨ j = 2 := by omega
    obtain rfl | rfl | rfl := hj7
    · skip
      repeat' ((conv => whnf); first
        | (refine And.intro rfl ?_)
        | (refine And.intro (by decide +kernel) ?_)
        | (refine And.intro trivial ?_)
        | (refine hld2 _ ?_)
        | (refine Exists.intro _ (And.intro rfl (And.intro rfl (And.intro (Nat.le_of_ble_eq_true rfl) ?_))))
        | (refine Exists.intro _ (And.intro rfl (And.intro rfl (And.intro rfl (And.intro (Nat.le_of_ble_eq_true rfl) ?_)))))
        | (refine And.intro (Exists.intro _ (And.intro rfl rfl)) ?_)
        | (exact fun hW => absurd hW (by decide +kernel))
        | (intro hW; (try simp only [Bool.not_true, Bool.not_false, Bool.not_eq_true', Bool.not_eq_false', decide_eq_true_eq, decide_eq_false_iff_not, reduceCtorEq, Bool.true_eq_false, Bool.false_eq_true, mk_size, List.size_toArray, ByteArray.size_append, ByteArray.size_extract, List.length_cons, List.length_nil, ba_get, ba_empty, Int.toNat_natCast] at hW))
        | (refine And.intro (?_ : _ → _) (?_ : _ → _))
        | (refine FinR.drop 0 (Nat.zero_le _) (Closed.zero _) rfl ?_)
        | (refine FinR.keep ?_)
        | (refine And.intro (det3_agg rfl) ?_)
        | (refine fL_mk ?_)
        | (refine And.intro (by (try simp only [mk_size, List.size_toArray, ByteArray.size_append, ByteArray.size_extract, List.length_cons, List.length_nil]); omega) ?_)
        | (refine And.intro (by (try simp only [mk_size, List.size_toArray, ByteArray.size_append, ByteArray.size_extract, List.length_cons, List.length_nil, wrap64_eq]); omega) ?_)
        | fail)
      all_goals first | (exfalso; omega) | exact Again.go 1 ⟨rfl, slI' (wadd k _ (by omega)), rfl, rfl, trivial⟩ (.keep rfl) (by omega) (by omega)
    · skip
      repeat' ((conv => whnf); first
        | (refine And.intro rfl ?_)
        | (refine And.intro (by decide +kernel) ?_)
        | (refine And.intro trivial ?_)
        | (refine hld3 _ ?_)
        | (refine Exists.intro _ (And.intro rfl (And.intro rfl (And.intro (Nat.le_of_ble_eq_true rfl) ?_))))
        | (refine Exists.intro _ (And.intro rfl (And.intro rfl (And.intro rfl (And.intro (Nat.le_of_ble_eq_true rfl) ?_)))))
        | (refine And.intro (Exists.intro _ (And.intro rfl rfl)) ?_)
        | (exact fun hW => absurd hW (by decide +kernel))
        | (intro hW; (try simp only [Bool.not_true, Bool.not_false, Bool.not_eq_true', Bool.not_eq_false', decide_eq_true_eq, decide_eq_false_iff_not, reduceCtorEq, Bool.true_eq_false, Bool.false_eq_true, mk_size, List.size_toArray, ByteArray.size_append, ByteArray.size_extract, List.length_cons, List.length_nil, ba_get, ba_empty, Int.toNat_natCast] at hW))
        | (refine And.intro (?_ : _ → _) (?_ : _ → _))
        | (refine FinR.drop 0 (Nat.zero_le _) (Closed.zero _) rfl ?_)
        | (refine FinR.keep ?_)
        | (refine And.intro (det3_agg rfl) ?_)
        | (refine fL_mk ?_)
        | (refine And.intro (by (try simp only [mk_size, List.size_toArray, ByteArray.size_append, ByteArray.size_extract, List.length_cons, List.length_nil]); omega) ?_)
        | (refine And.intro (by (try simp only [mk_size, List.size_toArray, ByteArray.size_append, ByteArray.size_extract, List.length_cons, List.length_nil, wrap64_eq]); omega) ?_)
        | fail)
      all_goals first | (exfalso; omega) | exact Again.go 2 ⟨rfl, slI' (wadd k _ (by omega)), rfl, rfl, trivial⟩ (.keep rfl) (by omega) (by omega)
    · skip
      repeat' ((conv => whnf); first
        | (refine And.intro rfl ?_)
        | (refine And.intro (by decide +kernel) ?_)
        | (refine And.intro trivial ?_)
        | (refine Exists.intro _ (And.intro rfl (And.intro rfl (And.intro (Nat.le_of_ble_eq_true rfl) ?_))))
        | (refine Exists.intro _ (And.intro rfl (And.intro rfl (And.intro rfl (And.intro (Nat.le_of_ble_eq_true rfl) ?_)))))
        | (refine And.intro (Exists.intro _ (And.intro rfl rfl)) ?_)
        | (exact fun hW => absurd hW (by decide +kernel))
        | (intro hW; (try simp only [Bool.not_true, Bool.not_false, Bool.not_eq_true', Bool.not_eq_false', decide_eq_true_eq, decide_eq_false_iff_not, reduceCtorEq, Bool.true_eq_false, Bool.false_eq_true, mk_size, List.size_toArray, ByteArray.size_append, ByteArray.size_extract, List.length_cons, List.length_nil, ba_get, ba_empty, Int.toNat_natCast] at hW))
        | (refine And.intro (?_ : _ → _) (?_ : _ → _))
        | (refine FinR.drop 0 (Nat.zero_le _) (Closed.zero _) rfl ?_)
        | (refine FinR.keep ?_)
        | (refine And.intro (det3_agg rfl) ?_)
        | (refine fL_mk ?_)
        | (refine And.intro (by (try simp only [mk_size, List.size_toArray, ByteArray.size_append, ByteArray.size_extract, List.length_cons, List.length_nil]); omega) ?_)
        | (refine And.intro (by (try simp only [mk_size, List.size_toArray, ByteArray.size_append, ByteArray.size_extract, List.length_cons, List.length_nil, wrap64_eq]); omega) ?_)
        | fail)
      all_goals first | (exfalso; omega) | exact Again.go (i + 1) ⟨rfl, slI' (by omega), slI' (wsucc' i (by omega)), trivial⟩ (.keep rfl) (by omega) (by omega)
  · obtain rfl : i = n' := by omega
    repeat' ((conv => whnf); first
      | (refine And.intro rfl ?_)
      | (refine And.intro (by decide +kernel) ?_)
      | (refine And.intro trivial ?_)
      | (refine Exists.intro _ (And.intro rfl (And.intro rfl (And.intro (Nat.le_of_ble_eq_true rfl) ?_))))
      | (refine Exists.intro _ (And.intro rfl (And.intro rfl (And.intro rfl (And.intro (Nat.le_of_ble_eq_true rfl) ?_)))))
      | (refine And.intro (Exists.intro _ (And.intro rfl rfl)) ?_)
      | (exact fun hW => absurd hW (by decide +kernel))
      | (intro hW; (try simp only [Bool.not_true, Bool.not_false, Bool.not_eq_true', Bool.not_eq_false', decide_eq_true_eq, decide_eq_false_iff_not, reduceCtorEq, Bool.true_eq_false, Bool.false_eq_true, mk_size, List.size_toArray, ByteArray.size_append, ByteArray.size_extract, List.length_cons, List.length_nil, ba_get, ba_empty, Int.toNat_natCast] at hW))
      | (refine And.intro (?_ : _ → _) (?_ : _ → _))
      | (refine FinR.drop 0 (Nat.zero_le _) (Closed.zero _) rfl ?_)
      | (refine FinR.keep ?_)
      | (refine And.intro (det3_agg rfl) ?_)
      | (refine fL_mk ?_)
      | (refine And.intro (by (try simp only [mk_size, List.size_toArray, ByteArray.size_append, ByteArray.size_extract, List.length_cons, List.length_nil]); omega) ?_)
      | (refine And.intro (by (try simp only [mk_size, List.size_toArray, ByteArray.size_append, ByteArray.size_extract, List.length_cons, List.length_nil, wrap64_eq]); omega) ?_)
      | fail)
    all_goals first | (exfalso; omega) | exact h0
theorem d_heldStepS (a : AV) (n : Nat) (k : Int) (ha : Sli W0 σ 4 enI a (rowsM k 4 n)) (hn2 : n ≤ 1048576) (hk : 0 ≤ k ∧ k ≤ 16777216) (K : Cont) (h0 : K (I (k + (n * 4 : Nat))) σ) : ACall Try.prog W0 71 [a, I k] σ K :=
  lift_Sp (by kernel_rfl) rfl (fun _ => rfl) ha (fun W1 a' h K hK => c_heldStepS a' n k h hn2 hk K hK) K h0
end Go.Proofs.Ytbmilmnfhdkfjaa
end

section
/- Contracts: vain steps, by both sides; plans marked and held. -/
set_option linter.unusedVariables false
set_option linter.unusedSimpArgs false
set_option maxRecDepth 100000
set_option maxHeartbeats 4000000
namespace Go.Proofs.Ytbmilmnfhdkfjaa
open Go Go.RowKit Go.Proofs.Ytbmilmnfhdkfjaa.Abs
variable {W0 : World} {σ : List Blk}
theorem d_markPlan (a b c d e f : Int) (b1 r1 n1 cap1 b2 r2 n2 cap2 : Nat) (B1 B2 : Blk) (hB1 : σ[b1]? = some B1) (hB2 : σ[b2]? = some B2) (hv1 : B1.ver = r1) (hv2 : B2.ver = r2) (hne : b1 ≠ b2) (hn1 : n1 * 6 ≤ B1.cells.length) (hn2 : n2 * 4 ≤ B2.cells.length) (hm1 : n1 ≤ 1048576) (hm2 : n2 ≤ 1048576) (k : Int) (hk : 0 ≤ k ∧ k ≤ 1000) (K : Cont)
    (h0 : ∀ A, K (I (k + (n1 * 6 : Nat) + (n2 * 4 : Nat))) (((σ ++ [A]).set b1 (mB B1 k (n1 * 6))).set b2 (mB B2 (k + (n1 * 6 : Nat)) (n2 * 4)))) : ACall Try.prog W0 29 [PlA a b c d e f (.sl b1 r1 0 n1 cap1) (.sl b2 r2 0 n2 cap2), I k] σ K := by
  refine by29 (Nat.le_of_ble_eq_true rfl) ?_
  have hl1 := getElem?_lt hB1
  have hl2 := getElem?_lt hB2
  repeat' ((conv => whnf); first
    | (refine And.intro rfl ?_)
    | (refine And.intro (by decide +kernel) ?_)
    | (refine And.intro trivial ?_)
    | (refine fS_mk ?_)
    | (refine And.intro ⟨_, getl, rfl⟩ ?_)
    | (refine And.intro ⟨_, get_ne getl (by omega), rfl⟩ ?_)
    | (refine Exists.intro _ (And.intro getl (And.intro rfl (And.intro (Nat.le_of_ble_eq_true rfl) ?_))))
    | (refine Exists.intro _ (And.intro (get_ne getl (by omega)) (And.intro rfl (And.intro (Nat.le_of_ble_eq_true rfl) ?_))))
    | (refine d_markSheetS (B := B1) (hB := getx1 hB1) (hv := hv1) (hn := hn1) (hn2 := hm1) (hk := by omega) (h0 := ?_) ..)
    | (refine d_markStepS (B := B2) (hB := get_ne (getx1 hB2) hne) (hv := hv2) (hn := hn2) (hn2 := hm2) (hk := by omega) (h0 := ?_) ..)
    | (refine Exists.intro _ (And.intro rfl (And.intro rfl (And.intro (Nat.le_of_ble_eq_true rfl) ?_))))
    | (refine Exists.intro _ (And.intro rfl (And.intro rfl (And.intro rfl (And.intro (Nat.le_of_ble_eq_true rfl) ?_)))))
    | (refine And.intro (Exists.intro _ (And.intro rfl rfl)) ?_)
    | (exact fun hW => absurd hW (by decide +kernel))
    | (intro hW; (try simp only [Bool.not_true, Bool.not_false, Bool.not_eq_true', Bool.not_eq_false', decide_eq_true_eq, decide_eq_false_iff_not, reduceCtorEq, Bool.true_eq_false, Bool.false_eq_true, mk_size, List.size_toArray, ByteArray.size_append, ByteArray.size_extract, List.length_cons, List.length_nil, ba_get, ba_empty, Int.toNat_natCast] at hW))
    | (refine And.intro (?_ : _ → _) (?_ : _ → _))
    | (refine FinR.drop 0 (Nat.zero_le _) (Closed.zero _) rfl ?_)
    | (refine FinR.keep ?_)
    | (refine And.intro (det3_agg rfl) ?_)
    | (refine fL_mk ?_)
    | (refine And.intro (by (try simp only [mk_size, List.size_toArray, ByteArray.size_append, ByteArray.size_extract, List.length_cons, List.length_nil]); omega) ?_)
    | (refine And.intro (by (try simp only [mk_size, List.size_toArray, ByteArray.size_append, ByteArray.size_extract, List.length_cons, List.length_nil, wrap64_eq]); omega) ?_)
    | fail)
  all_goals first | exact h0 _ | exact FinR.keep (h0 _)
theorem c_heldPlan (a b c d e f : Int) (v1 v2 : Value) (n1 n2 : Nat) (k : Int) (h1 : Sli W0 [] 6 enI (.lit v1) (rowsM k 6 n1)) (h2 : Sli W0 [] 4 enI (.lit v2) (rowsM (k + (n1 * 6 : Nat)) 4 n2)) (hm1 : n1 ≤ 1048576) (hm2 : n2 ≤ 1048576) (hk : 0 ≤ k ∧ k ≤ 1000) (K : Cont) (h0 : K (I (k + (n1 * 6 : Nat) + (n2 * 4 : Nat))) []) : ACall Try.prog W0 30 [PlA a b c d e f (.lit v1) (.lit v2), I k] [] K := by
  refine by30 (Nat.le_of_ble_eq_true rfl) ?_
  repeat' ((conv => whnf); first
    | (refine And.intro rfl ?_)
    | (refine And.intro (by decide +kernel) ?_)
    | (refine And.intro trivial ?_)
    | (refine d_heldSheetS (n := n1) (ha := sli_up h1) (hn2 := hm1) (hk := by omega) (h0 := ?_) ..)
    | (refine d_heldStepS (n := n2) (ha := sli_up h2) (hn2 := hm2) (hk := by omega) (h0 := ?_) ..)
    | (refine Exists.intro _ (And.intro rfl (And.intro rfl (And.intro (Nat.le_of_ble_eq_true rfl) ?_))))
    | (refine Exists.intro _ (And.intro rfl (And.intro rfl (And.intro rfl (And.intro (Nat.le_of_ble_eq_true rfl) ?_)))))
    | (refine And.intro (Exists.intro _ (And.intro rfl rfl)) ?_)
    | (exact fun hW => absurd hW (by decide +kernel))
    | (intro hW; (try simp only [Bool.not_true, Bool.not_false, Bool.not_eq_true', Bool.not_eq_false', decide_eq_true_eq, decide_eq_false_iff_not, reduceCtorEq, Bool.true_eq_false, Bool.false_eq_true, mk_size, List.size_toArray, ByteArray.size_append, ByteArray.size_extract, List.length_cons, List.length_nil, ba_get, ba_empty, Int.toNat_natCast] at hW))
    | (refine And.intro (?_ : _ → _) (?_ : _ → _))
    | (refine FinR.drop 0 (Nat.zero_le _) (Closed.zero _) rfl ?_)
    | (refine FinR.keep ?_)
    | (refine And.intro (det3_agg rfl) ?_)
    | (refine fL_mk ?_)
    | (refine And.intro (by (try simp only [mk_size, List.size_toArray, ByteArray.size_append, ByteArray.size_extract, List.length_cons, List.length_nil]); omega) ?_)
    | (refine And.intro (by (try simp only [mk_size, List.size_toArray, ByteArray.size_append, ByteArray.size_extract, List.length_cons, List.length_nil, wrap64_eq]); omega) ?_)
    | fail)
  all_goals first | exact h0 | (exfalso; omega)
theorem d_heldPlan (a b c d e f : Int) (s1 s2 : AV) (n1 n2 : Nat) (k : Int) (h1 : Sli W0 σ 6 enI s1 (rowsM k 6 n1)) (h2 : Sli W0 σ 4 enI s2 (rowsM (k + (n1 * 6 : Nat)) 4 n2)) (hm1 : n1 ≤ 1048576) (hm2 : n2 ≤ 1048576) (hk : 0 ≤ k ∧ k ≤ 1000) (K : Cont) (h0 : K (I (k + (n1 * 6 : Nat) + (n2 * 4 : Nat))) σ) : ACall Try.prog W0 30 [PlA a b c d e f s1 s2, I k] σ K :=
  lift_Pl (rest := [I k]) (ι := Unit) (fun _ => I (k + (n1 * 6 : Nat) + (n2 * 4 : Nat))) (fun τ => []) (by kernel_rfl) rfl h1 h2 (fun W1 v1 v2 q1 q2 K hK => c_heldPlan a b c d e f v1 v2 n1 n2 k q1 q2 hm1 hm2 hk K (hK ())) K (fun _ => by
    rw [show shB σ.length [] = [] from rfl, List.append_nil]; exact h0)
/-! vain steps -/
def vainQ (fs : List (Nat × Nat)) (n i : Nat) : Bool := decide (runN (fs.take (i + 1)) n = runN (fs.take i) n)
abbrev vainL (xs ys : List (List Int)) (n : Nat) : List Int := selN (vainQ (fsOf xs ys) n) ys.length
end Go.Proofs.Ytbmilmnfhdkfjaa
end

section
/- Contracts: the law of vain steps. -/
set_option linter.unusedVariables false
set_option linter.unusedSimpArgs false
set_option maxRecDepth 100000
set_option maxHeartbeats 4000000
namespace Go.Proofs.Ytbmilmnfhdkfjaa
open Go Go.RowKit Go.Proofs.Ytbmilmnfhdkfjaa.Abs
variable {W0 : World} {σ : List Blk}
theorem shSB_len {xs : List (List Int)} (hx : ∀ x ∈ xs, x.length = 6) : xs.length * 6 ≤ (shSB xs).cells.length := by rw [jc_len (s := 6) hx]; exact Nat.le_refl _
theorem stSB_len {xs : List (List Int)} (hx : ∀ x ∈ xs, x.length = 4) : xs.length * 4 ≤ (stSB xs).cells.length := by rw [jc_len (s := 4) hx]; exact Nat.le_refl _
theorem varC_app {F : List Nat} {R : Prop} {τ : List Blk} : ∀ {σ : List Blk} {k : Nat}, R → varC F σ R k (σ ++ τ)
  | [], _, h => h
  | B :: σ, k, h => by
    show (match memB k F with
      | true => B.ver = B.ver ∧ B.esz = B.esz ∧ B.row = B.row ∧ varC F σ R (k + 1) (σ ++ τ)
      | false => B = B ∧ varC F σ R (k + 1) (σ ++ τ) : Prop)
    cases memB k F with
    | true => exact ⟨rfl, rfl, rfl, varC_app h⟩
    | false => exact ⟨rfl, varC_app h⟩
theorem g5a {σ : List Blk} {A B C X Y : Blk} : (σ ++ [A, B, C, X, Y])[σ.length + 3]? = some X := by rw [List.getElem?_append_right (by omega), Nat.add_sub_cancel_left]; rfl
theorem g5b {σ : List Blk} {A B C X Y : Blk} : (σ ++ [A, B, C, X, Y])[σ.length + 4]? = some Y := by rw [List.getElem?_append_right (by omega), Nat.add_sub_cancel_left]; rfl
end Go.Proofs.Ytbmilmnfhdkfjaa
end

section
/- Contracts: plans in new memory. -/
set_option linter.unusedVariables false
set_option linter.unusedSimpArgs false
set_option maxRecDepth 100000
set_option maxHeartbeats 4000000
namespace Go.Proofs.Ytbmilmnfhdkfjaa
open Go Go.RowKit Go.Proofs.Ytbmilmnfhdkfjaa.Abs
variable {W0 : World} {σ : List Blk}
theorem jc_flat (xs : List (List Int)) : ((xs.map enI).flatten).map AV.lit = jc xs := by
  unfold jc
  rw [List.map_flatten, List.map_map]
  congr 1
  refine List.map_congr_left fun x _ => ?_
  simp
theorem flat_at {s : Nat} : ∀ {xs : List (List Int)}, (∀ x ∈ xs, x.length = s) → ∀ {j : Nat} {v : Value}, ((xs.map enI).flatten)[j]? = some v → ∃ i r x, j = i * s + r ∧ xs[i]? = some x ∧ (enI x)[r]? = some v
  | [], _, j, v, h => by simp at h
  | x :: xs, hx, j, v, h => by
    have hl : (enI x).length = s := by rw [List.length_map]; exact hx x List.mem_cons_self
    have h' : (enI x ++ (xs.map enI).flatten)[j]? = some v := h
    rw [List.getElem?_append] at h'
    split at h'
    · exact ⟨0, j, x, by omega, rfl, h'⟩
    · rename_i hj
      obtain ⟨i, r, y, e, hi, hr⟩ := flat_at (s := s) (fun y hy => hx y (List.mem_cons_of_mem _ hy)) h'
      exact ⟨i + 1, r, y, by rw [Nat.add_mul]; omega, hi, hr⟩
theorem flat_len {s : Nat} {xs : List (List Int)} (hx : ∀ x ∈ xs, x.length = s) : ((xs.map enI).flatten).length = xs.length * s := by
  have := jc_len hx
  rw [← jc_flat, List.length_map] at this
  exact this
/-- all rows of a slice that came in, to be appended -/
theorem sli_src {s : Nat} {ad : Addr} {n cap : Nat} {xs : List (List Int)} (h : Sli W0 [] s enI (.lit (.slice (some ad) n cap)) xs) (hx : ∀ x ∈ xs, x.length = s) {C : List Value → Prop} (hc : C ((xs.map enI).flatten)) :
    ∃ cs : List Value, cs.length = n * s ∧ (∀ (j : Nat) (v : Value), cs[j]? = some v → W0.cell? (ad.add j) = some v ∧ v.oneCell' = true) ∧ ad.block < W0.heap.size ∧ C cs := by
  cases h with
  | inn ad n cap xs hn hcc hm hb hxx =>
    refine ⟨_, by rw [flat_len hx, hn], fun j v hj => ?_, hb, hc⟩
    obtain ⟨i, r, x, rfl, hi, hr⟩ := flat_at hx hj
    have := hxx i x hi r v hr
    rw [add_add] at this
    exact this
/-- a slice that is not nil, as the callee sees it -/
theorem sli_concN {s : Nat} {a : AV} {xs : List (List Int)} {ι : Abs.Loc} {W1 : World} {x : Value} (h : Sli W0 σ s enI a xs) (hn : a ≠ nilA) (hh : HRel W0 ι σ W1) (hr : rel3 ι σ a x) :
    ∃ o n c, x = .slice (some o) n c ∧ Sli W1 [] s enI (.lit (.slice (some o) n c)) xs := by
  have hx : ∃ o n c, x = .slice (some o) n c := by
    cases h with
    | nil => exact absurd rfl hn
    | inn ad n cap xs hn hc hm hb hx => exact ⟨ad, n, cap, hr⟩
    | own b ver off n cap B xs hB hv hn hx =>
      obtain ⟨c, t, _, e, _⟩ := slRel_now hr hB hv
      exact ⟨_, _, _, e⟩
  obtain ⟨o, n, c, rfl⟩ := hx
  obtain ⟨a', ha, hs⟩ := h.conc hh ⟨_, hr⟩
  obtain ⟨v, rfl⟩ := sli_lit hs
  have e : (.slice (some o) n c : Value) = v := ha _ hr
  subst e
  exact ⟨o, n, c, rfl, hs⟩
theorem sl_nn {b v o n c : Nat} : AV.sl b v o n c ≠ nilA := by intro h; cases h
theorem lit_nn {o : Addr} {n c : Nat} : AV.lit (.slice (some o) n c) ≠ nilA := by intro h; cases h
theorem plA_concN {a b c d e f : Int} {s1 s2 : AV} {xs ys : List (List Int)} {ι : Abs.Loc} {W1 : World} {x : Value} (h1 : Sli W0 σ 6 enI s1 xs) (h2 : Sli W0 σ 4 enI s2 ys) (n1 : s1 ≠ nilA) (n2 : s2 ≠ nilA) (hh : HRel W0 ι σ W1) (hr : rel3 ι σ (PlA a b c d e f s1 s2) x) :
    ∃ o1 m1 c1 o2 m2 c2, Sli W1 [] 6 enI (.lit (.slice (some o1) m1 c1)) xs ∧ Sli W1 [] 4 enI (.lit (.slice (some o2) m2 c2)) ys ∧ rel3 [] [] (PlA a b c d e f (.lit (.slice (some o1) m1 c1)) (.lit (.slice (some o2) m2 c2))) x := by
  obtain ⟨l, rfl, hl⟩ := (show ∃ l : List Value, x = .agg l.toArray ∧ Rels (crel ι σ) [I a, I b, I c, I d, I e, I f, s1, s2] l from hr)
  obtain ⟨x0, l0, rfl, q0, r0⟩ := Rels.uncons hl
  obtain ⟨x1, l1, rfl, q1, r1⟩ := Rels.uncons r0
  obtain ⟨x2, l2, rfl, q2, r2⟩ := Rels.uncons r1
  obtain ⟨x3, l3, rfl, q3, r3⟩ := Rels.uncons r2
  obtain ⟨x4, l4, rfl, q4, r4⟩ := Rels.uncons r3
  obtain ⟨x5, l5, rfl, q5, r5⟩ := Rels.uncons r4
  obtain ⟨x6, l6, rfl, q6, r6⟩ := Rels.uncons r5
  obtain ⟨x7, l7, rfl, q7, r7⟩ := Rels.uncons r6
  obtain rfl := r7.nil_inv
  obtain ⟨o1, m1, c1, e1, hs1⟩ := sli_concN h1 n1 hh (sli_r31 h1 q6.1)
  obtain ⟨o2, m2, c2, e2, hs2⟩ := sli_concN h2 n2 hh (sli_r31 h2 q7.1)
  subst e1; subst e2
  refine ⟨_, _, _, _, _, _, hs1, hs2, _, rfl, ?_⟩
  exact Rels.cons ⟨q0.1, q0.2⟩ (Rels.cons ⟨q1.1, q1.2⟩ (Rels.cons ⟨q2.1, q2.2⟩ (Rels.cons ⟨q3.1, q3.2⟩ (Rels.cons ⟨q4.1, q4.2⟩ (Rels.cons ⟨q5.1, q5.2⟩ (Rels.cons ⟨rfl, q6.2⟩ (Rels.cons ⟨rfl, q7.2⟩ Rels.nil)))))))
theorem lift_PlN {g : FuncId} {a b c d e f : Int} {s1 s2 : AV} {rest : List AV} {xs ys : List (List Int)} {ι : Type} (r : ι → AV) (β : ι → List Blk) (hok : callOK Try.prog g = true) (hrest : rest.all pure3 = true) (h1 : Sli W0 σ 6 enI s1 xs) (h2 : Sli W0 σ 4 enI s2 ys) (n1 : s1 ≠ nilA) (n2 : s2 ≠ nilA)
    (h : ∀ (W1 : World) (o1 : Addr) (m1 c1 : Nat) (o2 : Addr) (m2 c2 : Nat), Sli W1 [] 6 enI (.lit (.slice (some o1) m1 c1)) xs → Sli W1 [] 4 enI (.lit (.slice (some o2) m2 c2)) ys → ∀ K : Cont, (∀ i, K (r i) (β i)) → ACall Try.prog W1 g (PlA a b c d e f (.lit (.slice (some o1) m1 c1)) (.lit (.slice (some o2) m2 c2)) :: rest) [] K) (K : Cont) (h0 : ∀ i, K (sh3 σ.length (r i)) (σ ++ shB σ.length (β i))) : ACall Try.prog W0 g (PlA a b c d e f s1 s2 :: rest) σ K := by
  refine ACall.frameA (K0 := fun v σ' => ∃ i, v = r i ∧ σ' = β i) hok (fun W1 ι vs hh hrr => ?_) ?_
  · obtain ⟨v1, vs', rfl, hr1, hr2⟩ := Rels.uncons hrr
    obtain ⟨o1, m1, c1, o2, m2, c2, q1, q2, q3⟩ := plA_concN h1 h2 n1 n2 hh hr1
    exact ⟨_ :: rest, Rels.cons q3 (rels_pure hrest hr2), h W1 _ _ _ _ _ _ q1 q2 _ (fun i => ⟨i, rfl, rfl⟩)⟩
  · rintro v σ' ⟨i, rfl, rfl⟩; exact h0 i
theorem lift_PlSN {g : FuncId} {a b c d e f : Int} {s1 s2 s3 : AV} {xs ys zs : List (List Int)} {ι : Type} (r : ι → AV) (β : ι → List Blk) (hok : callOK Try.prog g = true) (h1 : Sli W0 σ 6 enI s1 xs) (h2 : Sli W0 σ 4 enI s2 ys) (h3 : Sli W0 σ 4 enI s3 zs) (n1 : s1 ≠ nilA) (n2 : s2 ≠ nilA) (n3 : s3 ≠ nilA)
    (h : ∀ (W1 : World) (o1 : Addr) (m1 c1 : Nat) (o2 : Addr) (m2 c2 : Nat) (o3 : Addr) (m3 c3 : Nat), Sli W1 [] 6 enI (.lit (.slice (some o1) m1 c1)) xs → Sli W1 [] 4 enI (.lit (.slice (some o2) m2 c2)) ys → Sli W1 [] 4 enI (.lit (.slice (some o3) m3 c3)) zs → ∀ K : Cont, (∀ i, K (r i) (β i)) → ACall Try.prog W1 g [PlA a b c d e f (.lit (.slice (some o1) m1 c1)) (.lit (.slice (some o2) m2 c2)), .lit (.slice (some o3) m3 c3)] [] K) (K : Cont) (h0 : ∀ i, K (sh3 σ.length (r i)) (σ ++ shB σ.length (β i))) : ACall Try.prog W0 g [PlA a b c d e f s1 s2, s3] σ K := by
  refine ACall.frameA (K0 := fun v σ' => ∃ i, v = r i ∧ σ' = β i) hok (fun W1 ι vs hh hrr => ?_) ?_
  · obtain ⟨v1, vs', rfl, hr1, hr2⟩ := Rels.uncons hrr
    obtain ⟨v2, vs'', rfl, hr3, hr4⟩ := Rels.uncons hr2
    obtain rfl := hr4.nil_inv
    obtain ⟨o1, m1, c1, o2, m2, c2, q1, q2, q3⟩ := plA_concN h1 h2 n1 n2 hh hr1
    obtain ⟨o3, m3, c3, rfl, q4⟩ := sli_concN h3 n3 hh hr3
    exact ⟨[_, .lit (.slice (some o3) m3 c3)], Rels.cons q3 (Rels.cons rfl Rels.nil), h W1 _ _ _ _ _ _ _ _ _ q1 q2 q4 _ (fun i => ⟨i, rfl, rfl⟩)⟩
  · rintro v σ' ⟨i, rfl, rfl⟩; exact h0 i
theorem lift_SN {g : FuncId} {s : Nat} {a : AV} {xs : List (List Int)} {ι : Type} (r : ι → AV) (β : ι → List Blk) (hok : callOK Try.prog g = true) (h1 : Sli W0 σ s enI a xs) (n1 : a ≠ nilA)
    (h : ∀ (W1 : World) (o1 : Addr) (m1 c1 : Nat), Sli W1 [] s enI (.lit (.slice (some o1) m1 c1)) xs → ∀ K : Cont, (∀ i, K (r i) (β i)) → ACall Try.prog W1 g [.lit (.slice (some o1) m1 c1)] [] K) (K : Cont) (h0 : ∀ i, K (sh3 σ.length (r i)) (σ ++ shB σ.length (β i))) : ACall Try.prog W0 g [a] σ K := by
  refine ACall.frameA (K0 := fun v σ' => ∃ i, v = r i ∧ σ' = β i) hok (fun W1 ι vs hh hrr => ?_) ?_
  · obtain ⟨v1, vs', rfl, hr1, hr2⟩ := Rels.uncons hrr
    obtain rfl := hr2.nil_inv
    obtain ⟨o1, m1, c1, rfl, q1⟩ := sli_concN h1 n1 hh hr1
    exact ⟨[.lit (.slice (some o1) m1 c1)], Rels.cons rfl Rels.nil, h W1 _ _ _ q1 _ (fun i => ⟨i, rfl, rfl⟩)⟩
  · rintro v σ' ⟨i, rfl, rfl⟩; exact h0 i
abbrev shK (xs : List (List Int)) (r : Nat) : Blk := ⟨jc xs, r, 31, 6, true, true⟩
abbrev stK (ys : List (List Int)) (r : Nat) : Blk := ⟨jc ys, r, 54, 4, true, true⟩
theorem c_CloneSheet (o : Addr) (n c : Nat) (xs : List (List Int)) (h1 : Sli W0 [] 6 enI (.lit (.slice (some o) n c)) xs) (hx : ∀ x ∈ xs, x.length = 6) (hl : xs.length ≤ 2097152) (K : Cont) (h0 : ∀ c', K (.sl 0 1 0 xs.length c') [shK xs 1]) : ACall Try.prog W0 100 [.lit (.slice (some o) n c)] [] K := by
  refine by100 (Nat.le_of_ble_eq_true rfl) ?_
  have hn : n = xs.length := by cases h1 with | inn ad n cap xs hn hc hm hb hxx => exact hn
  subst hn
  have hj : (((xs.map enI).flatten).map AV.lit).length = xs.length * 6 := by rw [jc_flat]; exact jc_len hx
  repeat' ((conv => whnf); first
    | (refine And.intro rfl ?_)
    | (refine And.intro (by decide +kernel) ?_)
    | (refine And.intro trivial ?_)
    | (refine sli_src h1 hx ?_)
    | (refine Exists.intro _ (And.intro rfl (And.intro rfl (And.intro rfl (And.intro rfl (And.intro rfl (And.intro rfl (And.intro (by decide) (And.intro rfl (And.intro hj (And.intro (by unfold maxLen; omega) (And.intro (by omega) (fun cap' hcap1 hcap2 => ?_)))))))))))))
    | (refine Exists.intro _ (And.intro rfl (And.intro rfl (And.intro (Nat.le_of_ble_eq_true rfl) ?_))))
    | (refine Exists.intro _ (And.intro rfl (And.intro rfl (And.intro rfl (And.intro (Nat.le_of_ble_eq_true rfl) ?_)))))
    | (refine And.intro (Exists.intro _ (And.intro rfl rfl)) ?_)
    | (exact fun hW => absurd hW (by decide +kernel))
    | (intro hW; (try simp only [Bool.not_true, Bool.not_false, Bool.not_eq_true', Bool.not_eq_false', decide_eq_true_eq, decide_eq_false_iff_not, reduceCtorEq, Bool.true_eq_false, Bool.false_eq_true, mk_size, List.size_toArray, ByteArray.size_append, ByteArray.size_extract, List.length_cons, List.length_nil, ba_get, ba_empty, Int.toNat_natCast] at hW))
    | (refine And.intro (?_ : _ → _) (?_ : _ → _))
    | (refine FinR.drop 0 (Nat.zero_le _) (Closed.zero _) rfl ?_)
    | (refine FinR.keep ?_)
    | (refine And.intro (det3_agg rfl) ?_)
    | (refine fL_mk ?_)
    | (refine And.intro (by (try simp only [mk_size, List.size_toArray, ByteArray.size_append, ByteArray.size_extract, List.length_cons, List.length_nil]); omega) ?_)
    | (refine And.intro (by (try simp only [mk_size, List.size_toArray, ByteArray.size_append, ByteArray.size_extract, List.length_cons, List.length_nil, wrap64_eq]); omega) ?_)
    | fail)
  all_goals first | (exfalso; simp_all; done) | skip
  all_goals (rw [Nat.zero_add xs.length, jc_flat]; exact h0 _)
theorem d_CloneSheet (a : AV) (xs : List (List Int)) (h1 : Sli W0 σ 6 enI a xs) (n1 : a ≠ nilA) (hx : ∀ x ∈ xs, x.length = 6) (hl : xs.length ≤ 2097152) (K : Cont) (h0 : ∀ c', K (.sl σ.length 1 0 xs.length c') (σ ++ [shK xs 1])) : ACall Try.prog W0 100 [a] σ K :=
  lift_SN (ι := Nat) (fun c' => .sl 0 1 0 xs.length c') (fun _ => [shK xs 1]) (by kernel_rfl) h1 n1 (fun W1 o1 m1 c1 q K hK => c_CloneSheet o1 m1 c1 xs q hx hl K hK) K (fun c' => by
    rw [show shB σ.length [shK xs 1] = [shK xs 1] by simp [shB, jc_sh]]; exact h0 c')
theorem c_CloneStep (o : Addr) (n c : Nat) (xs : List (List Int)) (h1 : Sli W0 [] 4 enI (.lit (.slice (some o) n c)) xs) (hx : ∀ x ∈ xs, x.length = 4) (hl : xs.length ≤ 2097152) (K : Cont) (h0 : ∀ c', K (.sl 0 1 0 xs.length c') [stK xs 1]) : ACall Try.prog W0 74 [.lit (.slice (some o) n c)] [] K := by
  refine by74 (Nat.le_of_ble_eq_true rfl) ?_
  have hn : n = xs.length := by cases h1 with | inn ad n cap xs hn hc hm hb hxx => exact hn
  subst hn
  have hj : (((xs.map enI).flatten).map AV.lit).length = xs.length * 4 := by rw [jc_flat]; exact jc_len hx
  repeat' ((conv => whnf); first
    | (refine And.intro rfl ?_)
    | (refine And.intro (by decide +kernel) ?_)
    | (refine And.intro trivial ?_)
    | (refine sli_src h1 hx ?_)
    | (refine Exists.intro _ (And.intro rfl (And.intro rfl (And.intro rfl (And.intro rfl (And.intro rfl (And.intro rfl (And.intro (by decide) (And.intro rfl (And.intro hj (And.intro (by unfold maxLen; omega) (And.intro (by omega) (fun cap' hcap1 hcap2 => ?_)))))))))))))
    | (refine Exists.intro _ (And.intro rfl (And.intro rfl (And.intro (Nat.le_of_ble_eq_true rfl) ?_))))
    | (refine Exists.intro _ (And.intro rfl (And.intro rfl (And.intro rfl (And.intro (Nat.le_of_ble_eq_true rfl) ?_)))))
    | (refine And.intro (Exists.intro _ (And.intro rfl rfl)) ?_)
    | (exact fun hW => absurd hW (by decide +kernel))
    | (intro hW; (try simp only [Bool.not_true, Bool.not_false, Bool.not_eq_true', Bool.not_eq_false', decide_eq_true_eq, decide_eq_false_iff_not, reduceCtorEq, Bool.true_eq_false, Bool.false_eq_true, mk_size, List.size_toArray, ByteArray.size_append, ByteArray.size_extract, List.length_cons, List.length_nil, ba_get, ba_empty, Int.toNat_natCast] at hW))
    | (refine And.intro (?_ : _ → _) (?_ : _ → _))
    | (refine FinR.drop 0 (Nat.zero_le _) (Closed.zero _) rfl ?_)
    | (refine FinR.keep ?_)
    | (refine And.intro (det3_agg rfl) ?_)
    | (refine fL_mk ?_)
    | (refine And.intro (by (try simp only [mk_size, List.size_toArray, ByteArray.size_append, ByteArray.size_extract, List.length_cons, List.length_nil]); omega) ?_)
    | (refine And.intro (by (try simp only [mk_size, List.size_toArray, ByteArray.size_append, ByteArray.size_extract, List.length_cons, List.length_nil, wrap64_eq]); omega) ?_)
    | fail)
  all_goals first | (exfalso; simp_all; done) | skip
  all_goals (rw [Nat.zero_add xs.length, jc_flat]; exact h0 _)
theorem d_CloneStep (a : AV) (xs : List (List Int)) (h1 : Sli W0 σ 4 enI a xs) (n1 : a ≠ nilA) (hx : ∀ x ∈ xs, x.length = 4) (hl : xs.length ≤ 2097152) (K : Cont) (h0 : ∀ c', K (.sl σ.length 1 0 xs.length c') (σ ++ [stK xs 1])) : ACall Try.prog W0 74 [a] σ K :=
  lift_SN (ι := Nat) (fun c' => .sl 0 1 0 xs.length c') (fun _ => [stK xs 1]) (by kernel_rfl) h1 n1 (fun W1 o1 m1 c1 q K hK => c_CloneStep o1 m1 c1 xs q hx hl K hK) K (fun c' => by
    rw [show shB σ.length [stK xs 1] = [stK xs 1] by simp [shB, jc_sh]]; exact h0 c')
/-- a plan in new memory -/
structure NewP (xs ys : List (List Int)) where
  τ : List Blk
  b1 : Nat
  r1 : Nat
  c1 : Nat
  b2 : Nat
  r2 : Nat
  c2 : Nat
  h1 : τ[b1]? = some (shK xs r1)
  h2 : τ[b2]? = some (stK ys r2)
theorem newP_sh1 {xs ys : List (List Int)} (x : NewP xs ys) : (σ ++ shB σ.length x.τ)[σ.length + x.b1]? = some (shK xs x.r1) := by
  rw [get_sh x.h1]
  show some (⟨(jc xs).map (sh1 σ.length), _, _, _, _, _⟩ : Blk) = _
  rw [jc_sh]
theorem newP_sh2 {xs ys : List (List Int)} (x : NewP xs ys) : (σ ++ shB σ.length x.τ)[σ.length + x.b2]? = some (stK ys x.r2) := by
  rw [get_sh x.h2]
  show some (⟨(jc ys).map (sh1 σ.length), _, _, _, _, _⟩ : Blk) = _
  rw [jc_sh]
theorem newP_raw {a b c d e f : Int} {xs ys : List (List Int)} {K : Cont} (h0 : ∀ x : NewP xs ys, K (PlA a b c d e f (.sl x.b1 x.r1 0 xs.length x.c1) (.sl x.b2 x.r2 0 ys.length x.c2)) x.τ) (τ : List Blk) (b1 r1 c1 b2 r2 c2 n1 n2 : Nat) (C1 C2 : List AV) (e1 : n1 = xs.length) (e2 : n2 = ys.length) (h1 : τ[b1]? = some ⟨C1, r1, 31, 6, true, true⟩) (j1 : C1 = jc xs) (h2 : τ[b2]? = some ⟨C2, r2, 54, 4, true, true⟩) (j2 : C2 = jc ys) : K (PlA a b c d e f (.sl b1 r1 0 n1 c1) (.sl b2 r2 0 n2 c2)) τ := by
  subst e1; subst e2; subst j1; subst j2
  exact h0 ⟨τ, b1, r1, c1, b2, r2, c2, h1, h2⟩
abbrev plN (a b c d e f : Int) {xs ys : List (List Int)} (x : NewP xs ys) : AV := PlA a b c d e f (.sl x.b1 x.r1 0 xs.length x.c1) (.sl x.b2 x.r2 0 ys.length x.c2)
theorem c_copied (a b c d e f : Int) (o1 : Addr) (m1 c1 : Nat) (o2 : Addr) (m2 c2 : Nat) (o3 : Addr) (m3 c3 : Nat) (xs ys zs : List (List Int)) (h1 : Sli W0 [] 6 enI (.lit (.slice (some o1) m1 c1)) xs) (h2 : Sli W0 [] 4 enI (.lit (.slice (some o2) m2 c2)) ys) (h3 : Sli W0 [] 4 enI (.lit (.slice (some o3) m3 c3)) zs) (hx : ∀ x ∈ xs, x.length = 6) (hz : ∀ x ∈ zs, x.length = 4) (hl : xs.length ≤ 2097152) (hl2 : zs.length ≤ 2097152) (K : Cont) (h0 : ∀ x : NewP xs zs, K (plN a b c d e f x) x.τ) : ACall Try.prog W0 67 [PlA a b c d e f (.lit (.slice (some o1) m1 c1)) (.lit (.slice (some o2) m2 c2)), .lit (.slice (some o3) m3 c3)] [] K := by
  refine by67 (Nat.le_of_ble_eq_true rfl) ?_
  repeat' ((conv => whnf); first
    | (refine And.intro rfl ?_)
    | (refine And.intro (by decide +kernel) ?_)
    | (refine And.intro trivial ?_)
    | (refine d_CloneSheet (h1 := sli_up h1) (n1 := lit_nn) (hx := hx) (hl := hl) (h0 := fun c' => ?_) ..)
    | (refine d_CloneStep (h1 := sli_up h3) (n1 := lit_nn) (hx := hz) (hl := hl2) (h0 := fun c' => ?_) ..)
    | (refine Exists.intro _ (And.intro rfl (And.intro rfl (And.intro (Nat.le_of_ble_eq_true rfl) ?_))))
    | (refine Exists.intro _ (And.intro rfl (And.intro rfl (And.intro rfl (And.intro (Nat.le_of_ble_eq_true rfl) ?_)))))
    | (refine And.intro (Exists.intro _ (And.intro rfl rfl)) ?_)
    | (exact fun hW => absurd hW (by decide +kernel))
    | (intro hW; (try simp only [Bool.not_true, Bool.not_false, Bool.not_eq_true', Bool.not_eq_false', decide_eq_true_eq, decide_eq_false_iff_not, reduceCtorEq, Bool.true_eq_false, Bool.false_eq_true, mk_size, List.size_toArray, ByteArray.size_append, ByteArray.size_extract, List.length_cons, List.length_nil, ba_get, ba_empty, Int.toNat_natCast] at hW))
    | (refine And.intro (?_ : _ → _) (?_ : _ → _))
    | (refine FinR.drop 0 (Nat.zero_le _) (Closed.zero _) rfl ?_)
    | (refine FinR.keep ?_)
    | (refine And.intro (det3_agg rfl) ?_)
    | (refine fL_mk ?_)
    | (refine And.intro (by (try simp only [mk_size, List.size_toArray, ByteArray.size_append, ByteArray.size_extract, List.length_cons, List.length_nil]); omega) ?_)
    | (refine And.intro (by (try simp only [mk_size, List.size_toArray, ByteArray.size_append, ByteArray.size_extract, List.length_cons, List.length_nil, wrap64_eq]); omega) ?_)
    | fail)
  exact h0 ⟨_, _, _, _, _, _, _, rfl, rfl⟩
theorem c_l11Own (a b c d e f : Int) (o1 : Addr) (m1 c1 : Nat) (o2 : Addr) (m2 c2 : Nat) (o3 : Addr) (m3 c3 : Nat) (xs ys zs : List (List Int)) (h1 : Sli W0 [] 6 enI (.lit (.slice (some o1) m1 c1)) xs) (h2 : Sli W0 [] 4 enI (.lit (.slice (some o2) m2 c2)) ys) (h3 : Sli W0 [] 4 enI (.lit (.slice (some o3) m3 c3)) zs) (hx : ∀ x ∈ xs, x.length = 6) (hz : ∀ x ∈ zs, x.length = 4) (hl : xs.length ≤ 2097152) (hl2 : zs.length ≤ 2097152) (K : Cont) (h0 : ∀ x : NewP xs zs, K (plN a b c d e f x) x.τ) : ACall Try.prog W0 66 [PlA a b c d e f (.lit (.slice (some o1) m1 c1)) (.lit (.slice (some o2) m2 c2)), .lit (.slice (some o3) m3 c3)] [] K := by
  refine by66 (Nat.le_of_ble_eq_true rfl) ?_
  have hn1 : m1 = xs.length := by cases h1 with | inn ad n cap xs hn hc hm hb hxx => exact hn
  have hn3 : m3 = zs.length := by cases h3 with | inn ad n cap xs hn hc hm hb hxx => exact hn
  subst hn1; subst hn3
  have hj1 : (((xs.map enI).flatten).map AV.lit).length = xs.length * 6 := by rw [jc_flat]; exact jc_len hx
  have hj3 : (((zs.map enI).flatten).map AV.lit).length = zs.length * 4 := by rw [jc_flat]; exact jc_len hz
  repeat' ((conv => whnf); first
    | (refine And.intro rfl ?_)
    | (refine And.intro (by decide +kernel) ?_)
    | (refine And.intro trivial ?_)
    | (refine sli_src h1 hx ?_)
    | (refine sli_src h3 hz ?_)
    | (refine Exists.intro _ (And.intro rfl (And.intro rfl (And.intro rfl (And.intro rfl (And.intro rfl (And.intro rfl (And.intro (by decide) (And.intro rfl (And.intro hj1 (And.intro (by unfold maxLen; omega) (And.intro (by omega) (fun cap' hcap1 hcap2 => ?_)))))))))))))
    | (refine Exists.intro _ (And.intro rfl (And.intro rfl (And.intro rfl (And.intro rfl (And.intro rfl (And.intro rfl (And.intro (by decide) (And.intro rfl (And.intro hj3 (And.intro (by unfold maxLen; omega) (And.intro (by omega) (fun cap' hcap1 hcap2 => ?_)))))))))))))
    | (first | (refine And.intro (Exists.intro _ (And.intro rfl rfl)) ?_) | (refine And.intro (?_ : _ → _) (?_ : _ → _)) | (refine And.intro (det3_agg rfl) ?_) | (refine And.intro (by (try simp only [List.length_cons, List.length_nil]); omega) ?_) | (refine And.intro ?_ ?_))
    | (refine Exists.intro _ (And.intro rfl (And.intro rfl (And.intro (Nat.le_of_ble_eq_true rfl) ?_))))
    | (refine Exists.intro _ (And.intro rfl (And.intro rfl (And.intro rfl (And.intro (Nat.le_of_ble_eq_true rfl) ?_)))))
    | (refine And.intro (Exists.intro _ (And.intro rfl rfl)) ?_)
    | (exact fun hW => absurd hW (by decide +kernel))
    | (intro hW; (try simp only [Bool.not_true, Bool.not_false, Bool.not_eq_true', Bool.not_eq_false', decide_eq_true_eq, decide_eq_false_iff_not, reduceCtorEq, Bool.true_eq_false, Bool.false_eq_true, mk_size, List.size_toArray, ByteArray.size_append, ByteArray.size_extract, List.length_cons, List.length_nil, ba_get, ba_empty, Int.toNat_natCast] at hW))
    | (refine And.intro (?_ : _ → _) (?_ : _ → _))
    | (refine FinR.drop 0 (Nat.zero_le _) (Closed.zero _) rfl ?_)
    | (refine FinR.keep ?_)
    | (refine And.intro (det3_agg rfl) ?_)
    | (refine fL_mk ?_)
    | (refine And.intro (by (try simp only [mk_size, List.size_toArray, ByteArray.size_append, ByteArray.size_extract, List.length_cons, List.length_nil]); omega) ?_)
    | (refine And.intro (by (try simp only [mk_size, List.size_toArray, ByteArray.size_append, ByteArray.size_extract, List.length_cons, List.length_nil, wrap64_eq]); omega) ?_)
    | fail)
  all_goals exact newP_raw h0 _ _ _ _ _ _ _ _ _ _ _ (Nat.zero_add _) (Nat.zero_add _) rfl (jc_flat xs) rfl (jc_flat zs)
theorem d_copied (a b c d e f : Int) (s1 s2 s3 : AV) (xs ys zs : List (List Int)) (h1 : Sli W0 σ 6 enI s1 xs) (h2 : Sli W0 σ 4 enI s2 ys) (h3 : Sli W0 σ 4 enI s3 zs) (n1 : s1 ≠ nilA) (n2 : s2 ≠ nilA) (n3 : s3 ≠ nilA) (hx : ∀ x ∈ xs, x.length = 6) (hz : ∀ x ∈ zs, x.length = 4) (hl : xs.length ≤ 2097152) (hl2 : zs.length ≤ 2097152) (K : Cont)
    (h0 : ∀ S b1 r1 c1 b2 r2 c2, S[b1]? = some (shK xs r1) → S[b2]? = some (stK zs r2) → σ.length ≤ b1 → σ.length ≤ b2 → (∀ (j : Nat) (B : Blk), σ[j]? = some B → S[j]? = some B) → K (PlA a b c d e f (.sl b1 r1 0 xs.length c1) (.sl b2 r2 0 zs.length c2)) S) : ACall Try.prog W0 67 [PlA a b c d e f s1 s2, s3] σ K :=
  lift_PlSN (ι := NewP xs zs) (fun x => plN a b c d e f x) (fun x => x.τ) (by kernel_rfl) h1 h2 h3 n1 n2 n3 (fun W1 o1 m1 c1 o2 m2 c2 o3 m3 c3 q1 q2 q3 K hK => c_copied a b c d e f o1 m1 c1 o2 m2 c2 o3 m3 c3 xs ys zs q1 q2 q3 hx hz hl hl2 K hK) K (fun x => h0 _ _ _ _ _ _ _ (newP_sh1 x) (newP_sh2 x) (Nat.le_add_right _ _) (Nat.le_add_right _ _) (fun j B hj => getx1 hj))
theorem d_l11Own (a b c d e f : Int) (s1 s2 s3 : AV) (xs ys zs : List (List Int)) (h1 : Sli W0 σ 6 enI s1 xs) (h2 : Sli W0 σ 4 enI s2 ys) (h3 : Sli W0 σ 4 enI s3 zs) (n1 : s1 ≠ nilA) (n2 : s2 ≠ nilA) (n3 : s3 ≠ nilA) (hx : ∀ x ∈ xs, x.length = 6) (hz : ∀ x ∈ zs, x.length = 4) (hl : xs.length ≤ 2097152) (hl2 : zs.length ≤ 2097152) (K : Cont)
    (h0 : ∀ S b1 r1 c1 b2 r2 c2, S[b1]? = some (shK xs r1) → S[b2]? = some (stK zs r2) → σ.length ≤ b1 → σ.length ≤ b2 → (∀ (j : Nat) (B : Blk), σ[j]? = some B → S[j]? = some B) → K (PlA a b c d e f (.sl b1 r1 0 xs.length c1) (.sl b2 r2 0 zs.length c2)) S) : ACall Try.prog W0 66 [PlA a b c d e f s1 s2, s3] σ K :=
  lift_PlSN (ι := NewP xs zs) (fun x => plN a b c d e f x) (fun x => x.τ) (by kernel_rfl) h1 h2 h3 n1 n2 n3 (fun W1 o1 m1 c1 o2 m2 c2 o3 m3 c3 q1 q2 q3 K hK => c_l11Own a b c d e f o1 m1 c1 o2 m2 c2 o3 m3 c3 xs ys zs q1 q2 q3 hx hz hl hl2 K hK) K (fun x => h0 _ _ _ _ _ _ _ (newP_sh1 x) (newP_sh2 x) (Nat.le_add_right _ _) (Nat.le_add_right _ _) (fun j B hj => getx1 hj))
end Go.Proofs.Ytbmilmnfhdkfjaa
end

section
/- Contracts: steps undone, by both sides. -/
set_option linter.unusedVariables false
set_option linter.unusedSimpArgs false
set_option maxRecDepth 100000
set_option maxHeartbeats 4000000
namespace Go.Proofs.Ytbmilmnfhdkfjaa
open Go Go.RowKit Go.Proofs.Ytbmilmnfhdkfjaa.Abs
variable {W0 : World} {σ : List Blk}
theorem sli_take {s : Nat} {o o' : Addr} {n c n' c' : Nat} {ys : List (List Int)} (h : Sli W0 [] s enI (.lit (.slice (some o) n c)) ys) (ho : o' = o) (hn : n' ≤ n) (hc : c' = c) : Sli W0 [] s enI (.lit (.slice (some o') n' c')) (ys.take n') := by
  subst ho; subst hc
  cases h with
  | inn ad n cap xs hnn hcc hm hb hxx =>
    refine .inn _ _ _ _ (by rw [List.length_take]; omega) (by omega) hm hb fun i x hi j v hj => ?_
    rw [List.getElem?_take] at hi
    split at hi
    · exact hxx i x hi j v hj
    · cases hi
theorem add_zero' {o : Addr} : o.add 0 = o := by cases o; rename_i a b c; cases c <;> simp [Addr.add]
abbrev plZ : AV := PlA 0 0 0 0 0 0 nilA nilA
theorem c_UndoF (a b c d e f : Int) (v1 v2 : Value) (xs ys : List (List Int)) (h1 : Sli W0 [] 6 enI (.lit v1) xs) (h2 : Sli W0 [] 4 enI (.lit v2) ys) (hx : ∀ x ∈ xs, x.length = 6) (hy : ∀ x ∈ ys, x.length = 4) (k : Int) (hg : planB a b c d e f xs ys = false ∨ ¬ (0 ≤ k ∧ k ≤ ys.length)) (K : Cont) (h0 : K (.tup [plZ, Bo false]) []) : ACall Try.prog W0 28 [PlA a b c d e f (.lit v1) (.lit v2), I k] [] K := by
  refine by28 (Nat.le_of_ble_eq_true rfl) ?_
  obtain ⟨o2, n2, cap2, hv2, hn2, hc2, hm2, hf2⟩ := sli_form h2
  cases hv2
  subst hn2
  cases hg1 : planB a b c d e f xs ys with
  | false =>
    repeat' ((conv => whnf); first
      | (refine And.intro rfl ?_)
      | (refine And.intro (by decide +kernel) ?_)
      | (refine And.intro trivial ?_)
      | (refine d_IsPlan (h1 := sli_up h1) (h2 := sli_up h2) (hx := hx) (hy := hy) (h0 := ?_) ..; rw [hg1])
      | (refine Exists.intro _ (And.intro rfl (And.intro rfl (And.intro (Nat.le_of_ble_eq_true rfl) ?_))))
      | (refine Exists.intro _ (And.intro rfl (And.intro rfl (And.intro rfl (And.intro (Nat.le_of_ble_eq_true rfl) ?_)))))
      | (refine And.intro (Exists.intro _ (And.intro rfl rfl)) ?_)
      | (exact fun hW => absurd hW (by decide +kernel))
      | (intro hW; (try simp only [Bool.not_true, Bool.not_false, Bool.not_eq_true', Bool.not_eq_false', decide_eq_true_eq, decide_eq_false_iff_not, reduceCtorEq, Bool.true_eq_false, Bool.false_eq_true, mk_size, List.size_toArray, ByteArray.size_append, ByteArray.size_extract, List.length_cons, List.length_nil, ba_get, ba_empty, Int.toNat_natCast] at hW))
      | (refine And.intro (?_ : _ → _) (?_ : _ → _))
      | (refine FinR.drop 0 (Nat.zero_le _) (Closed.zero _) rfl ?_)
      | (refine FinR.keep ?_)
      | (refine And.intro (det3_agg rfl) ?_)
      | (refine fL_mk ?_)
      | (refine And.intro (by (try simp only [mk_size, List.size_toArray, ByteArray.size_append, ByteArray.size_extract, List.length_cons, List.length_nil]); omega) ?_)
      | (refine And.intro (by (try simp only [mk_size, List.size_toArray, ByteArray.size_append, ByteArray.size_extract, List.length_cons, List.length_nil, wrap64_eq]); omega) ?_)
      | fail)
    all_goals first | exact h0 | (exfalso; omega) | (exfalso; simp_all; done) | skip
  | true =>
    have hk : ¬ (0 ≤ k ∧ k ≤ ys.length) := by rcases hg with h | h; · rw [hg1] at h; cases h
                                              · exact h
    repeat' ((conv => whnf); first
      | (refine And.intro rfl ?_)
      | (refine And.intro (by decide +kernel) ?_)
      | (refine And.intro trivial ?_)
      | (refine d_IsPlan (h1 := sli_up h1) (h2 := sli_up h2) (hx := hx) (hy := hy) (h0 := ?_) ..; rw [hg1])
      | (refine Exists.intro _ (And.intro rfl (And.intro rfl (And.intro (Nat.le_of_ble_eq_true rfl) ?_))))
      | (refine Exists.intro _ (And.intro rfl (And.intro rfl (And.intro rfl (And.intro (Nat.le_of_ble_eq_true rfl) ?_)))))
      | (refine And.intro (Exists.intro _ (And.intro rfl rfl)) ?_)
      | (exact fun hW => absurd hW (by decide +kernel))
      | (intro hW; (try simp only [Bool.not_true, Bool.not_false, Bool.not_eq_true', Bool.not_eq_false', decide_eq_true_eq, decide_eq_false_iff_not, reduceCtorEq, Bool.true_eq_false, Bool.false_eq_true, mk_size, List.size_toArray, ByteArray.size_append, ByteArray.size_extract, List.length_cons, List.length_nil, ba_get, ba_empty, Int.toNat_natCast] at hW))
      | (refine And.intro (?_ : _ → _) (?_ : _ → _))
      | (refine FinR.drop 0 (Nat.zero_le _) (Closed.zero _) rfl ?_)
      | (refine FinR.keep ?_)
      | (refine And.intro (det3_agg rfl) ?_)
      | (refine fL_mk ?_)
      | (refine And.intro (by (try simp only [mk_size, List.size_toArray, ByteArray.size_append, ByteArray.size_extract, List.length_cons, List.length_nil]); omega) ?_)
      | (refine And.intro (by (try simp only [mk_size, List.size_toArray, ByteArray.size_append, ByteArray.size_extract, List.length_cons, List.length_nil, wrap64_eq]); omega) ?_)
      | fail)
    all_goals first | exact h0 | (exfalso; omega) | (exfalso; simp_all; done) | skip
theorem c_UndoT (a b c d e f : Int) (o1 : Addr) (m1 c1 : Nat) (o2 : Addr) (m2 c2 : Nat) (xs ys : List (List Int)) (h1 : Sli W0 [] 6 enI (.lit (.slice (some o1) m1 c1)) xs) (h2 : Sli W0 [] 4 enI (.lit (.slice (some o2) m2 c2)) ys) (hx : ∀ x ∈ xs, x.length = 6) (hy : ∀ x ∈ ys, x.length = 4) (k : Int) (hg : planB a b c d e f xs ys = true) (hk : 0 ≤ k ∧ k ≤ ys.length) (K : Cont) (h0 : ∀ x : NewP xs (ys.take (ys.length - k.toNat)), K (.tup [plN a b c d e f x, Bo true]) x.τ) : ACall Try.prog W0 28 [PlA a b c d e f (.lit (.slice (some o1) m1 c1)) (.lit (.slice (some o2) m2 c2)), I k] [] K := by
  refine by28 (Nat.le_of_ble_eq_true rfl) ?_
  obtain ⟨_, hx4, hy40, hxa, hya⟩ := planB_iff.1 hg
  have hn2 : m2 = ys.length := by cases h2 with | inn ad n cap xs hn hc hm hb hxx => exact hn
  have hc2 : m2 ≤ c2 := by cases h2 with | inn ad n cap xs hn hc hm hb hxx => exact hc
  subst hn2
  have ew : IntKind.i64.wrap ((ys.length : Nat) - k : Int) = ((ys.length : Nat) - k : Int) := wrap_i64 _ (by omega) (by omega)
  have et : (IntKind.i64.wrap ((ys.length : Nat) - k : Int)).toNat = ys.length - k.toNat := by rw [ew]; omega
  have hy' : ∀ x ∈ ys.take (ys.length - k.toNat), x.length = 4 := fun x hx => hy x (List.mem_of_mem_take hx)
  have hl' : (ys.take (ys.length - k.toNat)).length ≤ 1048576 := by rw [List.length_take]; omega
  have hsub : ∀ {σ : List Blk} {o' : Addr} {n' c' : Nat}, o' = o2 → n' = ys.length - k.toNat → c' = c2 → Sli W0 σ 4 enI (.lit (.slice (some o') n' c')) (ys.take (ys.length - k.toNat)) := fun ho hn hc => by
    subst hn
    exact sli_up (sli_take h2 ho (by omega) hc)
  repeat' ((conv => whnf); first
    | (refine And.intro rfl ?_)
    | (refine And.intro (by decide +kernel) ?_)
    | (refine And.intro trivial ?_)
    | (refine fS_mk ?_)
    | (refine d_IsPlan (h1 := sli_up h1) (h2 := sli_up h2) (hx := hx) (hy := hy) (h0 := ?_) ..; rw [hg])
    | (refine d_copied (h1 := sli_up h1) (h2 := sli_up h2) (h3 := hsub (by split <;> first | rfl | exact add_zero') (by rw [et]; rfl) rfl) (n1 := lit_nn) (n2 := lit_nn) (n3 := lit_nn) (hx := hx) (hz := hy') (hl := by omega) (hl2 := by omega) (h0 := fun S b1 r1 c1 b2 r2 c2 e1 e2 g1 g2 hk => ?_) ..; have k1 := hk 1 _ rfl)
    | (refine Exists.intro _ (And.intro k1 (And.intro rfl (And.intro rfl (And.intro (Nat.le_of_ble_eq_true rfl) ?_)))))
    | (refine Exists.intro _ (And.intro (get_set k1) (And.intro rfl (And.intro (Nat.le_of_ble_eq_true rfl) ?_))))
    | (refine Exists.intro _ (And.intro rfl (And.intro rfl (And.intro (Nat.le_of_ble_eq_true rfl) ?_))))
    | (refine Exists.intro _ (And.intro rfl (And.intro rfl (And.intro rfl (And.intro (Nat.le_of_ble_eq_true rfl) ?_)))))
    | (refine And.intro (Exists.intro _ (And.intro rfl rfl)) ?_)
    | (exact fun hW => absurd hW (by decide +kernel))
    | (intro hW; (try simp only [Bool.not_true, Bool.not_false, Bool.not_eq_true', Bool.not_eq_false', decide_eq_true_eq, decide_eq_false_iff_not, reduceCtorEq, Bool.true_eq_false, Bool.false_eq_true, mk_size, List.size_toArray, ByteArray.size_append, ByteArray.size_extract, List.length_cons, List.length_nil, ba_get, ba_empty, Int.toNat_natCast] at hW))
    | (refine And.intro (?_ : _ → _) (?_ : _ → _))
    | (refine FinR.drop 0 (Nat.zero_le _) (Closed.zero _) rfl ?_)
    | (refine FinR.keep ?_)
    | (refine And.intro (det3_agg rfl) ?_)
    | (refine fL_mk ?_)
    | (refine And.intro (by (try simp only [mk_size, List.size_toArray, ByteArray.size_append, ByteArray.size_extract, List.length_cons, List.length_nil]); omega) ?_)
    | (refine And.intro (by (try simp only [mk_size, List.size_toArray, ByteArray.size_append, ByteArray.size_extract, List.length_cons, List.length_nil, wrap64_eq]); omega) ?_)
    | fail)
  all_goals first | (exfalso; omega) | (exfalso; simp_all; done) | skip
  all_goals exact h0 ⟨_, _, _, _, _, _, _, get_ne e1 (by simp only [List.length_cons, List.length_nil] at g1 ⊢; omega), get_ne e2 (by simp only [List.length_cons, List.length_nil] at g2 ⊢; omega)⟩
theorem c_sUndoF (a b c d e f : Int) (v1 v2 : Value) (xs ys : List (List Int)) (h1 : Sli W0 [] 6 enI (.lit v1) xs) (h2 : Sli W0 [] 4 enI (.lit v2) ys) (hx : ∀ x ∈ xs, x.length = 6) (hy : ∀ x ∈ ys, x.length = 4) (hl : xs.length ≤ 1048576) (hl2 : ys.length ≤ 1048576) (k : Int) (hg : planB a b c d e f xs ys = false ∨ ¬ (0 ≤ k ∧ k ≤ ys.length)) (K : Cont) (h0 : K (.tup [plZ, Bo false]) []) : ACall Try.prog W0 27 [PlA a b c d e f (.lit v1) (.lit v2), I k] [] K := by
  refine by27 (Nat.le_of_ble_eq_true rfl) ?_
  obtain ⟨o2, n2, cap2, hv2, hn2, hc2, hm2, hf2⟩ := sli_form h2
  cases hv2
  subst hn2
  cases hg1 : planB a b c d e f xs ys with
  | false =>
    repeat' ((conv => whnf); first
      | (refine And.intro rfl ?_)
      | (refine And.intro (by decide +kernel) ?_)
      | (refine And.intro trivial ?_)
      | (refine d_l11Plan (h1 := sli_up h1) (h2 := sli_up h2) (hx := hx) (hy := hy) (hl := hl) (hl2 := hl2) (h0 := ?_) ..; rw [hg1])
      | (refine Exists.intro _ (And.intro rfl (And.intro rfl (And.intro (Nat.le_of_ble_eq_true rfl) ?_))))
      | (refine Exists.intro _ (And.intro rfl (And.intro rfl (And.intro rfl (And.intro (Nat.le_of_ble_eq_true rfl) ?_)))))
      | (refine And.intro (Exists.intro _ (And.intro rfl rfl)) ?_)
      | (exact fun hW => absurd hW (by decide +kernel))
      | (intro hW; (try simp only [Bool.not_true, Bool.not_false, Bool.not_eq_true', Bool.not_eq_false', decide_eq_true_eq, decide_eq_false_iff_not, reduceCtorEq, Bool.true_eq_false, Bool.false_eq_true, mk_size, List.size_toArray, ByteArray.size_append, ByteArray.size_extract, List.length_cons, List.length_nil, ba_get, ba_empty, Int.toNat_natCast] at hW))
      | (refine And.intro (?_ : _ → _) (?_ : _ → _))
      | (refine FinR.drop 0 (Nat.zero_le _) (Closed.zero _) rfl ?_)
      | (refine FinR.keep ?_)
      | (refine And.intro (det3_agg rfl) ?_)
      | (refine fL_mk ?_)
      | (refine And.intro (by (try simp only [mk_size, List.size_toArray, ByteArray.size_append, ByteArray.size_extract, List.length_cons, List.length_nil]); omega) ?_)
      | (refine And.intro (by (try simp only [mk_size, List.size_toArray, ByteArray.size_append, ByteArray.size_extract, List.length_cons, List.length_nil, wrap64_eq]); omega) ?_)
      | fail)
    all_goals first | exact h0 | (exfalso; omega) | (exfalso; simp_all; done) | skip
  | true =>
    have hk : ¬ (0 ≤ k ∧ k ≤ ys.length) := by rcases hg with h | h; · rw [hg1] at h; cases h
                                              · exact h
    have hin : inB k 0 (ys.length : Nat) = false := by rw [Bool.eq_false_iff]; intro h; simp [inB] at h; omega
    repeat' ((conv => whnf); first
      | (refine And.intro rfl ?_)
      | (refine And.intro (by decide +kernel) ?_)
      | (refine And.intro trivial ?_)
      | (refine d_l11Plan (h1 := sli_up h1) (h2 := sli_up h2) (hx := hx) (hy := hy) (hl := hl) (hl2 := hl2) (h0 := ?_) ..; rw [hg1])
      | (refine d_l1In (h0 := ?_) ..)
      | (refine Exists.intro _ (And.intro (fun τ => callW_fn (d_l1In (h0 := And.intro rfl rfl) ..)) ?_))
      | (refine Exists.intro _ (And.intro (callW_fn (d_l1In (h0 := And.intro rfl rfl) ..)) (And.intro trivial ?_)))
      | (refine Exists.intro _ (And.intro (callW_fn (d_l1In (h0 := And.intro rfl rfl) ..)) ?_))
      | (refine Exists.intro _ (And.intro (fun τ _ => callW_fn (d_l1In (h0 := And.intro rfl rfl) ..)) ?_))
      | (refine Exists.intro _ (And.intro rfl (And.intro rfl (And.intro (Nat.le_of_ble_eq_true rfl) ?_))))
      | (refine Exists.intro _ (And.intro rfl (And.intro rfl (And.intro rfl (And.intro (Nat.le_of_ble_eq_true rfl) ?_)))))
      | (refine And.intro (Exists.intro _ (And.intro rfl rfl)) ?_)
      | (exact fun hW => absurd hW (by decide +kernel))
      | (intro hW; (try simp only [Bool.not_true, Bool.not_false, Bool.not_eq_true', Bool.not_eq_false', decide_eq_true_eq, decide_eq_false_iff_not, reduceCtorEq, Bool.true_eq_false, Bool.false_eq_true, mk_size, List.size_toArray, ByteArray.size_append, ByteArray.size_extract, List.length_cons, List.length_nil, ba_get, ba_empty, Int.toNat_natCast] at hW))
      | (refine And.intro (?_ : _ → _) (?_ : _ → _))
      | (refine FinR.drop 0 (Nat.zero_le _) (Closed.zero _) rfl ?_)
      | (refine FinR.keep ?_)
      | (refine And.intro (det3_agg rfl) ?_)
      | (refine fL_mk ?_)
      | (refine And.intro (by (try simp only [mk_size, List.size_toArray, ByteArray.size_append, ByteArray.size_extract, List.length_cons, List.length_nil]); omega) ?_)
      | (refine And.intro (by (try simp only [mk_size, List.size_toArray, ByteArray.size_append, ByteArray.size_extract, List.length_cons, List.length_nil, wrap64_eq]); omega) ?_)
      | fail)
    all_goals first | exact h0 | (exfalso; omega) | (exfalso; simp_all; done) | skip
theorem c_sUndoT (a b c d e f : Int) (o1 : Addr) (m1 c1 : Nat) (o2 : Addr) (m2 c2 : Nat) (xs ys : List (List Int)) (h1 : Sli W0 [] 6 enI (.lit (.slice (some o1) m1 c1)) xs) (h2 : Sli W0 [] 4 enI (.lit (.slice (some o2) m2 c2)) ys) (hx : ∀ x ∈ xs, x.length = 6) (hy : ∀ x ∈ ys, x.length = 4) (hl : xs.length ≤ 1048576) (hl2 : ys.length ≤ 1048576) (k : Int) (hg : planB a b c d e f xs ys = true) (hk : 0 ≤ k ∧ k ≤ ys.length) (K : Cont) (h0 : ∀ x : NewP xs (ys.take (ys.length - k.toNat)), K (.tup [plN a b c d e f x, Bo true]) x.τ) : ACall Try.prog W0 27 [PlA a b c d e f (.lit (.slice (some o1) m1 c1)) (.lit (.slice (some o2) m2 c2)), I k] [] K := by
  refine by27 (Nat.le_of_ble_eq_true rfl) ?_
  have hn2 : m2 = ys.length := by cases h2 with | inn ad n cap xs hn hc hm hb hxx => exact hn
  have hc2 : m2 ≤ c2 := by cases h2 with | inn ad n cap xs hn hc hm hb hxx => exact hc
  subst hn2
  have ew : IntKind.i64.wrap ((ys.length : Nat) - k : Int) = ((ys.length : Nat) - k : Int) := wrap_i64 _ (by omega) (by omega)
  have et : (IntKind.i64.wrap ((ys.length : Nat) - k : Int)).toNat = ys.length - k.toNat := by rw [ew]; omega
  have hy' : ∀ x ∈ ys.take (ys.length - k.toNat), x.length = 4 := fun x hx => hy x (List.mem_of_mem_take hx)
  have hl' : (ys.take (ys.length - k.toNat)).length ≤ 1048576 := by rw [List.length_take]; omega
  have hin : inB k 0 (ys.length : Nat) = true := by simp [inB]; omega
  have hsub : ∀ {σ : List Blk} {o' : Addr} {n' c' : Nat}, o' = o2 → n' = ys.length - k.toNat → c' = c2 → Sli W0 σ 4 enI (.lit (.slice (some o') n' c')) (ys.take (ys.length - k.toNat)) := fun ho hn hc => by
    subst hn
    exact sli_up (sli_take h2 ho (by omega) hc)
  repeat' ((conv => whnf); first
    | (refine And.intro rfl ?_)
    | (refine And.intro (by decide +kernel) ?_)
    | (refine And.intro trivial ?_)
    | (refine fS_mk ?_)
    | (refine d_l11Plan (h1 := sli_up h1) (h2 := sli_up h2) (hx := hx) (hy := hy) (hl := hl) (hl2 := hl2) (h0 := ?_) ..; rw [hg])
    | (refine d_l1In (h0 := ?_) ..)
    | (refine Exists.intro _ (And.intro (fun τ => callW_fn (d_l1In (h0 := And.intro rfl rfl) ..)) ?_))
    | (refine Exists.intro _ (And.intro (callW_fn (d_l1In (h0 := And.intro rfl rfl) ..)) (And.intro trivial ?_)))
    | (refine Exists.intro _ (And.intro (callW_fn (d_l1In (h0 := And.intro rfl rfl) ..)) ?_))
    | (refine Exists.intro _ (And.intro (fun τ _ => callW_fn (d_l1In (h0 := And.intro rfl rfl) ..)) ?_))
    | (refine d_l11Own (h1 := sli_up h1) (h2 := sli_up h2) (h3 := hsub (by split <;> first | rfl | exact add_zero') (by rw [et]; rfl) rfl) (n1 := lit_nn) (n2 := lit_nn) (n3 := lit_nn) (hx := hx) (hz := hy') (hl := by omega) (hl2 := by omega) (h0 := fun S b1 r1 c1 b2 r2 c2 e1 e2 g1 g2 hk => ?_) ..; have k1 := hk 1 _ rfl)
    | (refine Exists.intro _ (And.intro k1 (And.intro rfl (And.intro rfl (And.intro (Nat.le_of_ble_eq_true rfl) ?_)))))
    | (refine Exists.intro _ (And.intro (get_set k1) (And.intro rfl (And.intro (Nat.le_of_ble_eq_true rfl) ?_))))
    | (refine Exists.intro _ (And.intro rfl (And.intro rfl (And.intro (Nat.le_of_ble_eq_true rfl) ?_))))
    | (refine Exists.intro _ (And.intro rfl (And.intro rfl (And.intro rfl (And.intro (Nat.le_of_ble_eq_true rfl) ?_)))))
    | (refine And.intro (Exists.intro _ (And.intro rfl rfl)) ?_)
    | (exact fun hW => absurd hW (by decide +kernel))
    | (intro hW; (try simp only [Bool.not_true, Bool.not_false, Bool.not_eq_true', Bool.not_eq_false', decide_eq_true_eq, decide_eq_false_iff_not, reduceCtorEq, Bool.true_eq_false, Bool.false_eq_true, mk_size, List.size_toArray, ByteArray.size_append, ByteArray.size_extract, List.length_cons, List.length_nil, ba_get, ba_empty, Int.toNat_natCast] at hW))
    | (refine And.intro (?_ : _ → _) (?_ : _ → _))
    | (refine FinR.drop 0 (Nat.zero_le _) (Closed.zero _) rfl ?_)
    | (refine FinR.keep ?_)
    | (refine And.intro (det3_agg rfl) ?_)
    | (refine fL_mk ?_)
    | (refine And.intro (by (try simp only [mk_size, List.size_toArray, ByteArray.size_append, ByteArray.size_extract, List.length_cons, List.length_nil]); omega) ?_)
    | (refine And.intro (by (try simp only [mk_size, List.size_toArray, ByteArray.size_append, ByteArray.size_extract, List.length_cons, List.length_nil, wrap64_eq]); omega) ?_)
    | fail)
  all_goals first | (exfalso; omega) | (exfalso; simp_all; done) | skip
  all_goals exact h0 ⟨_, _, _, _, _, _, _, get_ne e1 (by simp only [List.length_cons, List.length_nil] at g1 ⊢; omega), get_ne e2 (by simp only [List.length_cons, List.length_nil] at g2 ⊢; omega)⟩
theorem d_sUndoT (a b c d e f : Int) (s1 s2 : AV) (xs ys : List (List Int)) (h1 : Sli W0 σ 6 enI s1 xs) (h2 : Sli W0 σ 4 enI s2 ys) (n1 : s1 ≠ nilA) (n2 : s2 ≠ nilA) (hx : ∀ x ∈ xs, x.length = 6) (hy : ∀ x ∈ ys, x.length = 4) (hl : xs.length ≤ 1048576) (hl2 : ys.length ≤ 1048576) (k : Int) (hg : planB a b c d e f xs ys = true) (hk : 0 ≤ k ∧ k ≤ ys.length) (K : Cont)
    (h0 : ∀ S b1 r1 c1 b2 r2 c2, (S[b1]? = some (shK xs r1) → S[b2]? = some (stK (ys.take (ys.length - k.toNat)) r2) → σ.length ≤ b1 → σ.length ≤ b2 → (∀ (j : Nat) (B : Blk), σ[j]? = some B → S[j]? = some B) → K (.tup [PlA a b c d e f (.sl b1 r1 0 xs.length c1) (.sl b2 r2 0 (ys.take (ys.length - k.toNat)).length c2), Bo true]) S)) : ACall Try.prog W0 27 [PlA a b c d e f s1 s2, I k] σ K :=
  lift_PlN (rest := [I k]) (ι := NewP xs (ys.take (ys.length - k.toNat))) (fun x => .tup [plN a b c d e f x, Bo true]) (fun x => x.τ) (by kernel_rfl) rfl h1 h2 n1 n2 (fun W1 o1 m1 c1 o2 m2 c2 q1 q2 K hK => c_sUndoT a b c d e f o1 m1 c1 o2 m2 c2 xs ys q1 q2 hx hy hl hl2 k hg hk K hK) K (fun x => h0 _ _ _ _ _ _ _ (newP_sh1 x) (newP_sh2 x) (Nat.le_add_right _ _) (Nat.le_add_right _ _) (fun j B hj => getx1 hj))
theorem d_UndoT (a b c d e f : Int) (s1 s2 : AV) (xs ys : List (List Int)) (h1 : Sli W0 σ 6 enI s1 xs) (h2 : Sli W0 σ 4 enI s2 ys) (n1 : s1 ≠ nilA) (n2 : s2 ≠ nilA) (hx : ∀ x ∈ xs, x.length = 6) (hy : ∀ x ∈ ys, x.length = 4) (k : Int) (hg : planB a b c d e f xs ys = true) (hk : 0 ≤ k ∧ k ≤ ys.length) (K : Cont)
    (h0 : ∀ S b1 r1 c1 b2 r2 c2, (S[b1]? = some (shK xs r1) → S[b2]? = some (stK (ys.take (ys.length - k.toNat)) r2) → σ.length ≤ b1 → σ.length ≤ b2 → (∀ (j : Nat) (B : Blk), σ[j]? = some B → S[j]? = some B) → K (.tup [PlA a b c d e f (.sl b1 r1 0 xs.length c1) (.sl b2 r2 0 (ys.take (ys.length - k.toNat)).length c2), Bo true]) S)) : ACall Try.prog W0 28 [PlA a b c d e f s1 s2, I k] σ K :=
  lift_PlN (rest := [I k]) (ι := NewP xs (ys.take (ys.length - k.toNat))) (fun x => .tup [plN a b c d e f x, Bo true]) (fun x => x.τ) (by kernel_rfl) rfl h1 h2 n1 n2 (fun W1 o1 m1 c1 o2 m2 c2 q1 q2 K hK => c_UndoT a b c d e f o1 m1 c1 o2 m2 c2 xs ys q1 q2 hx hy k hg hk K hK) K (fun x => h0 _ _ _ _ _ _ _ (newP_sh1 x) (newP_sh2 x) (Nat.le_add_right _ _) (Nat.le_add_right _ _) (fun j B hj => getx1 hj))
theorem d_sUndoF (a b c d e f : Int) (s1 s2 : AV) (xs ys : List (List Int)) (h1 : Sli W0 σ 6 enI s1 xs) (h2 : Sli W0 σ 4 enI s2 ys) (hx : ∀ x ∈ xs, x.length = 6) (hy : ∀ x ∈ ys, x.length = 4) (hl : xs.length ≤ 1048576) (hl2 : ys.length ≤ 1048576) (k : Int) (hg : planB a b c d e f xs ys = false ∨ ¬ (0 ≤ k ∧ k ≤ ys.length)) (K : Cont) (h0 : K (.tup [plZ, Bo false]) σ) : ACall Try.prog W0 27 [PlA a b c d e f s1 s2, I k] σ K :=
  lift_Pl (rest := [I k]) (ι := Unit) (fun _ => .tup [plZ, Bo false]) (fun _ => []) (by kernel_rfl) rfl h1 h2 (fun W1 v1 v2 q1 q2 K hK => c_sUndoF a b c d e f v1 v2 xs ys q1 q2 hx hy hl hl2 k hg K (hK ())) K (fun _ => by
    rw [show shB σ.length [] = [] from rfl, List.append_nil]; exact h0)
theorem d_UndoF (a b c d e f : Int) (s1 s2 : AV) (xs ys : List (List Int)) (h1 : Sli W0 σ 6 enI s1 xs) (h2 : Sli W0 σ 4 enI s2 ys) (hx : ∀ x ∈ xs, x.length = 6) (hy : ∀ x ∈ ys, x.length = 4) (k : Int) (hg : planB a b c d e f xs ys = false ∨ ¬ (0 ≤ k ∧ k ≤ ys.length)) (K : Cont) (h0 : K (.tup [plZ, Bo false]) σ) : ACall Try.prog W0 28 [PlA a b c d e f s1 s2, I k] σ K :=
  lift_Pl (rest := [I k]) (ι := Unit) (fun _ => .tup [plZ, Bo false]) (fun _ => []) (by kernel_rfl) rfl h1 h2 (fun W1 v1 v2 q1 q2 K hK => c_UndoF a b c d e f v1 v2 xs ys q1 q2 hx hy k hg K (hK ())) K (fun _ => by
    rw [show shB σ.length [] = [] from rfl, List.append_nil]; exact h0)
end Go.Proofs.Ytbmilmnfhdkfjaa
end

section
/- Contracts: plans of the laws with the state as a variable; plans without slices. -/
set_option linter.unusedVariables false
set_option linter.unusedSimpArgs false
set_option maxRecDepth 100000
set_option maxHeartbeats 4000000
namespace Go.Proofs.Ytbmilmnfhdkfjaa
open Go Go.RowKit Go.Proofs.Ytbmilmnfhdkfjaa.Abs
variable {W0 : World} {σ : List Blk}
theorem sli_rowsM3 {b ver n cap s m : Nat} {B : Blk} {k : Int} (hm : m = n * s) (hB : σ[b]? = some (mB B k m)) (hv : B.ver = ver) : Sli W0 σ s enI (.sl b ver 0 n cap) (rowsM k s n) :=
  .own b ver 0 _ cap _ _ hB hv (rowsM_len k s n).symm fun i x hi j v hj => by
    subst hm
    have hlt : i < n := by have := getElem?_lt hi; rwa [rowsM_len] at this
    rw [rowsM_get k s hlt] at hi
    cases hi
    rw [List.getElem?_map, Option.map_eq_some_iff] at hj
    obtain ⟨m, hm, rfl⟩ := hj
    have hj2 : j < s := by have := getElem?_lt hm; rwa [marks_len] at this
    rw [marks_get _ hj2] at hm
    cases hm
    have hb : i * s + j < n * s := by
      have : (i + 1) * s ≤ n * s := Nat.mul_le_mul_right s (by omega)
      rw [Nat.add_mul] at this; omega
    show ((marks k (n * s)).map I ++ B.cells.drop (n * s))[0 + i * s + j]? = _
    rw [Nat.zero_add, List.getElem?_append_left (by rw [List.length_map, marks_len]; exact hb), List.getElem?_map, marks_get k hb]
    show some (I (k + ((i * s + j : Nat) : Int))) = some (I (k + ((i * s : Nat) : Int) + (j : Int)))
    rw [Int.natCast_add, Int.add_assoc]
theorem ne_of_64 {b1 b2 r1 r2 : Nat} {xs ys : List (List Int)} (h1 : σ[b1]? = some (shK xs r1)) (h2 : σ[b2]? = some (stK ys r2)) : b1 ≠ b2 := by
  rintro rfl
  rw [h1] at h2
  injection h2 with h
  injection h with _ _ _ h
  cases h
theorem d_toPlanS (a b c d e f : Int) (s1 s2 : AV) (xs ys : List (List Int)) (h1 : Sli W0 σ 6 enI s1 xs) (h2 : Sli W0 σ 4 enI s2 ys) (hx : ∀ x ∈ xs, x.length = 6) (hy : ∀ x ∈ ys, x.length = 4) (hl : xs.length ≤ 1048576) (hl2 : ys.length ≤ 1048576) (K : Cont)
    (h0 : ∀ S b1 b2, S[b1]? = some (shSB xs) → S[b2]? = some (stSB ys) → σ.length ≤ b1 → σ.length ≤ b2 → b1 ≠ b2 → (∀ (j : Nat) (B : Blk), σ[j]? = some B → S[j]? = some B) → K (PlA a b c d e f (.sl b1 0 0 xs.length xs.length) (.sl b2 0 0 ys.length ys.length)) S) : ACall Try.prog W0 17 [PlA a b c d e f s1 s2] σ K :=
  d_toPlan a b c d e f s1 s2 xs ys h1 h2 hx hy hl hl2 K (fun A B C => h0 _ _ _ g5a g5b (Nat.le_add_right _ _) (Nat.le_add_right _ _) (by omega) (fun j B hj => getx1 hj))
theorem d_markPlanS (a b c d e f : Int) (b1 r1 n1 cap1 b2 r2 n2 cap2 : Nat) (B1 B2 : Blk) (hB1 : σ[b1]? = some B1) (hB2 : σ[b2]? = some B2) (hv1 : B1.ver = r1) (hv2 : B2.ver = r2) (hne : b1 ≠ b2) (hn1 : n1 * 6 ≤ B1.cells.length) (hn2 : n2 * 4 ≤ B2.cells.length) (hm1 : n1 ≤ 1048576) (hm2 : n2 ≤ 1048576) (k : Int) (hk : 0 ≤ k ∧ k ≤ 1000) (K : Cont)
    (h0 : ∀ S, S[b1]? = some (mB B1 k (n1 * 6)) → S[b2]? = some (mB B2 (k + (n1 * 6 : Nat)) (n2 * 4)) → (∀ (j : Nat) (B : Blk), j ≠ b1 → j ≠ b2 → σ[j]? = some B → S[j]? = some B) → K (I (k + (n1 * 6 : Nat) + (n2 * 4 : Nat))) S) : ACall Try.prog W0 29 [PlA a b c d e f (.sl b1 r1 0 n1 cap1) (.sl b2 r2 0 n2 cap2), I k] σ K :=
  d_markPlan a b c d e f b1 r1 n1 cap1 b2 r2 n2 cap2 B1 B2 hB1 hB2 hv1 hv2 hne hn1 hn2 hm1 hm2 k hk K (fun A => h0 _ (get_ne (get_set (getx1 hB1)) (by omega)) (get_set (get_ne (getx1 hB2) hne)) (fun j B j1 j2 hj => get_ne (get_ne (getx1 hj) (by omega)) (by omega)))
theorem c_markPlan0 (k : Int) (K : Cont) (h0 : K (I k) []) : ACall Try.prog W0 29 [plZ, I k] [] K := by
  have hs : ∀ {σ : List Blk} (K : Cont) (h0 : K (I k) σ), ACall Try.prog W0 68 [nilA, I k] σ K := fun {σ} K h0 => by
    refine by68 (Nat.le_of_ble_eq_true rfl) ?_
    repeat' ((conv => whnf); first
      | (refine And.intro rfl ?_)
      | (refine And.intro (by decide +kernel) ?_)
      | (refine And.intro trivial ?_)
      | (refine LoopR.unroll 1 ?_)
      | (refine Exists.intro _ (And.intro rfl (And.intro rfl (And.intro (Nat.le_of_ble_eq_true rfl) ?_))))
      | (refine Exists.intro _ (And.intro rfl (And.intro rfl (And.intro rfl (And.intro (Nat.le_of_ble_eq_true rfl) ?_)))))
      | (refine And.intro (Exists.intro _ (And.intro rfl rfl)) ?_)
      | (exact fun hW => absurd hW (by decide +kernel))
      | (intro hW; (try simp only [Bool.not_true, Bool.not_false, Bool.not_eq_true', Bool.not_eq_false', decide_eq_true_eq, decide_eq_false_iff_not, reduceCtorEq, Bool.true_eq_false, Bool.false_eq_true, mk_size, List.size_toArray, ByteArray.size_append, ByteArray.size_extract, List.length_cons, List.length_nil, ba_get, ba_empty, Int.toNat_natCast] at hW))
      | (refine And.intro (?_ : _ → _) (?_ : _ → _))
      | (refine FinR.drop 0 (Nat.zero_le _) (Closed.zero _) rfl ?_)
      | (refine FinR.keep ?_)
      | (refine And.intro (det3_agg rfl) ?_)
      | (refine fL_mk ?_)
      | (refine And.intro (by (try simp only [mk_size, List.size_toArray, ByteArray.size_append, ByteArray.size_extract, List.length_cons, List.length_nil]); omega) ?_)
      | (refine And.intro (by (try simp only [mk_size, List.size_toArray, ByteArray.size_append, ByteArray.size_extract, List.length_cons, List.length_nil, wrap64_eq]); omega) ?_)
      | fail)
    all_goals first | exact h0 | (exfalso; omega)
  have ht : ∀ {σ : List Blk} (K : Cont) (h0 : K (I k) σ), ACall Try.prog W0 69 [nilA, I k] σ K := fun {σ} K h0 => by
    refine by69 (Nat.le_of_ble_eq_true rfl) ?_
    repeat' ((conv => whnf); first
      | (refine And.intro rfl ?_)
      | (refine And.intro (by decide +kernel) ?_)
      | (refine And.intro trivial ?_)
      | (refine LoopR.unroll 1 ?_)
      | (refine Exists.intro _ (And.intro rfl (And.intro rfl (And.intro (Nat.le_of_ble_eq_true rfl) ?_))))
      | (refine Exists.intro _ (And.intro rfl (And.intro rfl (And.intro rfl (And.intro (Nat.le_of_ble_eq_true rfl) ?_)))))
      | (refine And.intro (Exists.intro _ (And.intro rfl rfl)) ?_)
      | (exact fun hW => absurd hW (by decide +kernel))
      | (intro hW; (try simp only [Bool.not_true, Bool.not_false, Bool.not_eq_true', Bool.not_eq_false', decide_eq_true_eq, decide_eq_false_iff_not, reduceCtorEq, Bool.true_eq_false, Bool.false_eq_true, mk_size, List.size_toArray, ByteArray.size_append, ByteArray.size_extract, List.length_cons, List.length_nil, ba_get, ba_empty, Int.toNat_natCast] at hW))
      | (refine And.intro (?_ : _ → _) (?_ : _ → _))
      | (refine FinR.drop 0 (Nat.zero_le _) (Closed.zero _) rfl ?_)
      | (refine FinR.keep ?_)
      | (refine And.intro (det3_agg rfl) ?_)
      | (refine fL_mk ?_)
      | (refine And.intro (by (try simp only [mk_size, List.size_toArray, ByteArray.size_append, ByteArray.size_extract, List.length_cons, List.length_nil]); omega) ?_)
      | (refine And.intro (by (try simp only [mk_size, List.size_toArray, ByteArray.size_append, ByteArray.size_extract, List.length_cons, List.length_nil, wrap64_eq]); omega) ?_)
      | fail)
    all_goals first | exact h0 | (exfalso; omega)
  refine by29 (Nat.le_of_ble_eq_true rfl) ?_
  repeat' ((conv => whnf); first
    | (refine And.intro rfl ?_)
    | (refine And.intro (by decide +kernel) ?_)
    | (refine And.intro trivial ?_)
    | (refine hs _ ?_)
    | (refine ht _ ?_)
    | (refine Exists.intro _ (And.intro rfl (And.intro rfl (And.intro (Nat.le_of_ble_eq_true rfl) ?_))))
    | (refine Exists.intro _ (And.intro rfl (And.intro rfl (And.intro rfl (And.intro (Nat.le_of_ble_eq_true rfl) ?_)))))
    | (refine And.intro (Exists.intro _ (And.intro rfl rfl)) ?_)
    | (exact fun hW => absurd hW (by decide +kernel))
    | (intro hW; (try simp only [Bool.not_true, Bool.not_false, Bool.not_eq_true', Bool.not_eq_false', decide_eq_true_eq, decide_eq_false_iff_not, reduceCtorEq, Bool.true_eq_false, Bool.false_eq_true, mk_size, List.size_toArray, ByteArray.size_append, ByteArray.size_extract, List.length_cons, List.length_nil, ba_get, ba_empty, Int.toNat_natCast] at hW))
    | (refine And.intro (?_ : _ → _) (?_ : _ → _))
    | (refine FinR.drop 0 (Nat.zero_le _) (Closed.zero _) rfl ?_)
    | (refine FinR.keep ?_)
    | (refine And.intro (det3_agg rfl) ?_)
    | (refine fL_mk ?_)
    | (refine And.intro (by (try simp only [mk_size, List.size_toArray, ByteArray.size_append, ByteArray.size_extract, List.length_cons, List.length_nil]); omega) ?_)
    | (refine And.intro (by (try simp only [mk_size, List.size_toArray, ByteArray.size_append, ByteArray.size_extract, List.length_cons, List.length_nil, wrap64_eq]); omega) ?_)
    | fail)
  all_goals first | exact h0 | (exfalso; omega)
theorem d_markPlan0 (k : Int) (K : Cont) (h0 : K (I k) σ) : ACall Try.prog W0 29 [plZ, I k] σ K :=
  ACall.lift (by kernel_rfl) (fun _ => rfl) (fun W1 K _ hK => c_markPlan0 k K hK) h0
theorem d_sUndoL (a b c d e f : Int) (s1 s2 : AV) (xs ys L : List (List Int)) (k : Int) (hL : L = ys.take (ys.length - k.toNat)) (h1 : Sli W0 σ 6 enI s1 xs) (h2 : Sli W0 σ 4 enI s2 ys) (n1 : s1 ≠ nilA) (n2 : s2 ≠ nilA) (hx : ∀ x ∈ xs, x.length = 6) (hy : ∀ x ∈ ys, x.length = 4) (hl : xs.length ≤ 1048576) (hl2 : ys.length ≤ 1048576) (hg : planB a b c d e f xs ys = true ∧ 0 ≤ k ∧ k ≤ ys.length) (K : Cont)
    (h0 : ∀ S b1 r1 c1 b2 r2 c2, S[b1]? = some (shK xs r1) → S[b2]? = some (stK L r2) → σ.length ≤ b1 → σ.length ≤ b2 → (∀ (j : Nat) (B : Blk), σ[j]? = some B → S[j]? = some B) → K (.tup [PlA a b c d e f (.sl b1 r1 0 xs.length c1) (.sl b2 r2 0 L.length c2), Bo true]) S) : ACall Try.prog W0 27 [PlA a b c d e f s1 s2, I k] σ K := by
  subst hL
  exact d_sUndoT a b c d e f s1 s2 xs ys h1 h2 n1 n2 hx hy hl hl2 k hg.1 hg.2 K h0
theorem d_UndoL (a b c d e f : Int) (s1 s2 : AV) (xs ys L : List (List Int)) (k : Int) (hL : L = ys.take (ys.length - k.toNat)) (h1 : Sli W0 σ 6 enI s1 xs) (h2 : Sli W0 σ 4 enI s2 ys) (n1 : s1 ≠ nilA) (n2 : s2 ≠ nilA) (hx : ∀ x ∈ xs, x.length = 6) (hy : ∀ x ∈ ys, x.length = 4) (hl : xs.length ≤ 1048576) (hl2 : ys.length ≤ 1048576) (hg : planB a b c d e f xs ys = true ∧ 0 ≤ k ∧ k ≤ ys.length) (K : Cont)
    (h0 : ∀ S b1 r1 c1 b2 r2 c2, S[b1]? = some (shK xs r1) → S[b2]? = some (stK L r2) → σ.length ≤ b1 → σ.length ≤ b2 → (∀ (j : Nat) (B : Blk), σ[j]? = some B → S[j]? = some B) → K (.tup [PlA a b c d e f (.sl b1 r1 0 xs.length c1) (.sl b2 r2 0 L.length c2), Bo true]) S) : ACall Try.prog W0 28 [PlA a b c d e f s1 s2, I k] σ K := by
  subst hL
  exact d_UndoT a b c d e f s1 s2 xs ys h1 h2 n1 n2 hx hy k hg.1 hg.2 K h0
end Go.Proofs.Ytbmilmnfhdkfjaa
end

section
/- Contracts: the law UndoSteps. -/
set_option linter.unusedVariables false
set_option linter.unusedSimpArgs false
set_option maxRecDepth 100000
set_option maxHeartbeats 4000000
namespace Go.Proofs.Ytbmilmnfhdkfjaa
open Go Go.RowKit Go.Proofs.Ytbmilmnfhdkfjaa.Abs
variable {W0 : World} {σ : List Blk}
theorem c_law_UndoStepsF (a b c d e f : Int) (v1 v2 : Value) (xs ys : List (List Int)) (k : Int) (h1 : Sli W0 [] 6 enI (.lit v1) xs) (h2 : Sli W0 [] 4 enI (.lit v2) ys) (hx : ∀ x ∈ xs, x.length = 6) (hy : ∀ x ∈ ys, x.length = 4) (hl : xs.length ≤ 1048576) (hl2 : ys.length ≤ 1048576) (hz : ¬ ((1048576 : Int) - xs.length - ys.length < 0)) (hg : planB a b c d e f xs ys = false ∨ ¬ (0 ≤ k ∧ k ≤ ys.length)) (K : Cont) (h0 : K (Bo true) []) : ACall Try.prog W0 7 [PlA a b c d e f (.lit v1) (.lit v2), I k] [] K := by
  have hm' : xs.length ≤ 9223372036854775807 := by omega
  have hm2' : ys.length ≤ 9223372036854775807 := by omega
  have h6 := shSB_len hx
  have h4 := stSB_len hy
  refine by7 (Nat.le_of_ble_eq_true rfl) ?_
  repeat' ((conv => whnf); first
    | (refine And.intro rfl ?_)
    | (refine And.intro (by decide +kernel) ?_)
    | (refine And.intro trivial ?_)
    | (refine d_szPlan (h1 := sli_up h1) (h2 := sli_up h2) (hl := hm') (hl2 := hm2') (hm := by decide) (h0 := fun h => ?_) (h00 := fun h => absurd h hz) ..)
    | (refine d_toPlan (h1 := sli_up h1) (h2 := sli_up h2) (hx := hx) (hy := hy) (hl := hl) (hl2 := hl2) (h0 := fun A B C => ?_) ..)
    | (refine d_sUndoF (h1 := sli_rows hx rfl) (h2 := sli_rows hy rfl) (hx := hx) (hy := hy) (hl := hl) (hl2 := hl2) (hg := hg) (h0 := ?_) ..)
    | (refine d_UndoF (h1 := sli_rows hx rfl) (h2 := sli_rows hy rfl) (hx := hx) (hy := hy) (hg := hg) (h0 := ?_) ..)
    | (refine d_markPlan0 (h0 := ?_) ..)
    | (refine d_heldPlan (n1 := 0) (n2 := 0) (h1 := .nil) (h2 := .nil) (hm1 := by omega) (hm2 := by omega) (hk := by omega) (h0 := ?_) ..)
    | (refine d_eqPlan (xs := []) (ys := []) (h1 := .nil) (h2 := .nil) (g1 := .nil) (g2 := .nil) (hx := by simp) (hy := by simp) (hl := by decide) (hl2 := by decide) (h0 := ?_) ..)
    | (refine Exists.intro _ (And.intro (callW_fn (d_eqPlan (h1 := sli_rows hx rfl) (h2 := sli_rows hy rfl) (g1 := sli_rows hx rfl) (g2 := sli_rows hy rfl) (hx := hx) (hy := hy) (hl := hl) (hl2 := hl2) (h0 := And.intro rfl rfl) ..)) ?_))
    | (refine d_markPlan (B1 := shSB xs) (B2 := stSB ys) (hB1 := rfl) (hB2 := rfl) (hv1 := rfl) (hv2 := rfl) (hne := by simp) (hn1 := h6) (hn2 := h4) (hm1 := hl) (hm2 := hl2) (hk := by omega) (h0 := fun A => ?_) ..)
    | (refine Exists.intro _ (And.intro rfl (And.intro rfl (And.intro (Nat.le_of_ble_eq_true rfl) ?_))))
    | (refine Exists.intro _ (And.intro rfl (And.intro rfl (And.intro rfl (And.intro (Nat.le_of_ble_eq_true rfl) ?_)))))
    | (refine And.intro (Exists.intro _ (And.intro rfl rfl)) ?_)
    | (exact fun hW => absurd hW (by decide +kernel))
    | (intro hW; (try simp only [Bool.not_true, Bool.not_false, Bool.not_eq_true', Bool.not_eq_false', decide_eq_true_eq, decide_eq_false_iff_not, reduceCtorEq, Bool.true_eq_false, Bool.false_eq_true, mk_size, List.size_toArray, ByteArray.size_append, ByteArray.size_extract, List.length_cons, List.length_nil, ba_get, ba_empty, Int.toNat_natCast] at hW))
    | (refine And.intro (?_ : _ → _) (?_ : _ → _))
    | (refine FinR.drop 0 (Nat.zero_le _) (Closed.zero _) rfl ?_)
    | (refine FinR.keep ?_)
    | (refine And.intro (det3_agg rfl) ?_)
    | (refine fL_mk ?_)
    | (refine And.intro (by (try simp only [mk_size, List.size_toArray, ByteArray.size_append, ByteArray.size_extract, List.length_cons, List.length_nil]); omega) ?_)
    | (refine And.intro (by (try simp only [mk_size, List.size_toArray, ByteArray.size_append, ByteArray.size_extract, List.length_cons, List.length_nil, wrap64_eq]); omega) ?_)
    | fail)
  all_goals first | exact h0 | (exfalso; omega) | (exfalso; simp_all; done) | skip
theorem c_law_UndoStepsT (a b c d e f : Int) (v1 v2 : Value) (xs ys : List (List Int)) (k : Int) (h1 : Sli W0 [] 6 enI (.lit v1) xs) (h2 : Sli W0 [] 4 enI (.lit v2) ys) (hx : ∀ x ∈ xs, x.length = 6) (hy : ∀ x ∈ ys, x.length = 4) (hl : xs.length ≤ 1048576) (hl2 : ys.length ≤ 1048576) (hz : ¬ ((1048576 : Int) - xs.length - ys.length < 0)) (hg : planB a b c d e f xs ys = true ∧ 0 ≤ k ∧ k ≤ ys.length) (K : Cont) (h0 : K (Bo true) []) : ACall Try.prog W0 7 [PlA a b c d e f (.lit v1) (.lit v2), I k] [] K := by
  have hm' : xs.length ≤ 9223372036854775807 := by omega
  have hm2' : ys.length ≤ 9223372036854775807 := by omega
  have h6 := shSB_len hx
  have h4 := stSB_len hy
  have hyL : ∀ x ∈ ys.take (ys.length - k.toNat), x.length = 4 := fun x hx => hy x (List.mem_of_mem_take hx)
  have hlL : (ys.take (ys.length - k.toNat)).length ≤ 1048576 := by rw [List.length_take]; omega
  generalize hL : ys.take (ys.length - k.toNat) = L at hyL hlL
  have h4L : L.length * 4 ≤ (jc L).length := by rw [jc_len (s := 4) hyL]; exact Nat.le_refl _
  have h6L : xs.length * 6 ≤ (jc xs).length := by rw [jc_len (s := 6) hx]; exact Nat.le_refl _
  refine by7 (Nat.le_of_ble_eq_true rfl) ?_
  repeat' ((conv => whnf); first
    | (refine And.intro rfl ?_)
    | (refine And.intro (by decide +kernel) ?_)
    | (refine And.intro trivial ?_)
    | (refine fS_mk ?_)
    | (refine d_szPlan (h1 := sli_up h1) (h2 := sli_up h2) (hl := hm') (hl2 := hm2') (hm := by decide) (h0 := fun h => ?_) (h00 := fun h => absurd h hz) ..)
    | (have hz9 := j1e; refine d_eqPlan (xs := xs) (ys := L) (h1 := sli_rows hx (getx1 j1e)) (h2 := sli_rows hyL (getx1 j2e)) (g1 := sli_rows hx (getx1 w1e)) (g2 := sli_rows hyL (getx1 w2e)) (hx := hx) (hy := hyL) (hl := hl) (hl2 := hlL) (h0 := ?_) ..)
    | (have hz9 := j1e; refine d_heldPlan (n1 := xs.length) (n2 := L.length) (h1 := sli_rowsM3 (B := shK xs _) rfl (getx1 m1e) rfl) (h2 := sli_rowsM3 (B := stK L _) rfl (getx1 m2e) rfl) (hm1 := hl) (hm2 := hlL) (hk := by omega) (h0 := ?_) ..)
    | (have hz9 := y1e; refine d_UndoL (L := L) (hL := hL.symm) (h1 := sli_rows hx y1e) (h2 := sli_rows hy y2e) (n1 := sl_nn) (n2 := sl_nn) (hx := hx) (hy := hy) (hl := hl) (hl2 := hl2) (hg := hg) (h0 := fun S9 j1 jr1 jc1 j2 jr2 jc2 j1e j2e j1l j2l hk => ?_) ..; have zb := hk _ _ zb; have zw := hk _ _ zw; have w1e := hk _ _ w1e; have w2e := hk _ _ w2e; have zg := hk _ _ zg; have m1e := hk _ _ m1e; have m2e := hk _ _ m2e)
    | (have hz9 := m1e; refine d_toPlanS (h1 := sli_up h1) (h2 := sli_up h2) (hx := hx) (hy := hy) (hl := hl) (hl2 := hl2) (h0 := fun S8 y1 y2 y1e y2e y1l y2l yn hk => ?_) ..; have zb := hk _ _ zb; have zw := hk _ _ zw; have w1e := hk _ _ w1e; have w2e := hk _ _ w2e; have zg := hk _ _ zg; have m1e := hk _ _ m1e; have m2e := hk _ _ m2e)
    | (have hz9 := m1e; refine d_heldPlan (n1 := xs.length) (n2 := L.length) (h1 := sli_rowsM3 (B := shK xs _) rfl m1e rfl) (h2 := sli_rowsM3 (B := stK L _) rfl m2e rfl) (hm1 := hl) (hm2 := hlL) (hk := by omega) (h0 := ?_) ..)
    | (have hz9 := mm1; refine d_markPlanS (B1 := shK xs _) (B2 := stK L _) (hB1 := g1e) (hB2 := g2e) (hv1 := rfl) (hv2 := rfl) (hne := hgne) (hn1 := h6L) (hn2 := h4L) (hm1 := hl) (hm2 := hlL) (hk := by omega) (h0 := fun S7 m1e m2e hk => ?_) ..; have zb := hk _ _ (by omega) (by omega) zb; have zw := hk _ _ (by omega) (by omega) zw; have w1e := hk _ _ (by omega) (by omega) w1e; have w2e := hk _ _ (by omega) (by omega) w2e; have zg := hk _ _ (by omega) (by omega) zg)
    | (have hz9 := mm1; refine d_eqPlan (xs := xs) (ys := L) (h1 := sli_rows hx g1e) (h2 := sli_rows hyL g2e) (g1 := sli_rows hx w1e) (g2 := sli_rows hyL w2e) (hx := hx) (hy := hyL) (hl := hl) (hl2 := hlL) (h0 := ?_) ..)
    | (have hz9 := g1e; refine d_markPlanS (B1 := shSB xs) (B2 := stSB ys) (hB1 := getx1 (getx1 x1e)) (hB2 := getx1 (getx1 x2e)) (hv1 := rfl) (hv2 := rfl) (hne := xn) (hn1 := h6) (hn2 := h4) (hm1 := hl) (hm2 := hl2) (hk := by omega) (h0 := fun S6 mm1 mm2 hk => ?_) ..; have zb := hk _ _ (by omega) (by omega) (getx1 (getx1 zb)); have zw := hk _ _ (by omega) (by omega) (getx1 (getx1 zw)); have w1e := hk _ _ (by omega) (by omega) (getx1 (getx1 w1e)); have w2e := hk _ _ (by omega) (by omega) (getx1 (getx1 w2e)); have zg := hk _ _ (by omega) (by omega) (getx1 getl); have g1e := hk _ _ (by omega) (by omega) (getx1 (getx1 g1e)); have g2e := hk _ _ (by omega) (by omega) (getx1 (getx1 g2e)))
    | (have hz9 := g1e; refine d_toPlan (h1 := sli_up h1) (h2 := sli_up h2) (hx := hx) (hy := hy) (hl := hl) (hl2 := hl2) (h0 := fun A B C => varC_app ?_) ..)
    | (have hz9 := g1e; refine Exists.intro _ (And.intro (callW_fn (d_eqPlan (h1 := sli_rows hx (getx1 (getx1 x1e))) (h2 := sli_rows hy (getx1 (getx1 x2e))) (g1 := sli_rows hx g5a) (g2 := sli_rows hy g5b) (hx := hx) (hy := hy) (hl := hl) (hl2 := hl2) (h0 := And.intro rfl rfl) ..)) ?_))
    | (have hz9 := g1e; refine d_eqPlan (xs := xs) (ys := L) (h1 := sli_rows hx (getx1 g1e)) (h2 := sli_rows hyL (getx1 g2e)) (g1 := sli_rows hx (getx1 w1e)) (g2 := sli_rows hyL (getx1 w2e)) (hx := hx) (hy := hyL) (hl := hl) (hl2 := hlL) (h0 := ?_) ..)
    | (have hz9 := x1e; refine d_UndoL (L := L) (hL := hL.symm) (h1 := sli_rows hx (getx1 x1e)) (h2 := sli_rows hy (getx1 x2e)) (n1 := sl_nn) (n2 := sl_nn) (hx := hx) (hy := hy) (hl := hl) (hl2 := hl2) (hg := hg) (h0 := fun S4 g1 gr1 gc1 g2 gr2 gc2 g1e g2e g1l g2l hk => ?_) ..; have zb := hk _ _ (getx1 zb); have zw := hk _ _ (getx1 zw); have w1e := hk _ _ (getx1 w1e); have w2e := hk _ _ (getx1 w2e); have zx := hk _ _ getl; have x1e := hk _ _ (getx1 x1e); have x2e := hk _ _ (getx1 x2e); have hgne : g1 ≠ g2 := ne_of_64 g1e g2e; have gl1 := getElem?_lt g1e; have gl2 := getElem?_lt g2e; have zxl := getElem?_lt zx; rw [List.length_append] at g1l g2l; simp only [List.length_cons, List.length_nil] at g1l g2l)
    | (have hz9 := w1e; refine d_toPlanS (h1 := sli_up h1) (h2 := sli_up h2) (hx := hx) (hy := hy) (hl := hl) (hl2 := hl2) (h0 := fun S3 x1 x2 x1e x2e x1l x2l xn hk => ?_) ..; have zb := hk _ _ (getx1 zb); have zw := hk _ _ getl; have w1e := hk _ _ (getx1 w1e); have w2e := hk _ _ (getx1 w2e); have xl1 := getElem?_lt x1e; have xl2 := getElem?_lt x2e; rw [List.length_append] at x1l x2l; simp only [List.length_cons, List.length_nil] at x1l x2l)
    | (have hz9 := p1e; refine d_sUndoL (L := L) (hL := hL.symm) (h1 := sli_rows hx p1e) (h2 := sli_rows hy p2e) (n1 := sl_nn) (n2 := sl_nn) (hx := hx) (hy := hy) (hl := hl) (hl2 := hl2) (hg := hg) (h0 := fun S2 w1 wr1 wc1 w2 wr2 wc2 w1e w2e w1l w2l hk => ?_) ..; have zb := hk _ _ zb; have wl1 := getElem?_lt w1e; have wl2 := getElem?_lt w2e)
    | (refine d_toPlanS (h1 := sli_up h1) (h2 := sli_up h2) (hx := hx) (hy := hy) (hl := hl) (hl2 := hl2) (h0 := fun S1 p1 p2 p1e p2e p1l p2l pn hk => ?_) ..; have zb := hk 0 _ rfl)
    | (refine Exists.intro _ (And.intro getl (And.intro rfl (And.intro rfl (And.intro (Nat.le_of_ble_eq_true rfl) ?_)))); rw [set_last])
    | (refine Exists.intro _ (And.intro (getl) (And.intro rfl (And.intro (Nat.le_of_ble_eq_true rfl) ?_))))
    | (refine Exists.intro _ (And.intro (zb) (And.intro rfl (And.intro (Nat.le_of_ble_eq_true rfl) ?_))))
    | (refine Exists.intro _ (And.intro (getx1 zb) (And.intro rfl (And.intro (Nat.le_of_ble_eq_true rfl) ?_))))
    | (refine Exists.intro _ (And.intro (zw) (And.intro rfl (And.intro (Nat.le_of_ble_eq_true rfl) ?_))))
    | (refine Exists.intro _ (And.intro (getx1 zw) (And.intro rfl (And.intro (Nat.le_of_ble_eq_true rfl) ?_))))
    | (refine Exists.intro _ (And.intro (zx) (And.intro rfl (And.intro (Nat.le_of_ble_eq_true rfl) ?_))))
    | (refine Exists.intro _ (And.intro (getx1 zx) (And.intro rfl (And.intro (Nat.le_of_ble_eq_true rfl) ?_))))
    | (refine Exists.intro _ (And.intro (getx1 (getx1 zx)) (And.intro rfl (And.intro (Nat.le_of_ble_eq_true rfl) ?_))))
    | (refine Exists.intro _ (And.intro (zg) (And.intro rfl (And.intro (Nat.le_of_ble_eq_true rfl) ?_))))
    | (refine Exists.intro _ (And.intro (getx1 zg) (And.intro rfl (And.intro (Nat.le_of_ble_eq_true rfl) ?_))))
    | (refine Exists.intro _ (And.intro (getx1 (getx1 zb)) (And.intro rfl (And.intro (Nat.le_of_ble_eq_true rfl) ?_))))
    | (refine Exists.intro _ (And.intro (getx1 getl) (And.intro rfl (And.intro (Nat.le_of_ble_eq_true rfl) ?_))))
    | (refine Exists.intro _ (And.intro rfl (And.intro rfl (And.intro (Nat.le_of_ble_eq_true rfl) ?_))))
    | (refine Exists.intro _ (And.intro rfl (And.intro rfl (And.intro rfl (And.intro (Nat.le_of_ble_eq_true rfl) ?_)))))
    | (refine And.intro (Exists.intro _ (And.intro rfl rfl)) ?_)
    | (exact fun hW => absurd hW (by decide +kernel))
    | (intro hW; (try simp only [Bool.not_true, Bool.not_false, Bool.not_eq_true', Bool.not_eq_false', decide_eq_true_eq, decide_eq_false_iff_not, reduceCtorEq, Bool.true_eq_false, Bool.false_eq_true, mk_size, List.size_toArray, ByteArray.size_append, ByteArray.size_extract, List.length_cons, List.length_nil, ba_get, ba_empty, Int.toNat_natCast] at hW))
    | (refine And.intro (?_ : _ → _) (?_ : _ → _))
    | (refine FinR.drop 0 (Nat.zero_le _) (Closed.zero _) rfl ?_)
    | (refine FinR.keep ?_)
    | (refine And.intro (det3_agg rfl) ?_)
    | (refine fL_mk ?_)
    | (refine And.intro (by (try simp only [mk_size, List.size_toArray, ByteArray.size_append, ByteArray.size_extract, List.length_cons, List.length_nil]); omega) ?_)
    | (refine And.intro (by (try simp only [mk_size, List.size_toArray, ByteArray.size_append, ByteArray.size_extract, List.length_cons, List.length_nil, wrap64_eq]); omega) ?_)
    | fail)
  all_goals first | exact h0 | (exfalso; omega) | (exfalso; simp_all; done) | skip
theorem c_law_UndoStepsQ (a b c d e f : Int) (v1 v2 : Value) (xs ys : List (List Int)) (k : Int) (h1 : Sli W0 [] 6 enI (.lit v1) xs) (h2 : Sli W0 [] 4 enI (.lit v2) ys) (hx : ∀ x ∈ xs, x.length = 6) (hy : ∀ x ∈ ys, x.length = 4) (hm : xs.length ≤ maxLen) (hm2 : ys.length ≤ maxLen) (K : Cont) (h0 : K (Bo true) []) : ACall Try.prog W0 7 [PlA a b c d e f (.lit v1) (.lit v2), I k] [] K := by
  have hm' : xs.length ≤ 9223372036854775807 := hm
  have hm2' : ys.length ≤ 9223372036854775807 := hm2
  by_cases hz : (1048576 : Int) - xs.length - ys.length < 0
  · refine by7 (Nat.le_of_ble_eq_true rfl) ?_
    repeat' ((conv => whnf); first
      | (refine And.intro rfl ?_)
      | (refine And.intro (by decide +kernel) ?_)
      | (refine And.intro trivial ?_)
      | (refine d_szPlan (h1 := sli_up h1) (h2 := sli_up h2) (hl := hm') (hl2 := hm2') (hm := by decide) (h0 := fun h => ?_) (h00 := fun h => ?_) ..)
      | (refine Exists.intro _ (And.intro rfl (And.intro rfl (And.intro (Nat.le_of_ble_eq_true rfl) ?_))))
      | (refine Exists.intro _ (And.intro rfl (And.intro rfl (And.intro rfl (And.intro (Nat.le_of_ble_eq_true rfl) ?_)))))
      | (refine And.intro (Exists.intro _ (And.intro rfl rfl)) ?_)
      | (exact fun hW => absurd hW (by decide +kernel))
      | (intro hW; (try simp only [Bool.not_true, Bool.not_false, Bool.not_eq_true', Bool.not_eq_false', decide_eq_true_eq, decide_eq_false_iff_not, reduceCtorEq, Bool.true_eq_false, Bool.false_eq_true, mk_size, List.size_toArray, ByteArray.size_append, ByteArray.size_extract, List.length_cons, List.length_nil, ba_get, ba_empty, Int.toNat_natCast] at hW))
      | (refine And.intro (?_ : _ → _) (?_ : _ → _))
      | (refine FinR.drop 0 (Nat.zero_le _) (Closed.zero _) rfl ?_)
      | (refine FinR.keep ?_)
      | (refine And.intro (det3_agg rfl) ?_)
      | (refine fL_mk ?_)
      | (refine And.intro (by (try simp only [mk_size, List.size_toArray, ByteArray.size_append, ByteArray.size_extract, List.length_cons, List.length_nil]); omega) ?_)
      | (refine And.intro (by (try simp only [mk_size, List.size_toArray, ByteArray.size_append, ByteArray.size_extract, List.length_cons, List.length_nil, wrap64_eq]); omega) ?_)
      | fail)
    all_goals first | exact h0 | (exfalso; omega) | (exfalso; simp_all; done)
  · by_cases hg : planB a b c d e f xs ys = true ∧ 0 ≤ k ∧ k ≤ ys.length
    · exact c_law_UndoStepsT a b c d e f v1 v2 xs ys k h1 h2 hx hy (by omega) (by omega) hz hg K h0
    · exact c_law_UndoStepsF a b c d e f v1 v2 xs ys k h1 h2 hx hy (by omega) (by omega) hz (by cases hp : planB a b c d e f xs ys with | false => exact .inl rfl | true => exact .inr (fun h => hg ⟨hp, h⟩)) K h0
theorem c_law_UndoSteps (a0 : Int) (ha0 : IntKind.i64.has a0) (a1 : Int) (ha1 : IntKind.i64.has a1) (a2 : Int) (ha2 : IntKind.i64.has a2) (a3 : Int) (ha3 : IntKind.i64.has a3) (a4 : Int) (ha4 : IntKind.i64.has a4) (a5 : Int) (ha5 : IntKind.i64.has a5) (v : Value) (xs : List (List Int)) (sv : Sli W0 [] 6 enI (.lit v) xs) (hv : ∀ x ∈ xs, x.length = 6 ∧ ∀ n ∈ x, IntKind.i64.has n) (mv : xs.length ≤ maxLen) (u : Value) (ys : List (List Int)) (su : Sli W0 [] 4 enI (.lit u) ys) (hu : ∀ x ∈ ys, x.length = 4 ∧ ∀ n ∈ x, IntKind.i64.has n) (mu : ys.length ≤ maxLen) (k : Int) (hk : IntKind.i64.has k) (K : Cont) (h0 : K (Bo true) []) : ACall Try.prog W0 7 [PlA a0 a1 a2 a3 a4 a5 (.lit v) (.lit u), I k] [] K :=
  c_law_UndoStepsQ a0 a1 a2 a3 a4 a5 v u xs ys k sv su (fun x h => (hv x h).1) (fun x h => (hu x h).1) mv mu K h0
end Go.Proofs.Ytbmilmnfhdkfjaa
end
