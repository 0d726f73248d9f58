import Derived.Test.YtkcbhdjhbnnlgaaZS6
section
/- Contracts: DoJob by the program; the law. -/
set_option linter.unusedVariables false
set_option linter.unusedSimpArgs false
set_option maxRecDepth 100000
set_option maxHeartbeats 4000000
namespace Go.Proofs.Ytkcbhdjhbnnlgaa
open Go Go.RowKit Go.Proofs.Ytkcbhdjhbnnlgaa.Abs
variable {W0 : World} {σ : List Blk}
theorem finJ {n m n' m' : Nat} {p q k a b e : Int} {K : Cont} (hn : n < 2 ^ 36) (hm : m < 2 ^ 36) (hp : 0 ≤ p ∧ p ≤ 1000) (hq : 0 ≤ q ∧ q ≤ 1000) (h1 : ∀ n' m' p' q', jobO n m p q k a b = some (n', m', p', q') → K (.tup [SpN n' m' p' q', Bo true]) σ) (h2 : jobO n m p q k a b = none → ∀ c0 c1 c2 c3 c4 c5 c6 c7 c8 c9 c10 c11 c12 c13, K (.tup [Sp c0 c1 c2 c3 c4 c5 c6 c7 c8 c9 c10 c11 c12 c13, Bo false]) σ)
    (he : jobM n m k a b = some (n', m', e)) : K (.tup [SpN n' m' (p + e) (q + 1), Bo (inB (p + e) 0 1000 && inB (q + 1) 0 1000)]) σ := by
  obtain ⟨_, _, hx1, hx2⟩ := jobM_lt hn hm he
  by_cases hb : p + e ≤ 1000 ∧ q + 1 ≤ 1000
  · rw [in1000 (p := p + e) (q := q + 1) (by omega) (by omega)]; exact h1 _ _ _ _ (jobO_some he hb)
  · rw [in1000F hb]; exact h2 (jobO_over he hb) ..
theorem c_job (n m : Nat) (hn : n < 2 ^ 36) (hm : m < 2 ^ 36) (p q : Int) (hp : 0 ≤ p ∧ p ≤ 1000) (hq : 0 ≤ q ∧ q ≤ 1000) (k a b : Int) (K : Cont) (h1 : ∀ n' m' p' q', jobO n m p q k a b = some (n', m', p', q') → K (.tup [SpN n' m' p' q', Bo true]) []) (h2 : jobO n m p q k a b = none → ∀ c0 c1 c2 c3 c4 c5 c6 c7 c8 c9 c10 c11 c12 c13, K (.tup [Sp c0 c1 c2 c3 c4 c5 c6 c7 c8 c9 c10 c11 c12 c13, Bo false]) []) : ACall Try.prog W0 90 [SpN n m p q, Jb k a b] [] K := by
  refine by90 (Nat.le_of_ble_eq_true rfl) ?_
  have ew : IntKind.i64.wrap (q + 1) = q + 1 := wrap_i64 _ (by omega) (by omega)
  have ep : IntKind.i64.wrap (p + 1) = p + 1 := wrap_i64 _ (by omega) (by omega)
  have fin := fun (n' m' : Nat) (e : Int) (he : jobM n m k a b = some (n', m', e)) => finJ hn hm hp hq h1 h2 he
  have non := fun (he : jobM n m k a b = none) => h2 (jobO_none he)
  clear h1 h2
  obtain rfl | h1' := Decidable.em (k = 1)
  · by_cases hc : cellB a b = true
    · obtain ⟨x, y, rfl, rfl, hx, hy⟩ := cell_nat hc
      have h0 := fin _ _ _ (by simp [jobM, hc]; exact ⟨rfl, rfl, rfl⟩)
      rw [← ew, ← ep] at h0
      repeat' ((conv => whnf); first
        | (refine And.intro rfl ?_)
        | (refine And.intro (by decide +kernel) ?_)
        | (refine And.intro trivial ?_)
        | (refine d_ToggleT (hn := hn) (hm := hm) (hx := hx) (hy := hy) (h0 := ?_) ..)
        | (refine d_isShopN (h0 := ?_) ..)
        | (refine Exists.intro _ (And.intro (fun τ => callW_fn (d_isShopN (h0 := And.intro rfl rfl) ..)) ?_))
        | (refine Exists.intro _ (And.intro (callW_fn (d_isShopN (h0 := And.intro rfl rfl) ..)) (And.intro trivial ?_)))
        | (refine Exists.intro _ (And.intro (callW_fn (d_isShopN (h0 := And.intro rfl rfl) ..)) ?_))
        | (refine Exists.intro _ (And.intro (fun τ _ => callW_fn (d_isShopN (h0 := And.intro rfl rfl) ..)) ?_))
        | (refine Exists.intro _ (And.intro rfl (And.intro rfl (And.intro (Nat.le_of_ble_eq_true rfl) ?_))))
        | (refine Exists.intro _ (And.intro rfl (And.intro rfl (And.intro rfl (And.intro (Nat.le_of_ble_eq_true rfl) ?_)))))
        | (refine And.intro (Exists.intro _ (And.intro rfl rfl)) ?_)
        | (exact fun hW => absurd hW (by decide +kernel))
        | (intro hW; (try simp only [Bool.not_true, Bool.not_false, Bool.not_eq_true', Bool.not_eq_false', decide_eq_true_eq, decide_eq_false_iff_not, reduceCtorEq, Bool.true_eq_false, Bool.false_eq_true, mk_size, List.size_toArray, ByteArray.size_append, ByteArray.size_extract, List.length_cons, List.length_nil, ba_get, ba_empty, Int.toNat_natCast] at hW))
        | (refine And.intro (?_ : _ → _) (?_ : _ → _))
        | (refine FinR.drop 0 (Nat.zero_le _) (Closed.zero _) rfl ?_)
        | (refine FinR.keep ?_)
        | (refine And.intro (det3_agg rfl) ?_)
        | (refine fL_mk ?_)
        | (refine And.intro (by (try simp only [mk_size, List.size_toArray, ByteArray.size_append, ByteArray.size_extract, List.length_cons, List.length_nil]); omega) ?_)
        | (refine And.intro (by (try simp only [mk_size, List.size_toArray, ByteArray.size_append, ByteArray.size_extract, List.length_cons, List.length_nil, wrap64_eq]); omega) ?_)
        | fail)
      all_goals first | exact h0 | (exfalso; simp_all; done)
    · have h0 := non (by simp [jobM, hc])
      repeat' ((conv => whnf); first
        | (refine And.intro rfl ?_)
        | (refine And.intro (by decide +kernel) ?_)
        | (refine And.intro trivial ?_)
        | (refine d_ToggleF (hn := hn) (hm := hm) (hc := by simpa using hc) (h0 := ?_) ..)
        | (refine Exists.intro _ (And.intro rfl (And.intro rfl (And.intro (Nat.le_of_ble_eq_true rfl) ?_))))
        | (refine Exists.intro _ (And.intro rfl (And.intro rfl (And.intro rfl (And.intro (Nat.le_of_ble_eq_true rfl) ?_)))))
        | (refine And.intro (Exists.intro _ (And.intro rfl rfl)) ?_)
        | (exact fun hW => absurd hW (by decide +kernel))
        | (intro hW; (try simp only [Bool.not_true, Bool.not_false, Bool.not_eq_true', Bool.not_eq_false', decide_eq_true_eq, decide_eq_false_iff_not, reduceCtorEq, Bool.true_eq_false, Bool.false_eq_true, mk_size, List.size_toArray, ByteArray.size_append, ByteArray.size_extract, List.length_cons, List.length_nil, ba_get, ba_empty, Int.toNat_natCast] at hW))
        | (refine And.intro (?_ : _ → _) (?_ : _ → _))
        | (refine FinR.drop 0 (Nat.zero_le _) (Closed.zero _) rfl ?_)
        | (refine FinR.keep ?_)
        | (refine And.intro (det3_agg rfl) ?_)
        | (refine fL_mk ?_)
        | (refine And.intro (by (try simp only [mk_size, List.size_toArray, ByteArray.size_append, ByteArray.size_extract, List.length_cons, List.length_nil]); omega) ?_)
        | (refine And.intro (by (try simp only [mk_size, List.size_toArray, ByteArray.size_append, ByteArray.size_extract, List.length_cons, List.length_nil, wrap64_eq]); omega) ?_)
        | fail)
      all_goals first | exact h0 .. | (exfalso; simp_all; done)
  obtain rfl | h2' := Decidable.em (k = 2)
  · by_cases hc : cellB a b = true
    · obtain ⟨x, y, rfl, rfl, hx, hy⟩ := cell_nat hc
      have h0 := fin _ _ _ (by simp [jobM, hc]; exact ⟨rfl, rfl, rfl⟩)
      rw [← ew, ← ep] at h0
      repeat' ((conv => whnf); first
        | (refine And.intro rfl ?_)
        | (refine And.intro (by decide +kernel) ?_)
        | (refine And.intro trivial ?_)
        | (refine d_InkT (hn := hn) (hm := hm) (hx := hx) (hy := hy) (h0 := ?_) ..)
        | (refine d_isShopN (h0 := ?_) ..)
        | (refine Exists.intro _ (And.intro (fun τ => callW_fn (d_isShopN (h0 := And.intro rfl rfl) ..)) ?_))
        | (refine Exists.intro _ (And.intro (callW_fn (d_isShopN (h0 := And.intro rfl rfl) ..)) (And.intro trivial ?_)))
        | (refine Exists.intro _ (And.intro (callW_fn (d_isShopN (h0 := And.intro rfl rfl) ..)) ?_))
        | (refine Exists.intro _ (And.intro (fun τ _ => callW_fn (d_isShopN (h0 := And.intro rfl rfl) ..)) ?_))
        | (refine Exists.intro _ (And.intro rfl (And.intro rfl (And.intro (Nat.le_of_ble_eq_true rfl) ?_))))
        | (refine Exists.intro _ (And.intro rfl (And.intro rfl (And.intro rfl (And.intro (Nat.le_of_ble_eq_true rfl) ?_)))))
        | (refine And.intro (Exists.intro _ (And.intro rfl rfl)) ?_)
        | (exact fun hW => absurd hW (by decide +kernel))
        | (intro hW; (try simp only [Bool.not_true, Bool.not_false, Bool.not_eq_true', Bool.not_eq_false', decide_eq_true_eq, decide_eq_false_iff_not, reduceCtorEq, Bool.true_eq_false, Bool.false_eq_true, mk_size, List.size_toArray, ByteArray.size_append, ByteArray.size_extract, List.length_cons, List.length_nil, ba_get, ba_empty, Int.toNat_natCast] at hW))
        | (refine And.intro (?_ : _ → _) (?_ : _ → _))
        | (refine FinR.drop 0 (Nat.zero_le _) (Closed.zero _) rfl ?_)
        | (refine FinR.keep ?_)
        | (refine And.intro (det3_agg rfl) ?_)
        | (refine fL_mk ?_)
        | (refine And.intro (by (try simp only [mk_size, List.size_toArray, ByteArray.size_append, ByteArray.size_extract, List.length_cons, List.length_nil]); omega) ?_)
        | (refine And.intro (by (try simp only [mk_size, List.size_toArray, ByteArray.size_append, ByteArray.size_extract, List.length_cons, List.length_nil, wrap64_eq]); omega) ?_)
        | fail)
      all_goals first | exact h0 | (exfalso; simp_all; done)
    · have h0 := non (by simp [jobM, hc])
      repeat' ((conv => whnf); first
        | (refine And.intro rfl ?_)
        | (refine And.intro (by decide +kernel) ?_)
        | (refine And.intro trivial ?_)
        | (refine d_InkF (hn := hn) (hm := hm) (hc := by simpa using hc) (h0 := ?_) ..)
        | (refine Exists.intro _ (And.intro rfl (And.intro rfl (And.intro (Nat.le_of_ble_eq_true rfl) ?_))))
        | (refine Exists.intro _ (And.intro rfl (And.intro rfl (And.intro rfl (And.intro (Nat.le_of_ble_eq_true rfl) ?_)))))
        | (refine And.intro (Exists.intro _ (And.intro rfl rfl)) ?_)
        | (exact fun hW => absurd hW (by decide +kernel))
        | (intro hW; (try simp only [Bool.not_true, Bool.not_false, Bool.not_eq_true', Bool.not_eq_false', decide_eq_true_eq, decide_eq_false_iff_not, reduceCtorEq, Bool.true_eq_false, Bool.false_eq_true, mk_size, List.size_toArray, ByteArray.size_append, ByteArray.size_extract, List.length_cons, List.length_nil, ba_get, ba_empty, Int.toNat_natCast] at hW))
        | (refine And.intro (?_ : _ → _) (?_ : _ → _))
        | (refine FinR.drop 0 (Nat.zero_le _) (Closed.zero _) rfl ?_)
        | (refine FinR.keep ?_)
        | (refine And.intro (det3_agg rfl) ?_)
        | (refine fL_mk ?_)
        | (refine And.intro (by (try simp only [mk_size, List.size_toArray, ByteArray.size_append, ByteArray.size_extract, List.length_cons, List.length_nil]); omega) ?_)
        | (refine And.intro (by (try simp only [mk_size, List.size_toArray, ByteArray.size_append, ByteArray.size_extract, List.length_cons, List.length_nil, wrap64_eq]); omega) ?_)
        | fail)
      all_goals first | exact h0 .. | (exfalso; simp_all; done)
  obtain rfl | h3' := Decidable.em (k = 3)
  · by_cases hc : cellB a b = true
    · obtain ⟨x, y, rfl, rfl, hx, hy⟩ := cell_nat hc
      have h0 := fin _ _ _ (by simp [jobM, hc]; exact ⟨rfl, rfl, rfl⟩)
      rw [← ew, ← ep] at h0
      repeat' ((conv => whnf); first
        | (refine And.intro rfl ?_)
        | (refine And.intro (by decide +kernel) ?_)
        | (refine And.intro trivial ?_)
        | (refine d_WipeT (hn := hn) (hm := hm) (hx := hx) (hy := hy) (h0 := ?_) ..)
        | (refine d_isShopN (h0 := ?_) ..)
        | (refine Exists.intro _ (And.intro (fun τ => callW_fn (d_isShopN (h0 := And.intro rfl rfl) ..)) ?_))
        | (refine Exists.intro _ (And.intro (callW_fn (d_isShopN (h0 := And.intro rfl rfl) ..)) (And.intro trivial ?_)))
        | (refine Exists.intro _ (And.intro (callW_fn (d_isShopN (h0 := And.intro rfl rfl) ..)) ?_))
        | (refine Exists.intro _ (And.intro (fun τ _ => callW_fn (d_isShopN (h0 := And.intro rfl rfl) ..)) ?_))
        | (refine Exists.intro _ (And.intro rfl (And.intro rfl (And.intro (Nat.le_of_ble_eq_true rfl) ?_))))
        | (refine Exists.intro _ (And.intro rfl (And.intro rfl (And.intro rfl (And.intro (Nat.le_of_ble_eq_true rfl) ?_)))))
        | (refine And.intro (Exists.intro _ (And.intro rfl rfl)) ?_)
        | (exact fun hW => absurd hW (by decide +kernel))
        | (intro hW; (try simp only [Bool.not_true, Bool.not_false, Bool.not_eq_true', Bool.not_eq_false', decide_eq_true_eq, decide_eq_false_iff_not, reduceCtorEq, Bool.true_eq_false, Bool.false_eq_true, mk_size, List.size_toArray, ByteArray.size_append, ByteArray.size_extract, List.length_cons, List.length_nil, ba_get, ba_empty, Int.toNat_natCast] at hW))
        | (refine And.intro (?_ : _ → _) (?_ : _ → _))
        | (refine FinR.drop 0 (Nat.zero_le _) (Closed.zero _) rfl ?_)
        | (refine FinR.keep ?_)
        | (refine And.intro (det3_agg rfl) ?_)
        | (refine fL_mk ?_)
        | (refine And.intro (by (try simp only [mk_size, List.size_toArray, ByteArray.size_append, ByteArray.size_extract, List.length_cons, List.length_nil]); omega) ?_)
        | (refine And.intro (by (try simp only [mk_size, List.size_toArray, ByteArray.size_append, ByteArray.size_extract, List.length_cons, List.length_nil, wrap64_eq]); omega) ?_)
        | fail)
      all_goals first | exact h0 | (exfalso; simp_all; done)
    · have h0 := non (by simp [jobM, hc])
      repeat' ((conv => whnf); first
        | (refine And.intro rfl ?_)
        | (refine And.intro (by decide +kernel) ?_)
        | (refine And.intro trivial ?_)
        | (refine d_WipeF (hn := hn) (hm := hm) (hc := by simpa using hc) (h0 := ?_) ..)
        | (refine Exists.intro _ (And.intro rfl (And.intro rfl (And.intro (Nat.le_of_ble_eq_true rfl) ?_))))
        | (refine Exists.intro _ (And.intro rfl (And.intro rfl (And.intro rfl (And.intro (Nat.le_of_ble_eq_true rfl) ?_)))))
        | (refine And.intro (Exists.intro _ (And.intro rfl rfl)) ?_)
        | (exact fun hW => absurd hW (by decide +kernel))
        | (intro hW; (try simp only [Bool.not_true, Bool.not_false, Bool.not_eq_true', Bool.not_eq_false', decide_eq_true_eq, decide_eq_false_iff_not, reduceCtorEq, Bool.true_eq_false, Bool.false_eq_true, mk_size, List.size_toArray, ByteArray.size_append, ByteArray.size_extract, List.length_cons, List.length_nil, ba_get, ba_empty, Int.toNat_natCast] at hW))
        | (refine And.intro (?_ : _ → _) (?_ : _ → _))
        | (refine FinR.drop 0 (Nat.zero_le _) (Closed.zero _) rfl ?_)
        | (refine FinR.keep ?_)
        | (refine And.intro (det3_agg rfl) ?_)
        | (refine fL_mk ?_)
        | (refine And.intro (by (try simp only [mk_size, List.size_toArray, ByteArray.size_append, ByteArray.size_extract, List.length_cons, List.length_nil]); omega) ?_)
        | (refine And.intro (by (try simp only [mk_size, List.size_toArray, ByteArray.size_append, ByteArray.size_extract, List.length_cons, List.length_nil, wrap64_eq]); omega) ?_)
        | fail)
      all_goals first | exact h0 .. | (exfalso; simp_all; done)
  obtain rfl | h4' := Decidable.em (k = 4)
  · by_cases hc : cellB a b = true
    · obtain ⟨x, y, rfl, rfl, hx, hy⟩ := cell_nat hc
      have h0 := fin _ _ _ (by simp [jobM, hc]; exact ⟨rfl, rfl, rfl⟩)
      rw [← ew, Int.add_zero] at h0
      repeat' ((conv => whnf); first
        | (refine And.intro rfl ?_)
        | (refine And.intro (by decide +kernel) ?_)
        | (refine And.intro trivial ?_)
        | (refine d_ShiftT (hn := hn) (x := x) (y := y) (hx := by omega) (hy := by omega) (h0 := ?_) ..)
        | (refine d_isCell (h0 := ?_) ..)
        | (refine Exists.intro _ (And.intro (fun τ => callW_fn (d_isCell (h0 := And.intro rfl rfl) ..)) ?_))
        | (refine Exists.intro _ (And.intro (callW_fn (d_isCell (h0 := And.intro rfl rfl) ..)) (And.intro trivial ?_)))
        | (refine Exists.intro _ (And.intro (callW_fn (d_isCell (h0 := And.intro rfl rfl) ..)) ?_))
        | (refine Exists.intro _ (And.intro (fun τ _ => callW_fn (d_isCell (h0 := And.intro rfl rfl) ..)) ?_))
        | (refine d_isShopN (h0 := ?_) ..)
        | (refine Exists.intro _ (And.intro (fun τ => callW_fn (d_isShopN (h0 := And.intro rfl rfl) ..)) ?_))
        | (refine Exists.intro _ (And.intro (callW_fn (d_isShopN (h0 := And.intro rfl rfl) ..)) (And.intro trivial ?_)))
        | (refine Exists.intro _ (And.intro (callW_fn (d_isShopN (h0 := And.intro rfl rfl) ..)) ?_))
        | (refine Exists.intro _ (And.intro (fun τ _ => callW_fn (d_isShopN (h0 := And.intro rfl rfl) ..)) ?_))
        | (refine Exists.intro _ (And.intro rfl (And.intro rfl (And.intro (Nat.le_of_ble_eq_true rfl) ?_))))
        | (refine Exists.intro _ (And.intro rfl (And.intro rfl (And.intro rfl (And.intro (Nat.le_of_ble_eq_true rfl) ?_)))))
        | (refine And.intro (Exists.intro _ (And.intro rfl rfl)) ?_)
        | (exact fun hW => absurd hW (by decide +kernel))
        | (intro hW; (try simp only [Bool.not_true, Bool.not_false, Bool.not_eq_true', Bool.not_eq_false', decide_eq_true_eq, decide_eq_false_iff_not, reduceCtorEq, Bool.true_eq_false, Bool.false_eq_true, mk_size, List.size_toArray, ByteArray.size_append, ByteArray.size_extract, List.length_cons, List.length_nil, ba_get, ba_empty, Int.toNat_natCast] at hW))
        | (refine And.intro (?_ : _ → _) (?_ : _ → _))
        | (refine FinR.drop 0 (Nat.zero_le _) (Closed.zero _) rfl ?_)
        | (refine FinR.keep ?_)
        | (refine And.intro (det3_agg rfl) ?_)
        | (refine fL_mk ?_)
        | (refine And.intro (by (try simp only [mk_size, List.size_toArray, ByteArray.size_append, ByteArray.size_extract, List.length_cons, List.length_nil]); omega) ?_)
        | (refine And.intro (by (try simp only [mk_size, List.size_toArray, ByteArray.size_append, ByteArray.size_extract, List.length_cons, List.length_nil, wrap64_eq]); omega) ?_)
        | fail)
      all_goals first | exact h0 | (exfalso; simp_all; done)
    · have h0 := non (by simp [jobM, hc])
      have hx : a % 6 = ((a % 6).toNat : Nat) := by omega
      have hy : b % 6 = ((b % 6).toNat : Nat) := by omega
      have hc' : cellB a b = false := by simpa using hc
      repeat' ((conv => whnf); first
        | (refine And.intro rfl ?_)
        | (refine And.intro (by decide +kernel) ?_)
        | (refine And.intro trivial ?_)
        | (refine d_ShiftT (hn := hn) (hx := hx) (hy := hy) (h0 := ?_) ..)
        | (refine d_isCell (h0 := ?_) ..)
        | (refine Exists.intro _ (And.intro (fun τ => callW_fn (d_isCell (h0 := And.intro rfl rfl) ..)) ?_))
        | (refine Exists.intro _ (And.intro (callW_fn (d_isCell (h0 := And.intro rfl rfl) ..)) (And.intro trivial ?_)))
        | (refine Exists.intro _ (And.intro (callW_fn (d_isCell (h0 := And.intro rfl rfl) ..)) ?_))
        | (refine Exists.intro _ (And.intro (fun τ _ => callW_fn (d_isCell (h0 := And.intro rfl rfl) ..)) ?_))
        | (refine d_isShopN (h0 := ?_) ..)
        | (refine Exists.intro _ (And.intro (fun τ => callW_fn (d_isShopN (h0 := And.intro rfl rfl) ..)) ?_))
        | (refine Exists.intro _ (And.intro (callW_fn (d_isShopN (h0 := And.intro rfl rfl) ..)) (And.intro trivial ?_)))
        | (refine Exists.intro _ (And.intro (callW_fn (d_isShopN (h0 := And.intro rfl rfl) ..)) ?_))
        | (refine Exists.intro _ (And.intro (fun τ _ => callW_fn (d_isShopN (h0 := And.intro rfl rfl) ..)) ?_))
        | (refine Exists.intro _ (And.intro rfl (And.intro rfl (And.intro (Nat.le_of_ble_eq_true rfl) ?_))))
        | (refine Exists.intro _ (And.intro rfl (And.intro rfl (And.intro rfl (And.intro (Nat.le_of_ble_eq_true rfl) ?_)))))
        | (refine And.intro (Exists.intro _ (And.intro rfl rfl)) ?_)
        | (exact fun hW => absurd hW (by decide +kernel))
        | (intro hW; (try simp only [Bool.not_true, Bool.not_false, Bool.not_eq_true', Bool.not_eq_false', decide_eq_true_eq, decide_eq_false_iff_not, reduceCtorEq, Bool.true_eq_false, Bool.false_eq_true, mk_size, List.size_toArray, ByteArray.size_append, ByteArray.size_extract, List.length_cons, List.length_nil, ba_get, ba_empty, Int.toNat_natCast] at hW))
        | (refine And.intro (?_ : _ → _) (?_ : _ → _))
        | (refine FinR.drop 0 (Nat.zero_le _) (Closed.zero _) rfl ?_)
        | (refine FinR.keep ?_)
        | (refine And.intro (det3_agg rfl) ?_)
        | (refine fL_mk ?_)
        | (refine And.intro (by (try simp only [mk_size, List.size_toArray, ByteArray.size_append, ByteArray.size_extract, List.length_cons, List.length_nil]); omega) ?_)
        | (refine And.intro (by (try simp only [mk_size, List.size_toArray, ByteArray.size_append, ByteArray.size_extract, List.length_cons, List.length_nil, wrap64_eq]); omega) ?_)
        | fail)
      all_goals first | exact h0 .. | (exfalso; simp_all; done) | (rw [hc']; exact h0 ..)
  obtain rfl | h5' := Decidable.em (k = 5)
  · by_cases hc : inB a 0 7 = true
    · obtain ⟨x, rfl, hx⟩ := turn_nat hc
      by_cases hb : b = 0
      · subst hb
        have h0 := fin _ _ _ (by simp [jobM, hc]; exact ⟨rfl, rfl, rfl⟩)
        rw [← ew, Int.add_zero] at h0
        repeat' ((conv => whnf); first
          | (refine And.intro rfl ?_)
          | (refine And.intro (by decide +kernel) ?_)
          | (refine And.intro trivial ?_)
          | (refine d_TurnT (hn := hm) (hk := hx) (h0 := ?_) ..)
          | (refine d_isShopN (h0 := ?_) ..)
          | (refine Exists.intro _ (And.intro (fun τ => callW_fn (d_isShopN (h0 := And.intro rfl rfl) ..)) ?_))
          | (refine Exists.intro _ (And.intro (callW_fn (d_isShopN (h0 := And.intro rfl rfl) ..)) (And.intro trivial ?_)))
          | (refine Exists.intro _ (And.intro (callW_fn (d_isShopN (h0 := And.intro rfl rfl) ..)) ?_))
          | (refine Exists.intro _ (And.intro (fun τ _ => callW_fn (d_isShopN (h0 := And.intro rfl rfl) ..)) ?_))
          | (refine Exists.intro _ (And.intro rfl (And.intro rfl (And.intro (Nat.le_of_ble_eq_true rfl) ?_))))
          | (refine Exists.intro _ (And.intro rfl (And.intro rfl (And.intro rfl (And.intro (Nat.le_of_ble_eq_true rfl) ?_)))))
          | (refine And.intro (Exists.intro _ (And.intro rfl rfl)) ?_)
          | (exact fun hW => absurd hW (by decide +kernel))
          | (intro hW; (try simp only [Bool.not_true, Bool.not_false, Bool.not_eq_true', Bool.not_eq_false', decide_eq_true_eq, decide_eq_false_iff_not, reduceCtorEq, Bool.true_eq_false, Bool.false_eq_true, mk_size, List.size_toArray, ByteArray.size_append, ByteArray.size_extract, List.length_cons, List.length_nil, ba_get, ba_empty, Int.toNat_natCast] at hW))
          | (refine And.intro (?_ : _ → _) (?_ : _ → _))
          | (refine FinR.drop 0 (Nat.zero_le _) (Closed.zero _) rfl ?_)
          | (refine FinR.keep ?_)
          | (refine And.intro (det3_agg rfl) ?_)
          | (refine fL_mk ?_)
          | (refine And.intro (by (try simp only [mk_size, List.size_toArray, ByteArray.size_append, ByteArray.size_extract, List.length_cons, List.length_nil]); omega) ?_)
          | (refine And.intro (by (try simp only [mk_size, List.size_toArray, ByteArray.size_append, ByteArray.size_extract, List.length_cons, List.length_nil, wrap64_eq]); omega) ?_)
          | fail)
        all_goals first | exact h0 | (exfalso; simp_all; done)
      · have h0 := non (by simp [jobM, hb])
        repeat' ((conv => whnf); first
          | (refine And.intro rfl ?_)
          | (refine And.intro (by decide +kernel) ?_)
          | (refine And.intro trivial ?_)
          | (refine d_TurnT (hn := hm) (hk := hx) (h0 := ?_) ..)
          | (refine d_isShopN (h0 := ?_) ..)
          | (refine Exists.intro _ (And.intro (fun τ => callW_fn (d_isShopN (h0 := And.intro rfl rfl) ..)) ?_))
          | (refine Exists.intro _ (And.intro (callW_fn (d_isShopN (h0 := And.intro rfl rfl) ..)) (And.intro trivial ?_)))
          | (refine Exists.intro _ (And.intro (callW_fn (d_isShopN (h0 := And.intro rfl rfl) ..)) ?_))
          | (refine Exists.intro _ (And.intro (fun τ _ => callW_fn (d_isShopN (h0 := And.intro rfl rfl) ..)) ?_))
          | (refine Exists.intro _ (And.intro rfl (And.intro rfl (And.intro (Nat.le_of_ble_eq_true rfl) ?_))))
          | (refine Exists.intro _ (And.intro rfl (And.intro rfl (And.intro rfl (And.intro (Nat.le_of_ble_eq_true rfl) ?_)))))
          | (refine And.intro (Exists.intro _ (And.intro rfl rfl)) ?_)
          | (exact fun hW => absurd hW (by decide +kernel))
          | (intro hW; (try simp only [Bool.not_true, Bool.not_false, Bool.not_eq_true', Bool.not_eq_false', decide_eq_true_eq, decide_eq_false_iff_not, reduceCtorEq, Bool.true_eq_false, Bool.false_eq_true, mk_size, List.size_toArray, ByteArray.size_append, ByteArray.size_extract, List.length_cons, List.length_nil, ba_get, ba_empty, Int.toNat_natCast] at hW))
          | (refine And.intro (?_ : _ → _) (?_ : _ → _))
          | (refine FinR.drop 0 (Nat.zero_le _) (Closed.zero _) rfl ?_)
          | (refine FinR.keep ?_)
          | (refine And.intro (det3_agg rfl) ?_)
          | (refine fL_mk ?_)
          | (refine And.intro (by (try simp only [mk_size, List.size_toArray, ByteArray.size_append, ByteArray.size_extract, List.length_cons, List.length_nil]); omega) ?_)
          | (refine And.intro (by (try simp only [mk_size, List.size_toArray, ByteArray.size_append, ByteArray.size_extract, List.length_cons, List.length_nil, wrap64_eq]); omega) ?_)
          | fail)
        all_goals first | exact h0 .. | (exfalso; simp_all; done) | (simp only [decide_eq_false hb]; exact h0 ..)
    · have h0 := non (by simp [jobM, hc])
      repeat' ((conv => whnf); first
        | (refine And.intro rfl ?_)
        | (refine And.intro (by decide +kernel) ?_)
        | (refine And.intro trivial ?_)
        | (refine d_TurnF (hn := hm) (hb := by simpa using hc) (h0 := ?_) ..)
        | (refine Exists.intro _ (And.intro rfl (And.intro rfl (And.intro (Nat.le_of_ble_eq_true rfl) ?_))))
        | (refine Exists.intro _ (And.intro rfl (And.intro rfl (And.intro rfl (And.intro (Nat.le_of_ble_eq_true rfl) ?_)))))
        | (refine And.intro (Exists.intro _ (And.intro rfl rfl)) ?_)
        | (exact fun hW => absurd hW (by decide +kernel))
        | (intro hW; (try simp only [Bool.not_true, Bool.not_false, Bool.not_eq_true', Bool.not_eq_false', decide_eq_true_eq, decide_eq_false_iff_not, reduceCtorEq, Bool.true_eq_false, Bool.false_eq_true, mk_size, List.size_toArray, ByteArray.size_append, ByteArray.size_extract, List.length_cons, List.length_nil, ba_get, ba_empty, Int.toNat_natCast] at hW))
        | (refine And.intro (?_ : _ → _) (?_ : _ → _))
        | (refine FinR.drop 0 (Nat.zero_le _) (Closed.zero _) rfl ?_)
        | (refine FinR.keep ?_)
        | (refine And.intro (det3_agg rfl) ?_)
        | (refine fL_mk ?_)
        | (refine And.intro (by (try simp only [mk_size, List.size_toArray, ByteArray.size_append, ByteArray.size_extract, List.length_cons, List.length_nil]); omega) ?_)
        | (refine And.intro (by (try simp only [mk_size, List.size_toArray, ByteArray.size_append, ByteArray.size_extract, List.length_cons, List.length_nil, wrap64_eq]); omega) ?_)
        | fail)
      all_goals first | exact h0 .. | (exfalso; simp_all; done)
  obtain rfl | h6' := Decidable.em (k = 6)
  · by_cases hc : cellB a b = true
    · obtain ⟨x, y, rfl, rfl, hx, hy⟩ := cell_nat hc
      have h0 := fin _ _ _ (by simp [jobM, hc]; exact ⟨rfl, rfl, rfl⟩)
      rw [← ew, Int.add_zero] at h0
      repeat' ((conv => whnf); first
        | (refine And.intro rfl ?_)
        | (refine And.intro (by decide +kernel) ?_)
        | (refine And.intro trivial ?_)
        | (refine d_FlipT (hn := hm) (hx := hx) (hy := hy) (h0 := ?_) ..)
        | (refine d_isShopN (h0 := ?_) ..)
        | (refine Exists.intro _ (And.intro (fun τ => callW_fn (d_isShopN (h0 := And.intro rfl rfl) ..)) ?_))
        | (refine Exists.intro _ (And.intro (callW_fn (d_isShopN (h0 := And.intro rfl rfl) ..)) (And.intro trivial ?_)))
        | (refine Exists.intro _ (And.intro (callW_fn (d_isShopN (h0 := And.intro rfl rfl) ..)) ?_))
        | (refine Exists.intro _ (And.intro (fun τ _ => callW_fn (d_isShopN (h0 := And.intro rfl rfl) ..)) ?_))
        | (refine Exists.intro _ (And.intro rfl (And.intro rfl (And.intro (Nat.le_of_ble_eq_true rfl) ?_))))
        | (refine Exists.intro _ (And.intro rfl (And.intro rfl (And.intro rfl (And.intro (Nat.le_of_ble_eq_true rfl) ?_)))))
        | (refine And.intro (Exists.intro _ (And.intro rfl rfl)) ?_)
        | (exact fun hW => absurd hW (by decide +kernel))
        | (intro hW; (try simp only [Bool.not_true, Bool.not_false, Bool.not_eq_true', Bool.not_eq_false', decide_eq_true_eq, decide_eq_false_iff_not, reduceCtorEq, Bool.true_eq_false, Bool.false_eq_true, mk_size, List.size_toArray, ByteArray.size_append, ByteArray.size_extract, List.length_cons, List.length_nil, ba_get, ba_empty, Int.toNat_natCast] at hW))
        | (refine And.intro (?_ : _ → _) (?_ : _ → _))
        | (refine FinR.drop 0 (Nat.zero_le _) (Closed.zero _) rfl ?_)
        | (refine FinR.keep ?_)
        | (refine And.intro (det3_agg rfl) ?_)
        | (refine fL_mk ?_)
        | (refine And.intro (by (try simp only [mk_size, List.size_toArray, ByteArray.size_append, ByteArray.size_extract, List.length_cons, List.length_nil]); omega) ?_)
        | (refine And.intro (by (try simp only [mk_size, List.size_toArray, ByteArray.size_append, ByteArray.size_extract, List.length_cons, List.length_nil, wrap64_eq]); omega) ?_)
        | fail)
      all_goals first | exact h0 | (exfalso; simp_all; done)
    · have h0 := non (by simp [jobM, hc])
      repeat' ((conv => whnf); first
        | (refine And.intro rfl ?_)
        | (refine And.intro (by decide +kernel) ?_)
        | (refine And.intro trivial ?_)
        | (refine d_FlipF (hn := hm) (hc := by simpa using hc) (h0 := ?_) ..)
        | (refine Exists.intro _ (And.intro rfl (And.intro rfl (And.intro (Nat.le_of_ble_eq_true rfl) ?_))))
        | (refine Exists.intro _ (And.intro rfl (And.intro rfl (And.intro rfl (And.intro (Nat.le_of_ble_eq_true rfl) ?_)))))
        | (refine And.intro (Exists.intro _ (And.intro rfl rfl)) ?_)
        | (exact fun hW => absurd hW (by decide +kernel))
        | (intro hW; (try simp only [Bool.not_true, Bool.not_false, Bool.not_eq_true', Bool.not_eq_false', decide_eq_true_eq, decide_eq_false_iff_not, reduceCtorEq, Bool.true_eq_false, Bool.false_eq_true, mk_size, List.size_toArray, ByteArray.size_append, ByteArray.size_extract, List.length_cons, List.length_nil, ba_get, ba_empty, Int.toNat_natCast] at hW))
        | (refine And.intro (?_ : _ → _) (?_ : _ → _))
        | (refine FinR.drop 0 (Nat.zero_le _) (Closed.zero _) rfl ?_)
        | (refine FinR.keep ?_)
        | (refine And.intro (det3_agg rfl) ?_)
        | (refine fL_mk ?_)
        | (refine And.intro (by (try simp only [mk_size, List.size_toArray, ByteArray.size_append, ByteArray.size_extract, List.length_cons, List.length_nil]); omega) ?_)
        | (refine And.intro (by (try simp only [mk_size, List.size_toArray, ByteArray.size_append, ByteArray.size_extract, List.length_cons, List.length_nil, wrap64_eq]); omega) ?_)
        | fail)
      all_goals first | exact h0 .. | (exfalso; simp_all; done)
  obtain rfl | h7' := Decidable.em (k = 7)
  · by_cases ha : a = 0
    · subst ha
      by_cases hb : b = 0
      · subst hb
        have h0 := fin _ _ _ (by simp [jobM]; exact ⟨rfl, rfl, rfl⟩)
        rw [← ew, Int.add_zero] at h0
        repeat' ((conv => whnf); first
          | (refine And.intro rfl ?_)
          | (refine And.intro (by decide +kernel) ?_)
          | (refine And.intro trivial ?_)
          | (refine d_isShopN (h0 := ?_) ..)
          | (refine Exists.intro _ (And.intro (fun τ => callW_fn (d_isShopN (h0 := And.intro rfl rfl) ..)) ?_))
          | (refine Exists.intro _ (And.intro (callW_fn (d_isShopN (h0 := And.intro rfl rfl) ..)) (And.intro trivial ?_)))
          | (refine Exists.intro _ (And.intro (callW_fn (d_isShopN (h0 := And.intro rfl rfl) ..)) ?_))
          | (refine Exists.intro _ (And.intro (fun τ _ => callW_fn (d_isShopN (h0 := And.intro rfl rfl) ..)) ?_))
          | (refine Exists.intro _ (And.intro rfl (And.intro rfl (And.intro (Nat.le_of_ble_eq_true rfl) ?_))))
          | (refine Exists.intro _ (And.intro rfl (And.intro rfl (And.intro rfl (And.intro (Nat.le_of_ble_eq_true rfl) ?_)))))
          | (refine And.intro (Exists.intro _ (And.intro rfl rfl)) ?_)
          | (exact fun hW => absurd hW (by decide +kernel))
          | (intro hW; (try simp only [Bool.not_true, Bool.not_false, Bool.not_eq_true', Bool.not_eq_false', decide_eq_true_eq, decide_eq_false_iff_not, reduceCtorEq, Bool.true_eq_false, Bool.false_eq_true, mk_size, List.size_toArray, ByteArray.size_append, ByteArray.size_extract, List.length_cons, List.length_nil, ba_get, ba_empty, Int.toNat_natCast] at hW))
          | (refine And.intro (?_ : _ → _) (?_ : _ → _))
          | (refine FinR.drop 0 (Nat.zero_le _) (Closed.zero _) rfl ?_)
          | (refine FinR.keep ?_)
          | (refine And.intro (det3_agg rfl) ?_)
          | (refine fL_mk ?_)
          | (refine And.intro (by (try simp only [mk_size, List.size_toArray, ByteArray.size_append, ByteArray.size_extract, List.length_cons, List.length_nil]); omega) ?_)
          | (refine And.intro (by (try simp only [mk_size, List.size_toArray, ByteArray.size_append, ByteArray.size_extract, List.length_cons, List.length_nil, wrap64_eq]); omega) ?_)
          | fail)
        all_goals first | exact h0 | (exfalso; simp_all; done)
      · have h0 := non (by simp [jobM, hb])
        repeat' ((conv => whnf); first
          | (refine And.intro rfl ?_)
          | (refine And.intro (by decide +kernel) ?_)
          | (refine And.intro trivial ?_)
          | (refine d_isShopN (h0 := ?_) ..)
          | (refine Exists.intro _ (And.intro (fun τ => callW_fn (d_isShopN (h0 := And.intro rfl rfl) ..)) ?_))
          | (refine Exists.intro _ (And.intro (callW_fn (d_isShopN (h0 := And.intro rfl rfl) ..)) (And.intro trivial ?_)))
          | (refine Exists.intro _ (And.intro (callW_fn (d_isShopN (h0 := And.intro rfl rfl) ..)) ?_))
          | (refine Exists.intro _ (And.intro (fun τ _ => callW_fn (d_isShopN (h0 := And.intro rfl rfl) ..)) ?_))
          | (refine Exists.intro _ (And.intro rfl (And.intro rfl (And.intro (Nat.le_of_ble_eq_true rfl) ?_))))
          | (refine Exists.intro _ (And.intro rfl (And.intro rfl (And.intro rfl (And.intro (Nat.le_of_ble_eq_true rfl) ?_)))))
          | (refine And.intro (Exists.intro _ (And.intro rfl rfl)) ?_)
          | (exact fun hW => absurd hW (by decide +kernel))
          | (intro hW; (try simp only [Bool.not_true, Bool.not_false, Bool.not_eq_true', Bool.not_eq_false', decide_eq_true_eq, decide_eq_false_iff_not, reduceCtorEq, Bool.true_eq_false, Bool.false_eq_true, mk_size, List.size_toArray, ByteArray.size_append, ByteArray.size_extract, List.length_cons, List.length_nil, ba_get, ba_empty, Int.toNat_natCast] at hW))
          | (refine And.intro (?_ : _ → _) (?_ : _ → _))
          | (refine FinR.drop 0 (Nat.zero_le _) (Closed.zero _) rfl ?_)
          | (refine FinR.keep ?_)
          | (refine And.intro (det3_agg rfl) ?_)
          | (refine fL_mk ?_)
          | (refine And.intro (by (try simp only [mk_size, List.size_toArray, ByteArray.size_append, ByteArray.size_extract, List.length_cons, List.length_nil]); omega) ?_)
          | (refine And.intro (by (try simp only [mk_size, List.size_toArray, ByteArray.size_append, ByteArray.size_extract, List.length_cons, List.length_nil, wrap64_eq]); omega) ?_)
          | fail)
        all_goals first | exact h0 .. | (exfalso; simp_all; done) | (simp [hb]; exact h0 ..)
    · have h0 := non (by simp [jobM, ha])
      repeat' ((conv => whnf); first
        | (refine And.intro rfl ?_)
        | (refine And.intro (by decide +kernel) ?_)
        | (refine And.intro trivial ?_)
        | (refine d_isShopN (h0 := ?_) ..)
        | (refine Exists.intro _ (And.intro (fun τ => callW_fn (d_isShopN (h0 := And.intro rfl rfl) ..)) ?_))
        | (refine Exists.intro _ (And.intro (callW_fn (d_isShopN (h0 := And.intro rfl rfl) ..)) (And.intro trivial ?_)))
        | (refine Exists.intro _ (And.intro (callW_fn (d_isShopN (h0 := And.intro rfl rfl) ..)) ?_))
        | (refine Exists.intro _ (And.intro (fun τ _ => callW_fn (d_isShopN (h0 := And.intro rfl rfl) ..)) ?_))
        | (refine Exists.intro _ (And.intro rfl (And.intro rfl (And.intro (Nat.le_of_ble_eq_true rfl) ?_))))
        | (refine Exists.intro _ (And.intro rfl (And.intro rfl (And.intro rfl (And.intro (Nat.le_of_ble_eq_true rfl) ?_)))))
        | (refine And.intro (Exists.intro _ (And.intro rfl rfl)) ?_)
        | (exact fun hW => absurd hW (by decide +kernel))
        | (intro hW; (try simp only [Bool.not_true, Bool.not_false, Bool.not_eq_true', Bool.not_eq_false', decide_eq_true_eq, decide_eq_false_iff_not, reduceCtorEq, Bool.true_eq_false, Bool.false_eq_true, mk_size, List.size_toArray, ByteArray.size_append, ByteArray.size_extract, List.length_cons, List.length_nil, ba_get, ba_empty, Int.toNat_natCast] at hW))
        | (refine And.intro (?_ : _ → _) (?_ : _ → _))
        | (refine FinR.drop 0 (Nat.zero_le _) (Closed.zero _) rfl ?_)
        | (refine FinR.keep ?_)
        | (refine And.intro (det3_agg rfl) ?_)
        | (refine fL_mk ?_)
        | (refine And.intro (by (try simp only [mk_size, List.size_toArray, ByteArray.size_append, ByteArray.size_extract, List.length_cons, List.length_nil]); omega) ?_)
        | (refine And.intro (by (try simp only [mk_size, List.size_toArray, ByteArray.size_append, ByteArray.size_extract, List.length_cons, List.length_nil, wrap64_eq]); omega) ?_)
        | fail)
      all_goals first | exact h0 .. | (exfalso; simp_all; done) | (simp [ha]; exact h0 ..)
  · have h0 := non (by simp [jobM, h1', h2', h3', h4', h5', h6', h7'])
    repeat' ((conv => whnf); first
      | (refine And.intro rfl ?_)
      | (refine And.intro (by decide +kernel) ?_)
      | (refine And.intro trivial ?_)
      | (refine d_isShopN (h0 := ?_) ..)
      | (refine Exists.intro _ (And.intro (fun τ => callW_fn (d_isShopN (h0 := And.intro rfl rfl) ..)) ?_))
      | (refine Exists.intro _ (And.intro (callW_fn (d_isShopN (h0 := And.intro rfl rfl) ..)) (And.intro trivial ?_)))
      | (refine Exists.intro _ (And.intro (callW_fn (d_isShopN (h0 := And.intro rfl rfl) ..)) ?_))
      | (refine Exists.intro _ (And.intro (fun τ _ => callW_fn (d_isShopN (h0 := And.intro rfl rfl) ..)) ?_))
      | (refine Exists.intro _ (And.intro rfl (And.intro rfl (And.intro (Nat.le_of_ble_eq_true rfl) ?_))))
      | (refine Exists.intro _ (And.intro rfl (And.intro rfl (And.intro rfl (And.intro (Nat.le_of_ble_eq_true rfl) ?_)))))
      | (refine And.intro (Exists.intro _ (And.intro rfl rfl)) ?_)
      | (exact fun hW => absurd hW (by decide +kernel))
      | (intro hW; (try simp only [Bool.not_true, Bool.not_false, Bool.not_eq_true', Bool.not_eq_false', decide_eq_true_eq, decide_eq_false_iff_not, reduceCtorEq, Bool.true_eq_false, Bool.false_eq_true, mk_size, List.size_toArray, ByteArray.size_append, ByteArray.size_extract, List.length_cons, List.length_nil, ba_get, ba_empty, Int.toNat_natCast] at hW))
      | (refine And.intro (?_ : _ → _) (?_ : _ → _))
      | (refine FinR.drop 0 (Nat.zero_le _) (Closed.zero _) rfl ?_)
      | (refine FinR.keep ?_)
      | (refine And.intro (det3_agg rfl) ?_)
      | (refine fL_mk ?_)
      | (refine And.intro (by (try simp only [mk_size, List.size_toArray, ByteArray.size_append, ByteArray.size_extract, List.length_cons, List.length_nil]); omega) ?_)
      | (refine And.intro (by (try simp only [mk_size, List.size_toArray, ByteArray.size_append, ByteArray.size_extract, List.length_cons, List.length_nil, wrap64_eq]); omega) ?_)
      | fail)
    all_goals first | exact h0 .. | (exfalso; simp_all; done)
end Go.Proofs.Ytkcbhdjhbnnlgaa
end

section
/- Contracts: DoJob; the law. -/
set_option linter.unusedVariables false
set_option linter.unusedSimpArgs false
set_option maxRecDepth 100000
set_option maxHeartbeats 4000000
namespace Go.Proofs.Ytkcbhdjhbnnlgaa
open Go Go.RowKit Go.Proofs.Ytkcbhdjhbnnlgaa.Abs
variable {W0 : World} {σ : List Blk}
theorem d_job (n m : Nat) (hn : n < 2 ^ 36) (hm : m < 2 ^ 36) (p q : Int) (hp : 0 ≤ p ∧ p ≤ 1000) (hq : 0 ≤ q ∧ q ≤ 1000) (k a b : Int) (K : Cont) (h1 : ∀ n' m' p' q', jobO n m p q k a b = some (n', m', p', q') → K (.tup [SpN n' m' p' q', Bo true]) σ) (h2 : jobO n m p q k a b = none → ∀ c0 c1 c2 c3 c4 c5 c6 c7 c8 c9 c10 c11 c12 c13, K (.tup [Sp c0 c1 c2 c3 c4 c5 c6 c7 c8 c9 c10 c11 c12 c13, Bo false]) σ) : ACall Try.prog W0 90 [SpN n m p q, Jb k a b] σ K := by
  refine ACall.frame (K0 := fun v σ' => σ' = [] ∧ ((∃ n' m' p' q', jobO n m p q k a b = some (n', m', p', q') ∧ v = .tup [SpN n' m' p' q', Bo true]) ∨ (jobO n m p q k a b = none ∧ ∃ c0 c1 c2 c3 c4 c5 c6 c7 c8 c9 c10 c11 c12 c13, v = .tup [Sp c0 c1 c2 c3 c4 c5 c6 c7 c8 c9 c10 c11 c12 c13, Bo false]))) rfl
    (fun W1 _ => c_job n m hn hm p q hp hq k a b _ (fun n' m' p' q' h => ⟨rfl, .inl ⟨n', m', p', q', h, rfl⟩⟩) (fun h c0 c1 c2 c3 c4 c5 c6 c7 c8 c9 c10 c11 c12 c13 => ⟨rfl, .inr ⟨h, c0, c1, c2, c3, c4, c5, c6, c7, c8, c9, c10, c11, c12, c13, rfl⟩⟩)) ?_
  have e : σ ++ shB σ.length [] = σ := by simp [shB]
  rintro v σ' ⟨rfl, ⟨n', m', p', q', h, rfl⟩ | ⟨h, c0, c1, c2, c3, c4, c5, c6, c7, c8, c9, c10, c11, c12, c13, rfl⟩⟩
  · rw [e]; exact h1 n' m' p' q' h
  · rw [e]; exact h2 h ..
theorem d_jobT (n m n' m' : Nat) (hn : n < 2 ^ 36) (hm : m < 2 ^ 36) (p q p' q' : Int) (hp : 0 ≤ p ∧ p ≤ 1000) (hq : 0 ≤ q ∧ q ≤ 1000) (k a b : Int) (hj : jobO n m p q k a b = some (n', m', p', q')) (K : Cont) (h0 : K (.tup [SpN n' m' p' q', Bo true]) σ) : ACall Try.prog W0 90 [SpN n m p q, Jb k a b] σ K :=
  d_job n m hn hm p q hp hq k a b K (fun a b c d h => by rw [hj] at h; cases h; exact h0) (fun h => by rw [hj] at h; cases h)
theorem c_sDoJobT (n m n' m' : Nat) (hn : n < 2 ^ 36) (hm : m < 2 ^ 36) (p q p' q' : Int) (hp : 0 ≤ p ∧ p ≤ 1000) (hq : 0 ≤ q ∧ q ≤ 1000) (k a b : Int) (hj : jobO n m p q k a b = some (n', m', p', q')) (K : Cont) (h0 : K (.tup [SpN n' m' p' q', Bo true]) []) : ACall Try.prog W0 33 [SpN n m p q, Jb k a b] [] K := by
  exact c_sDoJob n m hn hm p q hp hq k a b K (fun a b c d h => by rw [hj] at h; cases h; exact h0) (fun h => by rw [hj] at h; cases h)
theorem d_sDoJobT (n m n' m' : Nat) (hn : n < 2 ^ 36) (hm : m < 2 ^ 36) (p q p' q' : Int) (hp : 0 ≤ p ∧ p ≤ 1000) (hq : 0 ≤ q ∧ q ≤ 1000) (k a b : Int) (hj : jobO n m p q k a b = some (n', m', p', q')) (K : Cont) (h0 : K (.tup [SpN n' m' p' q', Bo true]) σ) : ACall Try.prog W0 33 [SpN n m p q, Jb k a b] σ K :=
  ACall.lift rfl (fun _ => rfl) (fun W1 K _ hK => c_sDoJobT n m n' m' hn hm p q p' q' hp hq k a b hj K hK) h0
theorem c_sDoJobN (n m : Nat) (hn : n < 2 ^ 36) (hm : m < 2 ^ 36) (p q : Int) (hp : 0 ≤ p ∧ p ≤ 1000) (hq : 0 ≤ q ∧ q ≤ 1000) (k a b : Int) (hj : jobO n m p q k a b = none) (K : Cont) (h0 : K (.tup [Sp0, Bo false]) []) : ACall Try.prog W0 33 [SpN n m p q, Jb k a b] [] K := by
  exact c_sDoJob n m hn hm p q hp hq k a b K (fun a b c d h => by rw [hj] at h; cases h) (fun _ => h0)
theorem d_sDoJobN (n m : Nat) (hn : n < 2 ^ 36) (hm : m < 2 ^ 36) (p q : Int) (hp : 0 ≤ p ∧ p ≤ 1000) (hq : 0 ≤ q ∧ q ≤ 1000) (k a b : Int) (hj : jobO n m p q k a b = none) (K : Cont) (h0 : K (.tup [Sp0, Bo false]) σ) : ACall Try.prog W0 33 [SpN n m p q, Jb k a b] σ K :=
  ACall.lift rfl (fun _ => rfl) (fun W1 K _ hK => c_sDoJobN n m hn hm p q hp hq k a b hj K hK) h0
theorem c_DoJobT (n m n' m' : Nat) (hn : n < 2 ^ 36) (hm : m < 2 ^ 36) (p q p' q' : Int) (hp : 0 ≤ p ∧ p ≤ 1000) (hq : 0 ≤ q ∧ q ≤ 1000) (k a b : Int) (hj : jobO n m p q k a b = some (n', m', p', q')) (K : Cont) (h0 : K (.tup [SpN n' m' p' q', Bo true]) []) : ACall Try.prog W0 32 [SpN n m p q, Jb k a b] [] K := by
  refine by32 (Nat.le_of_ble_eq_true rfl) ?_
  have hg := in1000 hp hq
  repeat' ((conv => whnf); first
    | (refine And.intro rfl ?_)
    | (refine And.intro (by decide +kernel) ?_)
    | (refine And.intro trivial ?_)
    | (refine d_isShopN (h0 := ?_) ..)
    | (refine Exists.intro _ (And.intro (fun τ => callW_fn (d_isShopN (h0 := And.intro rfl rfl) ..)) ?_))
    | (refine Exists.intro _ (And.intro (callW_fn (d_isShopN (h0 := And.intro rfl rfl) ..)) (And.intro trivial ?_)))
    | (refine Exists.intro _ (And.intro (callW_fn (d_isShopN (h0 := And.intro rfl rfl) ..)) ?_))
    | (refine Exists.intro _ (And.intro (fun τ _ => callW_fn (d_isShopN (h0 := And.intro rfl rfl) ..)) ?_))
    | (refine d_jobT (hn := hn) (hm := hm) (hp := hp) (hq := hq) (hj := hj) (h0 := ?_) ..)
    | (refine Exists.intro _ (And.intro rfl (And.intro rfl (And.intro (Nat.le_of_ble_eq_true rfl) ?_))))
    | (refine Exists.intro _ (And.intro rfl (And.intro rfl (And.intro rfl (And.intro (Nat.le_of_ble_eq_true rfl) ?_)))))
    | (refine And.intro (Exists.intro _ (And.intro rfl rfl)) ?_)
    | (exact fun hW => absurd hW (by decide +kernel))
    | (intro hW; (try simp only [Bool.not_true, Bool.not_false, Bool.not_eq_true', Bool.not_eq_false', decide_eq_true_eq, decide_eq_false_iff_not, reduceCtorEq, Bool.true_eq_false, Bool.false_eq_true, mk_size, List.size_toArray, ByteArray.size_append, ByteArray.size_extract, List.length_cons, List.length_nil, ba_get, ba_empty, Int.toNat_natCast] at hW))
    | (refine And.intro (?_ : _ → _) (?_ : _ → _))
    | (refine FinR.drop 0 (Nat.zero_le _) (Closed.zero _) rfl ?_)
    | (refine FinR.keep ?_)
    | (refine And.intro (det3_agg rfl) ?_)
    | (refine fL_mk ?_)
    | (refine And.intro (by (try simp only [mk_size, List.size_toArray, ByteArray.size_append, ByteArray.size_extract, List.length_cons, List.length_nil]); omega) ?_)
    | (refine And.intro (by (try simp only [mk_size, List.size_toArray, ByteArray.size_append, ByteArray.size_extract, List.length_cons, List.length_nil, wrap64_eq]); omega) ?_)
    | fail)
  all_goals first | exact h0 | (exfalso; simp_all; done)
theorem d_DoJobT (n m n' m' : Nat) (hn : n < 2 ^ 36) (hm : m < 2 ^ 36) (p q p' q' : Int) (hp : 0 ≤ p ∧ p ≤ 1000) (hq : 0 ≤ q ∧ q ≤ 1000) (k a b : Int) (hj : jobO n m p q k a b = some (n', m', p', q')) (K : Cont) (h0 : K (.tup [SpN n' m' p' q', Bo true]) σ) : ACall Try.prog W0 32 [SpN n m p q, Jb k a b] σ K :=
  ACall.lift rfl (fun _ => rfl) (fun W1 K _ hK => c_DoJobT n m n' m' hn hm p q p' q' hp hq k a b hj K hK) h0
theorem c_DoJobN (n m : Nat) (hn : n < 2 ^ 36) (hm : m < 2 ^ 36) (p q : Int) (hp : 0 ≤ p ∧ p ≤ 1000) (hq : 0 ≤ q ∧ q ≤ 1000) (k a b : Int) (hj : jobO n m p q k a b = none) (K : Cont) (h0 : K (.tup [Sp0, Bo false]) []) : ACall Try.prog W0 32 [SpN n m p q, Jb k a b] [] K := by
  refine by32 (Nat.le_of_ble_eq_true rfl) ?_
  have hg := in1000 hp hq
  repeat' ((conv => whnf); first
    | (refine And.intro rfl ?_)
    | (refine And.intro (by decide +kernel) ?_)
    | (refine And.intro trivial ?_)
    | (refine d_isShopN (h0 := ?_) ..)
    | (refine Exists.intro _ (And.intro (fun τ => callW_fn (d_isShopN (h0 := And.intro rfl rfl) ..)) ?_))
    | (refine Exists.intro _ (And.intro (callW_fn (d_isShopN (h0 := And.intro rfl rfl) ..)) (And.intro trivial ?_)))
    | (refine Exists.intro _ (And.intro (callW_fn (d_isShopN (h0 := And.intro rfl rfl) ..)) ?_))
    | (refine Exists.intro _ (And.intro (fun τ _ => callW_fn (d_isShopN (h0 := And.intro rfl rfl) ..)) ?_))
    | (refine d_job (hn := hn) (hm := hm) (hp := hp) (hq := hq) (h1 := fun a b c d h => by rw [hj] at h; cases h) (h2 := fun h c0 c1 c2 c3 c4 c5 c6 c7 c8 c9 c10 c11 c12 c13 => ?_) ..)
    | (refine Exists.intro _ (And.intro rfl (And.intro rfl (And.intro (Nat.le_of_ble_eq_true rfl) ?_))))
    | (refine Exists.intro _ (And.intro rfl (And.intro rfl (And.intro rfl (And.intro (Nat.le_of_ble_eq_true rfl) ?_)))))
    | (refine And.intro (Exists.intro _ (And.intro rfl rfl)) ?_)
    | (exact fun hW => absurd hW (by decide +kernel))
    | (intro hW; (try simp only [Bool.not_true, Bool.not_false, Bool.not_eq_true', Bool.not_eq_false', decide_eq_true_eq, decide_eq_false_iff_not, reduceCtorEq, Bool.true_eq_false, Bool.false_eq_true, mk_size, List.size_toArray, ByteArray.size_append, ByteArray.size_extract, List.length_cons, List.length_nil, ba_get, ba_empty, Int.toNat_natCast] at hW))
    | (refine And.intro (?_ : _ → _) (?_ : _ → _))
    | (refine FinR.drop 0 (Nat.zero_le _) (Closed.zero _) rfl ?_)
    | (refine FinR.keep ?_)
    | (refine And.intro (det3_agg rfl) ?_)
    | (refine fL_mk ?_)
    | (refine And.intro (by (try simp only [mk_size, List.size_toArray, ByteArray.size_append, ByteArray.size_extract, List.length_cons, List.length_nil]); omega) ?_)
    | (refine And.intro (by (try simp only [mk_size, List.size_toArray, ByteArray.size_append, ByteArray.size_extract, List.length_cons, List.length_nil, wrap64_eq]); omega) ?_)
    | fail)
  all_goals first | exact h0 | (exfalso; simp_all; done)
theorem d_DoJobN (n m : Nat) (hn : n < 2 ^ 36) (hm : m < 2 ^ 36) (p q : Int) (hp : 0 ≤ p ∧ p ≤ 1000) (hq : 0 ≤ q ∧ q ≤ 1000) (k a b : Int) (hj : jobO n m p q k a b = none) (K : Cont) (h0 : K (.tup [Sp0, Bo false]) σ) : ACall Try.prog W0 32 [SpN n m p q, Jb k a b] σ K :=
  ACall.lift rfl (fun _ => rfl) (fun W1 K _ hK => c_DoJobN n m hn hm p q hp hq k a b hj K hK) h0
theorem shop_N {a b c d e f a' b' c' d' e' f' p q : Int} (h : shopB a b c d e f a' b' c' d' e' f' p q = true) : ∃ n m : Nat, n < 2 ^ 36 ∧ m < 2 ^ 36 ∧ Sp a b c d e f a' b' c' d' e' f' p q = SpN n m p q ∧ (0 ≤ p ∧ p ≤ 1000) ∧ (0 ≤ q ∧ q ≤ 1000) := by
  simp only [shopB, Bool.and_eq_true] at h
  obtain ⟨⟨⟨h1, h2⟩, h3⟩, h4⟩ := h
  obtain ⟨n, hn, e0, e1, e2, e3, e4, e5⟩ := shN_of h1
  obtain ⟨m, hm, g0, g1, g2, g3, g4, g5⟩ := shN_of h2
  refine ⟨n, m, hn, hm, ?_, (inB_iff _ _ _).1 h3, (inB_iff _ _ _).1 h4⟩
  rw [← e0, ← e1, ← e2, ← e3, ← e4, ← e5, ← g0, ← g1, ← g2, ← g3, ← g4, ← g5]
end Go.Proofs.Ytkcbhdjhbnnlgaa
end

section
/- Contracts: lists of jobs. -/
set_option linter.unusedVariables false
set_option linter.unusedSimpArgs false
set_option maxRecDepth 100000
set_option maxHeartbeats 4000000
namespace Go.Proofs.Ytkcbhdjhbnnlgaa
open Go Go.RowKit Go.Proofs.Ytkcbhdjhbnnlgaa.Abs
variable {W0 : World} {σ : List Blk}
theorem wsucc' (x : Nat) (hx : x < 4611686018427387904) : IntKind.i64.wrap ((x : Int) + 1) = ((x + 1 : Nat) : Int) := by rw [wrap_i64 _ (by omega) (by omega)]; omega
abbrev enI (l : List Int) : List Value := l.map (Value.int .i64)
/-- the cells of a list of rows -/
def jc (l : List (List Int)) : List AV := (l.map fun x => x.map I).flatten
theorem jc_len {s : Nat} : ∀ {l : List (List Int)}, (∀ x ∈ l, x.length = s) → (jc l).length = l.length * s
  | [], _ => by simp [jc]
  | x :: l, h => by
    have h1 := jc_len (l := l) fun y hy => h y (List.mem_cons_of_mem _ hy)
    have h2 := h x List.mem_cons_self
    show (x.map I ++ jc l).length = _
    rw [List.length_append, List.length_map, h1, h2, List.length_cons, Nat.add_mul]; omega
theorem jc_snoc (l : List (List Int)) (x : List Int) : jc (l ++ [x]) = jc l ++ x.map I := by simp [jc]
theorem jc_sh (k : Nat) (l : List (List Int)) : (jc l).map (sh1 k) = jc l := by
  unfold jc
  induction l with
  | nil => rfl
  | cons x l ih =>
    simp only [List.map_cons, List.flatten_cons, List.map_append, ih]
    congr 1
    rw [List.map_map]; rfl
/-- an own list of jobs -/
theorem jc_get {s : Nat} {xs : List (List Int)} (hx : ∀ x ∈ xs, x.length = s) {i : Nat} {x : List Int} (hi : xs[i]? = some x) {j : Nat} {n : Int} (hj : x[j]? = some n) : (jc xs)[i * s + j]? = some (I n) := by
  have hlt := getElem?_lt hi
  have hl : (jc (xs.take i)).length = i * s := by rw [jc_len (s := s) fun x h => hx x (List.mem_of_mem_take h), List.length_take, Nat.min_eq_left (by omega)]
  have e : xs = xs.take i ++ x :: xs.drop (i + 1) := by
    rw [← List.take_append_drop i xs]
    simp only [List.take_append_drop]
    conv => lhs; rw [← List.take_append_drop i xs]
    rw [List.drop_eq_getElem_cons hlt, (List.getElem?_eq_some_iff.1 hi).2]
  have e2 : jc xs = jc (xs.take i) ++ (x.map I ++ jc (xs.drop (i + 1))) := by
    conv => lhs; rw [e]
    simp [jc]
  rw [e2, List.getElem?_append_right (by omega), hl, show i * s + j - i * s = j by omega, List.getElem?_append_left (by rw [List.length_map]; exact getElem?_lt hj), List.getElem?_map, hj]; rfl
end Go.Proofs.Ytkcbhdjhbnnlgaa
end

section
/- Contracts: lists of numbers and of pairs that the laws compare, mark, hold. -/
set_option linter.unusedVariables false
set_option linter.unusedSimpArgs false
set_option maxRecDepth 100000
set_option maxHeartbeats 4000000
namespace Go.Proofs.Ytkcbhdjhbnnlgaa
open Go Go.RowKit Go.Proofs.Ytkcbhdjhbnnlgaa.Abs
variable {W0 : World} {σ : List Blk}
theorem fS_mk {l : List Blk} {K : List Blk → Prop} (h : K l) : fS l K := by rw [fS_eq]; exact h
theorem get_set {α : Type} {l : List α} {i : Nat} {a b : α} (h : l[i]? = some a) : (l.set i b)[i]? = some b := by
  rw [List.getElem?_set_self (getElem?_lt h)]
abbrev en1 (n : Int) : List Value := [.int .i64 n]
end Go.Proofs.Ytkcbhdjhbnnlgaa
end

section
/- Contracts: pairs, prints: made, compared, marked. -/
set_option linter.unusedVariables false
set_option linter.unusedSimpArgs false
set_option maxRecDepth 100000
set_option maxHeartbeats 4000000
namespace Go.Proofs.Ytkcbhdjhbnnlgaa
open Go Go.RowKit Go.Proofs.Ytkcbhdjhbnnlgaa.Abs
variable {W0 : World} {σ : List Blk}
theorem sli_rows {xs : List (List Int)} {b ver s : Nat} {e : TypeId} {z : Nat} {r m : Bool} {cap : Nat} (hx : ∀ x ∈ xs, x.length = s) (hb : σ[b]? = some ⟨jc xs, ver, e, z, r, m⟩) : Sli W0 σ s enI (.sl b ver 0 xs.length cap) xs :=
  .own b ver 0 _ cap _ _ hb rfl rfl fun i x hi j v hj => by
    rw [List.getElem?_map, Option.map_eq_some_iff] at hj
    obtain ⟨n, hn, rfl⟩ := hj
    rw [Nat.zero_add]
    exact jc_get hx hi hn
/-! prints -/
abbrev Pr (a b c d e f g h i : Int) : AV := .agg [I a, I b, I c, I d, I e, I f, I g, I h, I i]
abbrev z9 : List AV := [I 0, I 0, I 0, I 0, I 0, I 0, I 0, I 0, I 0]
end Go.Proofs.Ytkcbhdjhbnnlgaa
end

section
/- Contracts: CommonCells. -/
set_option linter.unusedVariables false
set_option linter.unusedSimpArgs false
namespace Go.Proofs.Ytkcbhdjhbnnlgaa
open Go Go.RowKit Go.Proofs.Ytkcbhdjhbnnlgaa.Abs
variable {W0 : World} {σ : List Blk}
abbrev R64 (a b c d e f : Nat) : Prop := a < 64 ∧ b < 64 ∧ c < 64 ∧ d < 64 ∧ e < 64 ∧ f < 64
theorem c_l2AndN (a b c d e f a' b' c' d' e' f' : Nat) (h : R64 a b c d e f) (h' : R64 a' b' c' d' e' f') (K : Cont) (h0 : K (Sh (a &&& a' : Nat) (b &&& b' : Nat) (c &&& c' : Nat) (d &&& d' : Nat) (e &&& e' : Nat) (f &&& f' : Nat)) []) : ACall Try.prog W0 69 [Sh a b c d e f, Sh a' b' c' d' e' f'] [] K := by
  refine c_l2And _ _ _ _ _ _ _ _ _ _ _ _ K ?_
  rw [row_and a h.1 a' h'.1, row_and b h.2.1 b' h'.2.1, row_and c h.2.2.1 c' h'.2.2.1, row_and d h.2.2.2.1 d' h'.2.2.2.1, row_and e h.2.2.2.2.1 e' h'.2.2.2.2.1, row_and f h.2.2.2.2.2 f' h'.2.2.2.2.2]
  exact h0
theorem d_l2AndN (a b c d e f a' b' c' d' e' f' : Nat) (h : R64 a b c d e f) (h' : R64 a' b' c' d' e' f') (K : Cont) (h0 : K (Sh (a &&& a' : Nat) (b &&& b' : Nat) (c &&& c' : Nat) (d &&& d' : Nat) (e &&& e' : Nat) (f &&& f' : Nat)) σ) : ACall Try.prog W0 69 [Sh a b c d e f, Sh a' b' c' d' e' f'] σ K :=
  ACall.lift rfl (fun _ => rfl) (fun W1 K _ hK => c_l2AndN a b c d e f a' b' c' d' e' f' h h' K hK) h0
theorem c_l2CountN (a b c d e f : Nat) (h : R64 a b c d e f) (K : Cont) (h0 : K (I (ones 64 (setN a b c d e f) : Nat)) []) : ACall Try.prog W0 93 [Sh a b c d e f] [] K := by
  obtain ⟨ha, hb, hc, hd, he, hf⟩ := h
  refine c_l2Count _ _ _ _ _ _ (by omega) (by omega) (by omega) (by omega) (by omega) (by omega) K ?_
  rw [ones_setN a b c d e f ha hb hc hd he hf] at h0
  have e1 : (0 : Int) + pcz a + pcz b + pcz c + pcz d + pcz e + pcz f = ((ones 6 a + (ones 6 b + (ones 6 c + (ones 6 d + (ones 6 e + ones 6 f)))) : Nat) : Int) := by
    simp only [pcz, Int.toNat_natCast]; omega
  rw [e1]; exact h0
theorem d_l2CountN (a b c d e f : Nat) (h : R64 a b c d e f) (K : Cont) (h0 : K (I (ones 64 (setN a b c d e f) : Nat)) σ) : ACall Try.prog W0 93 [Sh a b c d e f] σ K :=
  ACall.lift rfl (fun _ => rfl) (fun W1 K _ hK => c_l2CountN a b c d e f h K hK) h0
theorem shB6_nat (a b c d e f : Nat) (h : R64 a b c d e f) : shB6 a b c d e f = true := by
  obtain ⟨ha, hb, hc, hd, he, hf⟩ := h
  simp only [shB6, Bool.and_eq_true, inB_iff]; omega
theorem R64_and {a b c d e f a' b' c' d' e' f' : Nat} (h : R64 a b c d e f) : R64 (a &&& a') (b &&& b') (c &&& c') (d &&& d') (e &&& e') (f &&& f') :=
  ⟨row_and_lt _ _ h.1, row_and_lt _ _ h.2.1, row_and_lt _ _ h.2.2.1, row_and_lt _ _ h.2.2.2.1, row_and_lt _ _ h.2.2.2.2.1, row_and_lt _ _ h.2.2.2.2.2⟩
theorem c_sCommonT (a b c d e f a' b' c' d' e' f' : Nat) (p q : Int) (h : R64 a b c d e f) (h' : R64 a' b' c' d' e' f') (hb : shopB a b c d e f a' b' c' d' e' f' p q = true) (K : Cont) (h0 : K (.tup [I (ones 64 (setN (a &&& a') (b &&& b') (c &&& c') (d &&& d') (e &&& e') (f &&& f')) : Nat), Bo true]) []) : ACall Try.prog W0 38 [Sp a b c d e f a' b' c' d' e' f' p q] [] K := by
  refine by38 (Nat.le_of_ble_eq_true rfl) ?_
  repeat' ((conv => whnf); first
    | (refine And.intro rfl ?_)
    | (refine And.intro (by decide +kernel) ?_)
    | (refine And.intro trivial ?_)
    | (refine d_l12Good (h0 := ?_) ..)
    | (refine Exists.intro _ (And.intro (fun τ => callW_fn (d_l12Good (h0 := And.intro rfl rfl) ..)) ?_))
    | (refine Exists.intro _ (And.intro (callW_fn (d_l12Good (h0 := And.intro rfl rfl) ..)) (And.intro trivial ?_)))
    | (refine Exists.intro _ (And.intro (callW_fn (d_l12Good (h0 := And.intro rfl rfl) ..)) ?_))
    | (refine Exists.intro _ (And.intro (fun τ _ => callW_fn (d_l12Good (h0 := And.intro rfl rfl) ..)) ?_))
    | (refine d_l2AndN (h := h) (h' := h') (h0 := ?_) ..)
    | (refine Exists.intro _ (And.intro (fun τ => callW_fn (d_l2AndN (h := h) (h' := h') (h0 := And.intro rfl rfl) ..)) ?_))
    | (refine Exists.intro _ (And.intro (callW_fn (d_l2AndN (h := h) (h' := h') (h0 := And.intro rfl rfl) ..)) (And.intro trivial ?_)))
    | (refine Exists.intro _ (And.intro (callW_fn (d_l2AndN (h := h) (h' := h') (h0 := And.intro rfl rfl) ..)) ?_))
    | (refine Exists.intro _ (And.intro (fun τ _ => callW_fn (d_l2AndN (h := h) (h' := h') (h0 := And.intro rfl rfl) ..)) ?_))
    | (refine d_l2CountN (h := R64_and h) (h0 := ?_) ..)
    | (refine Exists.intro _ (And.intro (fun τ => callW_fn (d_l2CountN (h := R64_and h) (h0 := And.intro rfl rfl) ..)) ?_))
    | (refine Exists.intro _ (And.intro (callW_fn (d_l2CountN (h := R64_and h) (h0 := And.intro rfl rfl) ..)) (And.intro trivial ?_)))
    | (refine Exists.intro _ (And.intro (callW_fn (d_l2CountN (h := R64_and h) (h0 := And.intro rfl rfl) ..)) ?_))
    | (refine Exists.intro _ (And.intro (fun τ _ => callW_fn (d_l2CountN (h := R64_and h) (h0 := And.intro rfl rfl) ..)) ?_))
    | (refine Exists.intro _ (And.intro rfl (And.intro rfl (And.intro (Nat.le_of_ble_eq_true rfl) ?_))))
    | (refine Exists.intro _ (And.intro rfl (And.intro rfl (And.intro rfl (And.intro (Nat.le_of_ble_eq_true rfl) ?_)))))
    | (refine And.intro (Exists.intro _ (And.intro rfl rfl)) ?_)
    | (exact fun hW => absurd hW (by decide +kernel))
    | (intro hW; (try simp only [Bool.not_true, Bool.not_false, Bool.not_eq_true', Bool.not_eq_false', decide_eq_true_eq, decide_eq_false_iff_not, reduceCtorEq, Bool.true_eq_false, Bool.false_eq_true, mk_size, List.size_toArray, ByteArray.size_append, ByteArray.size_extract, List.length_cons, List.length_nil, ba_get, ba_empty, Int.toNat_natCast] at hW))
    | (refine And.intro (?_ : _ → _) (?_ : _ → _))
    | (refine FinR.drop 0 (Nat.zero_le _) (Closed.zero _) rfl ?_)
    | (refine FinR.keep ?_)
    | (refine And.intro (det3_agg rfl) ?_)
    | (refine fL_mk ?_)
    | (refine And.intro (by (try simp only [mk_size, List.size_toArray, ByteArray.size_append, ByteArray.size_extract, List.length_cons, List.length_nil]); omega) ?_)
    | (refine And.intro (by (try simp only [mk_size, List.size_toArray, ByteArray.size_append, ByteArray.size_extract, List.length_cons, List.length_nil, wrap64_eq]); omega) ?_)
    | fail)
  all_goals first | (with_reducible exact h0) | (exfalso; simp_all; done) | exact h0
theorem d_sCommonT (a b c d e f a' b' c' d' e' f' : Nat) (p q : Int) (h : R64 a b c d e f) (h' : R64 a' b' c' d' e' f') (hb : shopB a b c d e f a' b' c' d' e' f' p q = true) (K : Cont) (h0 : K (.tup [I (ones 64 (setN (a &&& a') (b &&& b') (c &&& c') (d &&& d') (e &&& e') (f &&& f')) : Nat), Bo true]) σ) : ACall Try.prog W0 38 [Sp a b c d e f a' b' c' d' e' f' p q] σ K :=
  ACall.lift rfl (fun _ => rfl) (fun W1 K _ hK => c_sCommonT a b c d e f a' b' c' d' e' f' p q h h' hb K hK) h0
theorem c_sCommonF (a b c d e f a' b' c' d' e' f' p q : Int) (hb : shopB a b c d e f a' b' c' d' e' f' p q = false) (K : Cont) (h0 : K (.tup [I 0, Bo false]) []) : ACall Try.prog W0 38 [Sp a b c d e f a' b' c' d' e' f' p q] [] K := by
  refine by38 (Nat.le_of_ble_eq_true rfl) ?_
  repeat' ((conv => whnf); first
    | (refine And.intro rfl ?_)
    | (refine And.intro (by decide +kernel) ?_)
    | (refine And.intro trivial ?_)
    | (refine d_l12Good (h0 := ?_) ..)
    | (refine Exists.intro _ (And.intro (fun τ => callW_fn (d_l12Good (h0 := And.intro rfl rfl) ..)) ?_))
    | (refine Exists.intro _ (And.intro (callW_fn (d_l12Good (h0 := And.intro rfl rfl) ..)) (And.intro trivial ?_)))
    | (refine Exists.intro _ (And.intro (callW_fn (d_l12Good (h0 := And.intro rfl rfl) ..)) ?_))
    | (refine Exists.intro _ (And.intro (fun τ _ => callW_fn (d_l12Good (h0 := And.intro rfl rfl) ..)) ?_))
    | (exfalso; simp_all; done)
    | (refine Exists.intro _ (And.intro rfl (And.intro rfl (And.intro (Nat.le_of_ble_eq_true rfl) ?_))))
    | (refine Exists.intro _ (And.intro rfl (And.intro rfl (And.intro rfl (And.intro (Nat.le_of_ble_eq_true rfl) ?_)))))
    | (refine And.intro (Exists.intro _ (And.intro rfl rfl)) ?_)
    | (exact fun hW => absurd hW (by decide +kernel))
    | (intro hW; (try simp only [Bool.not_true, Bool.not_false, Bool.not_eq_true', Bool.not_eq_false', decide_eq_true_eq, decide_eq_false_iff_not, reduceCtorEq, Bool.true_eq_false, Bool.false_eq_true, mk_size, List.size_toArray, ByteArray.size_append, ByteArray.size_extract, List.length_cons, List.length_nil, ba_get, ba_empty, Int.toNat_natCast] at hW))
    | (refine And.intro (?_ : _ → _) (?_ : _ → _))
    | (refine FinR.drop 0 (Nat.zero_le _) (Closed.zero _) rfl ?_)
    | (refine FinR.keep ?_)
    | (refine And.intro (det3_agg rfl) ?_)
    | (refine fL_mk ?_)
    | (refine And.intro (by (try simp only [mk_size, List.size_toArray, ByteArray.size_append, ByteArray.size_extract, List.length_cons, List.length_nil]); omega) ?_)
    | (refine And.intro (by (try simp only [mk_size, List.size_toArray, ByteArray.size_append, ByteArray.size_extract, List.length_cons, List.length_nil, wrap64_eq]); omega) ?_)
    | fail)
  all_goals first | (with_reducible exact h0) | (exfalso; simp_all; done) | exact h0
theorem d_sCommonF (a b c d e f a' b' c' d' e' f' p q : Int) (hb : shopB a b c d e f a' b' c' d' e' f' p q = false) (K : Cont) (h0 : K (.tup [I 0, Bo false]) σ) : ACall Try.prog W0 38 [Sp a b c d e f a' b' c' d' e' f' p q] σ K :=
  ACall.lift rfl (fun _ => rfl) (fun W1 K _ hK => c_sCommonF a b c d e f a' b' c' d' e' f' p q hb K hK) h0
end Go.Proofs.Ytkcbhdjhbnnlgaa
end

section
/- Contracts: prints and their cells; lists of prints; layers. -/
set_option linter.unusedVariables false
set_option linter.unusedSimpArgs false
set_option maxRecDepth 100000
set_option maxHeartbeats 4000000
namespace Go.Proofs.Ytkcbhdjhbnnlgaa
open Go Go.RowKit Go.Proofs.Ytkcbhdjhbnnlgaa.Abs
variable {W0 : World} {σ : List Blk}
/-- a valid print by its parts -/
structure PrParts (x : List Int) where
  n : Nat
  u : Nat
  v : Nat
end Go.Proofs.Ytkcbhdjhbnnlgaa
end

section
/- Contracts: layers of prints. -/
set_option linter.unusedVariables false
set_option linter.unusedSimpArgs false
set_option maxRecDepth 100000
set_option maxHeartbeats 4000000
namespace Go.Proofs.Ytkcbhdjhbnnlgaa
open Go Go.RowKit Go.Proofs.Ytkcbhdjhbnnlgaa.Abs
variable {W0 : World} {σ : List Blk}
theorem sli_lit {α : Type} {W0 : World} {s : Nat} {enc : α → List Value} {a : AV} {xs : List α} (h : Sli W0 [] s enc a xs) : ∃ v, a = .lit v := by
  cases h with
  | nil => exact ⟨_, rfl⟩
  | inn ad n cap xs hn hc hm hb hx => exact ⟨_, rfl⟩
  | own b ver off n cap B xs hB => simp at hB
end Go.Proofs.Ytkcbhdjhbnnlgaa
end

section
/- Contracts: places of layers of which something is so. -/
set_option linter.unusedVariables false
set_option linter.unusedSimpArgs false
set_option maxRecDepth 100000
set_option maxHeartbeats 4000000
namespace Go.Proofs.Ytkcbhdjhbnnlgaa
open Go Go.RowKit Go.Proofs.Ytkcbhdjhbnnlgaa.Abs
variable {W0 : World} {σ : List Blk}
/-- the places at which something is so, rising; and those from the end on, falling -/
def selN (q : Nat → Bool) : Nat → List Int
  | 0 => []
  | n + 1 => selN q n ++ if q n then [(n : Int)] else []
end Go.Proofs.Ytkcbhdjhbnnlgaa
end

section
/- Contracts: hidden and whole prints. -/
set_option linter.unusedVariables false
set_option linter.unusedSimpArgs false
set_option maxRecDepth 100000
set_option maxHeartbeats 4000000
namespace Go.Proofs.Ytkcbhdjhbnnlgaa
open Go Go.RowKit Go.Proofs.Ytkcbhdjhbnnlgaa.Abs
variable {W0 : World} {σ : List Blk}
/-- a contract of a slice, its results told one by one -/
theorem lift_S1 {α : Type} {enc : α → List Value} {g : FuncId} {a : AV} {xs : List α} {s : Nat} {ι : Type} (r : ι → AV) (β : ι → List Blk) (hok : callOK Try.prog g = true) (hs : Sli W0 σ s enc a xs)
    (h : ∀ (W1 : World) (a' : AV), Sli W1 [] s enc a' xs → ∀ K : Cont, (∀ i, K (r i) (β i)) → ACall Try.prog W1 g [a'] [] K) (K : Cont) (h0 : ∀ i, K (sh3 σ.length (r i)) (σ ++ shB σ.length (β i))) : ACall Try.prog W0 g [a] σ K := by
  refine ACall.frameA (K0 := fun v σ' => ∃ i, v = r i ∧ σ' = β i) hok (fun W1 ι vs hh hrr => ?_) ?_
  · obtain ⟨v1, vs', rfl, hr1, hr2⟩ := Rels.uncons hrr
    obtain ⟨a', ha, hs'⟩ := hs.conc hh ⟨v1, hr1⟩
    obtain rfl := hr2.nil_inv
    exact ⟨[a'], Rels.cons (ha _ hr1) Rels.nil, h W1 a' hs' _ (fun i => ⟨i, rfl, rfl⟩)⟩
  · rintro v σ' ⟨i, rfl, rfl⟩; exact h0 i
abbrev outB (l : List Int) : Blk := ⟨l.map I, l.length, 3, 1, true, true⟩
abbrev nilA : AV := .lit (.slice none 0 0)
/-! the reference: what is seen of prints -/
def shR (n : Nat) : List Int := [(rowN n 0 : Nat), (rowN n 1 : Nat), (rowN n 2 : Nat), (rowN n 3 : Nat), (rowN n 4 : Nat), (rowN n 5 : Nat)]
abbrev z6 : List Int := [0, 0, 0, 0, 0, 0]
end Go.Proofs.Ytkcbhdjhbnnlgaa
end

section
/- Contracts: prints that overlap. -/
set_option linter.unusedVariables false
set_option linter.unusedSimpArgs false
set_option maxRecDepth 100000
set_option maxHeartbeats 4000000
namespace Go.Proofs.Ytkcbhdjhbnnlgaa
open Go Go.RowKit Go.Proofs.Ytkcbhdjhbnnlgaa.Abs
variable {W0 : World} {σ : List Blk}
/-- pairs of places -/
def inn (q : Nat → Nat → Bool) (i : Nat) : Nat → List (List Int)
  | 0 => []
  | m + 1 => inn q i m ++ if q i (i + 1 + m) then [[(i : Int), ((i + 1 + m : Nat) : Int)]] else []
abbrev prsB (l : List (List Int)) : Blk := ⟨jc l, l.length, 27, 2, true, true⟩
end Go.Proofs.Ytkcbhdjhbnnlgaa
end

section
/- Contracts: pictures. -/
set_option linter.unusedVariables false
set_option linter.unusedSimpArgs false
set_option maxRecDepth 100000
set_option maxHeartbeats 4000000
namespace Go.Proofs.Ytkcbhdjhbnnlgaa
open Go Go.RowKit Go.Proofs.Ytkcbhdjhbnnlgaa.Abs
variable {W0 : World} {σ : List Blk}
abbrev Pi (q : List Int) : AV := .agg (q.map I)
abbrev z36 : List Int := List.replicate 36 0
end Go.Proofs.Ytkcbhdjhbnnlgaa
end

section
/- Contracts: orders of prints: lists of numbers. -/
set_option linter.unusedVariables false
set_option linter.unusedSimpArgs false
set_option maxRecDepth 100000
set_option maxHeartbeats 4000000
namespace Go.Proofs.Ytkcbhdjhbnnlgaa
open Go Go.RowKit Go.Proofs.Ytkcbhdjhbnnlgaa.Abs
variable {W0 : World} {σ : List Blk}
/-- a slice that came in, nil or not -/
theorem sli_form {α : Type} {s : Nat} {enc : α → List Value} {a : AV} {xs : List α} (h : Sli W0 [] s enc a xs) : ∃ o n cap, a = .lit (.slice o n cap) ∧ n = xs.length ∧ n ≤ cap ∧ cap ≤ maxLen ∧ ∀ (i : Nat) (x : α), xs[i]? = some x → ∃ ad, o = some ad ∧ ad.block < W0.heap.size ∧ ∀ i x, xs[i]? = some x → ∀ j v, (enc x)[j]? = some v → W0.cell? ((ad.add (i * s)).add j) = some v ∧ v.oneCell' = true := by
  cases h with
  | nil => exact ⟨none, 0, 0, rfl, rfl, Nat.le_refl _, Nat.zero_le _, fun i x h => by simp at h⟩
  | inn ad n cap xs hn hc hm hb hx => exact ⟨some ad, n, cap, rfl, hn, hc, hm, fun i x h => ⟨ad, rfl, hb, hx⟩⟩
  | own b ver off n cap B xs hB => simp at hB
end Go.Proofs.Ytkcbhdjhbnnlgaa
end

section
/- Contracts: lists in order; blocks that grow. -/
set_option linter.unusedVariables false
set_option linter.unusedSimpArgs false
set_option maxRecDepth 100000
set_option maxHeartbeats 4000000
namespace Go.Proofs.Ytkcbhdjhbnnlgaa
open Go Go.RowKit Go.Proofs.Ytkcbhdjhbnnlgaa.Abs
variable {W0 : World} {σ : List Blk}
theorem getl {σ : List Blk} {B : Blk} : (σ ++ [B])[σ.length]? = some B := by simp
theorem set_last {σ : List Blk} {B B' : Blk} : (σ ++ [B]).set σ.length B' = σ ++ [B'] := by
  rw [List.set_append_right _ _ (Nat.le_refl _), Nat.sub_self]; rfl
theorem getx1 {σ τ : List Blk} {b : Nat} {B : Blk} (h : σ[b]? = some B) : (σ ++ τ)[b]? = some B := by
  rw [List.getElem?_append_left (getElem?_lt h)]; exact h
/-! the first one of the shortest -/
section
variable (M : Nat → Bool) (s : Nat → List Int) (pl : List Int)
end
abbrev plainL (n : Nat) : List Int := selN (fun _ => true) n
end Go.Proofs.Ytkcbhdjhbnnlgaa
end

section
/- Contracts: choices read from bytes. -/
set_option linter.unusedVariables false
set_option linter.unusedSimpArgs false
set_option maxRecDepth 100000
set_option maxHeartbeats 4000000
namespace Go.Proofs.Ytkcbhdjhbnnlgaa
open Go Go.RowKit Go.Proofs.Ytkcbhdjhbnnlgaa.Abs
variable {W0 : World} {σ : List Blk}
/-- bytes in memory -/
abbrev enB (x : Int) : List Value := [.int .u8 x]
/-- a cursor over bytes -/
abbrev CurB (v : Value) (at' : Nat) (sd : Int) : Blk := ⟨[.lit v, I at', U sd], 0, 92, 0, false, false⟩
/-- a cursor lies at b, and has gone so far at most -/
def CurAt (b : Nat) (v : Value) (n : Nat) (R : List Blk) : Prop := ∃ (a : Nat) (sd : Int), a ≤ n ∧ R[b]? = some (CurB v a sd)
/-- all blocks but one are as they were -/
def Keeps (b : Nat) (σ R : List Blk) : Prop := σ.length ≤ R.length ∧ ∀ (j : Nat) (B : Blk), j ≠ b → σ[j]? = some B → R[j]? = some B
theorem Keeps.refl {b : Nat} {σ : List Blk} : Keeps b σ σ := ⟨Nat.le_refl _, fun _ _ _ h => h⟩
theorem Keeps.trans {b : Nat} {σ R S : List Blk} (h : Keeps b σ R) (k : Keeps b R S) : Keeps b σ S := ⟨Nat.le_trans h.1 k.1, fun j B hj hB => k.2 j B hj (h.2 j B hj hB)⟩
theorem Keeps.set {b : Nat} {σ : List Blk} {X : Blk} : Keeps b σ (σ.set b X) := ⟨by rw [List.length_set]; exact Nat.le_refl _, fun j B hj hB => by rw [List.getElem?_set_ne (Ne.symm hj)]; exact hB⟩
theorem Keeps.app {b : Nat} {σ τ : List Blk} : Keeps b σ (σ ++ τ) := ⟨by rw [List.length_append]; omega, fun j B hj hB => getx1 hB⟩
theorem Keeps.setT {b : Nat} {σ R : List Blk} {X : Blk} (h : Keeps b σ R) : Keeps b σ (R.set b X) := h.trans .set
/-- the bytes that a cursor reads -/
structure Code (W0 : World) (v : Value) (xs : List Int) : Prop where
  sli : Sli W0 [] 1 enB (.lit v) xs
  rng : ∀ x ∈ xs, 0 ≤ x ∧ x < 256
  len : xs.length ≤ 1048576
theorem and255 (y : Int) : 0 ≤ bAnd .u64 y 255 ∧ bAnd .u64 y 255 < 256 := by
  have h : ∃ n : Nat, bAnd .u64 y 255 = IntKind.u64.wrap (n : Int) ∧ n < 256 := by
    refine ⟨(BitVec.ofInt 64 y &&& BitVec.ofInt 64 255).toNat, rfl, ?_⟩
    rw [BitVec.toNat_and]
    exact Nat.lt_of_le_of_lt Nat.and_le_right (by decide)
  obtain ⟨n, h1, h2⟩ := h
  rw [h1, wrap_u64 _ (by omega)]; omega
theorem wrap255 (y : Int) : IntKind.i64.wrap (bAnd .u64 y 255) = bAnd .u64 y 255 := by have := and255 y; exact wrap_i64 _ (by omega) (by omega)
theorem d_next (b n : Nat) (v : Value) (xs : List Int) (hcd : Code W0 v xs) (hc : CurAt b v n σ) (hn : n < 1000000000) (K : Cont) (h0 : ∀ x R, 0 ≤ x → x < 256 → CurAt b v (n + 1) R → Keeps b σ R → K (I x) R) : ACall Try.prog W0 112 [.ptr b 0 0] σ K := by
  obtain ⟨a, sd, ha, hB⟩ := hc
  refine by112 (Nat.le_of_ble_eq_true rfl) ?_
  obtain ⟨o, m, cap, hv, hm, hmc, hcm, hel⟩ := sli_form hcd.sli
  cases hv
  subst hm
  have c1 : IntKind.i64.wrap ((a : Int) + 1) = ((a + 1 : Nat) : Int) := by rw [wrap_i64 _ (by omega) (by omega)]; rfl
  by_cases hlt : a < xs.length
  · obtain ⟨ad, rfl, hb, hxx⟩ := hel 0 xs[0] (List.getElem?_eq_getElem (by omega))
    have hxi : xs[a]? = some xs[a] := List.getElem?_eq_getElem hlt
    have hr := hcd.rng xs[a] (List.getElem_mem hlt)
    generalize xs[a] = x at hxi hr
    have hld := fun C h => ldIn (W0 := W0) (s := 1) (enc := enB) hb hxx (k := a) hxi rfl (C := C) h
    have cx : IntKind.i64.wrap x = x := wrap_i64 _ (by omega) (by omega)
    repeat' ((conv => whnf); first
      | (refine And.intro rfl ?_)
      | (refine And.intro (by decide +kernel) ?_)
      | (refine And.intro trivial ?_)
      | (refine fS_mk ?_)
      | (refine And.intro ⟨_, hB, rfl⟩ ?_)
      | (refine Exists.intro _ (And.intro (hB) (And.intro rfl (And.intro (Nat.le_of_ble_eq_true rfl) ?_))))
      | (refine Exists.intro _ (And.intro (hB) (And.intro rfl (And.intro rfl (And.intro (Nat.le_of_ble_eq_true rfl) ?_)))))
      | (refine And.intro ⟨_, get_set hB, rfl⟩ ?_)
      | (refine Exists.intro _ (And.intro (get_set hB) (And.intro rfl (And.intro (Nat.le_of_ble_eq_true rfl) ?_))))
      | (refine Exists.intro _ (And.intro (get_set hB) (And.intro rfl (And.intro rfl (And.intro (Nat.le_of_ble_eq_true rfl) ?_)))))
      | (refine And.intro ⟨_, get_set (get_set hB), rfl⟩ ?_)
      | (refine Exists.intro _ (And.intro (get_set (get_set hB)) (And.intro rfl (And.intro (Nat.le_of_ble_eq_true rfl) ?_))))
      | (refine Exists.intro _ (And.intro (get_set (get_set hB)) (And.intro rfl (And.intro rfl (And.intro (Nat.le_of_ble_eq_true rfl) ?_)))))
      | (refine hld _ ?_)
      | (refine Exists.intro _ (And.intro rfl (And.intro rfl (And.intro (Nat.le_of_ble_eq_true rfl) ?_))))
      | (refine Exists.intro _ (And.intro rfl (And.intro rfl (And.intro rfl (And.intro (Nat.le_of_ble_eq_true rfl) ?_)))))
      | (refine And.intro (Exists.intro _ (And.intro rfl rfl)) ?_)
      | (exact fun hW => absurd hW (by decide +kernel))
      | (intro hW; (try simp only [Bool.not_true, Bool.not_false, Bool.not_eq_true', Bool.not_eq_false', decide_eq_true_eq, decide_eq_false_iff_not, reduceCtorEq, Bool.true_eq_false, Bool.false_eq_true, mk_size, List.size_toArray, ByteArray.size_append, ByteArray.size_extract, List.length_cons, List.length_nil, ba_get, ba_empty, Int.toNat_natCast] at hW))
      | (refine And.intro (?_ : _ → _) (?_ : _ → _))
      | (refine FinR.drop 0 (Nat.zero_le _) (Closed.zero _) rfl ?_)
      | (refine FinR.keep ?_)
      | (refine And.intro (det3_agg rfl) ?_)
      | (refine fL_mk ?_)
      | (refine And.intro (by (try simp only [mk_size, List.size_toArray, ByteArray.size_append, ByteArray.size_extract, List.length_cons, List.length_nil]); omega) ?_)
      | (refine And.intro (by (try simp only [mk_size, List.size_toArray, ByteArray.size_append, ByteArray.size_extract, List.length_cons, List.length_nil, wrap64_eq]); omega) ?_)
      | fail)
    all_goals first
      | (exfalso; omega)
      | (refine h0 _ _ ?_ ?_ ⟨a + 1, _, by omega, (get_set (get_set hB)).trans (show some (⟨[.lit _, I (IntKind.i64.wrap ((a : Int) + 1)), U _], 0, _, 0, false, false⟩ : Blk) = _ from by rw [c1])⟩ (Keeps.set.setT)
         all_goals first
           | (rw [cx]; omega)
           | (show 0 ≤ IntKind.i64.wrap (bAnd _ _ _); rw [wrap255]; exact (and255 _).1)
           | (show IntKind.i64.wrap (bAnd _ _ _) < 256; rw [wrap255]; exact (and255 _).2)
           | (show (0 : Int) ≤ 0; decide)
           | (show (0 : Int) < 256; decide))
      | skip
  · skip
    repeat' ((conv => whnf); first
      | (refine And.intro rfl ?_)
      | (refine And.intro (by decide +kernel) ?_)
      | (refine And.intro trivial ?_)
      | (refine fS_mk ?_)
      | (refine And.intro ⟨_, hB, rfl⟩ ?_)
      | (refine Exists.intro _ (And.intro (hB) (And.intro rfl (And.intro (Nat.le_of_ble_eq_true rfl) ?_))))
      | (refine Exists.intro _ (And.intro (hB) (And.intro rfl (And.intro rfl (And.intro (Nat.le_of_ble_eq_true rfl) ?_)))))
      | (refine And.intro ⟨_, get_set hB, rfl⟩ ?_)
      | (refine Exists.intro _ (And.intro (get_set hB) (And.intro rfl (And.intro (Nat.le_of_ble_eq_true rfl) ?_))))
      | (refine Exists.intro _ (And.intro (get_set hB) (And.intro rfl (And.intro rfl (And.intro (Nat.le_of_ble_eq_true rfl) ?_)))))
      | (refine And.intro ⟨_, get_set (get_set hB), rfl⟩ ?_)
      | (refine Exists.intro _ (And.intro (get_set (get_set hB)) (And.intro rfl (And.intro (Nat.le_of_ble_eq_true rfl) ?_))))
      | (refine Exists.intro _ (And.intro (get_set (get_set hB)) (And.intro rfl (And.intro rfl (And.intro (Nat.le_of_ble_eq_true rfl) ?_)))))
      | (refine Exists.intro _ (And.intro rfl (And.intro rfl (And.intro (Nat.le_of_ble_eq_true rfl) ?_))))
      | (refine Exists.intro _ (And.intro rfl (And.intro rfl (And.intro rfl (And.intro (Nat.le_of_ble_eq_true rfl) ?_)))))
      | (refine And.intro (Exists.intro _ (And.intro rfl rfl)) ?_)
      | (exact fun hW => absurd hW (by decide +kernel))
      | (intro hW; (try simp only [Bool.not_true, Bool.not_false, Bool.not_eq_true', Bool.not_eq_false', decide_eq_true_eq, decide_eq_false_iff_not, reduceCtorEq, Bool.true_eq_false, Bool.false_eq_true, mk_size, List.size_toArray, ByteArray.size_append, ByteArray.size_extract, List.length_cons, List.length_nil, ba_get, ba_empty, Int.toNat_natCast] at hW))
      | (refine And.intro (?_ : _ → _) (?_ : _ → _))
      | (refine FinR.drop 0 (Nat.zero_le _) (Closed.zero _) rfl ?_)
      | (refine FinR.keep ?_)
      | (refine And.intro (det3_agg rfl) ?_)
      | (refine fL_mk ?_)
      | (refine And.intro (by (try simp only [mk_size, List.size_toArray, ByteArray.size_append, ByteArray.size_extract, List.length_cons, List.length_nil]); omega) ?_)
      | (refine And.intro (by (try simp only [mk_size, List.size_toArray, ByteArray.size_append, ByteArray.size_extract, List.length_cons, List.length_nil, wrap64_eq]); omega) ?_)
      | fail)
    all_goals first
      | (exfalso; omega)
      | (refine h0 _ _ ?_ ?_ ⟨a + 1, _, by omega, (get_set (get_set hB)).trans (show some (⟨[.lit _, I (IntKind.i64.wrap ((a : Int) + 1)), U _], 0, _, 0, false, false⟩ : Blk) = _ from by rw [c1])⟩ (Keeps.set.setT)
         all_goals first
           | (rw [cx]; omega)
           | (show 0 ≤ IntKind.i64.wrap (bAnd _ _ _); rw [wrap255]; exact (and255 _).1)
           | (show IntKind.i64.wrap (bAnd _ _ _) < 256; rw [wrap255]; exact (and255 _).2)
           | (show (0 : Int) ≤ 0; decide)
           | (show (0 : Int) < 256; decide))
      | skip
end Go.Proofs.Ytkcbhdjhbnnlgaa
end

section
/- From a contract to the statement: bytes that came in. -/
set_option linter.unusedVariables false
set_option linter.unusedSimpArgs false
namespace Go.Proofs.Ytkcbhdjhbnnlgaa
open Go Go.RowKit Go.Proofs.Ytkcbhdjhbnnlgaa.Abs Go.ChangeShapes Go.WideShapes
section
variable {H : Type} {enc : TypeId × Value → H} {P : Program} {w : World} {base : Nat} {spare : Nat → Bool} {held : Bool}
theorem sli_argB {t e : TypeId} {v : Value} {d : DataW H} {ps : List MemPlace} {b0 : Nat} (ht : P.underlying t = some (.slice e)) (he : P.underlying e = some (.int .u8)) (hs : P.cellsOf e = 1) (hv : Value.okWide P w .any b0 t v)
    (h : DataW.Trod enc P w base spare held t v d ps) : ∃ xs : List Int, Sli w [] 1 enB (.lit v) xs ∧ (∀ x ∈ xs, 0 ≤ x ∧ x < 256) ∧ xs.length ≤ maxLen := by
  obtain ⟨fuel, h⟩ := h
  have hc : v.cells.toList = [v] := by
    unfold Value.okWide at hv
    rw [ht] at hv
    unfold Cell.okWide at hv
    rw [ht] at hv
    unfold Cell.ok at hv
    rw [ht] at hv
    cases v <;> first | rfl | exact hv.elim
  rw [hc] at h
  generalize (d, ps) = z at h
  rcases Deep.open_slice ht h with ⟨hc, _⟩ | ⟨a, len, cap, m, n, D, Pl, hc, hb, hl, hm, hmm, rfl, hx⟩
  · cases hc
    exact ⟨[], .nil, (fun x hx => by cases hx), Nat.zero_le _⟩
  · cases hc
    have hlm : len ≤ m := by rw [hmm]; split <;> omega
    have hblk : a.block < w.heap.size := by
      unfold Value.okWide at hv
      rw [ht] at hv
      unfold Cell.okWide at hv
      rw [ht] at hv
      unfold Cell.ok at hv
      rw [ht] at hv
      obtain ⟨_, _, _, _, row, cells, hsh, _⟩ := hv
      exact shape_lt hsh
    have hel : ∀ i, i < len → ∃ y : Int, (0 ≤ y ∧ y < 256) ∧ w.cell? ((a.add (i * 1)).add 0) = some (.int .u8 y) := by
      intro i hi
      obtain ⟨cs', h1, h2⟩ := hx i (by omega)
      rw [hs] at h1
      obtain ⟨_, hlen, hcell⟩ := World.cells?_some h1
      obtain ⟨y, rfl, -, hw⟩ := DataW.trod_int he h2
      simp only [Lit.wf, Bool.and_eq_true, decide_eq_true_eq] at hw
      exact ⟨y, ⟨hw.1, Int.lt_of_le_of_lt hw.2 (by decide)⟩, by rw [hcell 0 (by decide)]; rfl⟩
    obtain ⟨f, hf⟩ := Deep.choose_lt (α := Int) hel
    refine ⟨(List.range len).map f, .inn a len cap _ (by simp) hl hm hblk ?_, ?_, ?_⟩
    · intro i x hi j v hj
      rw [List.getElem?_map, Option.map_eq_some_iff] at hi
      obtain ⟨i', hi', rfl⟩ := hi
      have hi2 : i' = i ∧ i < len := by
        have h5 := getElem?_lt hi'
        rw [List.length_range] at h5
        rw [List.getElem?_range h5] at hi'
        exact ⟨(Option.some.inj hi').symm, h5⟩
      obtain ⟨rfl, h6⟩ := hi2
      have hj0 : j = 0 := by have := getElem?_lt hj; simpa using this
      subst hj0
      simp at hj; subst hj
      exact ⟨(hf i' h6).2, rfl⟩
    · intro x hx'
      obtain ⟨i, hi, rfl⟩ := List.mem_map.1 hx'
      exact (hf i (List.mem_range.1 hi)).1
    · simp; omega
end
end Go.Proofs.Ytkcbhdjhbnnlgaa
end

section
/- Contracts: numbers drawn from bytes. -/
set_option linter.unusedVariables false
set_option linter.unusedSimpArgs false
set_option maxRecDepth 100000
set_option maxHeartbeats 4000000
namespace Go.Proofs.Ytkcbhdjhbnnlgaa
open Go Go.RowKit Go.Proofs.Ytkcbhdjhbnnlgaa.Abs
variable {W0 : World} {σ : List Blk}
theorem CurAt.mono {b : Nat} {v : Value} {n m : Nat} {R : List Blk} (h : CurAt b v n R) (hm : n ≤ m) : CurAt b v m R := by
  obtain ⟨a, sd, h1, h2⟩ := h
  exact ⟨a, sd, by omega, h2⟩
theorem CurAt.app {b : Nat} {v : Value} {n : Nat} {R τ : List Blk} (h : CurAt b v n R) : CurAt b v n (R ++ τ) := by
  obtain ⟨a, sd, h1, h2⟩ := h
  exact ⟨a, sd, h1, getx1 h2⟩
theorem CurAt.lt {b : Nat} {v : Value} {n : Nat} {R : List Blk} (h : CurAt b v n R) : b < R.length := by
  obtain ⟨a, sd, h1, h2⟩ := h
  exact getElem?_lt h2
theorem CurAt.set {b i : Nat} {v : Value} {n : Nat} {R : List Blk} {X : Blk} (h : CurAt b v n R) (hi : i ≠ b) : CurAt b v n (R.set i X) := by
  obtain ⟨a, sd, h1, h2⟩ := h
  exact ⟨a, sd, h1, by rw [List.getElem?_set_ne hi]; exact h2⟩
theorem Keeps.snoc {b : Nat} {σ R : List Blk} {X : Blk} (h : Keeps b (σ ++ [X]) R) : Keeps b σ R := Keeps.app.trans h
theorem ldC {cs : List AV} {i off : Nat} {a : AV} (h : cs[i]? = some a) (ho : off = i) : mkAV false ((cs.drop off).take 1) = a := by
  subst ho
  have hlt := getElem?_lt h
  rw [List.drop_eq_getElem_cons hlt]
  rw [List.getElem?_eq_getElem hlt] at h
  cases h; rfl
theorem d_pick (m : Int) (b n : Nat) (v : Value) (xs : List Int) (hcd : Code W0 v xs) (hc : CurAt b v n σ) (hn : n < 900000000) (hm : m ≤ 65536) (K : Cont) (h0 : ∀ x R, 0 ≤ x → (x < m ∨ x = 0 ∧ m ≤ 1) → CurAt b v (n + 2) R → Keeps b σ R → K (I x) R) : ACall Try.prog W0 71 [.ptr b 0 0, I m] σ K := by
  refine by71 (Nat.le_of_ble_eq_true rfl) ?_
  by_cases h1 : m ≤ 1
  · skip
    repeat' ((conv => whnf); first
      | (refine And.intro rfl ?_)
      | (refine And.intro (by decide +kernel) ?_)
      | (refine And.intro trivial ?_)
      | (refine Exists.intro _ (And.intro rfl (And.intro rfl (And.intro (Nat.le_of_ble_eq_true rfl) ?_))))
      | (refine Exists.intro _ (And.intro rfl (And.intro rfl (And.intro rfl (And.intro (Nat.le_of_ble_eq_true rfl) ?_)))))
      | (refine And.intro (Exists.intro _ (And.intro rfl rfl)) ?_)
      | (exact fun hW => absurd hW (by decide +kernel))
      | (intro hW; (try simp only [Bool.not_true, Bool.not_false, Bool.not_eq_true', Bool.not_eq_false', decide_eq_true_eq, decide_eq_false_iff_not, reduceCtorEq, Bool.true_eq_false, Bool.false_eq_true, mk_size, List.size_toArray, ByteArray.size_append, ByteArray.size_extract, List.length_cons, List.length_nil, ba_get, ba_empty, Int.toNat_natCast] at hW))
      | (refine And.intro (?_ : _ → _) (?_ : _ → _))
      | (refine FinR.drop 0 (Nat.zero_le _) (Closed.zero _) rfl ?_)
      | (refine FinR.keep ?_)
      | (refine And.intro (det3_agg rfl) ?_)
      | (refine fL_mk ?_)
      | (refine And.intro (by (try simp only [mk_size, List.size_toArray, ByteArray.size_append, ByteArray.size_extract, List.length_cons, List.length_nil]); omega) ?_)
      | (refine And.intro (by (try simp only [mk_size, List.size_toArray, ByteArray.size_append, ByteArray.size_extract, List.length_cons, List.length_nil, wrap64_eq]); omega) ?_)
      | fail)
    all_goals first | (exfalso; omega) | exact h0 _ _ (Int.le_refl _) (.inr ⟨rfl, h1⟩) (hc.mono (by omega)) .refl | skip
  · have hmod : ∀ x : Int, 0 ≤ x → 0 ≤ x.tmod m ∧ x.tmod m < m := fun x hx => by
      rw [Int.tmod_eq_emod_of_nonneg hx]
      exact ⟨Int.emod_nonneg _ (by omega), Int.emod_lt_of_pos _ (by omega)⟩
    have hm0 : m ≠ 0 := by omega
    by_cases h2 : m ≤ 200
    · skip
      repeat' ((conv => whnf); first
        | (refine And.intro hm0 ?_)
        | (refine And.intro rfl ?_)
        | (refine And.intro (by decide +kernel) ?_)
        | (refine And.intro trivial ?_)
        | (refine d_next (hcd := hcd) (hc := hc) (hn := by omega) (h0 := fun x R hx1 hx2 hc1 hk1 => ?_) ..; have hx3 := hmod x hx1)
        | (refine Exists.intro _ (And.intro rfl (And.intro rfl (And.intro (Nat.le_of_ble_eq_true rfl) ?_))))
        | (refine Exists.intro _ (And.intro rfl (And.intro rfl (And.intro rfl (And.intro (Nat.le_of_ble_eq_true rfl) ?_)))))
        | (refine And.intro (Exists.intro _ (And.intro rfl rfl)) ?_)
        | (exact fun hW => absurd hW (by decide +kernel))
        | (intro hW; (try simp only [Bool.not_true, Bool.not_false, Bool.not_eq_true', Bool.not_eq_false', decide_eq_true_eq, decide_eq_false_iff_not, reduceCtorEq, Bool.true_eq_false, Bool.false_eq_true, mk_size, List.size_toArray, ByteArray.size_append, ByteArray.size_extract, List.length_cons, List.length_nil, ba_get, ba_empty, Int.toNat_natCast] at hW))
        | (refine And.intro (?_ : _ → _) (?_ : _ → _))
        | (refine FinR.drop 0 (Nat.zero_le _) (Closed.zero _) rfl ?_)
        | (refine FinR.keep ?_)
        | (refine And.intro (det3_agg rfl) ?_)
        | (refine fL_mk ?_)
        | (refine And.intro (by (try simp only [mk_size, List.size_toArray, ByteArray.size_append, ByteArray.size_extract, List.length_cons, List.length_nil]); omega) ?_)
        | (refine And.intro (by (try simp only [mk_size, List.size_toArray, ByteArray.size_append, ByteArray.size_extract, List.length_cons, List.length_nil, wrap64_eq]); omega) ?_)
        | fail)
      all_goals first | (exfalso; omega) | exact h0 _ _ hx3.1 (.inl hx3.2) (hc1.mono (by omega)) hk1 | skip
    · skip
      repeat' ((conv => whnf); first
        | (refine And.intro hm0 ?_)
        | (refine And.intro rfl ?_)
        | (refine And.intro (by decide +kernel) ?_)
        | (refine And.intro trivial ?_)
        | (refine d_next (hcd := hcd) (hc := hc1) (hn := by omega) (h0 := fun y R2 hy1 hy2 hc2 hk2 => ?_) ..; have e1 : IntKind.i64.wrap (IntKind.i64.wrap (x * 256) + y) = x * 256 + y := by rw [wrap_i64 (x * 256) (by omega) (by omega), wrap_i64 _ (by omega) (by omega)])
        | (refine d_next (hcd := hcd) (hc := hc) (hn := by omega) (h0 := fun x R hx1 hx2 hc1 hk1 => ?_) ..)
        | (refine Exists.intro _ (And.intro rfl (And.intro rfl (And.intro (Nat.le_of_ble_eq_true rfl) ?_))))
        | (refine Exists.intro _ (And.intro rfl (And.intro rfl (And.intro rfl (And.intro (Nat.le_of_ble_eq_true rfl) ?_)))))
        | (refine And.intro (Exists.intro _ (And.intro rfl rfl)) ?_)
        | (exact fun hW => absurd hW (by decide +kernel))
        | (intro hW; (try simp only [Bool.not_true, Bool.not_false, Bool.not_eq_true', Bool.not_eq_false', decide_eq_true_eq, decide_eq_false_iff_not, reduceCtorEq, Bool.true_eq_false, Bool.false_eq_true, mk_size, List.size_toArray, ByteArray.size_append, ByteArray.size_extract, List.length_cons, List.length_nil, ba_get, ba_empty, Int.toNat_natCast] at hW))
        | (refine And.intro (?_ : _ → _) (?_ : _ → _))
        | (refine FinR.drop 0 (Nat.zero_le _) (Closed.zero _) rfl ?_)
        | (refine FinR.keep ?_)
        | (refine And.intro (det3_agg rfl) ?_)
        | (refine fL_mk ?_)
        | (refine And.intro (by (try simp only [mk_size, List.size_toArray, ByteArray.size_append, ByteArray.size_extract, List.length_cons, List.length_nil]); omega) ?_)
        | (refine And.intro (by (try simp only [mk_size, List.size_toArray, ByteArray.size_append, ByteArray.size_extract, List.length_cons, List.length_nil, wrap64_eq]); omega) ?_)
        | fail)
      all_goals first | (exfalso; omega) | (refine h0 _ _ ?_ (.inl ?_) hc2 (hk1.trans hk2) <;> rw [e1] <;> first | exact (hmod _ (by omega)).1 | exact (hmod _ (by omega)).2) | skip
theorem d_one (m : Int) (b n : Nat) (v : Value) (xs : List Int) (hcd : Code W0 v xs) (hc : CurAt b v n σ) (hn : n < 900000000) (hm : m ≤ 65536) (K : Cont) (h0 : ∀ x R, CurAt b v (n + 2) R → Keeps b σ R → K (Bo x) R) : ACall Try.prog W0 72 [.ptr b 0 0, I m] σ K := by
  refine by72 (Nat.le_of_ble_eq_true rfl) ?_
  repeat' ((conv => whnf); first
    | (refine And.intro rfl ?_)
    | (refine And.intro (by decide +kernel) ?_)
    | (refine And.intro trivial ?_)
    | (refine d_pick (hcd := hcd) (hc := hc) (hn := hn) (hm := hm) (h0 := fun x R hx1 hx2 hc1 hk1 => ?_) ..)
    | (refine Exists.intro _ (And.intro rfl (And.intro rfl (And.intro (Nat.le_of_ble_eq_true rfl) ?_))))
    | (refine Exists.intro _ (And.intro rfl (And.intro rfl (And.intro rfl (And.intro (Nat.le_of_ble_eq_true rfl) ?_)))))
    | (refine And.intro (Exists.intro _ (And.intro rfl rfl)) ?_)
    | (exact fun hW => absurd hW (by decide +kernel))
    | (intro hW; (try simp only [Bool.not_true, Bool.not_false, Bool.not_eq_true', Bool.not_eq_false', decide_eq_true_eq, decide_eq_false_iff_not, reduceCtorEq, Bool.true_eq_false, Bool.false_eq_true, mk_size, List.size_toArray, ByteArray.size_append, ByteArray.size_extract, List.length_cons, List.length_nil, ba_get, ba_empty, Int.toNat_natCast] at hW))
    | (refine And.intro (?_ : _ → _) (?_ : _ → _))
    | (refine FinR.drop 0 (Nat.zero_le _) (Closed.zero _) rfl ?_)
    | (refine FinR.keep ?_)
    | (refine And.intro (det3_agg rfl) ?_)
    | (refine fL_mk ?_)
    | (refine And.intro (by (try simp only [mk_size, List.size_toArray, ByteArray.size_append, ByteArray.size_extract, List.length_cons, List.length_nil]); omega) ?_)
    | (refine And.intro (by (try simp only [mk_size, List.size_toArray, ByteArray.size_append, ByteArray.size_extract, List.length_cons, List.length_nil, wrap64_eq]); omega) ?_)
    | fail)
  all_goals first | exact h0 _ _ hc1 hk1 | skip
theorem d_among (bl ver cap : Nat) (ys : List Int) (y0 : Int) (r m' : Bool) (e : TypeId) (hL : σ[bl]? = some ⟨(y0 :: ys).map I, ver, e, 1, r, m'⟩) (hys : ys.length ≤ 1000) (b n : Nat) (v : Value) (xs : List Int) (hcd : Code W0 v xs) (hc : CurAt b v n σ) (hbl : bl ≠ b) (hn : n < 900000000) (K : Cont) (h0 : ∀ x R, x ∈ y0 :: ys → CurAt b v (n + 2) R → Keeps b σ R → K (I x) R) : ACall Try.prog W0 73 [.ptr b 0 0, .sl bl ver 0 (ys.length + 1) cap] σ K := by
  refine by73 (Nat.le_of_ble_eq_true rfl) ?_
  repeat' ((conv => whnf); first
    | (refine And.intro rfl ?_)
    | (refine And.intro (by decide +kernel) ?_)
    | (refine And.intro trivial ?_)
    | (refine And.intro ⟨_, hL, rfl⟩ ?_)
    | (refine d_pick (m := ((ys.length + 1 : Nat) : Int)) (hcd := hcd) (hc := hc) (hn := hn) (hm := by omega) (h0 := fun x R hx1 hx2 hc1 hk1 => ?_) ..; have hL := hk1.2 _ _ hbl hL)
    | (refine Exists.intro _ (And.intro rfl (And.intro rfl (And.intro (Nat.le_of_ble_eq_true rfl) ?_))))
    | (refine Exists.intro _ (And.intro rfl (And.intro rfl (And.intro rfl (And.intro (Nat.le_of_ble_eq_true rfl) ?_)))))
    | (refine And.intro (Exists.intro _ (And.intro rfl rfl)) ?_)
    | (exact fun hW => absurd hW (by decide +kernel))
    | (intro hW; (try simp only [Bool.not_true, Bool.not_false, Bool.not_eq_true', Bool.not_eq_false', decide_eq_true_eq, decide_eq_false_iff_not, reduceCtorEq, Bool.true_eq_false, Bool.false_eq_true, mk_size, List.size_toArray, ByteArray.size_append, ByteArray.size_extract, List.length_cons, List.length_nil, ba_get, ba_empty, Int.toNat_natCast] at hW))
    | (refine And.intro (?_ : _ → _) (?_ : _ → _))
    | (refine FinR.drop 0 (Nat.zero_le _) (Closed.zero _) rfl ?_)
    | (refine FinR.keep ?_)
    | (refine And.intro (det3_agg rfl) ?_)
    | (refine fL_mk ?_)
    | (refine And.intro (by (try simp only [mk_size, List.size_toArray, ByteArray.size_append, ByteArray.size_extract, List.length_cons, List.length_nil]); omega) ?_)
    | (refine And.intro (by (try simp only [mk_size, List.size_toArray, ByteArray.size_append, ByteArray.size_extract, List.length_cons, List.length_nil, wrap64_eq]); omega) ?_)
    | fail)
  obtain ⟨i, rfl⟩ : ∃ i : Nat, x = i := ⟨x.toNat, by omega⟩
  have hi : i < (y0 :: ys).length := by rw [List.length_cons]; omega
  have hyi : (y0 :: ys)[i]? = some (y0 :: ys)[i] := List.getElem?_eq_getElem hi
  have hmem : (y0 :: ys)[i] ∈ y0 :: ys := List.getElem_mem hi
  generalize (y0 :: ys)[i] = y at hyi hmem
  have hci : ((y0 :: ys).map I)[i]? = some (I y) := by rw [List.getElem?_map, hyi]; rfl
  have hoff : 0 + ((i : Nat) : Int).toNat * 1 = i := by rw [Int.toNat_natCast]; omega
  refine Exists.intro _ (And.intro hL (And.intro rfl (And.intro (by show _ ≤ ((y0 :: ys).map I).length; rw [List.length_map, hoff]; omega) ?_)))
  rw [ldC hci hoff]
  repeat' ((conv => whnf); first
    | (refine And.intro rfl ?_)
    | (refine And.intro (by decide +kernel) ?_)
    | (refine And.intro trivial ?_)
    | (refine Exists.intro _ (And.intro rfl (And.intro rfl (And.intro (Nat.le_of_ble_eq_true rfl) ?_))))
    | (refine Exists.intro _ (And.intro rfl (And.intro rfl (And.intro rfl (And.intro (Nat.le_of_ble_eq_true rfl) ?_)))))
    | (refine And.intro (Exists.intro _ (And.intro rfl rfl)) ?_)
    | (exact fun hW => absurd hW (by decide +kernel))
    | (intro hW; (try simp only [Bool.not_true, Bool.not_false, Bool.not_eq_true', Bool.not_eq_false', decide_eq_true_eq, decide_eq_false_iff_not, reduceCtorEq, Bool.true_eq_false, Bool.false_eq_true, mk_size, List.size_toArray, ByteArray.size_append, ByteArray.size_extract, List.length_cons, List.length_nil, ba_get, ba_empty, Int.toNat_natCast] at hW))
    | (refine And.intro (?_ : _ → _) (?_ : _ → _))
    | (refine FinR.drop 0 (Nat.zero_le _) (Closed.zero _) rfl ?_)
    | (refine FinR.keep ?_)
    | (refine And.intro (det3_agg rfl) ?_)
    | (refine fL_mk ?_)
    | (refine And.intro (by (try simp only [mk_size, List.size_toArray, ByteArray.size_append, ByteArray.size_extract, List.length_cons, List.length_nil]); omega) ?_)
    | (refine And.intro (by (try simp only [mk_size, List.size_toArray, ByteArray.size_append, ByteArray.size_extract, List.length_cons, List.length_nil, wrap64_eq]); omega) ?_)
    | fail)
  all_goals first | exact h0 _ _ hmem hc1 hk1 | skip
end Go.Proofs.Ytkcbhdjhbnnlgaa
end

section
/- Contracts: cells, sheets and stamps drawn from bytes. -/
set_option linter.unusedVariables false
set_option linter.unusedSimpArgs false
set_option maxRecDepth 100000
set_option maxHeartbeats 4000000
namespace Go.Proofs.Ytkcbhdjhbnnlgaa
open Go Go.RowKit Go.Proofs.Ytkcbhdjhbnnlgaa.Abs
variable {W0 : World} {σ : List Blk}
theorem Keeps.setO {b i : Nat} {σ R : List Blk} {X : Blk} (h : Keeps b σ R) (hi : σ.length ≤ i) : Keeps b σ (R.set i X) := ⟨by rw [List.length_set]; exact h.1, fun j B hj hB => by rw [List.getElem?_set_ne (by have := getElem?_lt hB; omega)]; exact h.2 j B hj hB⟩
theorem getn {i j : Nat} {S : List Blk} {B X : Blk} (h : S[j]? = some B) (hi : i ≠ j) : (S.set i X)[j]? = some B := by rw [List.getElem?_set_ne hi]; exact h
end Go.Proofs.Ytkcbhdjhbnnlgaa
end

section
/- Contracts: sheets drawn from bytes. -/
set_option linter.unusedVariables false
set_option linter.unusedSimpArgs false
set_option maxRecDepth 100000
set_option maxHeartbeats 4000000
namespace Go.Proofs.Ytkcbhdjhbnnlgaa
open Go Go.RowKit Go.Proofs.Ytkcbhdjhbnnlgaa.Abs
variable {W0 : World} {σ : List Blk}
abbrev shC (a b c d e f : Int) : Blk := ⟨[I a, I b, I c, I d, I e, I f], 0, 26, 0, false, false⟩
theorem mem5 {x a b c d e : Int} (h : x ∈ [a, b, c, d, e]) : x = a ∨ x = b ∨ x = c ∨ x = d ∨ x = e := by simpa using h
theorem d_sheetC (b n : Nat) (v : Value) (xs : List Int) (hcd : Code W0 v xs) (hc : CurAt b v n σ) (hn : n < 800000000) (K : Cont) (h0 : ∀ a1 a2 a3 a4 a5 a6 R, CurAt b v (n + 90) R → Keeps b σ R → K (Sh a1 a2 a3 a4 a5 a6) R) : ACall Try.prog W0 60 [.ptr b 0 0] σ K := by
  refine by60 (Nat.le_of_ble_eq_true rfl) ?_
  have hbl := hc.lt
  repeat' ((conv => whnf); first
    | (refine And.intro rfl ?_)
    | (refine And.intro (by decide +kernel) ?_)
    | (refine And.intro trivial ?_)
    | (refine Exists.intro _ (And.intro rfl (And.intro rfl (And.intro (Nat.le_of_ble_eq_true rfl) ?_))))
    | (refine Exists.intro _ (And.intro rfl (And.intro rfl (And.intro rfl (And.intro (Nat.le_of_ble_eq_true rfl) ?_)))))
    | (refine And.intro (Exists.intro _ (And.intro rfl rfl)) ?_)
    | (exact fun hW => absurd hW (by decide +kernel))
    | (intro hW; (try simp only [Bool.not_true, Bool.not_false, Bool.not_eq_true', Bool.not_eq_false', decide_eq_true_eq, decide_eq_false_iff_not, reduceCtorEq, Bool.true_eq_false, Bool.false_eq_true, mk_size, List.size_toArray, ByteArray.size_append, ByteArray.size_extract, List.length_cons, List.length_nil, ba_get, ba_empty, Int.toNat_natCast] at hW))
    | (refine And.intro (?_ : _ → _) (?_ : _ → _))
    | (refine FinR.drop 0 (Nat.zero_le _) (Closed.zero _) rfl ?_)
    | (refine FinR.keep ?_)
    | (refine And.intro (det3_agg rfl) ?_)
    | (refine fL_mk ?_)
    | (refine And.intro (by (try simp only [mk_size, List.size_toArray, ByteArray.size_append, ByteArray.size_extract, List.length_cons, List.length_nil]); omega) ?_)
    | (refine And.intro (by (try simp only [mk_size, List.size_toArray, ByteArray.size_append, ByteArray.size_extract, List.length_cons, List.length_nil, wrap64_eq]); omega) ?_)
    | fail)
  have hc := hc.app (τ := [shC 0 0 0 0 0 0])
  have q : (σ ++ [shC 0 0 0 0 0 0])[σ.length]? = some (shC 0 0 0 0 0 0) := getl
  have hk : Keeps b σ (σ ++ [shC 0 0 0 0 0 0]) := .app
  repeat' ((conv => whnf); first
    | (refine And.intro rfl ?_)
    | (refine And.intro (by decide +kernel) ?_)
    | (refine And.intro trivial ?_)
    | (refine fS_mk ?_)
    | (refine d_among (y0 := 2) (ys := [4, 3, 1, 6]) (hL := getl) (hys := by decide) (hcd := hcd) (hc := hc.app) (hbl := by have := hc.lt; omega) (hn := by omega) (h0 := fun few R hxx hc1 hk1 => ?_) ..; have q := hk1.2 _ _ (by omega) (getx1 q); have hk := hk.trans hk1.snoc; have hc := hc1)
    | (refine Exists.intro _ (And.intro rfl (And.intro rfl (And.intro (Nat.le_of_ble_eq_true rfl) ?_))))
    | (refine Exists.intro _ (And.intro rfl (And.intro rfl (And.intro rfl (And.intro (Nat.le_of_ble_eq_true rfl) ?_)))))
    | (refine And.intro (Exists.intro _ (And.intro rfl rfl)) ?_)
    | (exact fun hW => absurd hW (by decide +kernel))
    | (intro hW; (try simp only [Bool.not_true, Bool.not_false, Bool.not_eq_true', Bool.not_eq_false', decide_eq_true_eq, decide_eq_false_iff_not, reduceCtorEq, Bool.true_eq_false, Bool.false_eq_true, mk_size, List.size_toArray, ByteArray.size_append, ByteArray.size_extract, List.length_cons, List.length_nil, ba_get, ba_empty, Int.toNat_natCast] at hW))
    | (refine And.intro (?_ : _ → _) (?_ : _ → _))
    | (refine FinR.drop 0 (Nat.zero_le _) (Closed.zero _) rfl ?_)
    | (refine FinR.keep ?_)
    | (refine And.intro (det3_agg rfl) ?_)
    | (refine fL_mk ?_)
    | (refine And.intro (by (try simp only [mk_size, List.size_toArray, ByteArray.size_append, ByteArray.size_extract, List.length_cons, List.length_nil]); omega) ?_)
    | (refine And.intro (by (try simp only [mk_size, List.size_toArray, ByteArray.size_append, ByteArray.size_extract, List.length_cons, List.length_nil, wrap64_eq]); omega) ?_)
    | fail)
  repeat' ((conv => whnf); first
    | (refine And.intro rfl ?_)
    | (refine And.intro (by decide +kernel) ?_)
    | (refine And.intro trivial ?_)
    | (refine fS_mk ?_)
    | (refine Exists.intro _ (And.intro getl (And.intro rfl (And.intro rfl (And.intro (Nat.le_of_ble_eq_true rfl) ?_)))); rw [set_last])
    | (refine Exists.intro _ (And.intro rfl (And.intro rfl (And.intro (Nat.le_of_ble_eq_true rfl) ?_))))
    | (refine Exists.intro _ (And.intro rfl (And.intro rfl (And.intro rfl (And.intro (Nat.le_of_ble_eq_true rfl) ?_)))))
    | (refine And.intro (Exists.intro _ (And.intro rfl rfl)) ?_)
    | (exact fun hW => absurd hW (by decide +kernel))
    | (intro hW; (try simp only [Bool.not_true, Bool.not_false, Bool.not_eq_true', Bool.not_eq_false', decide_eq_true_eq, decide_eq_false_iff_not, reduceCtorEq, Bool.true_eq_false, Bool.false_eq_true, mk_size, List.size_toArray, ByteArray.size_append, ByteArray.size_extract, List.length_cons, List.length_nil, ba_get, ba_empty, Int.toNat_natCast] at hW))
    | (refine And.intro (?_ : _ → _) (?_ : _ → _))
    | (refine FinR.drop 0 (Nat.zero_le _) (Closed.zero _) rfl ?_)
    | (refine FinR.keep ?_)
    | (refine And.intro (det3_agg rfl) ?_)
    | (refine fL_mk ?_)
    | (refine And.intro (by (try simp only [mk_size, List.size_toArray, ByteArray.size_append, ByteArray.size_extract, List.length_cons, List.length_nil]); omega) ?_)
    | (refine And.intro (by (try simp only [mk_size, List.size_toArray, ByteArray.size_append, ByteArray.size_extract, List.length_cons, List.length_nil, wrap64_eq]); omega) ?_)
    | fail)
  have q3 : (R ++ [bl 0])[R.length]? = some (bl 0) := getl
  have hRl := getElem?_lt q
  refine LoopR.live (fun y : Nat × Nat × List Blk => [(0, .ptr b 0 0), (2, .ptr σ.length 0 0), (3, .ptr R.length 0 0), (4, I few), (5, I y.1)]) (fun y => y.2.2) (fun y => y.1 ≤ 6 ∧ CurAt b v (n + 2 + 12 * y.1) y.2.2 ∧ Keeps b σ y.2.2 ∧ y.2.2[σ.length]? = some (shC 0 0 0 0 0 0) ∧ y.2.2[R.length]? = some (bl y.2.1)) (fun y => 6 - y.1) (0, 0, R ++ [bl 0]) ⟨rfl, rfl, rfl, rfl, rfl, trivial⟩ (.keep rfl) ⟨Nat.zero_le _, hc.app, hk.trans .app, getx1 q, q3⟩ ?_
  rintro ⟨y, m, T⟩ ⟨hy, hc, hk, q, q3⟩
  replace hy : y ≤ 6 := hy
  replace hc : CurAt b v (n + 2 + 12 * y) T := hc
  replace hk : Keeps b σ T := hk
  replace q : T[σ.length]? = some (shC 0 0 0 0 0 0) := q
  replace q3 : T[R.length]? = some (bl m) := q3
  by_cases hy6 : y < 6
  · skip
    repeat' ((conv => whnf); first
      | (refine And.intro rfl ?_)
      | (refine And.intro (by decide +kernel) ?_)
      | (refine And.intro trivial ?_)
      | (refine Exists.intro _ (And.intro rfl (And.intro rfl (And.intro (Nat.le_of_ble_eq_true rfl) ?_))))
      | (refine Exists.intro _ (And.intro rfl (And.intro rfl (And.intro rfl (And.intro (Nat.le_of_ble_eq_true rfl) ?_)))))
      | (refine And.intro (Exists.intro _ (And.intro rfl rfl)) ?_)
      | (exact fun hW => absurd hW (by decide +kernel))
      | (intro hW; (try simp only [Bool.not_true, Bool.not_false, Bool.not_eq_true', Bool.not_eq_false', decide_eq_true_eq, decide_eq_false_iff_not, reduceCtorEq, Bool.true_eq_false, Bool.false_eq_true, mk_size, List.size_toArray, ByteArray.size_append, ByteArray.size_extract, List.length_cons, List.length_nil, ba_get, ba_empty, Int.toNat_natCast] at hW))
      | (refine And.intro (?_ : _ → _) (?_ : _ → _))
      | (refine FinR.drop 0 (Nat.zero_le _) (Closed.zero _) rfl ?_)
      | (refine FinR.keep ?_)
      | (refine And.intro (det3_agg rfl) ?_)
      | (refine fL_mk ?_)
      | (refine And.intro (by (try simp only [mk_size, List.size_toArray, ByteArray.size_append, ByteArray.size_extract, List.length_cons, List.length_nil]); omega) ?_)
      | (refine And.intro (by (try simp only [mk_size, List.size_toArray, ByteArray.size_append, ByteArray.size_extract, List.length_cons, List.length_nil, wrap64_eq]); omega) ?_)
      | fail)
    · refine LoopR.live (fun z : Nat × Nat × List Blk => [(0, .ptr b 0 0), (2, .ptr σ.length 0 0), (3, .ptr R.length 0 0), (4, I few), (5, I y), (6, I z.1)]) (fun z => z.2.2) (fun z => z.1 ≤ 6 ∧ CurAt b v (n + 2 + 12 * y + 2 * z.1) z.2.2 ∧ Keeps b σ z.2.2 ∧ z.2.2[σ.length]? = some (shC 0 0 0 0 0 0) ∧ z.2.2[R.length]? = some (bl z.2.1)) (fun z => 6 - z.1) (0, m, T) ⟨rfl, rfl, rfl, rfl, rfl, rfl, trivial⟩ (.keep rfl) ⟨Nat.zero_le _, hc, hk, q, q3⟩ ?_
      rintro ⟨x, m, T⟩ ⟨hx, hc, hk, q, q3⟩
      replace hx : x ≤ 6 := hx
      replace hc : CurAt b v (n + 2 + 12 * y + 2 * x) T := hc
      replace hk : Keeps b σ T := hk
      replace q : T[σ.length]? = some (shC 0 0 0 0 0 0) := q
      replace q3 : T[R.length]? = some (bl m) := q3
      by_cases hx6 : x < 6
      · skip
        repeat' ((conv => whnf); first
          | (refine And.intro rfl ?_)
          | (refine And.intro (by decide +kernel) ?_)
          | (refine And.intro trivial ?_)
          | (refine fS_mk ?_)
          | (refine d_one (hcd := hcd) (hc := hc) (hn := by omega) (hm := by have := mem5 hxx; omega) (h0 := fun w S hc1 hk1 => ?_) ..; have q := hk1.2 _ _ (by omega) q; have q3 := hk1.2 _ _ (by omega) q3; have hk := hk.trans hk1; have hc := hc1)
          | (refine Exists.intro _ (And.intro q3 (And.intro rfl (And.intro (Nat.le_of_ble_eq_true rfl) ?_))))
          | (refine d_l2FlipN (hx := hx6) (hy := hy6) (h0 := ?_) ..)
          | (refine Exists.intro _ (And.intro q3 (And.intro rfl (And.intro rfl (And.intro (Nat.le_of_ble_eq_true rfl) ?_)))))
          | (refine Exists.intro _ (And.intro rfl (And.intro rfl (And.intro (Nat.le_of_ble_eq_true rfl) ?_))))
          | (refine Exists.intro _ (And.intro rfl (And.intro rfl (And.intro rfl (And.intro (Nat.le_of_ble_eq_true rfl) ?_)))))
          | (refine And.intro (Exists.intro _ (And.intro rfl rfl)) ?_)
          | (exact fun hW => absurd hW (by decide +kernel))
          | (intro hW; (try simp only [Bool.not_true, Bool.not_false, Bool.not_eq_true', Bool.not_eq_false', decide_eq_true_eq, decide_eq_false_iff_not, reduceCtorEq, Bool.true_eq_false, Bool.false_eq_true, mk_size, List.size_toArray, ByteArray.size_append, ByteArray.size_extract, List.length_cons, List.length_nil, ba_get, ba_empty, Int.toNat_natCast] at hW))
          | (refine And.intro (?_ : _ → _) (?_ : _ → _))
          | (refine FinR.drop 0 (Nat.zero_le _) (Closed.zero _) rfl ?_)
          | (refine FinR.keep ?_)
          | (refine And.intro (det3_agg rfl) ?_)
          | (refine fL_mk ?_)
          | (refine And.intro (by (try simp only [mk_size, List.size_toArray, ByteArray.size_append, ByteArray.size_extract, List.length_cons, List.length_nil]); omega) ?_)
          | (refine And.intro (by (try simp only [mk_size, List.size_toArray, ByteArray.size_append, ByteArray.size_extract, List.length_cons, List.length_nil, wrap64_eq]); omega) ?_)
          | fail)
        all_goals first | (exfalso; omega) | skip
        · exact Again.go (x + 1, m ^^^ 2 ^ (6 * y + x), _) ⟨rfl, rfl, rfl, rfl, rfl, slI' (wsucc x (by omega)), trivial⟩ (.keep rfl) ⟨by omega, (hc.set (by omega)).mono (by show _ ≤ n + 2 + 12 * y + 2 * (x + 1); omega), hk.setO (by omega), getn q (by omega), get_set q3⟩ (by show _ < 6 - x; omega)
        · exact Again.go (x + 1, m, _) ⟨rfl, rfl, rfl, rfl, rfl, slI' (wsucc x (by omega)), trivial⟩ (.keep rfl) ⟨by omega, hc.mono (by show _ ≤ n + 2 + 12 * y + 2 * (x + 1); omega), hk, q, q3⟩ (by show _ < 6 - x; omega)
      · obtain rfl : x = 6 := by omega
        repeat' ((conv => whnf); first
          | (refine And.intro rfl ?_)
          | (refine And.intro (by decide +kernel) ?_)
          | (refine And.intro trivial ?_)
          | (refine Exists.intro _ (And.intro rfl (And.intro rfl (And.intro (Nat.le_of_ble_eq_true rfl) ?_))))
          | (refine Exists.intro _ (And.intro rfl (And.intro rfl (And.intro rfl (And.intro (Nat.le_of_ble_eq_true rfl) ?_)))))
          | (refine And.intro (Exists.intro _ (And.intro rfl rfl)) ?_)
          | (exact fun hW => absurd hW (by decide +kernel))
          | (intro hW; (try simp only [Bool.not_true, Bool.not_false, Bool.not_eq_true', Bool.not_eq_false', decide_eq_true_eq, decide_eq_false_iff_not, reduceCtorEq, Bool.true_eq_false, Bool.false_eq_true, mk_size, List.size_toArray, ByteArray.size_append, ByteArray.size_extract, List.length_cons, List.length_nil, ba_get, ba_empty, Int.toNat_natCast] at hW))
          | (refine And.intro (?_ : _ → _) (?_ : _ → _))
          | (refine FinR.drop 0 (Nat.zero_le _) (Closed.zero _) rfl ?_)
          | (refine FinR.keep ?_)
          | (refine And.intro (det3_agg rfl) ?_)
          | (refine fL_mk ?_)
          | (refine And.intro (by (try simp only [mk_size, List.size_toArray, ByteArray.size_append, ByteArray.size_extract, List.length_cons, List.length_nil]); omega) ?_)
          | (refine And.intro (by (try simp only [mk_size, List.size_toArray, ByteArray.size_append, ByteArray.size_extract, List.length_cons, List.length_nil, wrap64_eq]); omega) ?_)
          | fail)
        all_goals first | (exfalso; omega) | skip
        exact Again.go (y + 1, m, T) ⟨rfl, rfl, rfl, rfl, slI' (wsucc y (by omega)), trivial⟩ (.keep rfl) ⟨by omega, hc.mono (by omega), hk, q, q3⟩ (by show _ < 6 - y; omega)
    · exfalso; omega
  · obtain rfl : y = 6 := by omega
    repeat' ((conv => whnf); first
      | (refine And.intro rfl ?_)
      | (refine And.intro (by decide +kernel) ?_)
      | (refine And.intro trivial ?_)
      | (refine fS_mk ?_)
      | (refine Exists.intro _ (And.intro q3 (And.intro rfl (And.intro (Nat.le_of_ble_eq_true rfl) ?_))))
      | (refine d_pick (m := 40) (hcd := hcd) (hc := hc) (hn := by omega) (hm := by decide) (h0 := fun w S hw hw' hc1 hk1 => ?_) ..; have q := hk1.2 _ _ (by omega) q; have q3 := hk1.2 _ _ (by omega) q3; have hk := hk.trans hk1; have hc := hc1)
      | (refine Exists.intro _ (And.intro rfl (And.intro rfl (And.intro (Nat.le_of_ble_eq_true rfl) ?_))))
      | (refine Exists.intro _ (And.intro rfl (And.intro rfl (And.intro rfl (And.intro (Nat.le_of_ble_eq_true rfl) ?_)))))
      | (refine And.intro (Exists.intro _ (And.intro rfl rfl)) ?_)
      | (exact fun hW => absurd hW (by decide +kernel))
      | (intro hW; (try simp only [Bool.not_true, Bool.not_false, Bool.not_eq_true', Bool.not_eq_false', decide_eq_true_eq, decide_eq_false_iff_not, reduceCtorEq, Bool.true_eq_false, Bool.false_eq_true, mk_size, List.size_toArray, ByteArray.size_append, ByteArray.size_extract, List.length_cons, List.length_nil, ba_get, ba_empty, Int.toNat_natCast] at hW))
      | (refine And.intro (?_ : _ → _) (?_ : _ → _))
      | (refine FinR.drop 0 (Nat.zero_le _) (Closed.zero _) rfl ?_)
      | (refine FinR.keep ?_)
      | (refine And.intro (det3_agg rfl) ?_)
      | (refine fL_mk ?_)
      | (refine And.intro (by (try simp only [mk_size, List.size_toArray, ByteArray.size_append, ByteArray.size_extract, List.length_cons, List.length_nil]); omega) ?_)
      | (refine And.intro (by (try simp only [mk_size, List.size_toArray, ByteArray.size_append, ByteArray.size_extract, List.length_cons, List.length_nil, wrap64_eq]); omega) ?_)
      | fail)
    all_goals first | (exfalso; omega) | skip
    all_goals
      repeat' ((conv => whnf); first
        | (refine And.intro rfl ?_)
        | (refine And.intro (by decide +kernel) ?_)
        | (refine And.intro trivial ?_)
        | (refine d_pick (m := 6) (hcd := hcd) (hc := hc) (hn := by omega) (hm := by decide) (h0 := fun x S hx hx' hc1 hk1 => ?_) ..; have q := hk1.2 _ _ (by omega) q; have q3 := hk1.2 _ _ (by omega) q3; have hk := hk.trans hk1; have hc := hc1; obtain rfl | rfl | rfl | rfl | rfl | rfl : x = 0 ∨ x = 1 ∨ x = 2 ∨ x = 3 ∨ x = 4 ∨ x = 5 := by omega)
        | (refine d_among (y0 := -1) (ys := [64, 4611686018427387904]) (hL := getl) (hys := by decide) (hcd := hcd) (hc := hc.app) (hbl := by have := hc.lt; omega) (hn := by omega) (h0 := fun few R hxx hc1 hk1 => ?_) ..; have q := hk1.2 _ _ (by omega) (getx1 q); have q3 := hk1.2 _ _ (by omega) (getx1 q3); have hk := hk.trans hk1.snoc; have hc := hc1)
        | (refine fS_mk ?_)
        | (refine LoopR.unroll 6 ?_)
        | (refine And.intro ⟨_, q3, rfl⟩ ?_)
        | (refine And.intro ⟨_, get_set (q3), rfl⟩ ?_)
        | (refine And.intro ⟨_, get_set (get_set (q3)), rfl⟩ ?_)
        | (refine And.intro ⟨_, get_set (get_set (get_set (q3))), rfl⟩ ?_)
        | (refine And.intro ⟨_, get_set (get_set (get_set (get_set (q3)))), rfl⟩ ?_)
        | (refine And.intro ⟨_, get_set (get_set (get_set (get_set (get_set (q3))))), rfl⟩ ?_)
        | (refine Exists.intro _ (And.intro (q3) (And.intro rfl (And.intro rfl (And.intro (Nat.le_of_ble_eq_true rfl) ?_)))))
        | (refine Exists.intro _ (And.intro (get_set (q3)) (And.intro rfl (And.intro rfl (And.intro (Nat.le_of_ble_eq_true rfl) ?_)))))
        | (refine Exists.intro _ (And.intro (get_set (get_set (q3))) (And.intro rfl (And.intro rfl (And.intro (Nat.le_of_ble_eq_true rfl) ?_)))))
        | (refine Exists.intro _ (And.intro (get_set (get_set (get_set (q3)))) (And.intro rfl (And.intro rfl (And.intro (Nat.le_of_ble_eq_true rfl) ?_)))))
        | (refine Exists.intro _ (And.intro (get_set (get_set (get_set (get_set (q3))))) (And.intro rfl (And.intro rfl (And.intro (Nat.le_of_ble_eq_true rfl) ?_)))))
        | (refine Exists.intro _ (And.intro (get_set (get_set (get_set (get_set (get_set (q3)))))) (And.intro rfl (And.intro rfl (And.intro (Nat.le_of_ble_eq_true rfl) ?_)))))
        | (refine Exists.intro _ (And.intro (q3) (And.intro rfl (And.intro (Nat.le_of_ble_eq_true rfl) ?_))))
        | (refine Exists.intro _ (And.intro (get_set (q3)) (And.intro rfl (And.intro (Nat.le_of_ble_eq_true rfl) ?_))))
        | (refine Exists.intro _ (And.intro (get_set (get_set (q3))) (And.intro rfl (And.intro (Nat.le_of_ble_eq_true rfl) ?_))))
        | (refine Exists.intro _ (And.intro (get_set (get_set (get_set (q3)))) (And.intro rfl (And.intro (Nat.le_of_ble_eq_true rfl) ?_))))
        | (refine Exists.intro _ (And.intro (get_set (get_set (get_set (get_set (q3))))) (And.intro rfl (And.intro (Nat.le_of_ble_eq_true rfl) ?_))))
        | (refine Exists.intro _ (And.intro (get_set (get_set (get_set (get_set (get_set (q3)))))) (And.intro rfl (And.intro (Nat.le_of_ble_eq_true rfl) ?_))))
        | (refine Exists.intro _ (And.intro (q) (And.intro rfl (And.intro rfl (And.intro (Nat.le_of_ble_eq_true rfl) ?_)))))
        | (refine Exists.intro _ (And.intro (getn (q) (by omega)) (And.intro rfl (And.intro rfl (And.intro (Nat.le_of_ble_eq_true rfl) ?_)))))
        | (refine Exists.intro _ (And.intro (getn (getn (q) (by omega)) (by omega)) (And.intro rfl (And.intro rfl (And.intro (Nat.le_of_ble_eq_true rfl) ?_)))))
        | (refine Exists.intro _ (And.intro (getn (getn (getn (q) (by omega)) (by omega)) (by omega)) (And.intro rfl (And.intro rfl (And.intro (Nat.le_of_ble_eq_true rfl) ?_)))))
        | (refine Exists.intro _ (And.intro (getn (getn (getn (getn (q) (by omega)) (by omega)) (by omega)) (by omega)) (And.intro rfl (And.intro rfl (And.intro (Nat.le_of_ble_eq_true rfl) ?_)))))
        | (refine Exists.intro _ (And.intro (getn (getn (getn (getn (getn (q) (by omega)) (by omega)) (by omega)) (by omega)) (by omega)) (And.intro rfl (And.intro rfl (And.intro (Nat.le_of_ble_eq_true rfl) ?_)))))
        | (refine Exists.intro _ (And.intro (get_set (q)) (And.intro rfl (And.intro (Nat.le_of_ble_eq_true rfl) ?_))))
        | (refine Exists.intro _ (And.intro (get_set (getn (q) (by omega))) (And.intro rfl (And.intro (Nat.le_of_ble_eq_true rfl) ?_))))
        | (refine Exists.intro _ (And.intro (get_set (getn (getn (q) (by omega)) (by omega))) (And.intro rfl (And.intro (Nat.le_of_ble_eq_true rfl) ?_))))
        | (refine Exists.intro _ (And.intro (get_set (getn (getn (getn (q) (by omega)) (by omega)) (by omega))) (And.intro rfl (And.intro (Nat.le_of_ble_eq_true rfl) ?_))))
        | (refine Exists.intro _ (And.intro (get_set (getn (getn (getn (getn (q) (by omega)) (by omega)) (by omega)) (by omega))) (And.intro rfl (And.intro (Nat.le_of_ble_eq_true rfl) ?_))))
        | (refine Exists.intro _ (And.intro (get_set (getn (getn (getn (getn (getn (q) (by omega)) (by omega)) (by omega)) (by omega)) (by omega))) (And.intro rfl (And.intro (Nat.le_of_ble_eq_true rfl) ?_))))
        | (refine Exists.intro _ (And.intro rfl (And.intro rfl (And.intro (Nat.le_of_ble_eq_true rfl) ?_))))
        | (refine Exists.intro _ (And.intro rfl (And.intro rfl (And.intro rfl (And.intro (Nat.le_of_ble_eq_true rfl) ?_)))))
        | (refine And.intro (Exists.intro _ (And.intro rfl rfl)) ?_)
        | (exact fun hW => absurd hW (by decide +kernel))
        | (intro hW; (try simp only [Bool.not_true, Bool.not_false, Bool.not_eq_true', Bool.not_eq_false', decide_eq_true_eq, decide_eq_false_iff_not, reduceCtorEq, Bool.true_eq_false, Bool.false_eq_true, mk_size, List.size_toArray, ByteArray.size_append, ByteArray.size_extract, List.length_cons, List.length_nil, ba_get, ba_empty, Int.toNat_natCast] at hW))
        | (refine And.intro (?_ : _ → _) (?_ : _ → _))
        | (refine FinR.drop 0 (Nat.zero_le _) (Closed.zero _) rfl ?_)
        | (refine FinR.keep ?_)
        | (refine And.intro (det3_agg rfl) ?_)
        | (refine fL_mk ?_)
        | (refine And.intro (by (try simp only [mk_size, List.size_toArray, ByteArray.size_append, ByteArray.size_extract, List.length_cons, List.length_nil]); omega) ?_)
        | (refine And.intro (by (try simp only [mk_size, List.size_toArray, ByteArray.size_append, ByteArray.size_extract, List.length_cons, List.length_nil, wrap64_eq]); omega) ?_)
        | fail)
    all_goals (refine h0 _ _ _ _ _ _ _ ?_ ?_)
    all_goals repeat' (first | exact hc.mono (by omega) | exact hk | refine CurAt.set ?_ (by omega) | refine Keeps.setO ?_ (by omega))
end Go.Proofs.Ytkcbhdjhbnnlgaa
end

section
/- Contracts: stamps drawn from bytes. -/
set_option linter.unusedVariables false
set_option linter.unusedSimpArgs false
set_option maxRecDepth 100000
set_option maxHeartbeats 4000000
namespace Go.Proofs.Ytkcbhdjhbnnlgaa
open Go Go.RowKit Go.Proofs.Ytkcbhdjhbnnlgaa.Abs
variable {W0 : World} {σ : List Blk}
theorem mem4 {x a b c d : Int} (h : x ∈ [a, b, c, d]) : x = a ∨ x = b ∨ x = c ∨ x = d := by simpa using h
theorem mem6 {x a b c d e f : Int} (h : x ∈ [a, b, c, d, e, f]) : x = a ∨ x = b ∨ x = c ∨ x = d ∨ x = e ∨ x = f := by simpa using h
theorem wpred (n : Nat) (h : n < 1000000) (h1 : 0 < n) : IntKind.i64.wrap ((n : Int) - 1) = ((n - 1 : Nat) : Int) := by rw [wrap_i64 _ (by omega) (by omega)]; omega
theorem d_stampC (b n : Nat) (v : Value) (xs : List Int) (hcd : Code W0 v xs) (hc : CurAt b v n σ) (hn : n < 700000000) (K : Cont) (h0 : ∀ a1 a2 a3 a4 a5 a6 R, CurAt b v (n + 100) R → Keeps b σ R → K (Sh a1 a2 a3 a4 a5 a6) R) : ACall Try.prog W0 59 [.ptr b 0 0] σ K := by
  refine by59 (Nat.le_of_ble_eq_true rfl) ?_
  have hbl := hc.lt
  repeat' ((conv => whnf); first
    | (refine And.intro rfl ?_)
    | (refine And.intro (by decide +kernel) ?_)
    | (refine And.intro trivial ?_)
    | (refine Exists.intro _ (And.intro rfl (And.intro rfl (And.intro (Nat.le_of_ble_eq_true rfl) ?_))))
    | (refine Exists.intro _ (And.intro rfl (And.intro rfl (And.intro rfl (And.intro (Nat.le_of_ble_eq_true rfl) ?_)))))
    | (refine And.intro (Exists.intro _ (And.intro rfl rfl)) ?_)
    | (exact fun hW => absurd hW (by decide +kernel))
    | (intro hW; (try simp only [Bool.not_true, Bool.not_false, Bool.not_eq_true', Bool.not_eq_false', decide_eq_true_eq, decide_eq_false_iff_not, reduceCtorEq, Bool.true_eq_false, Bool.false_eq_true, mk_size, List.size_toArray, ByteArray.size_append, ByteArray.size_extract, List.length_cons, List.length_nil, ba_get, ba_empty, Int.toNat_natCast] at hW))
    | (refine And.intro (?_ : _ → _) (?_ : _ → _))
    | (refine FinR.drop 0 (Nat.zero_le _) (Closed.zero _) rfl ?_)
    | (refine FinR.keep ?_)
    | (refine And.intro (det3_agg rfl) ?_)
    | (refine fL_mk ?_)
    | (refine And.intro (by (try simp only [mk_size, List.size_toArray, ByteArray.size_append, ByteArray.size_extract, List.length_cons, List.length_nil]); omega) ?_)
    | (refine And.intro (by (try simp only [mk_size, List.size_toArray, ByteArray.size_append, ByteArray.size_extract, List.length_cons, List.length_nil, wrap64_eq]); omega) ?_)
    | fail)
  have hc := hc.app (τ := [shC 0 0 0 0 0 0])
  have q : (σ ++ [shC 0 0 0 0 0 0])[σ.length]? = some (shC 0 0 0 0 0 0) := getl
  have hk : Keeps b σ (σ ++ [shC 0 0 0 0 0 0]) := .app
  repeat' ((conv => whnf); first
    | (refine And.intro rfl ?_)
    | (refine And.intro (by decide +kernel) ?_)
    | (refine And.intro trivial ?_)
    | (refine fS_mk ?_)
    | (refine d_one (hcd := hcd) (hc := hc) (hn := by omega) (hm := by decide) (h0 := fun w S hc1 hk1 => ?_) ..; have q := hk1.2 _ _ (by omega) q; have hk := hk.trans hk1; have hc := hc1)
    | (refine d_sheetC (hcd := hcd) (hc := hc) (hn := by omega) (h0 := fun a1 a2 a3 a4 a5 a6 S hc1 hk1 => ?_) ..; have q := hk1.2 _ _ (by omega) q; have hk := hk.trans hk1; have hc := hc1)
    | (refine d_among (y0 := 2) (ys := [3, 2, 6]) (hL := getl) (hys := by decide) (hcd := hcd) (hc := hc.app) (hbl := by have := hc.lt; omega) (hn := by omega) (h0 := fun few Q hxx hc1 hk1 => ?_) ..; have q := hk1.2 _ _ (by omega) (getx1 q); have hk := hk.trans hk1.snoc; have hc := hc1)
    | (refine Exists.intro _ (And.intro q (And.intro rfl (And.intro rfl (And.intro (Nat.le_of_ble_eq_true rfl) ?_)))))
    | (refine Exists.intro _ (And.intro (get_set q) (And.intro rfl (And.intro (Nat.le_of_ble_eq_true rfl) ?_))))
    | (refine Exists.intro _ (And.intro getl (And.intro rfl (And.intro rfl (And.intro (Nat.le_of_ble_eq_true rfl) ?_)))); rw [set_last])
    | (refine Exists.intro _ (And.intro rfl (And.intro rfl (And.intro (Nat.le_of_ble_eq_true rfl) ?_))))
    | (refine Exists.intro _ (And.intro rfl (And.intro rfl (And.intro rfl (And.intro (Nat.le_of_ble_eq_true rfl) ?_)))))
    | (refine And.intro (Exists.intro _ (And.intro rfl rfl)) ?_)
    | (exact fun hW => absurd hW (by decide +kernel))
    | (intro hW; (try simp only [Bool.not_true, Bool.not_false, Bool.not_eq_true', Bool.not_eq_false', decide_eq_true_eq, decide_eq_false_iff_not, reduceCtorEq, Bool.true_eq_false, Bool.false_eq_true, mk_size, List.size_toArray, ByteArray.size_append, ByteArray.size_extract, List.length_cons, List.length_nil, ba_get, ba_empty, Int.toNat_natCast] at hW))
    | (refine And.intro (?_ : _ → _) (?_ : _ → _))
    | (refine FinR.drop 0 (Nat.zero_le _) (Closed.zero _) rfl ?_)
    | (refine FinR.keep ?_)
    | (refine And.intro (det3_agg rfl) ?_)
    | (refine fL_mk ?_)
    | (refine And.intro (by (try simp only [mk_size, List.size_toArray, ByteArray.size_append, ByteArray.size_extract, List.length_cons, List.length_nil]); omega) ?_)
    | (refine And.intro (by (try simp only [mk_size, List.size_toArray, ByteArray.size_append, ByteArray.size_extract, List.length_cons, List.length_nil, wrap64_eq]); omega) ?_)
    | fail)
  · refine h0 _ _ _ _ _ _ _ ?_ ?_
    all_goals repeat' (first | exact hc.mono (by omega) | exact hk | refine CurAt.set ?_ (by omega) | refine Keeps.setO ?_ (by omega))
  have q3 : (Q ++ [shC 0 0 0 0 0 0])[Q.length]? = some (shC 0 0 0 0 0 0) := getl
  have hRl := getElem?_lt q
  have hc := hc.app (τ := [shC 0 0 0 0 0 0])
  have q := getx1 (τ := [shC 0 0 0 0 0 0]) q
  have hk := hk.trans (.app (τ := [shC 0 0 0 0 0 0]))
  have hfew := mem4 hxx
  have hfew : few ≤ 65536 := by omega
  have hfe6 : 1 < few ∧ few ≤ 6 := by have := mem4 hxx; omega
  clear hxx hc1 hk1
  repeat' ((conv => whnf); first
    | (refine And.intro rfl ?_)
    | (refine And.intro (by decide +kernel) ?_)
    | (refine And.intro trivial ?_)
    | (refine fS_mk ?_)
    | (refine d_among (y0 := 3) (ys := [2, 1, 4, 5, 0]) (hL := getl) (hys := by decide) (hcd := hcd) (hc := hc.app) (hbl := by have := hc.lt; omega) (hn := by omega) (h0 := fun z R hxx hc1 hk1 => ?_) ..; have q := hk1.2 _ _ (by omega) (getx1 q); have q3 := hk1.2 _ _ (by omega) (getx1 q3); have hk := hk.trans hk1.snoc; have hc := hc1)
    | (refine Exists.intro _ (And.intro rfl (And.intro rfl (And.intro (Nat.le_of_ble_eq_true rfl) ?_))))
    | (refine Exists.intro _ (And.intro rfl (And.intro rfl (And.intro rfl (And.intro (Nat.le_of_ble_eq_true rfl) ?_)))))
    | (refine And.intro (Exists.intro _ (And.intro rfl rfl)) ?_)
    | (exact fun hW => absurd hW (by decide +kernel))
    | (intro hW; (try simp only [Bool.not_true, Bool.not_false, Bool.not_eq_true', Bool.not_eq_false', decide_eq_true_eq, decide_eq_false_iff_not, reduceCtorEq, Bool.true_eq_false, Bool.false_eq_true, mk_size, List.size_toArray, ByteArray.size_append, ByteArray.size_extract, List.length_cons, List.length_nil, ba_get, ba_empty, Int.toNat_natCast] at hW))
    | (refine And.intro (?_ : _ → _) (?_ : _ → _))
    | (refine FinR.drop 0 (Nat.zero_le _) (Closed.zero _) rfl ?_)
    | (refine FinR.keep ?_)
    | (refine And.intro (det3_agg rfl) ?_)
    | (refine fL_mk ?_)
    | (refine And.intro (by (try simp only [mk_size, List.size_toArray, ByteArray.size_append, ByteArray.size_extract, List.length_cons, List.length_nil]); omega) ?_)
    | (refine And.intro (by (try simp only [mk_size, List.size_toArray, ByteArray.size_append, ByteArray.size_extract, List.length_cons, List.length_nil, wrap64_eq]); omega) ?_)
    | fail)
  obtain ⟨z, rfl⟩ : ∃ k : Nat, z = k := ⟨z.toNat, by have := mem6 hxx; omega⟩
  have hz6 : z ≤ 5 := by have := mem6 hxx; omega
  clear hxx hc1 hk1
  refine LoopR.live (fun y : Nat × List Blk => [(0, .ptr b 0 0), (2, .ptr σ.length 0 0), (3, .ptr Q.length 0 0), (4, I few), (5, I y.1)]) (fun y => y.2) (fun y => y.1 ≤ z ∧ CurAt b v (n + 2 + 2 + 2 + 4 * (z - y.1)) y.2 ∧ Keeps b σ y.2 ∧ y.2[σ.length]? = some (shC 0 0 0 0 0 0) ∧ ∃ a1 a2 a3 a4 a5 a6, y.2[Q.length]? = some (shC a1 a2 a3 a4 a5 a6)) (fun y => y.1) (z, R) ⟨rfl, rfl, rfl, rfl, rfl, trivial⟩ (.keep rfl) ⟨Nat.le_refl _, hc.mono (by omega), hk, q, 0, 0, 0, 0, 0, 0, q3⟩ ?_
  clear hc hk q q3
  rintro ⟨y, T⟩ ⟨hy, hc, hk, q, a1, a2, a3, a4, a5, a6, q3⟩
  replace hy : y ≤ z := hy
  replace hc : CurAt b v (n + 2 + 2 + 2 + 4 * (z - y)) T := hc
  replace hk : Keeps b σ T := hk
  replace q : T[σ.length]? = some (shC 0 0 0 0 0 0) := q
  replace q3 : T[Q.length]? = some (shC a1 a2 a3 a4 a5 a6) := q3
  by_cases hy0 : 0 < y
  · skip
    repeat' ((conv => whnf); first
      | (refine And.intro x1 ?_)
      | (refine And.intro rfl ?_)
      | (refine And.intro (by decide +kernel) ?_)
      | (refine And.intro trivial ?_)
      | (refine fS_mk ?_)
      | (have hz9 := x1; refine d_pick (hcd := hcd) (hc := hc) (hn := by omega) (hm := hfew) (h0 := fun w S y1 y2 hc1 hk1 => ?_) ..; have q := hk1.2 _ _ (by omega) q; have q3 := hk1.2 _ _ (by omega) q3; have hk := hk.trans hk1; have hc := hc1; obtain rfl | rfl | rfl | rfl | rfl | rfl : w = 0 ∨ w = 1 ∨ w = 2 ∨ w = 3 ∨ w = 4 ∨ w = 5 := by omega)
      | (refine d_pick (hcd := hcd) (hc := hc) (hn := by omega) (hm := hfew) (h0 := fun x S x1 x2 hc1 hk1 => ?_) ..; have q := hk1.2 _ _ (by omega) q; have q3 := hk1.2 _ _ (by omega) q3; have hk := hk.trans hk1; have hc := hc1)
      | (refine And.intro ⟨_, q3, rfl⟩ ?_)
      | (refine Exists.intro _ (And.intro q3 (And.intro rfl (And.intro (Nat.le_of_ble_eq_true rfl) ?_))))
      | (refine Exists.intro _ (And.intro q3 (And.intro rfl (And.intro rfl (And.intro (Nat.le_of_ble_eq_true rfl) ?_)))))
      | (refine Exists.intro _ (And.intro rfl (And.intro rfl (And.intro (Nat.le_of_ble_eq_true rfl) ?_))))
      | (refine Exists.intro _ (And.intro rfl (And.intro rfl (And.intro rfl (And.intro (Nat.le_of_ble_eq_true rfl) ?_)))))
      | (refine And.intro (Exists.intro _ (And.intro rfl rfl)) ?_)
      | (exact fun hW => absurd hW (by decide +kernel))
      | (intro hW; (try simp only [Bool.not_true, Bool.not_false, Bool.not_eq_true', Bool.not_eq_false', decide_eq_true_eq, decide_eq_false_iff_not, reduceCtorEq, Bool.true_eq_false, Bool.false_eq_true, mk_size, List.size_toArray, ByteArray.size_append, ByteArray.size_extract, List.length_cons, List.length_nil, ba_get, ba_empty, Int.toNat_natCast] at hW))
      | (refine And.intro (?_ : _ → _) (?_ : _ → _))
      | (refine FinR.drop 0 (Nat.zero_le _) (Closed.zero _) rfl ?_)
      | (refine FinR.keep ?_)
      | (refine And.intro (det3_agg rfl) ?_)
      | (refine fL_mk ?_)
      | (refine And.intro (by (try simp only [mk_size, List.size_toArray, ByteArray.size_append, ByteArray.size_extract, List.length_cons, List.length_nil]); omega) ?_)
      | (refine And.intro (by (try simp only [mk_size, List.size_toArray, ByteArray.size_append, ByteArray.size_extract, List.length_cons, List.length_nil, wrap64_eq]); omega) ?_)
      | fail)
    all_goals first | (exfalso; omega) | exact Again.go (y - 1, _) ⟨rfl, rfl, rfl, rfl, slI' (wpred y (by omega) hy0), trivial⟩ (.keep rfl) ⟨by show _ ≤ z; omega, (hc.set (by omega)).mono (by show _ ≤ n + 2 + 2 + 2 + 4 * (z - (y - 1)); omega), hk.setO (by omega), getn q (by omega), _, _, _, _, _, _, get_set q3⟩ (by show _ < y; omega)
  · obtain rfl : y = 0 := by omega
    repeat' ((conv => whnf); first
      | (refine And.intro rfl ?_)
      | (refine And.intro (by decide +kernel) ?_)
      | (refine And.intro trivial ?_)
      | (refine fS_mk ?_)
      | (refine Exists.intro _ (And.intro q3 (And.intro rfl (And.intro (Nat.le_of_ble_eq_true rfl) ?_))))
      | (refine Exists.intro _ (And.intro q (And.intro rfl (And.intro rfl (And.intro (Nat.le_of_ble_eq_true rfl) ?_)))))
      | (refine Exists.intro _ (And.intro (get_set q) (And.intro rfl (And.intro (Nat.le_of_ble_eq_true rfl) ?_))))
      | (refine Exists.intro _ (And.intro rfl (And.intro rfl (And.intro (Nat.le_of_ble_eq_true rfl) ?_))))
      | (refine Exists.intro _ (And.intro rfl (And.intro rfl (And.intro rfl (And.intro (Nat.le_of_ble_eq_true rfl) ?_)))))
      | (refine And.intro (Exists.intro _ (And.intro rfl rfl)) ?_)
      | (exact fun hW => absurd hW (by decide +kernel))
      | (intro hW; (try simp only [Bool.not_true, Bool.not_false, Bool.not_eq_true', Bool.not_eq_false', decide_eq_true_eq, decide_eq_false_iff_not, reduceCtorEq, Bool.true_eq_false, Bool.false_eq_true, mk_size, List.size_toArray, ByteArray.size_append, ByteArray.size_extract, List.length_cons, List.length_nil, ba_get, ba_empty, Int.toNat_natCast] at hW))
      | (refine And.intro (?_ : _ → _) (?_ : _ → _))
      | (refine FinR.drop 0 (Nat.zero_le _) (Closed.zero _) rfl ?_)
      | (refine FinR.keep ?_)
      | (refine And.intro (det3_agg rfl) ?_)
      | (refine fL_mk ?_)
      | (refine And.intro (by (try simp only [mk_size, List.size_toArray, ByteArray.size_append, ByteArray.size_extract, List.length_cons, List.length_nil]); omega) ?_)
      | (refine And.intro (by (try simp only [mk_size, List.size_toArray, ByteArray.size_append, ByteArray.size_extract, List.length_cons, List.length_nil, wrap64_eq]); omega) ?_)
      | fail)
    all_goals first | (exfalso; omega) | skip
    refine h0 _ _ _ _ _ _ _ ?_ ?_
    all_goals repeat' (first | exact hc.mono (by omega) | exact hk | refine CurAt.set ?_ (by omega) | refine Keeps.setO ?_ (by omega))
end Go.Proofs.Ytkcbhdjhbnnlgaa
end

section
/- Contracts: DoJobs. -/
set_option linter.unusedVariables false
set_option linter.unusedSimpArgs false
set_option maxRecDepth 100000
set_option maxHeartbeats 4000000
namespace Go.Proofs.Ytkcbhdjhbnnlgaa
open Go Go.RowKit Go.Proofs.Ytkcbhdjhbnnlgaa.Abs
variable {W0 : World} {σ : List Blk}
theorem c_l12DoT (n m n' m' : Nat) (hn : n < 2 ^ 36) (hm : m < 2 ^ 36) (p q p' q' : Int) (hp : 0 ≤ p ∧ p ≤ 1000) (hq : 0 ≤ q ∧ q ≤ 1000) (k a b : Int) (hj : jobO n m p q k a b = some (n', m', p', q')) (K : Cont) (h0 : K (.tup [SpN n' m' p' q', Bo true]) []) : ACall Try.prog W0 92 [SpN n m p q, Jb k a b] [] K := by
  exact c_l12Do n m hn hm p q hp hq k a b K (fun a b c d h => by rw [hj] at h; cases h; exact h0) (fun h => by rw [hj] at h; cases h)
theorem d_l12DoT (n m n' m' : Nat) (hn : n < 2 ^ 36) (hm : m < 2 ^ 36) (p q p' q' : Int) (hp : 0 ≤ p ∧ p ≤ 1000) (hq : 0 ≤ q ∧ q ≤ 1000) (k a b : Int) (hj : jobO n m p q k a b = some (n', m', p', q')) (K : Cont) (h0 : K (.tup [SpN n' m' p' q', Bo true]) σ) : ACall Try.prog W0 92 [SpN n m p q, Jb k a b] σ K :=
  ACall.lift rfl (fun _ => rfl) (fun W1 K _ hK => c_l12DoT n m n' m' hn hm p q p' q' hp hq k a b hj K hK) h0
theorem c_l12DoN (n m : Nat) (hn : n < 2 ^ 36) (hm : m < 2 ^ 36) (p q : Int) (hp : 0 ≤ p ∧ p ≤ 1000) (hq : 0 ≤ q ∧ q ≤ 1000) (k a b : Int) (hj : jobO n m p q k a b = none) (K : Cont) (h0 : K (.tup [Sp0, Bo false]) []) : ACall Try.prog W0 92 [SpN n m p q, Jb k a b] [] K := by
  exact c_l12Do n m hn hm p q hp hq k a b K (fun a b c d h => by rw [hj] at h; cases h) (fun _ => h0)
theorem d_l12DoN (n m : Nat) (hn : n < 2 ^ 36) (hm : m < 2 ^ 36) (p q : Int) (hp : 0 ≤ p ∧ p ≤ 1000) (hq : 0 ≤ q ∧ q ≤ 1000) (k a b : Int) (hj : jobO n m p q k a b = none) (K : Cont) (h0 : K (.tup [Sp0, Bo false]) σ) : ACall Try.prog W0 92 [SpN n m p q, Jb k a b] σ K :=
  ACall.lift rfl (fun _ => rfl) (fun W1 K _ hK => c_l12DoN n m hn hm p q hp hq k a b hj K hK) h0
structure ShopN where
  n : Nat
  m : Nat
  p : Int
  q : Int
def ShopN.ok (s : ShopN) : Prop := s.n < 2 ^ 36 ∧ s.m < 2 ^ 36 ∧ (0 ≤ s.p ∧ s.p ≤ 1000) ∧ (0 ≤ s.q ∧ s.q ≤ 1000)
abbrev ShopN.av (s : ShopN) : AV := SpN s.n s.m s.p s.q
def bS (s : ShopN) : Blk := ⟨[I (rowN s.n 0 : Nat), I (rowN s.n 1 : Nat), I (rowN s.n 2 : Nat), I (rowN s.n 3 : Nat), I (rowN s.n 4 : Nat), I (rowN s.n 5 : Nat), I (rowN s.m 0 : Nat), I (rowN s.m 1 : Nat), I (rowN s.m 2 : Nat), I (rowN s.m 3 : Nat), I (rowN s.m 4 : Nat), I (rowN s.m 5 : Nat), I s.p, I s.q], 0, 48, 0, false, false⟩
def bZ : Blk := ⟨[I 0, I 0, I 0, I 0, I 0, I 0, I 0, I 0, I 0, I 0, I 0, I 0, I 0, I 0], 0, 48, 0, false, false⟩
/-- jobs as long as they are possible -/
def runJ : List (List Int) → ShopN → ShopN × Nat
  | [], s => (s, 0)
  | x :: l, s => match jobO s.n s.m s.p s.q (x.getD 0 0) (x.getD 1 0) (x.getD 2 0) with
    | some (n', m', p', q') => ((runJ l ⟨n', m', p', q'⟩).1, (runJ l ⟨n', m', p', q'⟩).2 + 1)
    | none => (s, 0)
theorem closS3 (s t : ShopN) : Closed 3 [bS s, bZ, bS t] := fun B hB => by
  rcases List.mem_cons.1 hB with rfl | hB
  · rfl
  rcases List.mem_cons.1 hB with rfl | hB
  · rfl
  rw [List.mem_singleton.1 hB]; rfl
theorem closS2 (t : ShopN) : Closed 2 [bS t, bZ] := fun B hB => by
  rcases List.mem_cons.1 hB with rfl | hB
  · rfl
  rw [List.mem_singleton.1 hB]; rfl
theorem c_sDoJobs (s : ShopN) (hs : s.ok) (a : AV) (xs : List (List Int)) (ha : Sli W0 [] 3 enI a xs) (hx : ∀ x ∈ xs, x.length = 3) (hl : xs.length ≤ 1048576) (K : Cont) (h0 : K (.tup [(runJ xs s).1.av, I ((runJ xs s).2 : Nat), Bo true]) []) : ACall Try.prog W0 36 [s.av, a] [] K := by
  refine by36 (Nat.le_of_ble_eq_true rfl) ?_
  obtain ⟨hn, hm, hp, hq⟩ := hs
  have hg := in1000 hp hq
  cases ha with
  | nil =>
    repeat' ((conv => whnf); first
      | (refine And.intro rfl ?_)
      | (refine And.intro (by decide +kernel) ?_)
      | (refine And.intro trivial ?_)
      | (refine d_goodN (h0 := ?_) ..)
      | (refine Exists.intro _ (And.intro (fun τ => callW_fn (d_goodN (h0 := And.intro rfl rfl) ..)) ?_))
      | (refine Exists.intro _ (And.intro (callW_fn (d_goodN (h0 := And.intro rfl rfl) ..)) (And.intro trivial ?_)))
      | (refine Exists.intro _ (And.intro (callW_fn (d_goodN (h0 := And.intro rfl rfl) ..)) ?_))
      | (refine Exists.intro _ (And.intro (fun τ _ => callW_fn (d_goodN (h0 := And.intro rfl rfl) ..)) ?_))
      | (refine Exists.intro _ (And.intro rfl (And.intro rfl (And.intro (Nat.le_of_ble_eq_true rfl) ?_))))
      | (refine Exists.intro _ (And.intro rfl (And.intro rfl (And.intro rfl (And.intro (Nat.le_of_ble_eq_true rfl) ?_)))))
      | (refine And.intro (Exists.intro _ (And.intro rfl rfl)) ?_)
      | (exact fun hW => absurd hW (by decide +kernel))
      | (intro hW; (try simp only [Bool.not_true, Bool.not_false, Bool.not_eq_true', Bool.not_eq_false', decide_eq_true_eq, decide_eq_false_iff_not, reduceCtorEq, Bool.true_eq_false, Bool.false_eq_true, mk_size, List.size_toArray, ByteArray.size_append, ByteArray.size_extract, List.length_cons, List.length_nil, ba_get, ba_empty, Int.toNat_natCast] at hW))
      | (refine And.intro (?_ : _ → _) (?_ : _ → _))
      | (refine FinR.drop 0 (Nat.zero_le _) (Closed.zero _) rfl ?_)
      | (refine FinR.keep ?_)
      | (refine And.intro (det3_agg rfl) ?_)
      | (refine fL_mk ?_)
      | (refine And.intro (by (try simp only [mk_size, List.size_toArray, ByteArray.size_append, ByteArray.size_extract, List.length_cons, List.length_nil]); omega) ?_)
      | (refine And.intro (by (try simp only [mk_size, List.size_toArray, ByteArray.size_append, ByteArray.size_extract, List.length_cons, List.length_nil, wrap64_eq]); omega) ?_)
      | fail)
    all_goals first | (exfalso; simp_all; done) | skip
    refine LoopR.unroll 1 ?_
    repeat' ((conv => whnf); first
      | (refine And.intro rfl ?_)
      | (refine And.intro (by decide +kernel) ?_)
      | (refine And.intro trivial ?_)
      | (refine Exists.intro _ (And.intro rfl (And.intro rfl (And.intro (Nat.le_of_ble_eq_true rfl) ?_))))
      | (refine Exists.intro _ (And.intro rfl (And.intro rfl (And.intro rfl (And.intro (Nat.le_of_ble_eq_true rfl) ?_)))))
      | (refine And.intro (Exists.intro _ (And.intro rfl rfl)) ?_)
      | (exact fun hW => absurd hW (by decide +kernel))
      | (intro hW; (try simp only [Bool.not_true, Bool.not_false, Bool.not_eq_true', Bool.not_eq_false', decide_eq_true_eq, decide_eq_false_iff_not, reduceCtorEq, Bool.true_eq_false, Bool.false_eq_true, mk_size, List.size_toArray, ByteArray.size_append, ByteArray.size_extract, List.length_cons, List.length_nil, ba_get, ba_empty, Int.toNat_natCast] at hW))
      | (refine And.intro (?_ : _ → _) (?_ : _ → _))
      | (refine FinR.drop 0 (Nat.zero_le _) (Closed.zero _) rfl ?_)
      | (refine FinR.keep ?_)
      | (refine And.intro (det3_agg rfl) ?_)
      | (refine fL_mk ?_)
      | (refine And.intro (by (try simp only [mk_size, List.size_toArray, ByteArray.size_append, ByteArray.size_extract, List.length_cons, List.length_nil]); omega) ?_)
      | (refine And.intro (by (try simp only [mk_size, List.size_toArray, ByteArray.size_append, ByteArray.size_extract, List.length_cons, List.length_nil, wrap64_eq]); omega) ?_)
      | fail)
    all_goals first | (exfalso; omega) | exact h0
  | inn ad n cap xs hn' hc hcm hb hxx =>
    subst hn'
    repeat' ((conv => whnf); first
      | (refine And.intro rfl ?_)
      | (refine And.intro (by decide +kernel) ?_)
      | (refine And.intro trivial ?_)
      | (refine d_goodN (h0 := ?_) ..)
      | (refine Exists.intro _ (And.intro (fun τ => callW_fn (d_goodN (h0 := And.intro rfl rfl) ..)) ?_))
      | (refine Exists.intro _ (And.intro (callW_fn (d_goodN (h0 := And.intro rfl rfl) ..)) (And.intro trivial ?_)))
      | (refine Exists.intro _ (And.intro (callW_fn (d_goodN (h0 := And.intro rfl rfl) ..)) ?_))
      | (refine Exists.intro _ (And.intro (fun τ _ => callW_fn (d_goodN (h0 := And.intro rfl rfl) ..)) ?_))
      | (refine Exists.intro _ (And.intro rfl (And.intro rfl (And.intro (Nat.le_of_ble_eq_true rfl) ?_))))
      | (refine Exists.intro _ (And.intro rfl (And.intro rfl (And.intro rfl (And.intro (Nat.le_of_ble_eq_true rfl) ?_)))))
      | (refine And.intro (Exists.intro _ (And.intro rfl rfl)) ?_)
      | (exact fun hW => absurd hW (by decide +kernel))
      | (intro hW; (try simp only [Bool.not_true, Bool.not_false, Bool.not_eq_true', Bool.not_eq_false', decide_eq_true_eq, decide_eq_false_iff_not, reduceCtorEq, Bool.true_eq_false, Bool.false_eq_true, mk_size, List.size_toArray, ByteArray.size_append, ByteArray.size_extract, List.length_cons, List.length_nil, ba_get, ba_empty, Int.toNat_natCast] at hW))
      | (refine And.intro (?_ : _ → _) (?_ : _ → _))
      | (refine FinR.drop 0 (Nat.zero_le _) (Closed.zero _) rfl ?_)
      | (refine FinR.keep ?_)
      | (refine And.intro (det3_agg rfl) ?_)
      | (refine fL_mk ?_)
      | (refine And.intro (by (try simp only [mk_size, List.size_toArray, ByteArray.size_append, ByteArray.size_extract, List.length_cons, List.length_nil]); omega) ?_)
      | (refine And.intro (by (try simp only [mk_size, List.size_toArray, ByteArray.size_append, ByteArray.size_extract, List.length_cons, List.length_nil, wrap64_eq]); omega) ?_)
      | fail)
    all_goals first | (exfalso; simp_all; done) | skip
    refine LoopR.live (fun y : Nat × ShopN => [(1, .lit (.slice (some ad) xs.length cap)), (4, .ptr 1 0 0), (7, .ptr 2 0 0), (8, I y.1)]) (fun y => [bS s, bZ, bS y.2]) (fun y => y.1 ≤ xs.length ∧ y.2.ok ∧ (runJ xs s).1 = (runJ (xs.drop y.1) y.2).1 ∧ (runJ xs s).2 = (runJ (xs.drop y.1) y.2).2 + y.1) (fun y => xs.length - y.1) (0, s) ⟨rfl, rfl, rfl, rfl, trivial⟩ (.keep rfl) ⟨Nat.zero_le _, ⟨hn, hm, hp, hq⟩, rfl, rfl⟩ ?_
    rintro ⟨i, t⟩ ⟨hi, ht, hr1, hr2⟩
    obtain ⟨tn, tm, tp, tq⟩ := ht
    dsimp only at hi hr1 hr2
    by_cases hlt : i < xs.length
    · have hxi : xs[i]? = some xs[i] := List.getElem?_eq_getElem hlt
      obtain ⟨k, b, c, hrow⟩ : ∃ k b c, xs[i] = [k, b, c] := by
        have := hx _ (List.mem_of_getElem? hxi)
        match hh : xs[i], this with
        | [k, b, c], _ => exact ⟨k, b, c, rfl⟩
      rw [List.drop_eq_getElem_cons hlt, hrow] at hr1 hr2
      rw [hrow] at hxi
      have hld := fun C h => ldIn (W0 := W0) (s := 3) (enc := enI) hb hxx (k := i) hxi rfl (C := C) h
      cases hj : jobO t.n t.m t.p t.q k b c with
      | none =>
        have e : runJ ([k, b, c] :: xs.drop (i + 1)) t = (t, 0) := by simp [runJ, hj]
        rw [e] at hr1 hr2
        rw [hr1, hr2, Nat.zero_add] at h0
        repeat' ((conv => whnf); first
          | (refine And.intro rfl ?_)
          | (refine And.intro (by decide +kernel) ?_)
          | (refine And.intro trivial ?_)
          | (refine hld _ ?_)
          | (refine d_l12DoN (hn := tn) (hm := tm) (hp := tp) (hq := tq) (hj := hj) (h0 := ?_) ..)
          | (refine Exists.intro _ (And.intro (fun τ => callW_fn (d_l12DoN (hn := tn) (hm := tm) (hp := tp) (hq := tq) (hj := hj) (h0 := And.intro rfl rfl) ..)) ?_))
          | (refine Exists.intro _ (And.intro (callW_fn (d_l12DoN (hn := tn) (hm := tm) (hp := tp) (hq := tq) (hj := hj) (h0 := And.intro rfl rfl) ..)) (And.intro trivial ?_)))
          | (refine Exists.intro _ (And.intro (callW_fn (d_l12DoN (hn := tn) (hm := tm) (hp := tp) (hq := tq) (hj := hj) (h0 := And.intro rfl rfl) ..)) ?_))
          | (refine Exists.intro _ (And.intro (fun τ _ => callW_fn (d_l12DoN (hn := tn) (hm := tm) (hp := tp) (hq := tq) (hj := hj) (h0 := And.intro rfl rfl) ..)) ?_))
          | (refine Exists.intro _ (And.intro rfl (And.intro rfl (And.intro (Nat.le_of_ble_eq_true rfl) ?_))))
          | (refine Exists.intro _ (And.intro rfl (And.intro rfl (And.intro rfl (And.intro (Nat.le_of_ble_eq_true rfl) ?_)))))
          | (refine And.intro (Exists.intro _ (And.intro rfl rfl)) ?_)
          | (exact fun hW => absurd hW (by decide +kernel))
          | (intro hW; (try simp only [Bool.not_true, Bool.not_false, Bool.not_eq_true', Bool.not_eq_false', decide_eq_true_eq, decide_eq_false_iff_not, reduceCtorEq, Bool.true_eq_false, Bool.false_eq_true, mk_size, List.size_toArray, ByteArray.size_append, ByteArray.size_extract, List.length_cons, List.length_nil, ba_get, ba_empty, Int.toNat_natCast] at hW))
          | (refine And.intro (?_ : _ → _) (?_ : _ → _))
          | (refine FinR.drop 0 (Nat.zero_le _) (Closed.zero _) rfl ?_)
          | (refine FinR.keep ?_)
          | (refine And.intro (det3_agg rfl) ?_)
          | (refine fL_mk ?_)
          | (refine And.intro (by (try simp only [mk_size, List.size_toArray, ByteArray.size_append, ByteArray.size_extract, List.length_cons, List.length_nil]); omega) ?_)
          | (refine And.intro (by (try simp only [mk_size, List.size_toArray, ByteArray.size_append, ByteArray.size_extract, List.length_cons, List.length_nil, wrap64_eq]); omega) ?_)
          | fail)
        all_goals first | (exfalso; omega) | exact h0
      | some r =>
        obtain ⟨n', m', p', q'⟩ := r
        have hok := jobO_ok tn tm tp.1 tq.1 hj
        have e : runJ ([k, b, c] :: xs.drop (i + 1)) t = ((runJ (xs.drop (i + 1)) ⟨n', m', p', q'⟩).1, (runJ (xs.drop (i + 1)) ⟨n', m', p', q'⟩).2 + 1) := by simp [runJ, hj]
        rw [e] at hr1 hr2
        repeat' ((conv => whnf); first
          | (refine And.intro rfl ?_)
          | (refine And.intro (by decide +kernel) ?_)
          | (refine And.intro trivial ?_)
          | (refine hld _ ?_)
          | (refine d_l12DoT (hn := tn) (hm := tm) (hp := tp) (hq := tq) (hj := hj) (h0 := ?_) ..)
          | (refine Exists.intro _ (And.intro (fun τ => callW_fn (d_l12DoT (hn := tn) (hm := tm) (hp := tp) (hq := tq) (hj := hj) (h0 := And.intro rfl rfl) ..)) ?_))
          | (refine Exists.intro _ (And.intro (callW_fn (d_l12DoT (hn := tn) (hm := tm) (hp := tp) (hq := tq) (hj := hj) (h0 := And.intro rfl rfl) ..)) (And.intro trivial ?_)))
          | (refine Exists.intro _ (And.intro (callW_fn (d_l12DoT (hn := tn) (hm := tm) (hp := tp) (hq := tq) (hj := hj) (h0 := And.intro rfl rfl) ..)) ?_))
          | (refine Exists.intro _ (And.intro (fun τ _ => callW_fn (d_l12DoT (hn := tn) (hm := tm) (hp := tp) (hq := tq) (hj := hj) (h0 := And.intro rfl rfl) ..)) ?_))
          | (refine Exists.intro _ (And.intro rfl (And.intro rfl (And.intro (Nat.le_of_ble_eq_true rfl) ?_))))
          | (refine Exists.intro _ (And.intro rfl (And.intro rfl (And.intro rfl (And.intro (Nat.le_of_ble_eq_true rfl) ?_)))))
          | (refine And.intro (Exists.intro _ (And.intro rfl rfl)) ?_)
          | (exact fun hW => absurd hW (by decide +kernel))
          | (intro hW; (try simp only [Bool.not_true, Bool.not_false, Bool.not_eq_true', Bool.not_eq_false', decide_eq_true_eq, decide_eq_false_iff_not, reduceCtorEq, Bool.true_eq_false, Bool.false_eq_true, mk_size, List.size_toArray, ByteArray.size_append, ByteArray.size_extract, List.length_cons, List.length_nil, ba_get, ba_empty, Int.toNat_natCast] at hW))
          | (refine And.intro (?_ : _ → _) (?_ : _ → _))
          | (refine FinR.drop 0 (Nat.zero_le _) (Closed.zero _) rfl ?_)
          | (refine FinR.keep ?_)
          | (refine And.intro (det3_agg rfl) ?_)
          | (refine fL_mk ?_)
          | (refine And.intro (by (try simp only [mk_size, List.size_toArray, ByteArray.size_append, ByteArray.size_extract, List.length_cons, List.length_nil]); omega) ?_)
          | (refine And.intro (by (try simp only [mk_size, List.size_toArray, ByteArray.size_append, ByteArray.size_extract, List.length_cons, List.length_nil, wrap64_eq]); omega) ?_)
          | fail)
        all_goals first | (exfalso; omega) | skip
        exact Again.go (i + 1, ⟨n', m', p', q'⟩) ⟨rfl, rfl, rfl, slI' (wsucc' i (by omega)), trivial⟩ (.drop 3 (Nat.zero_le _) rfl (closS3 _ _) rfl) ⟨by dsimp only; omega, hok, hr1, by dsimp only at hr2 ⊢; omega⟩ (by dsimp only; omega)
    · obtain rfl : i = xs.length := by omega
      rw [List.drop_length] at hr1 hr2
      rw [hr1, hr2, show (runJ [] t).2 + xs.length = xs.length from Nat.zero_add _] at h0
      repeat' ((conv => whnf); first
        | (refine And.intro rfl ?_)
        | (refine And.intro (by decide +kernel) ?_)
        | (refine And.intro trivial ?_)
        | (refine Exists.intro _ (And.intro rfl (And.intro rfl (And.intro (Nat.le_of_ble_eq_true rfl) ?_))))
        | (refine Exists.intro _ (And.intro rfl (And.intro rfl (And.intro rfl (And.intro (Nat.le_of_ble_eq_true rfl) ?_)))))
        | (refine And.intro (Exists.intro _ (And.intro rfl rfl)) ?_)
        | (exact fun hW => absurd hW (by decide +kernel))
        | (intro hW; (try simp only [Bool.not_true, Bool.not_false, Bool.not_eq_true', Bool.not_eq_false', decide_eq_true_eq, decide_eq_false_iff_not, reduceCtorEq, Bool.true_eq_false, Bool.false_eq_true, mk_size, List.size_toArray, ByteArray.size_append, ByteArray.size_extract, List.length_cons, List.length_nil, ba_get, ba_empty, Int.toNat_natCast] at hW))
        | (refine And.intro (?_ : _ → _) (?_ : _ → _))
        | (refine FinR.drop 0 (Nat.zero_le _) (Closed.zero _) rfl ?_)
        | (refine FinR.keep ?_)
        | (refine And.intro (det3_agg rfl) ?_)
        | (refine fL_mk ?_)
        | (refine And.intro (by (try simp only [mk_size, List.size_toArray, ByteArray.size_append, ByteArray.size_extract, List.length_cons, List.length_nil]); omega) ?_)
        | (refine And.intro (by (try simp only [mk_size, List.size_toArray, ByteArray.size_append, ByteArray.size_extract, List.length_cons, List.length_nil, wrap64_eq]); omega) ?_)
        | fail)
      all_goals first | (exfalso; omega) | exact h0
  | own b ver off n cap B xs hB => simp at hB
theorem c_DoJobs (s : ShopN) (hs : s.ok) (a : AV) (xs : List (List Int)) (ha : Sli W0 [] 3 enI a xs) (hx : ∀ x ∈ xs, x.length = 3) (hl : xs.length ≤ 1048576) (K : Cont) (h0 : K (.tup [(runJ xs s).1.av, I ((runJ xs s).2 : Nat), Bo true]) []) : ACall Try.prog W0 35 [s.av, a] [] K := by
  refine by35 (Nat.le_of_ble_eq_true rfl) ?_
  obtain ⟨hn, hm, hp, hq⟩ := hs
  have hg := in1000 hp hq
  cases ha with
  | nil =>
    repeat' ((conv => whnf); first
      | (refine And.intro rfl ?_)
      | (refine And.intro (by decide +kernel) ?_)
      | (refine And.intro trivial ?_)
      | (refine d_isShopN (h0 := ?_) ..)
      | (refine Exists.intro _ (And.intro (fun τ => callW_fn (d_isShopN (h0 := And.intro rfl rfl) ..)) ?_))
      | (refine Exists.intro _ (And.intro (callW_fn (d_isShopN (h0 := And.intro rfl rfl) ..)) (And.intro trivial ?_)))
      | (refine Exists.intro _ (And.intro (callW_fn (d_isShopN (h0 := And.intro rfl rfl) ..)) ?_))
      | (refine Exists.intro _ (And.intro (fun τ _ => callW_fn (d_isShopN (h0 := And.intro rfl rfl) ..)) ?_))
      | (refine Exists.intro _ (And.intro rfl (And.intro rfl (And.intro (Nat.le_of_ble_eq_true rfl) ?_))))
      | (refine Exists.intro _ (And.intro rfl (And.intro rfl (And.intro rfl (And.intro (Nat.le_of_ble_eq_true rfl) ?_)))))
      | (refine And.intro (Exists.intro _ (And.intro rfl rfl)) ?_)
      | (exact fun hW => absurd hW (by decide +kernel))
      | (intro hW; (try simp only [Bool.not_true, Bool.not_false, Bool.not_eq_true', Bool.not_eq_false', decide_eq_true_eq, decide_eq_false_iff_not, reduceCtorEq, Bool.true_eq_false, Bool.false_eq_true, mk_size, List.size_toArray, ByteArray.size_append, ByteArray.size_extract, List.length_cons, List.length_nil, ba_get, ba_empty, Int.toNat_natCast] at hW))
      | (refine And.intro (?_ : _ → _) (?_ : _ → _))
      | (refine FinR.drop 0 (Nat.zero_le _) (Closed.zero _) rfl ?_)
      | (refine FinR.keep ?_)
      | (refine And.intro (det3_agg rfl) ?_)
      | (refine fL_mk ?_)
      | (refine And.intro (by (try simp only [mk_size, List.size_toArray, ByteArray.size_append, ByteArray.size_extract, List.length_cons, List.length_nil]); omega) ?_)
      | (refine And.intro (by (try simp only [mk_size, List.size_toArray, ByteArray.size_append, ByteArray.size_extract, List.length_cons, List.length_nil, wrap64_eq]); omega) ?_)
      | fail)
    all_goals first | (exfalso; simp_all; done) | skip
    refine LoopR.unroll 1 ?_
    repeat' ((conv => whnf); first
      | (refine And.intro rfl ?_)
      | (refine And.intro (by decide +kernel) ?_)
      | (refine And.intro trivial ?_)
      | (refine Exists.intro _ (And.intro rfl (And.intro rfl (And.intro (Nat.le_of_ble_eq_true rfl) ?_))))
      | (refine Exists.intro _ (And.intro rfl (And.intro rfl (And.intro rfl (And.intro (Nat.le_of_ble_eq_true rfl) ?_)))))
      | (refine And.intro (Exists.intro _ (And.intro rfl rfl)) ?_)
      | (exact fun hW => absurd hW (by decide +kernel))
      | (intro hW; (try simp only [Bool.not_true, Bool.not_false, Bool.not_eq_true', Bool.not_eq_false', decide_eq_true_eq, decide_eq_false_iff_not, reduceCtorEq, Bool.true_eq_false, Bool.false_eq_true, mk_size, List.size_toArray, ByteArray.size_append, ByteArray.size_extract, List.length_cons, List.length_nil, ba_get, ba_empty, Int.toNat_natCast] at hW))
      | (refine And.intro (?_ : _ → _) (?_ : _ → _))
      | (refine FinR.drop 0 (Nat.zero_le _) (Closed.zero _) rfl ?_)
      | (refine FinR.keep ?_)
      | (refine And.intro (det3_agg rfl) ?_)
      | (refine fL_mk ?_)
      | (refine And.intro (by (try simp only [mk_size, List.size_toArray, ByteArray.size_append, ByteArray.size_extract, List.length_cons, List.length_nil]); omega) ?_)
      | (refine And.intro (by (try simp only [mk_size, List.size_toArray, ByteArray.size_append, ByteArray.size_extract, List.length_cons, List.length_nil, wrap64_eq]); omega) ?_)
      | fail)
    all_goals first | (exfalso; omega) | exact h0
  | inn ad n cap xs hn' hc hcm hb hxx =>
    subst hn'
    repeat' ((conv => whnf); first
      | (refine And.intro rfl ?_)
      | (refine And.intro (by decide +kernel) ?_)
      | (refine And.intro trivial ?_)
      | (refine d_isShopN (h0 := ?_) ..)
      | (refine Exists.intro _ (And.intro (fun τ => callW_fn (d_isShopN (h0 := And.intro rfl rfl) ..)) ?_))
      | (refine Exists.intro _ (And.intro (callW_fn (d_isShopN (h0 := And.intro rfl rfl) ..)) (And.intro trivial ?_)))
      | (refine Exists.intro _ (And.intro (callW_fn (d_isShopN (h0 := And.intro rfl rfl) ..)) ?_))
      | (refine Exists.intro _ (And.intro (fun τ _ => callW_fn (d_isShopN (h0 := And.intro rfl rfl) ..)) ?_))
      | (refine Exists.intro _ (And.intro rfl (And.intro rfl (And.intro (Nat.le_of_ble_eq_true rfl) ?_))))
      | (refine Exists.intro _ (And.intro rfl (And.intro rfl (And.intro rfl (And.intro (Nat.le_of_ble_eq_true rfl) ?_)))))
      | (refine And.intro (Exists.intro _ (And.intro rfl rfl)) ?_)
      | (exact fun hW => absurd hW (by decide +kernel))
      | (intro hW; (try simp only [Bool.not_true, Bool.not_false, Bool.not_eq_true', Bool.not_eq_false', decide_eq_true_eq, decide_eq_false_iff_not, reduceCtorEq, Bool.true_eq_false, Bool.false_eq_true, mk_size, List.size_toArray, ByteArray.size_append, ByteArray.size_extract, List.length_cons, List.length_nil, ba_get, ba_empty, Int.toNat_natCast] at hW))
      | (refine And.intro (?_ : _ → _) (?_ : _ → _))
      | (refine FinR.drop 0 (Nat.zero_le _) (Closed.zero _) rfl ?_)
      | (refine FinR.keep ?_)
      | (refine And.intro (det3_agg rfl) ?_)
      | (refine fL_mk ?_)
      | (refine And.intro (by (try simp only [mk_size, List.size_toArray, ByteArray.size_append, ByteArray.size_extract, List.length_cons, List.length_nil]); omega) ?_)
      | (refine And.intro (by (try simp only [mk_size, List.size_toArray, ByteArray.size_append, ByteArray.size_extract, List.length_cons, List.length_nil, wrap64_eq]); omega) ?_)
      | fail)
    all_goals first | (exfalso; simp_all; done) | skip
    refine LoopR.live (fun y : Nat × ShopN => [(1, .lit (.slice (some ad) xs.length cap)), (2, .ptr 0 0 0), (4, .ptr 1 0 0), (15, .lit (.slice (some ad) xs.length cap)), (16, I xs.length), (17, I y.1)]) (fun y => [bS y.2, bZ]) (fun y => y.1 ≤ xs.length ∧ y.2.ok ∧ (runJ xs s).1 = (runJ (xs.drop y.1) y.2).1 ∧ (runJ xs s).2 = (runJ (xs.drop y.1) y.2).2 + y.1) (fun y => xs.length - y.1) (0, s) ⟨rfl, rfl, rfl, rfl, rfl, rfl, trivial⟩ (.keep rfl) ⟨Nat.zero_le _, ⟨hn, hm, hp, hq⟩, rfl, rfl⟩ ?_
    rintro ⟨i, t⟩ ⟨hi, ht, hr1, hr2⟩
    obtain ⟨tn, tm, tp, tq⟩ := ht
    dsimp only at hi hr1 hr2
    by_cases hlt : i < xs.length
    · have hxi : xs[i]? = some xs[i] := List.getElem?_eq_getElem hlt
      obtain ⟨k, b, c, hrow⟩ : ∃ k b c, xs[i] = [k, b, c] := by
        have := hx _ (List.mem_of_getElem? hxi)
        match hh : xs[i], this with
        | [k, b, c], _ => exact ⟨k, b, c, rfl⟩
      rw [List.drop_eq_getElem_cons hlt, hrow] at hr1 hr2
      rw [hrow] at hxi
      have hld := fun C h => ldIn (W0 := W0) (s := 3) (enc := enI) hb hxx (k := i) hxi rfl (C := C) h
      cases hj : jobO t.n t.m t.p t.q k b c with
      | none =>
        have e : runJ ([k, b, c] :: xs.drop (i + 1)) t = (t, 0) := by simp [runJ, hj]
        rw [e] at hr1 hr2
        rw [hr1, hr2, Nat.zero_add] at h0
        repeat' ((conv => whnf); first
          | (refine And.intro rfl ?_)
          | (refine And.intro (by decide +kernel) ?_)
          | (refine And.intro trivial ?_)
          | (refine hld _ ?_)
          | (refine d_job (hn := tn) (hm := tm) (hp := tp) (hq := tq) (h1 := fun a b c d h => by rw [hj] at h; cases h) (h2 := fun h c0 c1 c2 c3 c4 c5 c6 c7 c8 c9 c10 c11 c12 c13 => ?_) ..)
          | (refine Exists.intro _ (And.intro rfl (And.intro rfl (And.intro (Nat.le_of_ble_eq_true rfl) ?_))))
          | (refine Exists.intro _ (And.intro rfl (And.intro rfl (And.intro rfl (And.intro (Nat.le_of_ble_eq_true rfl) ?_)))))
          | (refine And.intro (Exists.intro _ (And.intro rfl rfl)) ?_)
          | (exact fun hW => absurd hW (by decide +kernel))
          | (intro hW; (try simp only [Bool.not_true, Bool.not_false, Bool.not_eq_true', Bool.not_eq_false', decide_eq_true_eq, decide_eq_false_iff_not, reduceCtorEq, Bool.true_eq_false, Bool.false_eq_true, mk_size, List.size_toArray, ByteArray.size_append, ByteArray.size_extract, List.length_cons, List.length_nil, ba_get, ba_empty, Int.toNat_natCast] at hW))
          | (refine And.intro (?_ : _ → _) (?_ : _ → _))
          | (refine FinR.drop 0 (Nat.zero_le _) (Closed.zero _) rfl ?_)
          | (refine FinR.keep ?_)
          | (refine And.intro (det3_agg rfl) ?_)
          | (refine fL_mk ?_)
          | (refine And.intro (by (try simp only [mk_size, List.size_toArray, ByteArray.size_append, ByteArray.size_extract, List.length_cons, List.length_nil]); omega) ?_)
          | (refine And.intro (by (try simp only [mk_size, List.size_toArray, ByteArray.size_append, ByteArray.size_extract, List.length_cons, List.length_nil, wrap64_eq]); omega) ?_)
          | fail)
        all_goals first | (exfalso; omega) | exact h0
      | some r =>
        obtain ⟨n', m', p', q'⟩ := r
        have hok := jobO_ok tn tm tp.1 tq.1 hj
        have e : runJ ([k, b, c] :: xs.drop (i + 1)) t = ((runJ (xs.drop (i + 1)) ⟨n', m', p', q'⟩).1, (runJ (xs.drop (i + 1)) ⟨n', m', p', q'⟩).2 + 1) := by simp [runJ, hj]
        rw [e] at hr1 hr2
        repeat' ((conv => whnf); first
          | (refine And.intro rfl ?_)
          | (refine And.intro (by decide +kernel) ?_)
          | (refine And.intro trivial ?_)
          | (refine hld _ ?_)
          | (refine d_jobT (hn := tn) (hm := tm) (hp := tp) (hq := tq) (hj := hj) (h0 := ?_) ..)
          | (refine Exists.intro _ (And.intro rfl (And.intro rfl (And.intro (Nat.le_of_ble_eq_true rfl) ?_))))
          | (refine Exists.intro _ (And.intro rfl (And.intro rfl (And.intro rfl (And.intro (Nat.le_of_ble_eq_true rfl) ?_)))))
          | (refine And.intro (Exists.intro _ (And.intro rfl rfl)) ?_)
          | (exact fun hW => absurd hW (by decide +kernel))
          | (intro hW; (try simp only [Bool.not_true, Bool.not_false, Bool.not_eq_true', Bool.not_eq_false', decide_eq_true_eq, decide_eq_false_iff_not, reduceCtorEq, Bool.true_eq_false, Bool.false_eq_true, mk_size, List.size_toArray, ByteArray.size_append, ByteArray.size_extract, List.length_cons, List.length_nil, ba_get, ba_empty, Int.toNat_natCast] at hW))
          | (refine And.intro (?_ : _ → _) (?_ : _ → _))
          | (refine FinR.drop 0 (Nat.zero_le _) (Closed.zero _) rfl ?_)
          | (refine FinR.keep ?_)
          | (refine And.intro (det3_agg rfl) ?_)
          | (refine fL_mk ?_)
          | (refine And.intro (by (try simp only [mk_size, List.size_toArray, ByteArray.size_append, ByteArray.size_extract, List.length_cons, List.length_nil]); omega) ?_)
          | (refine And.intro (by (try simp only [mk_size, List.size_toArray, ByteArray.size_append, ByteArray.size_extract, List.length_cons, List.length_nil, wrap64_eq]); omega) ?_)
          | fail)
        all_goals first | (exfalso; omega) | skip
        exact Again.go (i + 1, ⟨n', m', p', q'⟩) ⟨rfl, rfl, rfl, rfl, rfl, slI' (wsucc' i (by omega)), trivial⟩ (.drop 2 (Nat.zero_le _) rfl (closS2 _) rfl) ⟨by dsimp only; omega, hok, hr1, by dsimp only at hr2 ⊢; omega⟩ (by dsimp only; omega)
    · obtain rfl : i = xs.length := by omega
      rw [List.drop_length] at hr1 hr2
      rw [hr1, hr2, show (runJ [] t).2 + xs.length = xs.length from Nat.zero_add _] at h0
      repeat' ((conv => whnf); first
        | (refine And.intro rfl ?_)
        | (refine And.intro (by decide +kernel) ?_)
        | (refine And.intro trivial ?_)
        | (refine Exists.intro _ (And.intro rfl (And.intro rfl (And.intro (Nat.le_of_ble_eq_true rfl) ?_))))
        | (refine Exists.intro _ (And.intro rfl (And.intro rfl (And.intro rfl (And.intro (Nat.le_of_ble_eq_true rfl) ?_)))))
        | (refine And.intro (Exists.intro _ (And.intro rfl rfl)) ?_)
        | (exact fun hW => absurd hW (by decide +kernel))
        | (intro hW; (try simp only [Bool.not_true, Bool.not_false, Bool.not_eq_true', Bool.not_eq_false', decide_eq_true_eq, decide_eq_false_iff_not, reduceCtorEq, Bool.true_eq_false, Bool.false_eq_true, mk_size, List.size_toArray, ByteArray.size_append, ByteArray.size_extract, List.length_cons, List.length_nil, ba_get, ba_empty, Int.toNat_natCast] at hW))
        | (refine And.intro (?_ : _ → _) (?_ : _ → _))
        | (refine FinR.drop 0 (Nat.zero_le _) (Closed.zero _) rfl ?_)
        | (refine FinR.keep ?_)
        | (refine And.intro (det3_agg rfl) ?_)
        | (refine fL_mk ?_)
        | (refine And.intro (by (try simp only [mk_size, List.size_toArray, ByteArray.size_append, ByteArray.size_extract, List.length_cons, List.length_nil]); omega) ?_)
        | (refine And.intro (by (try simp only [mk_size, List.size_toArray, ByteArray.size_append, ByteArray.size_extract, List.length_cons, List.length_nil, wrap64_eq]); omega) ?_)
        | fail)
      all_goals first | (exfalso; omega) | exact h0
  | own b ver off n cap B xs hB => simp at hB
end Go.Proofs.Ytkcbhdjhbnnlgaa
end

section
/- Contracts: the law DoJobs. -/
set_option linter.unusedVariables false
set_option linter.unusedSimpArgs false
set_option maxRecDepth 100000
set_option maxHeartbeats 4000000
namespace Go.Proofs.Ytkcbhdjhbnnlgaa
open Go Go.RowKit Go.Proofs.Ytkcbhdjhbnnlgaa.Abs
variable {W0 : World} {σ : List Blk}
theorem shB_nil : σ ++ shB σ.length [] = σ := by simp [shB]
/-- a contract whose first argument is plain, whose second is a slice, and whose result leads to no block -/
theorem lift_PS {g : FuncId} {b a : AV} {r : AV} {xs : List (List Int)} {s : Nat} (hok : callOK Try.prog g = true) (hb : pure3 b = true) (hr : ∀ k, sh3 k r = r) (hs : Sli W0 σ s enI a xs) (h : ∀ (W1 : World) (a' : AV), Sli W1 [] s enI a' xs → ∀ K : Cont, K r [] → ACall Try.prog W1 g [b, a'] [] K) (K : Cont) (h0 : K r σ) : ACall Try.prog W0 g [b, a] σ K := by
  refine ACall.frameA (K0 := fun v σ' => v = r ∧ σ' = []) hok (fun W1 ι vs hh hrr => ?_) ?_
  · obtain ⟨v1, vs', rfl, hr1, hr2⟩ := Rels.uncons hrr
    obtain ⟨v2, vs'', rfl, hr3, hr4⟩ := Rels.uncons hr2
    obtain ⟨a', ha, hs'⟩ := hs.conc hh ⟨v2, hr3⟩
    obtain rfl := hr4.nil_inv
    exact ⟨[b, a'], Rels.cons (rel3_pure hb hr1) (Rels.cons (ha _ hr3) Rels.nil), h W1 a' hs' _ ⟨rfl, rfl⟩⟩
  · rintro v σ' ⟨rfl, rfl⟩
    rw [shB_nil, hr]; exact h0
theorem d_sDoJobs (s : ShopN) (hs : s.ok) (a : AV) (xs : List (List Int)) (ha : Sli W0 σ 3 enI a xs) (hx : ∀ x ∈ xs, x.length = 3) (hl : xs.length ≤ 1048576) (K : Cont) (h0 : K (.tup [(runJ xs s).1.av, I ((runJ xs s).2 : Nat), Bo true]) σ) : ACall Try.prog W0 36 [s.av, a] σ K :=
  lift_PS (by kernel_rfl) rfl (fun _ => rfl) ha (fun W1 a' h K hK => c_sDoJobs s hs a' xs h hx hl K hK) K h0
theorem d_DoJobs (s : ShopN) (hs : s.ok) (a : AV) (xs : List (List Int)) (ha : Sli W0 σ 3 enI a xs) (hx : ∀ x ∈ xs, x.length = 3) (hl : xs.length ≤ 1048576) (K : Cont) (h0 : K (.tup [(runJ xs s).1.av, I ((runJ xs s).2 : Nat), Bo true]) σ) : ACall Try.prog W0 35 [s.av, a] σ K :=
  lift_PS (by kernel_rfl) rfl (fun _ => rfl) ha (fun W1 a' h K hK => c_DoJobs s hs a' xs h hx hl K hK) K h0
end Go.Proofs.Ytkcbhdjhbnnlgaa
end

section
/- Contracts: the law DoJobs. -/
set_option linter.unusedVariables false
set_option linter.unusedSimpArgs false
set_option maxRecDepth 100000
set_option maxHeartbeats 4000000
namespace Go.Proofs.Ytkcbhdjhbnnlgaa
open Go Go.RowKit Go.Proofs.Ytkcbhdjhbnnlgaa.Abs
variable {W0 : World} {σ : List Blk}
theorem c_sDoJobsF (c0 c1 c2 c3 c4 c5 c6 c7 c8 c9 c10 c11 c12 c13 : Int) (hb : shopB c0 c1 c2 c3 c4 c5 c6 c7 c8 c9 c10 c11 c12 c13 = false) (a : AV) (K : Cont) (h0 : K (.tup [Sp0, I 0, Bo false]) []) : ACall Try.prog W0 36 [Sp c0 c1 c2 c3 c4 c5 c6 c7 c8 c9 c10 c11 c12 c13, a] [] K := by
  refine by36 (Nat.le_of_ble_eq_true rfl) ?_
  repeat' ((conv => whnf); first
    | (refine And.intro rfl ?_)
    | (refine And.intro (by decide +kernel) ?_)
    | (refine And.intro trivial ?_)
    | (refine d_l12Good (h0 := ?_) ..)
    | (refine Exists.intro _ (And.intro (fun τ => callW_fn (d_l12Good (h0 := And.intro rfl rfl) ..)) ?_))
    | (refine Exists.intro _ (And.intro (callW_fn (d_l12Good (h0 := And.intro rfl rfl) ..)) (And.intro trivial ?_)))
    | (refine Exists.intro _ (And.intro (callW_fn (d_l12Good (h0 := And.intro rfl rfl) ..)) ?_))
    | (refine Exists.intro _ (And.intro (fun τ _ => callW_fn (d_l12Good (h0 := And.intro rfl rfl) ..)) ?_))
    | (refine Exists.intro _ (And.intro rfl (And.intro rfl (And.intro (Nat.le_of_ble_eq_true rfl) ?_))))
    | (refine Exists.intro _ (And.intro rfl (And.intro rfl (And.intro rfl (And.intro (Nat.le_of_ble_eq_true rfl) ?_)))))
    | (refine And.intro (Exists.intro _ (And.intro rfl rfl)) ?_)
    | (exact fun hW => absurd hW (by decide +kernel))
    | (intro hW; (try simp only [Bool.not_true, Bool.not_false, Bool.not_eq_true', Bool.not_eq_false', decide_eq_true_eq, decide_eq_false_iff_not, reduceCtorEq, Bool.true_eq_false, Bool.false_eq_true, mk_size, List.size_toArray, ByteArray.size_append, ByteArray.size_extract, List.length_cons, List.length_nil, ba_get, ba_empty, Int.toNat_natCast] at hW))
    | (refine And.intro (?_ : _ → _) (?_ : _ → _))
    | (refine FinR.drop 0 (Nat.zero_le _) (Closed.zero _) rfl ?_)
    | (refine FinR.keep ?_)
    | (refine And.intro (det3_agg rfl) ?_)
    | (refine fL_mk ?_)
    | (refine And.intro (by (try simp only [mk_size, List.size_toArray, ByteArray.size_append, ByteArray.size_extract, List.length_cons, List.length_nil]); omega) ?_)
    | (refine And.intro (by (try simp only [mk_size, List.size_toArray, ByteArray.size_append, ByteArray.size_extract, List.length_cons, List.length_nil, wrap64_eq]); omega) ?_)
    | fail)
  all_goals first | exact h0 | (exfalso; simp_all; done)
theorem c_DoJobsF (c0 c1 c2 c3 c4 c5 c6 c7 c8 c9 c10 c11 c12 c13 : Int) (hb : shopB c0 c1 c2 c3 c4 c5 c6 c7 c8 c9 c10 c11 c12 c13 = false) (a : AV) (K : Cont) (h0 : K (.tup [Sp0, I 0, Bo false]) []) : ACall Try.prog W0 35 [Sp c0 c1 c2 c3 c4 c5 c6 c7 c8 c9 c10 c11 c12 c13, a] [] K := by
  refine by35 (Nat.le_of_ble_eq_true rfl) ?_
  repeat' ((conv => whnf); first
    | (refine And.intro rfl ?_)
    | (refine And.intro (by decide +kernel) ?_)
    | (refine And.intro trivial ?_)
    | (refine d_IsShop (h0 := ?_) ..)
    | (refine Exists.intro _ (And.intro (fun τ => callW_fn (d_IsShop (h0 := And.intro rfl rfl) ..)) ?_))
    | (refine Exists.intro _ (And.intro (callW_fn (d_IsShop (h0 := And.intro rfl rfl) ..)) (And.intro trivial ?_)))
    | (refine Exists.intro _ (And.intro (callW_fn (d_IsShop (h0 := And.intro rfl rfl) ..)) ?_))
    | (refine Exists.intro _ (And.intro (fun τ _ => callW_fn (d_IsShop (h0 := And.intro rfl rfl) ..)) ?_))
    | (refine Exists.intro _ (And.intro rfl (And.intro rfl (And.intro (Nat.le_of_ble_eq_true rfl) ?_))))
    | (refine Exists.intro _ (And.intro rfl (And.intro rfl (And.intro rfl (And.intro (Nat.le_of_ble_eq_true rfl) ?_)))))
    | (refine And.intro (Exists.intro _ (And.intro rfl rfl)) ?_)
    | (exact fun hW => absurd hW (by decide +kernel))
    | (intro hW; (try simp only [Bool.not_true, Bool.not_false, Bool.not_eq_true', Bool.not_eq_false', decide_eq_true_eq, decide_eq_false_iff_not, reduceCtorEq, Bool.true_eq_false, Bool.false_eq_true, mk_size, List.size_toArray, ByteArray.size_append, ByteArray.size_extract, List.length_cons, List.length_nil, ba_get, ba_empty, Int.toNat_natCast] at hW))
    | (refine And.intro (?_ : _ → _) (?_ : _ → _))
    | (refine FinR.drop 0 (Nat.zero_le _) (Closed.zero _) rfl ?_)
    | (refine FinR.keep ?_)
    | (refine And.intro (det3_agg rfl) ?_)
    | (refine fL_mk ?_)
    | (refine And.intro (by (try simp only [mk_size, List.size_toArray, ByteArray.size_append, ByteArray.size_extract, List.length_cons, List.length_nil]); omega) ?_)
    | (refine And.intro (by (try simp only [mk_size, List.size_toArray, ByteArray.size_append, ByteArray.size_extract, List.length_cons, List.length_nil, wrap64_eq]); omega) ?_)
    | fail)
  all_goals first | exact h0 | (exfalso; simp_all; done)
theorem d_sDoJobsF (c0 c1 c2 c3 c4 c5 c6 c7 c8 c9 c10 c11 c12 c13 : Int) (hb : shopB c0 c1 c2 c3 c4 c5 c6 c7 c8 c9 c10 c11 c12 c13 = false) (a : AV) (xs : List (List Int)) (ha : Sli W0 σ 3 enI a xs) (K : Cont) (h0 : K (.tup [Sp0, I 0, Bo false]) σ) : ACall Try.prog W0 36 [Sp c0 c1 c2 c3 c4 c5 c6 c7 c8 c9 c10 c11 c12 c13, a] σ K :=
  lift_PS (by kernel_rfl) rfl (fun _ => rfl) ha (fun W1 a' h K hK => c_sDoJobsF _ _ _ _ _ _ _ _ _ _ _ _ _ _ hb a' K hK) K h0
theorem d_DoJobsF (c0 c1 c2 c3 c4 c5 c6 c7 c8 c9 c10 c11 c12 c13 : Int) (hb : shopB c0 c1 c2 c3 c4 c5 c6 c7 c8 c9 c10 c11 c12 c13 = false) (a : AV) (xs : List (List Int)) (ha : Sli W0 σ 3 enI a xs) (K : Cont) (h0 : K (.tup [Sp0, I 0, Bo false]) σ) : ACall Try.prog W0 35 [Sp c0 c1 c2 c3 c4 c5 c6 c7 c8 c9 c10 c11 c12 c13, a] σ K :=
  lift_PS (by kernel_rfl) rfl (fun _ => rfl) ha (fun W1 a' h K hK => c_DoJobsF _ _ _ _ _ _ _ _ _ _ _ _ _ _ hb a' K hK) K h0
end Go.Proofs.Ytkcbhdjhbnnlgaa
end

section
/- Contracts: jobs drawn from bytes. -/
set_option linter.unusedVariables false
set_option linter.unusedSimpArgs false
set_option maxRecDepth 100000
set_option maxHeartbeats 4000000
namespace Go.Proofs.Ytkcbhdjhbnnlgaa
open Go Go.RowKit Go.Proofs.Ytkcbhdjhbnnlgaa.Abs
variable {W0 : World} {σ : List Blk}
abbrev jbC (k a b : Int) : Blk := ⟨[I k, I a, I b], 0, 52, 0, false, false⟩
theorem d_job12 (b n : Nat) (v : Value) (xs : List Int) (hcd : Code W0 v xs) (hc : CurAt b v n σ) (hn : n < 700000000) (K : Cont) (h0 : ∀ k a b' R, CurAt b v (n + 20) R → Keeps b σ R → K (Jb k a b') R) : ACall Try.prog W0 89 [.ptr b 0 0] σ K := by
  refine by89 (Nat.le_of_ble_eq_true rfl) ?_
  have hbl := hc.lt
  repeat' ((conv => whnf); first
    | (refine And.intro rfl ?_)
    | (refine And.intro (by decide +kernel) ?_)
    | (refine And.intro trivial ?_)
    | (refine Exists.intro _ (And.intro rfl (And.intro rfl (And.intro (Nat.le_of_ble_eq_true rfl) ?_))))
    | (refine Exists.intro _ (And.intro rfl (And.intro rfl (And.intro rfl (And.intro (Nat.le_of_ble_eq_true rfl) ?_)))))
    | (refine And.intro (Exists.intro _ (And.intro rfl rfl)) ?_)
    | (exact fun hW => absurd hW (by decide +kernel))
    | (intro hW; (try simp only [Bool.not_true, Bool.not_false, Bool.not_eq_true', Bool.not_eq_false', decide_eq_true_eq, decide_eq_false_iff_not, reduceCtorEq, Bool.true_eq_false, Bool.false_eq_true, mk_size, List.size_toArray, ByteArray.size_append, ByteArray.size_extract, List.length_cons, List.length_nil, ba_get, ba_empty, Int.toNat_natCast] at hW))
    | (refine And.intro (?_ : _ → _) (?_ : _ → _))
    | (refine FinR.drop 0 (Nat.zero_le _) (Closed.zero _) rfl ?_)
    | (refine FinR.keep ?_)
    | (refine And.intro (det3_agg rfl) ?_)
    | (refine fL_mk ?_)
    | (refine And.intro (by (try simp only [mk_size, List.size_toArray, ByteArray.size_append, ByteArray.size_extract, List.length_cons, List.length_nil]); omega) ?_)
    | (refine And.intro (by (try simp only [mk_size, List.size_toArray, ByteArray.size_append, ByteArray.size_extract, List.length_cons, List.length_nil, wrap64_eq]); omega) ?_)
    | fail)
  have hc := hc.app (τ := [jbC 0 0 0])
  have q : (σ ++ [jbC 0 0 0])[σ.length]? = some (jbC 0 0 0) := getl
  have hk : Keeps b σ (σ ++ [jbC 0 0 0]) := .app
  repeat' ((conv => whnf); first
    | (refine And.intro rfl ?_)
    | (refine And.intro (by decide +kernel) ?_)
    | (refine And.intro trivial ?_)
    | (refine fS_mk ?_)
    | (refine d_among (y0 := 1) (ys := [1, 2, 2, 3, 4, 5, 6, 7]) (hL := getl) (hys := by decide) (hcd := hcd) (hc := hc.app) (hbl := by have := hc.lt; omega) (hn := by omega) (h0 := fun k Q hxx hc1 hk1 => ?_) ..; have q := hk1.2 _ _ (by omega) (getx1 q); have hk := hk.trans hk1.snoc; have hc := hc1)
    | (refine Exists.intro _ (And.intro getl (And.intro rfl (And.intro rfl (And.intro (Nat.le_of_ble_eq_true rfl) ?_)))); rw [set_last])
    | (refine Exists.intro _ (And.intro rfl (And.intro rfl (And.intro (Nat.le_of_ble_eq_true rfl) ?_))))
    | (refine Exists.intro _ (And.intro rfl (And.intro rfl (And.intro rfl (And.intro (Nat.le_of_ble_eq_true rfl) ?_)))))
    | (refine And.intro (Exists.intro _ (And.intro rfl rfl)) ?_)
    | (exact fun hW => absurd hW (by decide +kernel))
    | (intro hW; (try simp only [Bool.not_true, Bool.not_false, Bool.not_eq_true', Bool.not_eq_false', decide_eq_true_eq, decide_eq_false_iff_not, reduceCtorEq, Bool.true_eq_false, Bool.false_eq_true, mk_size, List.size_toArray, ByteArray.size_append, ByteArray.size_extract, List.length_cons, List.length_nil, ba_get, ba_empty, Int.toNat_natCast] at hW))
    | (refine And.intro (?_ : _ → _) (?_ : _ → _))
    | (refine FinR.drop 0 (Nat.zero_le _) (Closed.zero _) rfl ?_)
    | (refine FinR.keep ?_)
    | (refine And.intro (det3_agg rfl) ?_)
    | (refine fL_mk ?_)
    | (refine And.intro (by (try simp only [mk_size, List.size_toArray, ByteArray.size_append, ByteArray.size_extract, List.length_cons, List.length_nil]); omega) ?_)
    | (refine And.intro (by (try simp only [mk_size, List.size_toArray, ByteArray.size_append, ByteArray.size_extract, List.length_cons, List.length_nil, wrap64_eq]); omega) ?_)
    | fail)
  have q3 : (Q ++ [jbC k 0 0])[Q.length]? = some (jbC k 0 0) := getl
  have hRl := getElem?_lt q
  have hc := hc.app (τ := [jbC k 0 0])
  have q := getx1 (τ := [jbC k 0 0]) q
  have hk := hk.trans (.app (τ := [jbC k 0 0]))
  clear hxx hc1 hk1
  repeat' ((conv => whnf); first
    | (refine And.intro rfl ?_)
    | (refine And.intro (by decide +kernel) ?_)
    | (refine And.intro trivial ?_)
    | (refine fS_mk ?_)
    | (refine d_pick (hm := by decide) (hcd := hcd) (hc := hc) (hn := by omega) (h0 := fun w S hw1 hw2 hc1 hk1 => ?_) ..; have q := hk1.2 _ _ (by omega) (q); have q3 := hk1.2 _ _ (by omega) (q3); have hk := Keeps.trans (hk) hk1; have hc := hc1)
    | (refine d_pick (hm := by decide) (hcd := hcd) (hc := CurAt.set (hc) (by omega)) (hn := by omega) (h0 := fun w S hw1 hw2 hc1 hk1 => ?_) ..; have q := hk1.2 _ _ (by omega) (getn (q) (by omega)); have q3 := hk1.2 _ _ (by omega) (get_set (q3)); have hk := Keeps.trans (Keeps.setO (hk) (by omega)) hk1; have hc := hc1)
    | (refine d_among (y0 := -1) (ys := [6, 8, 4611686018427387904]) (hL := getl) (hys := by decide) (hbl := by have := (hc).lt; omega) (hcd := hcd) (hc := CurAt.app (hc)) (hn := by omega) (h0 := fun w S hw hc1 hk1 => ?_) ..; have q := hk1.2 _ _ (by omega) (getx1 (q)); have q3 := hk1.2 _ _ (by omega) (getx1 (q3)); have hk := Keeps.trans (hk) hk1.snoc; have hc := hc1)
    | (refine d_among (y0 := -1) (ys := [6, 8, 4611686018427387904]) (hL := getl) (hys := by decide) (hbl := by have := (CurAt.set (hc) (by omega)).lt; omega) (hcd := hcd) (hc := CurAt.app (CurAt.set (hc) (by omega))) (hn := by omega) (h0 := fun w S hw hc1 hk1 => ?_) ..; have q := hk1.2 _ _ (by omega) (getx1 (getn (q) (by omega))); have q3 := hk1.2 _ _ (by omega) (getx1 (get_set (q3))); have hk := Keeps.trans (Keeps.setO (hk) (by omega)) hk1.snoc; have hc := hc1)
    | (refine d_among (y0 := -1) (ys := [6, 1]) (hL := getl) (hys := by decide) (hbl := by have := (hc).lt; omega) (hcd := hcd) (hc := CurAt.app (hc)) (hn := by omega) (h0 := fun w S hw hc1 hk1 => ?_) ..; have q := hk1.2 _ _ (by omega) (getx1 (q)); have q3 := hk1.2 _ _ (by omega) (getx1 (q3)); have hk := Keeps.trans (hk) hk1.snoc; have hc := hc1)
    | (refine d_among (y0 := -1) (ys := [6, 1]) (hL := getl) (hys := by decide) (hbl := by have := (CurAt.set (hc) (by omega)).lt; omega) (hcd := hcd) (hc := CurAt.app (CurAt.set (hc) (by omega))) (hn := by omega) (h0 := fun w S hw hc1 hk1 => ?_) ..; have q := hk1.2 _ _ (by omega) (getx1 (getn (q) (by omega))); have q3 := hk1.2 _ _ (by omega) (getx1 (get_set (q3))); have hk := Keeps.trans (Keeps.setO (hk) (by omega)) hk1.snoc; have hc := hc1)
    | (refine d_among (y0 := 0) (ys := [8, -1]) (hL := getl) (hys := by decide) (hbl := by have := (hc).lt; omega) (hcd := hcd) (hc := CurAt.app (hc)) (hn := by omega) (h0 := fun w S hw hc1 hk1 => ?_) ..; have q := hk1.2 _ _ (by omega) (getx1 (q)); have q3 := hk1.2 _ _ (by omega) (getx1 (q3)); have hk := Keeps.trans (hk) hk1.snoc; have hc := hc1)
    | (refine d_among (y0 := 0) (ys := [8, -1]) (hL := getl) (hys := by decide) (hbl := by have := (CurAt.set (hc) (by omega)).lt; omega) (hcd := hcd) (hc := CurAt.app (CurAt.set (hc) (by omega))) (hn := by omega) (h0 := fun w S hw hc1 hk1 => ?_) ..; have q := hk1.2 _ _ (by omega) (getx1 (getn (q) (by omega))); have q3 := hk1.2 _ _ (by omega) (getx1 (get_set (q3))); have hk := Keeps.trans (Keeps.setO (hk) (by omega)) hk1.snoc; have hc := hc1)
    | (refine And.intro ⟨_, q3, rfl⟩ ?_)
    | (refine Exists.intro _ (And.intro (q3) (And.intro rfl (And.intro rfl (And.intro (Nat.le_of_ble_eq_true rfl) ?_)))))
    | (refine Exists.intro _ (And.intro (q3) (And.intro rfl (And.intro (Nat.le_of_ble_eq_true rfl) ?_))))
    | (refine Exists.intro _ (And.intro (q) (And.intro rfl (And.intro rfl (And.intro (Nat.le_of_ble_eq_true rfl) ?_)))))
    | (refine Exists.intro _ (And.intro (get_set (q)) (And.intro rfl (And.intro (Nat.le_of_ble_eq_true rfl) ?_))))
    | (refine And.intro ⟨_, get_set (q3), rfl⟩ ?_)
    | (refine Exists.intro _ (And.intro (get_set (q3)) (And.intro rfl (And.intro rfl (And.intro (Nat.le_of_ble_eq_true rfl) ?_)))))
    | (refine Exists.intro _ (And.intro (get_set (q3)) (And.intro rfl (And.intro (Nat.le_of_ble_eq_true rfl) ?_))))
    | (refine Exists.intro _ (And.intro (getn (q) (by omega)) (And.intro rfl (And.intro rfl (And.intro (Nat.le_of_ble_eq_true rfl) ?_)))))
    | (refine Exists.intro _ (And.intro (get_set (getn (q) (by omega))) (And.intro rfl (And.intro (Nat.le_of_ble_eq_true rfl) ?_))))
    | (refine Exists.intro _ (And.intro rfl (And.intro rfl (And.intro (Nat.le_of_ble_eq_true rfl) ?_))))
    | (refine Exists.intro _ (And.intro rfl (And.intro rfl (And.intro rfl (And.intro (Nat.le_of_ble_eq_true rfl) ?_)))))
    | (refine And.intro (Exists.intro _ (And.intro rfl rfl)) ?_)
    | (exact fun hW => absurd hW (by decide +kernel))
    | (intro hW; (try simp only [Bool.not_true, Bool.not_false, Bool.not_eq_true', Bool.not_eq_false', decide_eq_true_eq, decide_eq_false_iff_not, reduceCtorEq, Bool.true_eq_false, Bool.false_eq_true, mk_size, List.size_toArray, ByteArray.size_append, ByteArray.size_extract, List.length_cons, List.length_nil, ba_get, ba_empty, Int.toNat_natCast] at hW))
    | (refine And.intro (?_ : _ → _) (?_ : _ → _))
    | (refine FinR.drop 0 (Nat.zero_le _) (Closed.zero _) rfl ?_)
    | (refine FinR.keep ?_)
    | (refine And.intro (det3_agg rfl) ?_)
    | (refine fL_mk ?_)
    | (refine And.intro (by (try simp only [mk_size, List.size_toArray, ByteArray.size_append, ByteArray.size_extract, List.length_cons, List.length_nil]); omega) ?_)
    | (refine And.intro (by (try simp only [mk_size, List.size_toArray, ByteArray.size_append, ByteArray.size_extract, List.length_cons, List.length_nil, wrap64_eq]); omega) ?_)
    | fail)
  all_goals (refine h0 _ _ _ _ ?_ ?_)
  all_goals repeat' (first | exact hc.mono (by omega) | exact hk | refine CurAt.set ?_ (by omega) | refine Keeps.setO ?_ (by omega))
end Go.Proofs.Ytkcbhdjhbnnlgaa
end

section
/- Contracts: what is drawn for presses, shifts, flips. -/
set_option linter.unusedVariables false
set_option linter.unusedSimpArgs false
set_option maxRecDepth 100000
set_option maxHeartbeats 4000000
namespace Go.Proofs.Ytkcbhdjhbnnlgaa
open Go Go.RowKit Go.Proofs.Ytkcbhdjhbnnlgaa.Abs
variable {W0 : World} {σ : List Blk}
theorem Code.below {W1 : World} {v : Value} {xs : List Int} (h : Code W0 v xs) (hb : Below W0.heap.size W0 W1) : Code W1 v xs := by
  have hh : HRel W0 [] [] W1 := ⟨hb, rfl, fun i j c t t' h => by simp at h, fun i c t h => by simp at h, fun i B c t h => by simp at h⟩
  obtain ⟨a', ha, hs⟩ := h.sli.conc hh ⟨v, (rfl : rel3 [] [] (.lit v) v)⟩
  obtain ⟨u, rfl⟩ := sli_lit hs
  have e : u = v := (ha v (rfl : rel3 [] [] (.lit v) v)).symm
  subst e
  exact ⟨hs, h.rng, h.len⟩
theorem varC_of {F : List Nat} {R : Prop} : ∀ {σ σ' : List Blk} {k : Nat}, (∀ (j : Nat) (B : Blk), σ[j]? = some B → ∃ B', σ'[j]? = some B' ∧ B'.ver = B.ver ∧ B'.esz = B.esz ∧ B'.row = B.row ∧ (memB (k + j) F = false → B' = B)) → R → varC F σ R k σ'
  | [], σ', k, _, h => h
  | B :: σ, [], k, hk, h => by obtain ⟨B', h1, _⟩ := hk 0 B rfl; cases h1
  | B :: σ, B' :: σ', k, hk, h => by
    obtain ⟨B0, h1, h2, h3, h4, h5⟩ := hk 0 B rfl
    cases h1
    have ih : varC F σ R (k + 1) σ' := varC_of (fun j C hC => by
      obtain ⟨C', g1, g2, g3, g4, g5⟩ := hk (j + 1) C hC
      exact ⟨C', g1, g2, g3, g4, fun e => g5 (by rw [show k + (j + 1) = k + 1 + j by omega]; exact e)⟩) h
    show (match memB k F with
      | true => B'.ver = B.ver ∧ B'.esz = B.esz ∧ B'.row = B.row ∧ varC F σ R (k + 1) σ'
      | false => B' = B ∧ varC F σ R (k + 1) σ' : Prop)
    cases hm : memB k F with
    | true => exact ⟨h2, h3, h4, ih⟩
    | false => exact ⟨h5 hm, ih⟩
/-- blocks but those of F are as they were -/
def VarK (F : List Nat) (S T : List Blk) : Prop := ∀ (j : Nat) (B : Blk), S[j]? = some B → ∃ B', T[j]? = some B' ∧ B'.ver = B.ver ∧ B'.esz = B.esz ∧ B'.row = B.row ∧ (memB j F = false → B' = B)
theorem varC_k {F : List Nat} {S T : List Blk} {R : Prop} (h : VarK F S T) (k : VarK F S T → R) : varC F S R 0 T :=
  varC_of (fun j B hB => by rw [Nat.zero_add]; exact h j B hB) (k h)
theorem VarK.cur {F : List Nat} {b n n' : Nat} {v : Value} {S T : List Blk} (hb : memB b F = true) (hc : CurAt b v n S) (hc1 : CurAt b v n' T) (hk : Keeps b S T) : VarK F S T := fun j B hB => by
  by_cases hj : j = b
  · subst hj
    obtain ⟨a, sd, _, h1⟩ := hc
    obtain ⟨a', sd', _, h2⟩ := hc1
    rw [h1] at hB; cases hB
    exact ⟨_, h2, rfl, rfl, rfl, fun e => by rw [hb] at e; cases e⟩
  · exact ⟨B, hk.2 j B hj hB, rfl, rfl, rfl, fun _ => rfl⟩
theorem VarK.set {F : List Nat} {i : Nat} {B0 X : Blk} {S T : List Blk} (h : VarK F S T) (hi : T[i]? = some B0) (h1 : X.ver = B0.ver) (h2 : X.esz = B0.esz) (h3 : X.row = B0.row) (hm : memB i F = true) : VarK F S (T.set i X) := fun j B hB => by
  obtain ⟨B', g1, g2, g3, g4, g5⟩ := h j B hB
  by_cases hj : i = j
  · subst hj
    rw [hi] at g1; cases g1
    exact ⟨X, get_set hi, h1.trans g2, h2.trans g3, h3.trans g4, fun e => by rw [hm] at e; cases e⟩
  · exact ⟨B', getn g1 hj, g2, g3, g4, g5⟩
theorem memB_no {k : Nat} : ∀ {l : List Nat}, (∀ x ∈ l, x ≠ k) → memB k l = false
  | [], _ => rfl
  | x :: l, h => by
    show cond (Nat.beq k x) true (memB k l) = false
    have e : Nat.beq k x = false := by
      cases hb : Nat.beq k x with
      | false => rfl
      | true => exact absurd (Nat.eq_of_beq_eq_true hb).symm (h x (by simp))
    rw [e]; exact memB_no fun y hy => h y (by simp [hy])
abbrev ceC (x y : Int) : Blk := ⟨[I x, I y], 0, 27, 0, false, false⟩
end Go.Proofs.Ytkcbhdjhbnnlgaa
end
