import Derived.Test.YtkcbhdjhbnnlgaaZE5
section
/- Contracts: sheets drawn from bytes. -/
set_option linter.unusedVariables false
set_option linter.unusedSimpArgs false
set_option maxRecDepth 100000
set_option maxHeartbeats 4000000
namespace Go.Proofs.Ytkcbhdjhbnnlgaa
open Go Go.RowKit Go.Proofs.Ytkcbhdjhbnnlgaa.Abs
variable {W0 : World} {σ : List Blk}
abbrev shC (a b c d e f : Int) : Blk := ⟨[I a, I b, I c, I d, I e, I f], 0, 26, 0, false, false⟩
theorem mem5 {x a b c d e : Int} (h : x ∈ [a, b, c, d, e]) : x = a ∨ x = b ∨ x = c ∨ x = d ∨ x = e := by simpa using h
theorem d_sheetC (b n : Nat) (v : Value) (xs : List Int) (hcd : Code W0 v xs) (hc : CurAt b v n σ) (hn : n < 800000000) (K : Cont) (h0 : ∀ a1 a2 a3 a4 a5 a6 R, CurAt b v (n + 90) R → Keeps b σ R → K (Sh a1 a2 a3 a4 a5 a6) R) : ACall Try.prog W0 60 [.ptr b 0 0] σ K := by
  refine by60 (Nat.le_of_ble_eq_true rfl) ?_
  have hbl := hc.lt
  repeat' ((conv => whnf); first | (refine Exists.intro ([] : List Nat) ?_) | (refine And.intro rfl ?_) | (refine And.intro (by decide +kernel) ?_) | (refine And.intro trivial ?_) | (refine Exists.intro _ (And.intro rfl (And.intro rfl (And.intro (Nat.le_of_ble_eq_true rfl) ?_)))) | (refine Exists.intro _ (And.intro rfl (And.intro rfl (And.intro rfl (And.intro (Nat.le_of_ble_eq_true rfl) ?_))))) | (refine And.intro (Exists.intro _ (And.intro rfl rfl)) ?_) | (exact fun hW => absurd hW (by decide +kernel)) | (intro hW; (try simp only [Bool.not_true, Bool.not_false, Bool.not_eq_true', Bool.not_eq_false', decide_eq_true_eq, decide_eq_false_iff_not, reduceCtorEq, Bool.true_eq_false, Bool.false_eq_true, mk_size, List.size_toArray, ByteArray.size_append, ByteArray.size_extract, List.length_cons, List.length_nil, ba_get, ba_empty, Int.toNat_natCast] at hW)) | (refine And.intro (?_ : _ → _) (?_ : _ → _)) | (refine FinR.drop 0 (Nat.zero_le _) (Closed.zero _) rfl ?_) | (refine FinR.keep ?_) | (refine And.intro (det3_agg rfl) ?_) | (refine fL_mk ?_) | (refine And.intro (by (try simp only [mk_size, List.size_toArray, ByteArray.size_append, ByteArray.size_extract, List.length_cons, List.length_nil]); omega) ?_) | (refine And.intro (by (try simp only [mk_size, List.size_toArray, ByteArray.size_append, ByteArray.size_extract, List.length_cons, List.length_nil, wrap64_eq]); omega) ?_) | fail)
  have hc := hc.app (τ := [shC 0 0 0 0 0 0])
  have q : (σ ++ [shC 0 0 0 0 0 0])[σ.length]? = some (shC 0 0 0 0 0 0) := getl
  have hk : Keeps b σ (σ ++ [shC 0 0 0 0 0 0]) := .app
  repeat' ((conv => whnf); first | (refine Exists.intro ([] : List Nat) ?_) | (refine And.intro rfl ?_) | (refine And.intro (by decide +kernel) ?_) | (refine And.intro trivial ?_) | (refine fS_mk ?_) | (refine d_among (y0 := 2) (ys := [4, 3, 1, 6]) (hL := getl) (hys := by decide) (hcd := hcd) (hc := hc.app) (hbl := by have := hc.lt; omega) (hn := by omega) (h0 := fun few R hxx hc1 hk1 => ?_) ..; have q := hk1.2 _ _ (by omega) (getx1 q); have hk := hk.trans hk1.snoc; have hc := hc1) | (refine Exists.intro _ (And.intro rfl (And.intro rfl (And.intro (Nat.le_of_ble_eq_true rfl) ?_)))) | (refine Exists.intro _ (And.intro rfl (And.intro rfl (And.intro rfl (And.intro (Nat.le_of_ble_eq_true rfl) ?_))))) | (refine And.intro (Exists.intro _ (And.intro rfl rfl)) ?_) | (exact fun hW => absurd hW (by decide +kernel)) | (intro hW; (try simp only [Bool.not_true, Bool.not_false, Bool.not_eq_true', Bool.not_eq_false', decide_eq_true_eq, decide_eq_false_iff_not, reduceCtorEq, Bool.true_eq_false, Bool.false_eq_true, mk_size, List.size_toArray, ByteArray.size_append, ByteArray.size_extract, List.length_cons, List.length_nil, ba_get, ba_empty, Int.toNat_natCast] at hW)) | (refine And.intro (?_ : _ → _) (?_ : _ → _)) | (refine FinR.drop 0 (Nat.zero_le _) (Closed.zero _) rfl ?_) | (refine FinR.keep ?_) | (refine And.intro (det3_agg rfl) ?_) | (refine fL_mk ?_) | (refine And.intro (by (try simp only [mk_size, List.size_toArray, ByteArray.size_append, ByteArray.size_extract, List.length_cons, List.length_nil]); omega) ?_) | (refine And.intro (by (try simp only [mk_size, List.size_toArray, ByteArray.size_append, ByteArray.size_extract, List.length_cons, List.length_nil, wrap64_eq]); omega) ?_) | fail)
  repeat' ((conv => whnf); first | (refine Exists.intro ([] : List Nat) ?_) | (refine And.intro rfl ?_) | (refine And.intro (by decide +kernel) ?_) | (refine And.intro trivial ?_) | (refine fS_mk ?_) | (refine Exists.intro _ (And.intro getl (And.intro rfl (And.intro rfl (And.intro (Nat.le_of_ble_eq_true rfl) ?_)))); rw [set_last]) | (refine Exists.intro _ (And.intro rfl (And.intro rfl (And.intro (Nat.le_of_ble_eq_true rfl) ?_)))) | (refine Exists.intro _ (And.intro rfl (And.intro rfl (And.intro rfl (And.intro (Nat.le_of_ble_eq_true rfl) ?_))))) | (refine And.intro (Exists.intro _ (And.intro rfl rfl)) ?_) | (exact fun hW => absurd hW (by decide +kernel)) | (intro hW; (try simp only [Bool.not_true, Bool.not_false, Bool.not_eq_true', Bool.not_eq_false', decide_eq_true_eq, decide_eq_false_iff_not, reduceCtorEq, Bool.true_eq_false, Bool.false_eq_true, mk_size, List.size_toArray, ByteArray.size_append, ByteArray.size_extract, List.length_cons, List.length_nil, ba_get, ba_empty, Int.toNat_natCast] at hW)) | (refine And.intro (?_ : _ → _) (?_ : _ → _)) | (refine FinR.drop 0 (Nat.zero_le _) (Closed.zero _) rfl ?_) | (refine FinR.keep ?_) | (refine And.intro (det3_agg rfl) ?_) | (refine fL_mk ?_) | (refine And.intro (by (try simp only [mk_size, List.size_toArray, ByteArray.size_append, ByteArray.size_extract, List.length_cons, List.length_nil]); omega) ?_) | (refine And.intro (by (try simp only [mk_size, List.size_toArray, ByteArray.size_append, ByteArray.size_extract, List.length_cons, List.length_nil, wrap64_eq]); omega) ?_) | fail)
  have q3 : (R ++ [bl 0])[R.length]? = some (bl 0) := getl
  have hRl := getElem?_lt q
  refine LoopR.live (fun y : Nat × Nat × List Blk => [(0, .ptr b 0 0), (2, .ptr σ.length 0 0), (3, .ptr R.length 0 0), (4, I few), (5, I y.1)]) (fun y => y.2.2) (fun y => y.1 ≤ 6 ∧ CurAt b v (n + 2 + 12 * y.1) y.2.2 ∧ Keeps b σ y.2.2 ∧ y.2.2[σ.length]? = some (shC 0 0 0 0 0 0) ∧ y.2.2[R.length]? = some (bl y.2.1)) (fun y => 6 - y.1) (0, 0, R ++ [bl 0]) ⟨rfl, rfl, rfl, rfl, rfl, trivial⟩ (.keep rfl) ⟨Nat.zero_le _, hc.app, hk.trans .app, getx1 q, q3⟩ ?_
  rintro ⟨y, m, T⟩ ⟨hy, hc, hk, q, q3⟩
  replace hy : y ≤ 6 := hy
  replace hc : CurAt b v (n + 2 + 12 * y) T := hc
  replace hk : Keeps b σ T := hk
  replace q : T[σ.length]? = some (shC 0 0 0 0 0 0) := q
  replace q3 : T[R.length]? = some (bl m) := q3
  by_cases hy6 : y < 6
  · skip
    repeat' ((conv => whnf); first | (refine Exists.intro ([] : List Nat) ?_) | (refine And.intro rfl ?_) | (refine And.intro (by decide +kernel) ?_) | (refine And.intro trivial ?_) | (refine Exists.intro _ (And.intro rfl (And.intro rfl (And.intro (Nat.le_of_ble_eq_true rfl) ?_)))) | (refine Exists.intro _ (And.intro rfl (And.intro rfl (And.intro rfl (And.intro (Nat.le_of_ble_eq_true rfl) ?_))))) | (refine And.intro (Exists.intro _ (And.intro rfl rfl)) ?_) | (exact fun hW => absurd hW (by decide +kernel)) | (intro hW; (try simp only [Bool.not_true, Bool.not_false, Bool.not_eq_true', Bool.not_eq_false', decide_eq_true_eq, decide_eq_false_iff_not, reduceCtorEq, Bool.true_eq_false, Bool.false_eq_true, mk_size, List.size_toArray, ByteArray.size_append, ByteArray.size_extract, List.length_cons, List.length_nil, ba_get, ba_empty, Int.toNat_natCast] at hW)) | (refine And.intro (?_ : _ → _) (?_ : _ → _)) | (refine FinR.drop 0 (Nat.zero_le _) (Closed.zero _) rfl ?_) | (refine FinR.keep ?_) | (refine And.intro (det3_agg rfl) ?_) | (refine fL_mk ?_) | (refine And.intro (by (try simp only [mk_size, List.size_toArray, ByteArray.size_append, ByteArray.size_extract, List.length_cons, List.length_nil]); omega) ?_) | (refine And.intro (by (try simp only [mk_size, List.size_toArray, ByteArray.size_append, ByteArray.size_extract, List.length_cons, List.length_nil, wrap64_eq]); omega) ?_) | fail)
    · refine LoopR.live (fun z : Nat × Nat × List Blk => [(0, .ptr b 0 0), (2, .ptr σ.length 0 0), (3, .ptr R.length 0 0), (4, I few), (5, I y), (6, I z.1)]) (fun z => z.2.2) (fun z => z.1 ≤ 6 ∧ CurAt b v (n + 2 + 12 * y + 2 * z.1) z.2.2 ∧ Keeps b σ z.2.2 ∧ z.2.2[σ.length]? = some (shC 0 0 0 0 0 0) ∧ z.2.2[R.length]? = some (bl z.2.1)) (fun z => 6 - z.1) (0, m, T) ⟨rfl, rfl, rfl, rfl, rfl, rfl, trivial⟩ (.keep rfl) ⟨Nat.zero_le _, hc, hk, q, q3⟩ ?_
      rintro ⟨x, m, T⟩ ⟨hx, hc, hk, q, q3⟩
      replace hx : x ≤ 6 := hx
      replace hc : CurAt b v (n + 2 + 12 * y + 2 * x) T := hc
      replace hk : Keeps b σ T := hk
      replace q : T[σ.length]? = some (shC 0 0 0 0 0 0) := q
      replace q3 : T[R.length]? = some (bl m) := q3
      by_cases hx6 : x < 6
      · skip
        repeat' ((conv => whnf); first | (refine Exists.intro ([] : List Nat) ?_) | (refine And.intro rfl ?_) | (refine And.intro (by decide +kernel) ?_) | (refine And.intro trivial ?_) | (refine fS_mk ?_) | (refine d_one (hcd := hcd) (hc := hc) (hn := by omega) (hm := by have := mem5 hxx; omega) (h0 := fun w S hc1 hk1 => ?_) ..; have q := hk1.2 _ _ (by omega) q; have q3 := hk1.2 _ _ (by omega) q3; have hk := hk.trans hk1; have hc := hc1) | (refine Exists.intro _ (And.intro q3 (And.intro rfl (And.intro (Nat.le_of_ble_eq_true rfl) ?_)))) | (refine d_l2FlipN (hx := hx6) (hy := hy6) (h0 := ?_) ..) | (refine Exists.intro _ (And.intro q3 (And.intro rfl (And.intro rfl (And.intro (Nat.le_of_ble_eq_true rfl) ?_))))) | (refine Exists.intro _ (And.intro rfl (And.intro rfl (And.intro (Nat.le_of_ble_eq_true rfl) ?_)))) | (refine Exists.intro _ (And.intro rfl (And.intro rfl (And.intro rfl (And.intro (Nat.le_of_ble_eq_true rfl) ?_))))) | (refine And.intro (Exists.intro _ (And.intro rfl rfl)) ?_) | (exact fun hW => absurd hW (by decide +kernel)) | (intro hW; (try simp only [Bool.not_true, Bool.not_false, Bool.not_eq_true', Bool.not_eq_false', decide_eq_true_eq, decide_eq_false_iff_not, reduceCtorEq, Bool.true_eq_false, Bool.false_eq_true, mk_size, List.size_toArray, ByteArray.size_append, ByteArray.size_extract, List.length_cons, List.length_nil, ba_get, ba_empty, Int.toNat_natCast] at hW)) | (refine And.intro (?_ : _ → _) (?_ : _ → _)) | (refine FinR.drop 0 (Nat.zero_le _) (Closed.zero _) rfl ?_) | (refine FinR.keep ?_) | (refine And.intro (det3_agg rfl) ?_) | (refine fL_mk ?_) | (refine And.intro (by (try simp only [mk_size, List.size_toArray, ByteArray.size_append, ByteArray.size_extract, List.length_cons, List.length_nil]); omega) ?_) | (refine And.intro (by (try simp only [mk_size, List.size_toArray, ByteArray.size_append, ByteArray.size_extract, List.length_cons, List.length_nil, wrap64_eq]); omega) ?_) | fail)
        all_goals first | (exfalso; omega) | skip
        · exact Again.go (x + 1, m ^^^ 2 ^ (6 * y + x), _) ⟨rfl, rfl, rfl, rfl, rfl, slI' (wsucc x (by omega)), trivial⟩ (.keep rfl) ⟨by omega, (hc.set (by omega)).mono (by show _ ≤ n + 2 + 12 * y + 2 * (x + 1); omega), hk.setO (by omega), getn q (by omega), get_set q3⟩ (by show _ < 6 - x; omega)
        · exact Again.go (x + 1, m, _) ⟨rfl, rfl, rfl, rfl, rfl, slI' (wsucc x (by omega)), trivial⟩ (.keep rfl) ⟨by omega, hc.mono (by show _ ≤ n + 2 + 12 * y + 2 * (x + 1); omega), hk, q, q3⟩ (by show _ < 6 - x; omega)
      · obtain rfl : x = 6 := by omega
        repeat' ((conv => whnf); first | (refine Exists.intro ([] : List Nat) ?_) | (refine And.intro rfl ?_) | (refine And.intro (by decide +kernel) ?_) | (refine And.intro trivial ?_) | (refine Exists.intro _ (And.intro rfl (And.intro rfl (And.intro (Nat.le_of_ble_eq_true rfl) ?_)))) | (refine Exists.intro _ (And.intro rfl (And.intro rfl (And.intro rfl (And.intro (Nat.le_of_ble_eq_true rfl) ?_))))) | (refine And.intro (Exists.intro _ (And.intro rfl rfl)) ?_) | (exact fun hW => absurd hW (by decide +kernel)) | (intro hW; (try simp only [Bool.not_true, Bool.not_false, Bool.not_eq_true', Bool.not_eq_false', decide_eq_true_eq, decide_eq_false_iff_not, reduceCtorEq, Bool.true_eq_false, Bool.false_eq_true, mk_size, List.size_toArray, ByteArray.size_append, ByteArray.size_extract, List.length_cons, List.length_nil, ba_get, ba_empty, Int.toNat_natCast] at hW)) | (refine And.intro (?_ : _ → _) (?_ : _ → _)) | (refine FinR.drop 0 (Nat.zero_le _) (Closed.zero _) rfl ?_) | (refine FinR.keep ?_) | (refine And.intro (det3_agg rfl) ?_) | (refine fL_mk ?_) | (refine And.intro (by (try simp only [mk_size, List.size_toArray, ByteArray.size_append, ByteArray.size_extract, List.length_cons, List.length_nil]); omega) ?_) | (refine And.intro (by (try simp only [mk_size, List.size_toArray, ByteArray.size_append, ByteArray.size_extract, List.length_cons, List.length_nil, wrap64_eq]); omega) ?_) | fail)
        all_goals first | (exfalso; omega) | skip
        exact Again.go (y + 1, m, T) ⟨rfl, rfl, rfl, rfl, slI' (wsucc y (by omega)), trivial⟩ (.keep rfl) ⟨by omega, hc.mono (by omega), hk, q, q3⟩ (by show _ < 6 - y; omega)
    · exfalso; omega
  · obtain rfl : y = 6 := by omega
    repeat' ((conv => whnf); first | (refine Exists.intro ([] : List Nat) ?_) | (refine And.intro rfl ?_) | (refine And.intro (by decide +kernel) ?_) | (refine And.intro trivial ?_) | (refine fS_mk ?_) | (refine Exists.intro _ (And.intro q3 (And.intro rfl (And.intro (Nat.le_of_ble_eq_true rfl) ?_)))) | (refine d_pick (m := 40) (hcd := hcd) (hc := hc) (hn := by omega) (hm := by decide) (h0 := fun w S hw hw' hc1 hk1 => ?_) ..; have q := hk1.2 _ _ (by omega) q; have q3 := hk1.2 _ _ (by omega) q3; have hk := hk.trans hk1; have hc := hc1) | (refine Exists.intro _ (And.intro rfl (And.intro rfl (And.intro (Nat.le_of_ble_eq_true rfl) ?_)))) | (refine Exists.intro _ (And.intro rfl (And.intro rfl (And.intro rfl (And.intro (Nat.le_of_ble_eq_true rfl) ?_))))) | (refine And.intro (Exists.intro _ (And.intro rfl rfl)) ?_) | (exact fun hW => absurd hW (by decide +kernel)) | (intro hW; (try simp only [Bool.not_true, Bool.not_false, Bool.not_eq_true', Bool.not_eq_false', decide_eq_true_eq, decide_eq_false_iff_not, reduceCtorEq, Bool.true_eq_false, Bool.false_eq_true, mk_size, List.size_toArray, ByteArray.size_append, ByteArray.size_extract, List.length_cons, List.length_nil, ba_get, ba_empty, Int.toNat_natCast] at hW)) | (refine And.intro (?_ : _ → _) (?_ : _ → _)) | (refine FinR.drop 0 (Nat.zero_le _) (Closed.zero _) rfl ?_) | (refine FinR.keep ?_) | (refine And.intro (det3_agg rfl) ?_) | (refine fL_mk ?_) | (refine And.intro (by (try simp only [mk_size, List.size_toArray, ByteArray.size_append, ByteArray.size_extract, List.length_cons, List.length_nil]); omega) ?_) | (refine And.intro (by (try simp only [mk_size, List.size_toArray, ByteArray.size_append, ByteArray.size_extract, List.length_cons, List.length_nil, wrap64_eq]); omega) ?_) | fail)
    all_goals first | (exfalso; omega) | skip
    all_goals
      repeat' ((conv => whnf); first | (refine Exists.intro ([] : List Nat) ?_) | (refine And.intro rfl ?_) | (refine And.intro (by decide +kernel) ?_) | (refine And.intro trivial ?_) | (refine d_pick (m := 6) (hcd := hcd) (hc := hc) (hn := by omega) (hm := by decide) (h0 := fun x S hx hx' hc1 hk1 => ?_) ..; have q := hk1.2 _ _ (by omega) q; have q3 := hk1.2 _ _ (by omega) q3; have hk := hk.trans hk1; have hc := hc1; obtain rfl | rfl | rfl | rfl | rfl | rfl : x = 0 ∨ x = 1 ∨ x = 2 ∨ x = 3 ∨ x = 4 ∨ x = 5 := by omega) | (refine d_among (y0 := -1) (ys := [64, 4611686018427387904]) (hL := getl) (hys := by decide) (hcd := hcd) (hc := hc.app) (hbl := by have := hc.lt; omega) (hn := by omega) (h0 := fun few R hxx hc1 hk1 => ?_) ..; have q := hk1.2 _ _ (by omega) (getx1 q); have q3 := hk1.2 _ _ (by omega) (getx1 q3); have hk := hk.trans hk1.snoc; have hc := hc1) | (refine fS_mk ?_) | (refine LoopR.unroll 6 ?_) | (refine And.intro ⟨_, q3, rfl⟩ ?_) | (refine And.intro ⟨_, get_set (q3), rfl⟩ ?_) | (refine And.intro ⟨_, get_set (get_set (q3)), rfl⟩ ?_) | (refine And.intro ⟨_, get_set (get_set (get_set (q3))), rfl⟩ ?_) | (refine And.intro ⟨_, get_set (get_set (get_set (get_set (q3)))), rfl⟩ ?_) | (refine And.intro ⟨_, get_set (get_set (get_set (get_set (get_set (q3))))), rfl⟩ ?_) | (refine Exists.intro _ (And.intro (q3) (And.intro rfl (And.intro rfl (And.intro (Nat.le_of_ble_eq_true rfl) ?_))))) | (refine Exists.intro _ (And.intro (get_set (q3)) (And.intro rfl (And.intro rfl (And.intro (Nat.le_of_ble_eq_true rfl) ?_))))) | (refine Exists.intro _ (And.intro (get_set (get_set (q3))) (And.intro rfl (And.intro rfl (And.intro (Nat.le_of_ble_eq_true rfl) ?_))))) | (refine Exists.intro _ (And.intro (get_set (get_set (get_set (q3)))) (And.intro rfl (And.intro rfl (And.intro (Nat.le_of_ble_eq_true rfl) ?_))))) | (refine Exists.intro _ (And.intro (get_set (get_set (get_set (get_set (q3))))) (And.intro rfl (And.intro rfl (And.intro (Nat.le_of_ble_eq_true rfl) ?_))))) | (refine Exists.intro _ (And.intro (get_set (get_set (get_set (get_set (get_set (q3)))))) (And.intro rfl (And.intro rfl (And.intro (Nat.le_of_ble_eq_true rfl) ?_))))) | (refine Exists.intro _ (And.intro (q3) (And.intro rfl (And.intro (Nat.le_of_ble_eq_true rfl) ?_)))) | (refine Exists.intro _ (And.intro (get_set (q3)) (And.intro rfl (And.intro (Nat.le_of_ble_eq_true rfl) ?_)))) | (refine Exists.intro _ (And.intro (get_set (get_set (q3))) (And.intro rfl (And.intro (Nat.le_of_ble_eq_true rfl) ?_)))) | (refine Exists.intro _ (And.intro (get_set (get_set (get_set (q3)))) (And.intro rfl (And.intro (Nat.le_of_ble_eq_true rfl) ?_)))) | (refine Exists.intro _ (And.intro (get_set (get_set (get_set (get_set (q3))))) (And.intro rfl (And.intro (Nat.le_of_ble_eq_true rfl) ?_)))) | (refine Exists.intro _ (And.intro (get_set (get_set (get_set (get_set (get_set (q3)))))) (And.intro rfl (And.intro (Nat.le_of_ble_eq_true rfl) ?_)))) | (refine Exists.intro _ (And.intro (q) (And.intro rfl (And.intro rfl (And.intro (Nat.le_of_ble_eq_true rfl) ?_))))) | (refine Exists.intro _ (And.intro (getn (q) (by omega)) (And.intro rfl (And.intro rfl (And.intro (Nat.le_of_ble_eq_true rfl) ?_))))) | (refine Exists.intro _ (And.intro (getn (getn (q) (by omega)) (by omega)) (And.intro rfl (And.intro rfl (And.intro (Nat.le_of_ble_eq_true rfl) ?_))))) | (refine Exists.intro _ (And.intro (getn (getn (getn (q) (by omega)) (by omega)) (by omega)) (And.intro rfl (And.intro rfl (And.intro (Nat.le_of_ble_eq_true rfl) ?_))))) | (refine Exists.intro _ (And.intro (getn (getn (getn (getn (q) (by omega)) (by omega)) (by omega)) (by omega)) (And.intro rfl (And.intro rfl (And.intro (Nat.le_of_ble_eq_true rfl) ?_))))) | (refine Exists.intro _ (And.intro (getn (getn (getn (getn (getn (q) (by omega)) (by omega)) (by omega)) (by omega)) (by omega)) (And.intro rfl (And.intro rfl (And.intro (Nat.le_of_ble_eq_true rfl) ?_))))) | (refine Exists.intro _ (And.intro (get_set (q)) (And.intro rfl (And.intro (Nat.le_of_ble_eq_true rfl) ?_)))) | (refine Exists.intro _ (And.intro (get_set (getn (q) (by omega))) (And.intro rfl (And.intro (Nat.le_of_ble_eq_true rfl) ?_)))) | (refine Exists.intro _ (And.intro (get_set (getn (getn (q) (by omega)) (by omega))) (And.intro rfl (And.intro (Nat.le_of_ble_eq_true rfl) ?_)))) | (refine Exists.intro _ (And.intro (get_set (getn (getn (getn (q) (by omega)) (by omega)) (by omega))) (And.intro rfl (And.intro (Nat.le_of_ble_eq_true rfl) ?_)))) | (refine Exists.intro _ (And.intro (get_set (getn (getn (getn (getn (q) (by omega)) (by omega)) (by omega)) (by omega))) (And.intro rfl (And.intro (Nat.le_of_ble_eq_true rfl) ?_)))) | (refine Exists.intro _ (And.intro (get_set (getn (getn (getn (getn (getn (q) (by omega)) (by omega)) (by omega)) (by omega)) (by omega))) (And.intro rfl (And.intro (Nat.le_of_ble_eq_true rfl) ?_)))) | (refine Exists.intro _ (And.intro rfl (And.intro rfl (And.intro (Nat.le_of_ble_eq_true rfl) ?_)))) | (refine Exists.intro _ (And.intro rfl (And.intro rfl (And.intro rfl (And.intro (Nat.le_of_ble_eq_true rfl) ?_))))) | (refine And.intro (Exists.intro _ (And.intro rfl rfl)) ?_) | (exact fun hW => absurd hW (by decide +kernel)) | (intro hW; (try simp only [Bool.not_true, Bool.not_false, Bool.not_eq_true', Bool.not_eq_false', decide_eq_true_eq, decide_eq_false_iff_not, reduceCtorEq, Bool.true_eq_false, Bool.false_eq_true, mk_size, List.size_toArray, ByteArray.size_append, ByteArray.size_extract, List.length_cons, List.length_nil, ba_get, ba_empty, Int.toNat_natCast] at hW)) | (refine And.intro (?_ : _ → _) (?_ : _ → _)) | (refine FinR.drop 0 (Nat.zero_le _) (Closed.zero _) rfl ?_) | (refine FinR.keep ?_) | (refine And.intro (det3_agg rfl) ?_) | (refine fL_mk ?_) | (refine And.intro (by (try simp only [mk_size, List.size_toArray, ByteArray.size_append, ByteArray.size_extract, List.length_cons, List.length_nil]); omega) ?_) | (refine And.intro (by (try simp only [mk_size, List.size_toArray, ByteArray.size_append, ByteArray.size_extract, List.length_cons, List.length_nil, wrap64_eq]); omega) ?_) | fail)
    all_goals (refine h0 _ _ _ _ _ _ _ ?_ ?_)
    all_goals repeat' (first | exact hc.mono (by omega) | exact hk | refine CurAt.set ?_ (by omega) | refine Keeps.setO ?_ (by omega))
end Go.Proofs.Ytkcbhdjhbnnlgaa
end

section
/- Contracts: stamps drawn from bytes. -/
set_option linter.unusedVariables false
set_option linter.unusedSimpArgs false
set_option maxRecDepth 100000
set_option maxHeartbeats 4000000
namespace Go.Proofs.Ytkcbhdjhbnnlgaa
open Go Go.RowKit Go.Proofs.Ytkcbhdjhbnnlgaa.Abs
variable {W0 : World} {σ : List Blk}
theorem mem4 {x a b c d : Int} (h : x ∈ [a, b, c, d]) : x = a ∨ x = b ∨ x = c ∨ x = d := by simpa using h
theorem mem6 {x a b c d e f : Int} (h : x ∈ [a, b, c, d, e, f]) : x = a ∨ x = b ∨ x = c ∨ x = d ∨ x = e ∨ x = f := by simpa using h
theorem wpred (n : Nat) (h : n < 1000000) (h1 : 0 < n) : IntKind.i64.wrap ((n : Int) - 1) = ((n - 1 : Nat) : Int) := by rw [wrap_i64 _ (by omega) (by omega)]; omega
theorem d_stampC (b n : Nat) (v : Value) (xs : List Int) (hcd : Code W0 v xs) (hc : CurAt b v n σ) (hn : n < 700000000) (K : Cont) (h0 : ∀ a1 a2 a3 a4 a5 a6 R, CurAt b v (n + 100) R → Keeps b σ R → K (Sh a1 a2 a3 a4 a5 a6) R) : ACall Try.prog W0 59 [.ptr b 0 0] σ K := by
  refine by59 (Nat.le_of_ble_eq_true rfl) ?_
  have hbl := hc.lt
  repeat' ((conv => whnf); first | (refine Exists.intro ([] : List Nat) ?_) | (refine And.intro rfl ?_) | (refine And.intro (by decide +kernel) ?_) | (refine And.intro trivial ?_) | (refine Exists.intro _ (And.intro rfl (And.intro rfl (And.intro (Nat.le_of_ble_eq_true rfl) ?_)))) | (refine Exists.intro _ (And.intro rfl (And.intro rfl (And.intro rfl (And.intro (Nat.le_of_ble_eq_true rfl) ?_))))) | (refine And.intro (Exists.intro _ (And.intro rfl rfl)) ?_) | (exact fun hW => absurd hW (by decide +kernel)) | (intro hW; (try simp only [Bool.not_true, Bool.not_false, Bool.not_eq_true', Bool.not_eq_false', decide_eq_true_eq, decide_eq_false_iff_not, reduceCtorEq, Bool.true_eq_false, Bool.false_eq_true, mk_size, List.size_toArray, ByteArray.size_append, ByteArray.size_extract, List.length_cons, List.length_nil, ba_get, ba_empty, Int.toNat_natCast] at hW)) | (refine And.intro (?_ : _ → _) (?_ : _ → _)) | (refine FinR.drop 0 (Nat.zero_le _) (Closed.zero _) rfl ?_) | (refine FinR.keep ?_) | (refine And.intro (det3_agg rfl) ?_) | (refine fL_mk ?_) | (refine And.intro (by (try simp only [mk_size, List.size_toArray, ByteArray.size_append, ByteArray.size_extract, List.length_cons, List.length_nil]); omega) ?_) | (refine And.intro (by (try simp only [mk_size, List.size_toArray, ByteArray.size_append, ByteArray.size_extract, List.length_cons, List.length_nil, wrap64_eq]); omega) ?_) | fail)
  have hc := hc.app (τ := [shC 0 0 0 0 0 0])
  have q : (σ ++ [shC 0 0 0 0 0 0])[σ.length]? = some (shC 0 0 0 0 0 0) := getl
  have hk : Keeps b σ (σ ++ [shC 0 0 0 0 0 0]) := .app
  repeat' ((conv => whnf); first | (refine Exists.intro ([] : List Nat) ?_) | (refine And.intro rfl ?_) | (refine And.intro (by decide +kernel) ?_) | (refine And.intro trivial ?_) | (refine fS_mk ?_) | (refine d_one (hcd := hcd) (hc := hc) (hn := by omega) (hm := by decide) (h0 := fun w S hc1 hk1 => ?_) ..; have q := hk1.2 _ _ (by omega) q; have hk := hk.trans hk1; have hc := hc1) | (refine d_sheetC (hcd := hcd) (hc := hc) (hn := by omega) (h0 := fun a1 a2 a3 a4 a5 a6 S hc1 hk1 => ?_) ..; have q := hk1.2 _ _ (by omega) q; have hk := hk.trans hk1; have hc := hc1) | (refine d_among (y0 := 2) (ys := [3, 2, 6]) (hL := getl) (hys := by decide) (hcd := hcd) (hc := hc.app) (hbl := by have := hc.lt; omega) (hn := by omega) (h0 := fun few Q hxx hc1 hk1 => ?_) ..; have q := hk1.2 _ _ (by omega) (getx1 q); have hk := hk.trans hk1.snoc; have hc := hc1) | (refine Exists.intro _ (And.intro q (And.intro rfl (And.intro rfl (And.intro (Nat.le_of_ble_eq_true rfl) ?_))))) | (refine Exists.intro _ (And.intro (get_set q) (And.intro rfl (And.intro (Nat.le_of_ble_eq_true rfl) ?_)))) | (refine Exists.intro _ (And.intro getl (And.intro rfl (And.intro rfl (And.intro (Nat.le_of_ble_eq_true rfl) ?_)))); rw [set_last]) | (refine Exists.intro _ (And.intro rfl (And.intro rfl (And.intro (Nat.le_of_ble_eq_true rfl) ?_)))) | (refine Exists.intro _ (And.intro rfl (And.intro rfl (And.intro rfl (And.intro (Nat.le_of_ble_eq_true rfl) ?_))))) | (refine And.intro (Exists.intro _ (And.intro rfl rfl)) ?_) | (exact fun hW => absurd hW (by decide +kernel)) | (intro hW; (try simp only [Bool.not_true, Bool.not_false, Bool.not_eq_true', Bool.not_eq_false', decide_eq_true_eq, decide_eq_false_iff_not, reduceCtorEq, Bool.true_eq_false, Bool.false_eq_true, mk_size, List.size_toArray, ByteArray.size_append, ByteArray.size_extract, List.length_cons, List.length_nil, ba_get, ba_empty, Int.toNat_natCast] at hW)) | (refine And.intro (?_ : _ → _) (?_ : _ → _)) | (refine FinR.drop 0 (Nat.zero_le _) (Closed.zero _) rfl ?_) | (refine FinR.keep ?_) | (refine And.intro (det3_agg rfl) ?_) | (refine fL_mk ?_) | (refine And.intro (by (try simp only [mk_size, List.size_toArray, ByteArray.size_append, ByteArray.size_extract, List.length_cons, List.length_nil]); omega) ?_) | (refine And.intro (by (try simp only [mk_size, List.size_toArray, ByteArray.size_append, ByteArray.size_extract, List.length_cons, List.length_nil, wrap64_eq]); omega) ?_) | fail)
  · refine h0 _ _ _ _ _ _ _ ?_ ?_
    all_goals repeat' (first | exact hc.mono (by omega) | exact hk | refine CurAt.set ?_ (by omega) | refine Keeps.setO ?_ (by omega))
  have q3 : (Q ++ [shC 0 0 0 0 0 0])[Q.length]? = some (shC 0 0 0 0 0 0) := getl
  have hRl := getElem?_lt q
  have hc := hc.app (τ := [shC 0 0 0 0 0 0])
  have q := getx1 (τ := [shC 0 0 0 0 0 0]) q
  have hk := hk.trans (.app (τ := [shC 0 0 0 0 0 0]))
  have hfew := mem4 hxx
  have hfew : few ≤ 65536 := by omega
  have hfe6 : 1 < few ∧ few ≤ 6 := by have := mem4 hxx; omega
  clear hxx hc1 hk1
  repeat' ((conv => whnf); first | (refine Exists.intro ([] : List Nat) ?_) | (refine And.intro rfl ?_) | (refine And.intro (by decide +kernel) ?_) | (refine And.intro trivial ?_) | (refine fS_mk ?_) | (refine d_among (y0 := 3) (ys := [2, 1, 4, 5, 0]) (hL := getl) (hys := by decide) (hcd := hcd) (hc := hc.app) (hbl := by have := hc.lt; omega) (hn := by omega) (h0 := fun z R hxx hc1 hk1 => ?_) ..; have q := hk1.2 _ _ (by omega) (getx1 q); have q3 := hk1.2 _ _ (by omega) (getx1 q3); have hk := hk.trans hk1.snoc; have hc := hc1) | (refine Exists.intro _ (And.intro rfl (And.intro rfl (And.intro (Nat.le_of_ble_eq_true rfl) ?_)))) | (refine Exists.intro _ (And.intro rfl (And.intro rfl (And.intro rfl (And.intro (Nat.le_of_ble_eq_true rfl) ?_))))) | (refine And.intro (Exists.intro _ (And.intro rfl rfl)) ?_) | (exact fun hW => absurd hW (by decide +kernel)) | (intro hW; (try simp only [Bool.not_true, Bool.not_false, Bool.not_eq_true', Bool.not_eq_false', decide_eq_true_eq, decide_eq_false_iff_not, reduceCtorEq, Bool.true_eq_false, Bool.false_eq_true, mk_size, List.size_toArray, ByteArray.size_append, ByteArray.size_extract, List.length_cons, List.length_nil, ba_get, ba_empty, Int.toNat_natCast] at hW)) | (refine And.intro (?_ : _ → _) (?_ : _ → _)) | (refine FinR.drop 0 (Nat.zero_le _) (Closed.zero _) rfl ?_) | (refine FinR.keep ?_) | (refine And.intro (det3_agg rfl) ?_) | (refine fL_mk ?_) | (refine And.intro (by (try simp only [mk_size, List.size_toArray, ByteArray.size_append, ByteArray.size_extract, List.length_cons, List.length_nil]); omega) ?_) | (refine And.intro (by (try simp only [mk_size, List.size_toArray, ByteArray.size_append, ByteArray.size_extract, List.length_cons, List.length_nil, wrap64_eq]); omega) ?_) | fail)
  obtain ⟨z, rfl⟩ : ∃ k : Nat, z = k := ⟨z.toNat, by have := mem6 hxx; omega⟩
  have hz6 : z ≤ 5 := by have := mem6 hxx; omega
  clear hxx hc1 hk1
  refine LoopR.live (fun y : Nat × List Blk => [(0, .ptr b 0 0), (2, .ptr σ.length 0 0), (3, .ptr Q.length 0 0), (4, I few), (5, I y.1)]) (fun y => y.2) (fun y => y.1 ≤ z ∧ CurAt b v (n + 2 + 2 + 2 + 4 * (z - y.1)) y.2 ∧ Keeps b σ y.2 ∧ y.2[σ.length]? = some (shC 0 0 0 0 0 0) ∧ ∃ a1 a2 a3 a4 a5 a6, y.2[Q.length]? = some (shC a1 a2 a3 a4 a5 a6)) (fun y => y.1) (z, R) ⟨rfl, rfl, rfl, rfl, rfl, trivial⟩ (.keep rfl) ⟨Nat.le_refl _, hc.mono (by omega), hk, q, 0, 0, 0, 0, 0, 0, q3⟩ ?_
  clear hc hk q q3
  rintro ⟨y, T⟩ ⟨hy, hc, hk, q, a1, a2, a3, a4, a5, a6, q3⟩
  replace hy : y ≤ z := hy
  replace hc : CurAt b v (n + 2 + 2 + 2 + 4 * (z - y)) T := hc
  replace hk : Keeps b σ T := hk
  replace q : T[σ.length]? = some (shC 0 0 0 0 0 0) := q
  replace q3 : T[Q.length]? = some (shC a1 a2 a3 a4 a5 a6) := q3
  by_cases hy0 : 0 < y
  · skip
    repeat' ((conv => whnf); first | (refine And.intro x1 ?_) | (refine Exists.intro ([] : List Nat) ?_) | (refine And.intro rfl ?_) | (refine And.intro (by decide +kernel) ?_) | (refine And.intro trivial ?_) | (refine fS_mk ?_) | (have hz9 := x1; refine d_pick (hcd := hcd) (hc := hc) (hn := by omega) (hm := hfew) (h0 := fun w S y1 y2 hc1 hk1 => ?_) ..; have q := hk1.2 _ _ (by omega) q; have q3 := hk1.2 _ _ (by omega) q3; have hk := hk.trans hk1; have hc := hc1; obtain rfl | rfl | rfl | rfl | rfl | rfl : w = 0 ∨ w = 1 ∨ w = 2 ∨ w = 3 ∨ w = 4 ∨ w = 5 := by omega) | (refine d_pick (hcd := hcd) (hc := hc) (hn := by omega) (hm := hfew) (h0 := fun x S x1 x2 hc1 hk1 => ?_) ..; have q := hk1.2 _ _ (by omega) q; have q3 := hk1.2 _ _ (by omega) q3; have hk := hk.trans hk1; have hc := hc1) | (refine And.intro ⟨_, q3, rfl⟩ ?_) | (refine Exists.intro _ (And.intro q3 (And.intro rfl (And.intro (Nat.le_of_ble_eq_true rfl) ?_)))) | (refine Exists.intro _ (And.intro q3 (And.intro rfl (And.intro rfl (And.intro (Nat.le_of_ble_eq_true rfl) ?_))))) | (refine Exists.intro _ (And.intro rfl (And.intro rfl (And.intro (Nat.le_of_ble_eq_true rfl) ?_)))) | (refine Exists.intro _ (And.intro rfl (And.intro rfl (And.intro rfl (And.intro (Nat.le_of_ble_eq_true rfl) ?_))))) | (refine And.intro (Exists.intro _ (And.intro rfl rfl)) ?_) | (exact fun hW => absurd hW (by decide +kernel)) | (intro hW; (try simp only [Bool.not_true, Bool.not_false, Bool.not_eq_true', Bool.not_eq_false', decide_eq_true_eq, decide_eq_false_iff_not, reduceCtorEq, Bool.true_eq_false, Bool.false_eq_true, mk_size, List.size_toArray, ByteArray.size_append, ByteArray.size_extract, List.length_cons, List.length_nil, ba_get, ba_empty, Int.toNat_natCast] at hW)) | (refine And.intro (?_ : _ → _) (?_ : _ → _)) | (refine FinR.drop 0 (Nat.zero_le _) (Closed.zero _) rfl ?_) | (refine FinR.keep ?_) | (refine And.intro (det3_agg rfl) ?_) | (refine fL_mk ?_) | (refine And.intro (by (try simp only [mk_size, List.size_toArray, ByteArray.size_append, ByteArray.size_extract, List.length_cons, List.length_nil]); omega) ?_) | (refine And.intro (by (try simp only [mk_size, List.size_toArray, ByteArray.size_append, ByteArray.size_extract, List.length_cons, List.length_nil, wrap64_eq]); omega) ?_) | fail)
    all_goals first | (exfalso; omega) | exact Again.go (y - 1, _) ⟨rfl, rfl, rfl, rfl, slI' (wpred y (by omega) hy0), trivial⟩ (.keep rfl) ⟨by show _ ≤ z; omega, (hc.set (by omega)).mono (by show _ ≤ n + 2 + 2 + 2 + 4 * (z - (y - 1)); omega), hk.setO (by omega), getn q (by omega), _, _, _, _, _, _, get_set q3⟩ (by show _ < y; omega)
  · obtain rfl : y = 0 := by omega
    repeat' ((conv => whnf); first | (refine Exists.intro ([] : List Nat) ?_) | (refine And.intro rfl ?_) | (refine And.intro (by decide +kernel) ?_) | (refine And.intro trivial ?_) | (refine fS_mk ?_) | (refine Exists.intro _ (And.intro q3 (And.intro rfl (And.intro (Nat.le_of_ble_eq_true rfl) ?_)))) | (refine Exists.intro _ (And.intro q (And.intro rfl (And.intro rfl (And.intro (Nat.le_of_ble_eq_true rfl) ?_))))) | (refine Exists.intro _ (And.intro (get_set q) (And.intro rfl (And.intro (Nat.le_of_ble_eq_true rfl) ?_)))) | (refine Exists.intro _ (And.intro rfl (And.intro rfl (And.intro (Nat.le_of_ble_eq_true rfl) ?_)))) | (refine Exists.intro _ (And.intro rfl (And.intro rfl (And.intro rfl (And.intro (Nat.le_of_ble_eq_true rfl) ?_))))) | (refine And.intro (Exists.intro _ (And.intro rfl rfl)) ?_) | (exact fun hW => absurd hW (by decide +kernel)) | (intro hW; (try simp only [Bool.not_true, Bool.not_false, Bool.not_eq_true', Bool.not_eq_false', decide_eq_true_eq, decide_eq_false_iff_not, reduceCtorEq, Bool.true_eq_false, Bool.false_eq_true, mk_size, List.size_toArray, ByteArray.size_append, ByteArray.size_extract, List.length_cons, List.length_nil, ba_get, ba_empty, Int.toNat_natCast] at hW)) | (refine And.intro (?_ : _ → _) (?_ : _ → _)) | (refine FinR.drop 0 (Nat.zero_le _) (Closed.zero _) rfl ?_) | (refine FinR.keep ?_) | (refine And.intro (det3_agg rfl) ?_) | (refine fL_mk ?_) | (refine And.intro (by (try simp only [mk_size, List.size_toArray, ByteArray.size_append, ByteArray.size_extract, List.length_cons, List.length_nil]); omega) ?_) | (refine And.intro (by (try simp only [mk_size, List.size_toArray, ByteArray.size_append, ByteArray.size_extract, List.length_cons, List.length_nil, wrap64_eq]); omega) ?_) | fail)
    all_goals first | (exfalso; omega) | skip
    refine h0 _ _ _ _ _ _ _ ?_ ?_
    all_goals repeat' (first | exact hc.mono (by omega) | exact hk | refine CurAt.set ?_ (by omega) | refine Keeps.setO ?_ (by omega))
end Go.Proofs.Ytkcbhdjhbnnlgaa
end

section
/- Contracts: the fewest prints, by the reference. -/
set_option linter.unusedVariables false
set_option linter.unusedSimpArgs false
set_option maxRecDepth 100000
set_option maxHeartbeats 4000000
namespace Go.Proofs.Ytkcbhdjhbnnlgaa
open Go Go.RowKit Go.Proofs.Ytkcbhdjhbnnlgaa.Abs
variable {W0 : World} {σ : List Blk}
/-- which lists give the same picture -/
def fewM (xs : List (List Int)) (c : Nat) : Bool := decide (picY (ordL xs (selN (Nat.testBit c) xs.length)) = picY xs)
abbrev fewS (xs : List (List Int)) (c : Nat) : List Int := bestS (fewM xs) (fun c => selN (Nat.testBit c) xs.length) (plainL xs.length) c
structure FX where
  c : Nat
  L : List Int
  b : Nat
  cp : Nat
  σ : List Blk
end Go.Proofs.Ytkcbhdjhbnnlgaa
end

section
/- Contracts: the fewest prints, by the program. -/
set_option linter.unusedVariables false
set_option linter.unusedSimpArgs false
set_option maxRecDepth 100000
set_option maxHeartbeats 4000000
namespace Go.Proofs.Ytkcbhdjhbnnlgaa
open Go Go.RowKit Go.Proofs.Ytkcbhdjhbnnlgaa.Abs
variable {W0 : World} {σ : List Blk}
structure FY where
  c : Nat
  o : Option (List Int × Nat × Nat)
  σ : List Blk
abbrev fewI (xs : List (List Int)) (c : Nat) : Option (List Int) := bestI (fewM xs) (fun c => selN (Nat.testBit c) xs.length) c
end Go.Proofs.Ytkcbhdjhbnnlgaa
end

section
/- Contracts: the law of the fewest prints. -/
set_option linter.unusedVariables false
set_option linter.unusedSimpArgs false
set_option maxRecDepth 100000
set_option maxHeartbeats 4000000
namespace Go.Proofs.Ytkcbhdjhbnnlgaa
open Go Go.RowKit Go.Proofs.Ytkcbhdjhbnnlgaa.Abs
variable {W0 : World} {σ : List Blk}
theorem get_ne {σ : List Blk} {b i : Nat} {B X : Blk} (h : σ[b]? = some B) (hne : i ≠ b) : (σ.set i X)[b]? = some B := by rw [List.getElem?_set_ne hne]; exact h
/-- lists of numbers that lie among new blocks -/
structure NewL (l : List Int) where
  b : Nat
  cap : Nat
  τ : List Blk
  h : τ[b]? = some (outB l)
theorem newL_sh {σ : List Blk} {l : List Int} (x : NewL l) : (σ ++ shB σ.length x.τ)[σ.length + x.b]? = some (outB l) := by
  rw [get_sh x.h]
  show some (⟨(l.map I).map (sh1 σ.length), _, _, _, _, _⟩ : Blk) = _
  rw [sh_I]
end Go.Proofs.Ytkcbhdjhbnnlgaa
end

section
/- Contracts: lists of sheets and of steps that the laws make and compare. -/
set_option linter.unusedVariables false
set_option linter.unusedSimpArgs false
set_option maxRecDepth 100000
set_option maxHeartbeats 4000000
namespace Go.Proofs.Ytkcbhdjhbnnlgaa
open Go Go.RowKit Go.Proofs.Ytkcbhdjhbnnlgaa.Abs
variable {W0 : World} {σ : List Blk}
abbrev Ste (k s x y : Int) : AV := .agg [I k, I s, I x, I y]
theorem row6x {xs : List (List Int)} (hx : ∀ x ∈ xs, x.length = 6) {n : Nat} (hlt : n < xs.length) : ∃ c0 c1 c2 c3 c4 c5, xs[n]? = some [c0, c1, c2, c3, c4, c5] := by
  have hxi : xs[n]? = some xs[n] := List.getElem?_eq_getElem hlt
  have := hx _ (List.mem_of_getElem? hxi)
  rw [hxi]
  match hh : xs[n], this with
  | [c0, c1, c2, c3, c4, c5], _ => exact ⟨c0, c1, c2, c3, c4, c5, rfl⟩
theorem row4x {xs : List (List Int)} (hx : ∀ x ∈ xs, x.length = 4) {n : Nat} (hlt : n < xs.length) : ∃ c0 c1 c2 c3, xs[n]? = some [c0, c1, c2, c3] := by
  have hxi : xs[n]? = some xs[n] := List.getElem?_eq_getElem hlt
  have := hx _ (List.mem_of_getElem? hxi)
  rw [hxi]
  match hh : xs[n], this with
  | [c0, c1, c2, c3], _ => exact ⟨c0, c1, c2, c3, rfl⟩
end Go.Proofs.Ytkcbhdjhbnnlgaa
end

section
/- Contracts: plans as values; which are valid. -/
set_option linter.unusedVariables false
set_option linter.unusedSimpArgs false
set_option maxRecDepth 100000
set_option maxHeartbeats 4000000
namespace Go.Proofs.Ytkcbhdjhbnnlgaa
open Go Go.RowKit Go.Proofs.Ytkcbhdjhbnnlgaa.Abs
variable {W0 : World} {σ : List Blk}
abbrev PlA (a b c d e f : Int) (s1 s2 : AV) : AV := .agg [I a, I b, I c, I d, I e, I f, s1, s2]
theorem sli_r31 {α : Type} {s : Nat} {enc : α → List Value} {a : AV} {xs : List α} {ι : Abs.Loc} {x : Value} (h : Sli W0 σ s enc a xs) (hr : rel1 ι σ a x) : rel3 ι σ a x := by
  cases h <;> exact hr
theorem rels_pure {ι : Abs.Loc} : ∀ {l : List AV} {vs : List Value}, l.all pure3 = true → Rels (rel3 ι σ) l vs → Rels (rel3 [] []) l vs
  | [], vs, _, h => by rw [h.nil_inv]; exact Rels.nil
  | a :: l, vs, hp, h => by
    simp only [List.all_cons, Bool.and_eq_true] at hp
    obtain ⟨b, m, rfl, h1, h2⟩ := Rels.uncons h
    exact Rels.cons (rel3_pure hp.1 h1) (rels_pure hp.2 h2)
theorem plA_conc {a b c d e f : Int} {s1 s2 : AV} {xs ys : List (List Int)} {ι : Abs.Loc} {W1 : World} {x : Value} (h1 : Sli W0 σ 6 enI s1 xs) (h2 : Sli W0 σ 4 enI s2 ys) (hh : HRel W0 ι σ W1) (hr : rel3 ι σ (PlA a b c d e f s1 s2) x) :
    ∃ t1 t2, Sli W1 [] 6 enI t1 xs ∧ Sli W1 [] 4 enI t2 ys ∧ rel3 [] [] (PlA a b c d e f t1 t2) x := by
  obtain ⟨l, rfl, hl⟩ := (show ∃ l : List Value, x = .agg l.toArray ∧ Rels (crel ι σ) [I a, I b, I c, I d, I e, I f, s1, s2] l from hr)
  obtain ⟨x0, l0, rfl, q0, r0⟩ := Rels.uncons hl
  obtain ⟨x1, l1, rfl, q1, r1⟩ := Rels.uncons r0
  obtain ⟨x2, l2, rfl, q2, r2⟩ := Rels.uncons r1
  obtain ⟨x3, l3, rfl, q3, r3⟩ := Rels.uncons r2
  obtain ⟨x4, l4, rfl, q4, r4⟩ := Rels.uncons r3
  obtain ⟨x5, l5, rfl, q5, r5⟩ := Rels.uncons r4
  obtain ⟨x6, l6, rfl, q6, r6⟩ := Rels.uncons r5
  obtain ⟨x7, l7, rfl, q7, r7⟩ := Rels.uncons r6
  obtain rfl := r7.nil_inv
  obtain ⟨t1, ht1, hs1⟩ := h1.conc hh ⟨x6, sli_r31 h1 q6.1⟩
  obtain ⟨t2, ht2, hs2⟩ := h2.conc hh ⟨x7, sli_r31 h2 q7.1⟩
  obtain ⟨v1, rfl⟩ := sli_lit hs1
  obtain ⟨v2, rfl⟩ := sli_lit hs2
  refine ⟨_, _, hs1, hs2, _, rfl, ?_⟩
  exact Rels.cons ⟨q0.1, q0.2⟩ (Rels.cons ⟨q1.1, q1.2⟩ (Rels.cons ⟨q2.1, q2.2⟩ (Rels.cons ⟨q3.1, q3.2⟩ (Rels.cons ⟨q4.1, q4.2⟩ (Rels.cons ⟨q5.1, q5.2⟩ (Rels.cons ⟨ht1 _ (sli_r31 h1 q6.1), q6.2⟩ (Rels.cons ⟨ht2 _ (sli_r31 h2 q7.1), q7.2⟩ Rels.nil)))))))
theorem lift_Pl {g : FuncId} {a b c d e f : Int} {s1 s2 : AV} {rest : List AV} {xs ys : List (List Int)} {ι : Type} (r : ι → AV) (β : ι → List Blk) (hok : callOK Try.prog g = true) (hrest : rest.all pure3 = true) (h1 : Sli W0 σ 6 enI s1 xs) (h2 : Sli W0 σ 4 enI s2 ys)
    (h : ∀ (W1 : World) (v1 v2 : Value), Sli W1 [] 6 enI (.lit v1) xs → Sli W1 [] 4 enI (.lit v2) ys → ∀ K : Cont, (∀ i, K (r i) (β i)) → ACall Try.prog W1 g (PlA a b c d e f (.lit v1) (.lit v2) :: rest) [] K) (K : Cont) (h0 : ∀ i, K (sh3 σ.length (r i)) (σ ++ shB σ.length (β i))) : ACall Try.prog W0 g (PlA a b c d e f s1 s2 :: rest) σ K := by
  refine ACall.frameA (K0 := fun v σ' => ∃ i, v = r i ∧ σ' = β i) hok (fun W1 ι vs hh hrr => ?_) ?_
  · obtain ⟨v1, vs', rfl, hr1, hr2⟩ := Rels.uncons hrr
    obtain ⟨t1, t2, q1, q2, q3⟩ := plA_conc h1 h2 hh hr1
    obtain ⟨u1, rfl⟩ := sli_lit q1
    obtain ⟨u2, rfl⟩ := sli_lit q2
    exact ⟨_ :: rest, Rels.cons q3 (rels_pure hrest hr2), h W1 u1 u2 q1 q2 _ (fun i => ⟨i, rfl, rfl⟩)⟩
  · rintro v σ' ⟨i, rfl, rfl⟩; exact h0 i
/-! steps and plans that are valid -/
def stOk (m : Nat) (r : List Int) : Bool := inB (r.getD 0 0) 1 3 && inB (r.getD 1 0) 0 ((m : Int) - 1) && cellB (r.getD 2 0) (r.getD 3 0)
def shRow (r : List Int) : Bool := shB6 (r.getD 0 0) (r.getD 1 0) (r.getD 2 0) (r.getD 3 0) (r.getD 4 0) (r.getD 5 0)
def planB (a b c d e f : Int) (xs ys : List (List Int)) : Bool := shB6 a b c d e f && decide (xs.length ≤ 4) && decide (ys.length ≤ 40) && xs.all shRow && ys.all (stOk xs.length)
theorem planB_iff {a b c d e f : Int} {xs ys : List (List Int)} : planB a b c d e f xs ys = true ↔ shB6 a b c d e f = true ∧ xs.length ≤ 4 ∧ ys.length ≤ 40 ∧ xs.all shRow = true ∧ ys.all (stOk xs.length) = true := by
  simp [planB, and_assoc]
theorem all_takeG {α : Type} {p : α → Bool} {xs : List α} {i : Nat} {x : α} (h : xs[i]? = some x) : (xs.take (i + 1)).all p = ((xs.take i).all p && p x) := by
  rw [take_snoc h, List.all_append]; simp
theorem all_badG {α : Type} {p : α → Bool} {xs : List α} {i : Nat} {x : α} (h : xs[i]? = some x) (hx : p x = false) : xs.all p = false := by
  rw [Bool.eq_false_iff]; intro hc
  rw [List.all_eq_true.1 hc x (List.mem_of_getElem? h)] at hx; cases hx
theorem stOk_eq (m : Nat) (k s x y : Int) : stOk m [k, s, x, y] = (inB k 1 3 && inB s 0 ((m : Int) - 1) && cellB x y) := rfl
theorem c_l11Step (k s x y : Int) (m : Nat) (hm : m ≤ 1048576) (K : Cont) (h0 : K (Bo (stOk m [k, s, x, y])) []) : ACall Try.prog W0 123 [Ste k s x y, I m] [] K := by
  rw [stOk_eq] at h0
  have ew : IntKind.i64.wrap ((m : Int) - 1) = (m : Int) - 1 := wrap_i64 _ (by omega) (by omega)
  refine by123 (Nat.le_of_ble_eq_true rfl) ?_
  repeat' ((conv => whnf); first | (refine Exists.intro ([] : List Nat) ?_) | (refine And.intro rfl ?_) | (refine And.intro (by decide +kernel) ?_) | (refine And.intro trivial ?_) | (refine d_l1In (h0 := ?_) ..) | (refine Exists.intro _ (And.intro (fun τ => callW_fn (d_l1In (h0 := And.intro rfl rfl) ..)) ?_)) | (refine Exists.intro _ (And.intro (callW_fn (d_l1In (h0 := And.intro rfl rfl) ..)) (And.intro trivial ?_))) | (refine Exists.intro _ (And.intro (callW_fn (d_l1In (h0 := And.intro rfl rfl) ..)) ?_)) | (refine Exists.intro _ (And.intro (fun τ _ => callW_fn (d_l1In (h0 := And.intro rfl rfl) ..)) ?_)) | (refine d_l2Cell (h0 := ?_) ..) | (refine Exists.intro _ (And.intro (fun τ => callW_fn (d_l2Cell (h0 := And.intro rfl rfl) ..)) ?_)) | (refine Exists.intro _ (And.intro (callW_fn (d_l2Cell (h0 := And.intro rfl rfl) ..)) (And.intro trivial ?_))) | (refine Exists.intro _ (And.intro (callW_fn (d_l2Cell (h0 := And.intro rfl rfl) ..)) ?_)) | (refine Exists.intro _ (And.intro (fun τ _ => callW_fn (d_l2Cell (h0 := And.intro rfl rfl) ..)) ?_)) | (refine Exists.intro _ (And.intro rfl (And.intro rfl (And.intro (Nat.le_of_ble_eq_true rfl) ?_)))) | (refine Exists.intro _ (And.intro rfl (And.intro rfl (And.intro rfl (And.intro (Nat.le_of_ble_eq_true rfl) ?_))))) | (refine And.intro (Exists.intro _ (And.intro rfl rfl)) ?_) | (exact fun hW => absurd hW (by decide +kernel)) | (intro hW; (try simp only [Bool.not_true, Bool.not_false, Bool.not_eq_true', Bool.not_eq_false', decide_eq_true_eq, decide_eq_false_iff_not, reduceCtorEq, Bool.true_eq_false, Bool.false_eq_true, mk_size, List.size_toArray, ByteArray.size_append, ByteArray.size_extract, List.length_cons, List.length_nil, ba_get, ba_empty, Int.toNat_natCast] at hW)) | (refine And.intro (?_ : _ → _) (?_ : _ → _)) | (refine FinR.drop 0 (Nat.zero_le _) (Closed.zero _) rfl ?_) | (refine FinR.keep ?_) | (refine And.intro (det3_agg rfl) ?_) | (refine fL_mk ?_) | (refine And.intro (by (try simp only [mk_size, List.size_toArray, ByteArray.size_append, ByteArray.size_extract, List.length_cons, List.length_nil]); omega) ?_) | (refine And.intro (by (try simp only [mk_size, List.size_toArray, ByteArray.size_append, ByteArray.size_extract, List.length_cons, List.length_nil, wrap64_eq]); omega) ?_) | fail)
  all_goals (refine kB' h0 ?_; clear h0; simp_all)
theorem d_l11Step (k s x y : Int) (m : Nat) (hm : m ≤ 1048576) (K : Cont) (h0 : K (Bo (stOk m [k, s, x, y])) σ) : ACall Try.prog W0 123 [Ste k s x y, I m] σ K :=
  ACall.lift rfl (fun _ => rfl) (fun W1 K _ hK => c_l11Step k s x y m hm K hK) h0
theorem c_isStep (k s x y : Int) (m : Nat) (hm : m ≤ 1048576) (K : Cont) (h0 : K (Bo (stOk m [k, s, x, y])) []) : ACall Try.prog W0 120 [Ste k s x y, I m] [] K := by
  rw [stOk_eq] at h0
  refine by120 (Nat.le_of_ble_eq_true rfl) ?_
  repeat' ((conv => whnf); first | (refine Exists.intro ([] : List Nat) ?_) | (refine And.intro rfl ?_) | (refine And.intro (by decide +kernel) ?_) | (refine And.intro trivial ?_) | (refine d_isCell (h0 := ?_) ..) | (refine Exists.intro _ (And.intro (fun τ => callW_fn (d_isCell (h0 := And.intro rfl rfl) ..)) ?_)) | (refine Exists.intro _ (And.intro (callW_fn (d_isCell (h0 := And.intro rfl rfl) ..)) (And.intro trivial ?_))) | (refine Exists.intro _ (And.intro (callW_fn (d_isCell (h0 := And.intro rfl rfl) ..)) ?_)) | (refine Exists.intro _ (And.intro (fun τ _ => callW_fn (d_isCell (h0 := And.intro rfl rfl) ..)) ?_)) | (refine Exists.intro _ (And.intro rfl (And.intro rfl (And.intro (Nat.le_of_ble_eq_true rfl) ?_)))) | (refine Exists.intro _ (And.intro rfl (And.intro rfl (And.intro rfl (And.intro (Nat.le_of_ble_eq_true rfl) ?_))))) | (refine And.intro (Exists.intro _ (And.intro rfl rfl)) ?_) | (exact fun hW => absurd hW (by decide +kernel)) | (intro hW; (try simp only [Bool.not_true, Bool.not_false, Bool.not_eq_true', Bool.not_eq_false', decide_eq_true_eq, decide_eq_false_iff_not, reduceCtorEq, Bool.true_eq_false, Bool.false_eq_true, mk_size, List.size_toArray, ByteArray.size_append, ByteArray.size_extract, List.length_cons, List.length_nil, ba_get, ba_empty, Int.toNat_natCast] at hW)) | (refine And.intro (?_ : _ → _) (?_ : _ → _)) | (refine FinR.drop 0 (Nat.zero_le _) (Closed.zero _) rfl ?_) | (refine FinR.keep ?_) | (refine And.intro (det3_agg rfl) ?_) | (refine fL_mk ?_) | (refine And.intro (by (try simp only [mk_size, List.size_toArray, ByteArray.size_append, ByteArray.size_extract, List.length_cons, List.length_nil]); omega) ?_) | (refine And.intro (by (try simp only [mk_size, List.size_toArray, ByteArray.size_append, ByteArray.size_extract, List.length_cons, List.length_nil, wrap64_eq]); omega) ?_) | fail)
  all_goals (refine kB' h0 ?_; clear h0; simp_all [inB] <;> intros <;> omega)
theorem d_isStep (k s x y : Int) (m : Nat) (hm : m ≤ 1048576) (K : Cont) (h0 : K (Bo (stOk m [k, s, x, y])) σ) : ACall Try.prog W0 120 [Ste k s x y, I m] σ K :=
  ACall.lift rfl (fun _ => rfl) (fun W1 K _ hK => c_isStep k s x y m hm K hK) h0
def plBx (a b c d e f : Int) (s1 s2 : AV) (e' : TypeId) : Blk := ⟨[I a, I b, I c, I d, I e, I f, s1, s2], 0, e', 0, false, false⟩
theorem c_l11Plan (a b c d e f : Int) (v1 v2 : Value) (xs ys : List (List Int)) (h1 : Sli W0 [] 6 enI (.lit v1) xs) (h2 : Sli W0 [] 4 enI (.lit v2) ys) (hx : ∀ x ∈ xs, x.length = 6) (hy : ∀ x ∈ ys, x.length = 4) (hl : xs.length ≤ 1048576) (hl2 : ys.length ≤ 1048576) (K : Cont) (h0 : K (Bo (planB a b c d e f xs ys)) []) : ACall Try.prog W0 97 [PlA a b c d e f (.lit v1) (.lit v2)] [] K := by
  refine by97 (Nat.le_of_ble_eq_true rfl) ?_
  obtain ⟨o1, n1, cap1, hv1, hn1, hc1, hm1, hf1⟩ := sli_form h1
  obtain ⟨o2, n2, cap2, hv2, hn2, hc2, hm2, hf2⟩ := sli_form h2
  cases hv1; cases hv2
  subst hn1; subst hn2
  by_cases hg : shB6 a b c d e f = true ∧ xs.length ≤ 4 ∧ ys.length ≤ 40
  · obtain ⟨hs, hx4, hy40⟩ := hg
    repeat' ((conv => whnf); first | (refine Exists.intro ([] : List Nat) ?_) | (refine And.intro rfl ?_) | (refine And.intro (by decide +kernel) ?_) | (refine And.intro trivial ?_) | (refine d_l2Sheet (h0 := ?_) ..) | (refine Exists.intro _ (And.intro (fun τ => callW_fn (d_l2Sheet (h0 := And.intro rfl rfl) ..)) ?_)) | (refine Exists.intro _ (And.intro (callW_fn (d_l2Sheet (h0 := And.intro rfl rfl) ..)) (And.intro trivial ?_))) | (refine Exists.intro _ (And.intro (callW_fn (d_l2Sheet (h0 := And.intro rfl rfl) ..)) ?_)) | (refine Exists.intro _ (And.intro (fun τ _ => callW_fn (d_l2Sheet (h0 := And.intro rfl rfl) ..)) ?_)) | (refine Exists.intro _ (And.intro rfl (And.intro rfl (And.intro (Nat.le_of_ble_eq_true rfl) ?_)))) | (refine Exists.intro _ (And.intro rfl (And.intro rfl (And.intro rfl (And.intro (Nat.le_of_ble_eq_true rfl) ?_))))) | (refine And.intro (Exists.intro _ (And.intro rfl rfl)) ?_) | (exact fun hW => absurd hW (by decide +kernel)) | (intro hW; (try simp only [Bool.not_true, Bool.not_false, Bool.not_eq_true', Bool.not_eq_false', decide_eq_true_eq, decide_eq_false_iff_not, reduceCtorEq, Bool.true_eq_false, Bool.false_eq_true, mk_size, List.size_toArray, ByteArray.size_append, ByteArray.size_extract, List.length_cons, List.length_nil, ba_get, ba_empty, Int.toNat_natCast] at hW)) | (refine And.intro (?_ : _ → _) (?_ : _ → _)) | (refine FinR.drop 0 (Nat.zero_le _) (Closed.zero _) rfl ?_) | (refine FinR.keep ?_) | (refine And.intro (det3_agg rfl) ?_) | (refine fL_mk ?_) | (refine And.intro (by (try simp only [mk_size, List.size_toArray, ByteArray.size_append, ByteArray.size_extract, List.length_cons, List.length_nil]); omega) ?_) | (refine And.intro (by (try simp only [mk_size, List.size_toArray, ByteArray.size_append, ByteArray.size_extract, List.length_cons, List.length_nil, wrap64_eq]); omega) ?_) | fail)
    all_goals first | (exfalso; omega) | (exfalso; simp_all; done) | skip
    refine LoopR.live (fun i : Nat => [(1, .ptr 0 0 0), (3, I i)]) (fun i => [plBx a b c d e f (.lit (.slice o1 xs.length cap1)) (.lit (.slice o2 ys.length cap2)) 67]) (fun i => i ≤ xs.length ∧ (xs.take i).all shRow = true) (fun i => xs.length - i) 0 ⟨rfl, rfl, trivial⟩ (.keep rfl) ⟨Nat.zero_le _, rfl⟩ ?_
    rintro i ⟨hi, hal⟩
    by_cases hlt : i < xs.length
    · obtain ⟨c0, c1, c2, c3, c4, c5, hxi⟩ := row6x hx hlt
      obtain ⟨ad, rfl, hb, hxx⟩ := hf1 i _ hxi
      have hld := fun C h => ldIn (W0 := W0) (s := 6) (enc := enI) hb hxx (k := i) hxi rfl (C := C) h
      have hsn := all_takeG (p := shRow) hxi
      cases hr : shRow [c0, c1, c2, c3, c4, c5] with
      | true =>
        have hr' : shB6 c0 c1 c2 c3 c4 c5 = true := hr
        repeat' ((conv => whnf); first | (refine Exists.intro ([] : List Nat) ?_) | (refine And.intro rfl ?_) | (refine And.intro (by decide +kernel) ?_) | (refine And.intro trivial ?_) | (refine hld _ ?_) | (refine d_l2Sheet (h0 := ?_) ..) | (refine Exists.intro _ (And.intro (fun τ => callW_fn (d_l2Sheet (h0 := And.intro rfl rfl) ..)) ?_)) | (refine Exists.intro _ (And.intro (callW_fn (d_l2Sheet (h0 := And.intro rfl rfl) ..)) (And.intro trivial ?_))) | (refine Exists.intro _ (And.intro (callW_fn (d_l2Sheet (h0 := And.intro rfl rfl) ..)) ?_)) | (refine Exists.intro _ (And.intro (fun τ _ => callW_fn (d_l2Sheet (h0 := And.intro rfl rfl) ..)) ?_)) | (refine Exists.intro _ (And.intro rfl (And.intro rfl (And.intro (Nat.le_of_ble_eq_true rfl) ?_)))) | (refine Exists.intro _ (And.intro rfl (And.intro rfl (And.intro rfl (And.intro (Nat.le_of_ble_eq_true rfl) ?_))))) | (refine And.intro (Exists.intro _ (And.intro rfl rfl)) ?_) | (exact fun hW => absurd hW (by decide +kernel)) | (intro hW; (try simp only [Bool.not_true, Bool.not_false, Bool.not_eq_true', Bool.not_eq_false', decide_eq_true_eq, decide_eq_false_iff_not, reduceCtorEq, Bool.true_eq_false, Bool.false_eq_true, mk_size, List.size_toArray, ByteArray.size_append, ByteArray.size_extract, List.length_cons, List.length_nil, ba_get, ba_empty, Int.toNat_natCast] at hW)) | (refine And.intro (?_ : _ → _) (?_ : _ → _)) | (refine FinR.drop 0 (Nat.zero_le _) (Closed.zero _) rfl ?_) | (refine FinR.keep ?_) | (refine And.intro (det3_agg rfl) ?_) | (refine fL_mk ?_) | (refine And.intro (by (try simp only [mk_size, List.size_toArray, ByteArray.size_append, ByteArray.size_extract, List.length_cons, List.length_nil]); omega) ?_) | (refine And.intro (by (try simp only [mk_size, List.size_toArray, ByteArray.size_append, ByteArray.size_extract, List.length_cons, List.length_nil, wrap64_eq]); omega) ?_) | fail)
        all_goals first | (exfalso; omega) | (exfalso; simp_all; done) | skip
        exact Again.go (i + 1) ⟨rfl, slI' (wsucc' i (by omega)), trivial⟩ (.keep rfl) ⟨by omega, by rw [hsn, hal, hr]; rfl⟩ (by omega)
      | false =>
        have hr' : shB6 c0 c1 c2 c3 c4 c5 = false := hr
        have hpf : planB a b c d e f xs ys = false := by simp [planB, all_badG hxi hr]
        rw [hpf] at h0
        repeat' ((conv => whnf); first | (refine Exists.intro ([] : List Nat) ?_) | (refine And.intro rfl ?_) | (refine And.intro (by decide +kernel) ?_) | (refine And.intro trivial ?_) | (refine hld _ ?_) | (refine d_l2Sheet (h0 := ?_) ..) | (refine Exists.intro _ (And.intro (fun τ => callW_fn (d_l2Sheet (h0 := And.intro rfl rfl) ..)) ?_)) | (refine Exists.intro _ (And.intro (callW_fn (d_l2Sheet (h0 := And.intro rfl rfl) ..)) (And.intro trivial ?_))) | (refine Exists.intro _ (And.intro (callW_fn (d_l2Sheet (h0 := And.intro rfl rfl) ..)) ?_)) | (refine Exists.intro _ (And.intro (fun τ _ => callW_fn (d_l2Sheet (h0 := And.intro rfl rfl) ..)) ?_)) | (refine Exists.intro _ (And.intro rfl (And.intro rfl (And.intro (Nat.le_of_ble_eq_true rfl) ?_)))) | (refine Exists.intro _ (And.intro rfl (And.intro rfl (And.intro rfl (And.intro (Nat.le_of_ble_eq_true rfl) ?_))))) | (refine And.intro (Exists.intro _ (And.intro rfl rfl)) ?_) | (exact fun hW => absurd hW (by decide +kernel)) | (intro hW; (try simp only [Bool.not_true, Bool.not_false, Bool.not_eq_true', Bool.not_eq_false', decide_eq_true_eq, decide_eq_false_iff_not, reduceCtorEq, Bool.true_eq_false, Bool.false_eq_true, mk_size, List.size_toArray, ByteArray.size_append, ByteArray.size_extract, List.length_cons, List.length_nil, ba_get, ba_empty, Int.toNat_natCast] at hW)) | (refine And.intro (?_ : _ → _) (?_ : _ → _)) | (refine FinR.drop 0 (Nat.zero_le _) (Closed.zero _) rfl ?_) | (refine FinR.keep ?_) | (refine And.intro (det3_agg rfl) ?_) | (refine fL_mk ?_) | (refine And.intro (by (try simp only [mk_size, List.size_toArray, ByteArray.size_append, ByteArray.size_extract, List.length_cons, List.length_nil]); omega) ?_) | (refine And.intro (by (try simp only [mk_size, List.size_toArray, ByteArray.size_append, ByteArray.size_extract, List.length_cons, List.length_nil, wrap64_eq]); omega) ?_) | fail)
        all_goals first | (exfalso; omega) | (exfalso; simp_all; done) | exact h0
    · obtain rfl : i = xs.length := by omega
      rw [List.take_length] at hal
      repeat' ((conv => whnf); first | (refine Exists.intro ([] : List Nat) ?_) | (refine And.intro rfl ?_) | (refine And.intro (by decide +kernel) ?_) | (refine And.intro trivial ?_) | (refine Exists.intro _ (And.intro rfl (And.intro rfl (And.intro (Nat.le_of_ble_eq_true rfl) ?_)))) | (refine Exists.intro _ (And.intro rfl (And.intro rfl (And.intro rfl (And.intro (Nat.le_of_ble_eq_true rfl) ?_))))) | (refine And.intro (Exists.intro _ (And.intro rfl rfl)) ?_) | (exact fun hW => absurd hW (by decide +kernel)) | (intro hW; (try simp only [Bool.not_true, Bool.not_false, Bool.not_eq_true', Bool.not_eq_false', decide_eq_true_eq, decide_eq_false_iff_not, reduceCtorEq, Bool.true_eq_false, Bool.false_eq_true, mk_size, List.size_toArray, ByteArray.size_append, ByteArray.size_extract, List.length_cons, List.length_nil, ba_get, ba_empty, Int.toNat_natCast] at hW)) | (refine And.intro (?_ : _ → _) (?_ : _ → _)) | (refine FinR.drop 0 (Nat.zero_le _) (Closed.zero _) rfl ?_) | (refine FinR.keep ?_) | (refine And.intro (det3_agg rfl) ?_) | (refine fL_mk ?_) | (refine And.intro (by (try simp only [mk_size, List.size_toArray, ByteArray.size_append, ByteArray.size_extract, List.length_cons, List.length_nil]); omega) ?_) | (refine And.intro (by (try simp only [mk_size, List.size_toArray, ByteArray.size_append, ByteArray.size_extract, List.length_cons, List.length_nil, wrap64_eq]); omega) ?_) | fail)
      all_goals first | (exfalso; omega) | skip
      refine LoopR.live (fun j : Nat => [(1, .ptr 0 0 0), (4, I j)]) (fun j => [plBx a b c d e f (.lit (.slice o1 xs.length cap1)) (.lit (.slice o2 ys.length cap2)) 67]) (fun j => j ≤ ys.length ∧ (ys.take j).all (stOk xs.length) = true) (fun j => ys.length - j) 0 ⟨rfl, rfl, trivial⟩ (.keep rfl) ⟨Nat.zero_le _, rfl⟩ ?_
      rintro j ⟨hj, hal2⟩
      by_cases hlt2 : j < ys.length
      · obtain ⟨c0, c1, c2, c3, hyj⟩ := row4x hy hlt2
        obtain ⟨ad, rfl, hb, hxx⟩ := hf2 j _ hyj
        have hld := fun C h => ldIn (W0 := W0) (s := 4) (enc := enI) hb hxx (k := j) hyj rfl (C := C) h
        have hsn := all_takeG (p := stOk xs.length) hyj
        cases hr : stOk xs.length [c0, c1, c2, c3] with
        | true =>
          repeat' ((conv => whnf); first | (refine Exists.intro ([] : List Nat) ?_) | (refine And.intro rfl ?_) | (refine And.intro (by decide +kernel) ?_) | (refine And.intro trivial ?_) | (refine hld _ ?_) | (refine d_l11Step (hm := hl) (h0 := ?_) ..) | (refine Exists.intro _ (And.intro (fun τ => callW_fn (d_l11Step (hm := hl) (h0 := And.intro rfl rfl) ..)) ?_)) | (refine Exists.intro _ (And.intro (callW_fn (d_l11Step (hm := hl) (h0 := And.intro rfl rfl) ..)) (And.intro trivial ?_))) | (refine Exists.intro _ (And.intro (callW_fn (d_l11Step (hm := hl) (h0 := And.intro rfl rfl) ..)) ?_)) | (refine Exists.intro _ (And.intro (fun τ _ => callW_fn (d_l11Step (hm := hl) (h0 := And.intro rfl rfl) ..)) ?_)) | (refine Exists.intro _ (And.intro rfl (And.intro rfl (And.intro (Nat.le_of_ble_eq_true rfl) ?_)))) | (refine Exists.intro _ (And.intro rfl (And.intro rfl (And.intro rfl (And.intro (Nat.le_of_ble_eq_true rfl) ?_))))) | (refine And.intro (Exists.intro _ (And.intro rfl rfl)) ?_) | (exact fun hW => absurd hW (by decide +kernel)) | (intro hW; (try simp only [Bool.not_true, Bool.not_false, Bool.not_eq_true', Bool.not_eq_false', decide_eq_true_eq, decide_eq_false_iff_not, reduceCtorEq, Bool.true_eq_false, Bool.false_eq_true, mk_size, List.size_toArray, ByteArray.size_append, ByteArray.size_extract, List.length_cons, List.length_nil, ba_get, ba_empty, Int.toNat_natCast] at hW)) | (refine And.intro (?_ : _ → _) (?_ : _ → _)) | (refine FinR.drop 0 (Nat.zero_le _) (Closed.zero _) rfl ?_) | (refine FinR.keep ?_) | (refine And.intro (det3_agg rfl) ?_) | (refine fL_mk ?_) | (refine And.intro (by (try simp only [mk_size, List.size_toArray, ByteArray.size_append, ByteArray.size_extract, List.length_cons, List.length_nil]); omega) ?_) | (refine And.intro (by (try simp only [mk_size, List.size_toArray, ByteArray.size_append, ByteArray.size_extract, List.length_cons, List.length_nil, wrap64_eq]); omega) ?_) | fail)
          all_goals first | (exfalso; omega) | (exfalso; simp_all; done) | skip
          exact Again.go (j + 1) ⟨rfl, slI' (wsucc' j (by omega)), trivial⟩ (.keep rfl) ⟨by omega, by rw [hsn, hal2, hr]; rfl⟩ (by omega)
        | false =>
          have hpf : planB a b c d e f xs ys = false := by simp [planB, all_badG hyj hr]
          rw [hpf] at h0
          repeat' ((conv => whnf); first | (refine Exists.intro ([] : List Nat) ?_) | (refine And.intro rfl ?_) | (refine And.intro (by decide +kernel) ?_) | (refine And.intro trivial ?_) | (refine hld _ ?_) | (refine d_l11Step (hm := hl) (h0 := ?_) ..) | (refine Exists.intro _ (And.intro (fun τ => callW_fn (d_l11Step (hm := hl) (h0 := And.intro rfl rfl) ..)) ?_)) | (refine Exists.intro _ (And.intro (callW_fn (d_l11Step (hm := hl) (h0 := And.intro rfl rfl) ..)) (And.intro trivial ?_))) | (refine Exists.intro _ (And.intro (callW_fn (d_l11Step (hm := hl) (h0 := And.intro rfl rfl) ..)) ?_)) | (refine Exists.intro _ (And.intro (fun τ _ => callW_fn (d_l11Step (hm := hl) (h0 := And.intro rfl rfl) ..)) ?_)) | (refine Exists.intro _ (And.intro rfl (And.intro rfl (And.intro (Nat.le_of_ble_eq_true rfl) ?_)))) | (refine Exists.intro _ (And.intro rfl (And.intro rfl (And.intro rfl (And.intro (Nat.le_of_ble_eq_true rfl) ?_))))) | (refine And.intro (Exists.intro _ (And.intro rfl rfl)) ?_) | (exact fun hW => absurd hW (by decide +kernel)) | (intro hW; (try simp only [Bool.not_true, Bool.not_false, Bool.not_eq_true', Bool.not_eq_false', decide_eq_true_eq, decide_eq_false_iff_not, reduceCtorEq, Bool.true_eq_false, Bool.false_eq_true, mk_size, List.size_toArray, ByteArray.size_append, ByteArray.size_extract, List.length_cons, List.length_nil, ba_get, ba_empty, Int.toNat_natCast] at hW)) | (refine And.intro (?_ : _ → _) (?_ : _ → _)) | (refine FinR.drop 0 (Nat.zero_le _) (Closed.zero _) rfl ?_) | (refine FinR.keep ?_) | (refine And.intro (det3_agg rfl) ?_) | (refine fL_mk ?_) | (refine And.intro (by (try simp only [mk_size, List.size_toArray, ByteArray.size_append, ByteArray.size_extract, List.length_cons, List.length_nil]); omega) ?_) | (refine And.intro (by (try simp only [mk_size, List.size_toArray, ByteArray.size_append, ByteArray.size_extract, List.length_cons, List.length_nil, wrap64_eq]); omega) ?_) | fail)
          all_goals first | (exfalso; omega) | (exfalso; simp_all; done) | exact h0
      · obtain rfl : j = ys.length := by omega
        rw [List.take_length] at hal2
        rw [planB_iff.2 ⟨hs, hx4, hy40, hal, hal2⟩] at h0
        repeat' ((conv => whnf); first | (refine Exists.intro ([] : List Nat) ?_) | (refine And.intro rfl ?_) | (refine And.intro (by decide +kernel) ?_) | (refine And.intro trivial ?_) | (refine Exists.intro _ (And.intro rfl (And.intro rfl (And.intro (Nat.le_of_ble_eq_true rfl) ?_)))) | (refine Exists.intro _ (And.intro rfl (And.intro rfl (And.intro rfl (And.intro (Nat.le_of_ble_eq_true rfl) ?_))))) | (refine And.intro (Exists.intro _ (And.intro rfl rfl)) ?_) | (exact fun hW => absurd hW (by decide +kernel)) | (intro hW; (try simp only [Bool.not_true, Bool.not_false, Bool.not_eq_true', Bool.not_eq_false', decide_eq_true_eq, decide_eq_false_iff_not, reduceCtorEq, Bool.true_eq_false, Bool.false_eq_true, mk_size, List.size_toArray, ByteArray.size_append, ByteArray.size_extract, List.length_cons, List.length_nil, ba_get, ba_empty, Int.toNat_natCast] at hW)) | (refine And.intro (?_ : _ → _) (?_ : _ → _)) | (refine FinR.drop 0 (Nat.zero_le _) (Closed.zero _) rfl ?_) | (refine FinR.keep ?_) | (refine And.intro (det3_agg rfl) ?_) | (refine fL_mk ?_) | (refine And.intro (by (try simp only [mk_size, List.size_toArray, ByteArray.size_append, ByteArray.size_extract, List.length_cons, List.length_nil]); omega) ?_) | (refine And.intro (by (try simp only [mk_size, List.size_toArray, ByteArray.size_append, ByteArray.size_extract, List.length_cons, List.length_nil, wrap64_eq]); omega) ?_) | fail)
        all_goals first | (exfalso; omega) | exact h0
  · have hpf : planB a b c d e f xs ys = false := by
      rw [Bool.eq_false_iff]; intro h
      have := planB_iff.1 h
      exact hg ⟨this.1, this.2.1, this.2.2.1⟩
    rw [hpf] at h0
    cases hs : shB6 a b c d e f with
    | true =>
      have hg2 : 4 < xs.length ∨ 40 < ys.length := by
        by_cases h4 : xs.length ≤ 4
        · right
          by_cases h5 : ys.length ≤ 40
          · exact absurd ⟨hs, h4, h5⟩ hg
          · omega
        · left; omega
      repeat' ((conv => whnf); first | (refine Exists.intro ([] : List Nat) ?_) | (refine And.intro rfl ?_) | (refine And.intro (by decide +kernel) ?_) | (refine And.intro trivial ?_) | (refine d_l2Sheet (h0 := ?_) ..) | (refine Exists.intro _ (And.intro (fun τ => callW_fn (d_l2Sheet (h0 := And.intro rfl rfl) ..)) ?_)) | (refine Exists.intro _ (And.intro (callW_fn (d_l2Sheet (h0 := And.intro rfl rfl) ..)) (And.intro trivial ?_))) | (refine Exists.intro _ (And.intro (callW_fn (d_l2Sheet (h0 := And.intro rfl rfl) ..)) ?_)) | (refine Exists.intro _ (And.intro (fun τ _ => callW_fn (d_l2Sheet (h0 := And.intro rfl rfl) ..)) ?_)) | (refine Exists.intro _ (And.intro rfl (And.intro rfl (And.intro (Nat.le_of_ble_eq_true rfl) ?_)))) | (refine Exists.intro _ (And.intro rfl (And.intro rfl (And.intro rfl (And.intro (Nat.le_of_ble_eq_true rfl) ?_))))) | (refine And.intro (Exists.intro _ (And.intro rfl rfl)) ?_) | (exact fun hW => absurd hW (by decide +kernel)) | (intro hW; (try simp only [Bool.not_true, Bool.not_false, Bool.not_eq_true', Bool.not_eq_false', decide_eq_true_eq, decide_eq_false_iff_not, reduceCtorEq, Bool.true_eq_false, Bool.false_eq_true, mk_size, List.size_toArray, ByteArray.size_append, ByteArray.size_extract, List.length_cons, List.length_nil, ba_get, ba_empty, Int.toNat_natCast] at hW)) | (refine And.intro (?_ : _ → _) (?_ : _ → _)) | (refine FinR.drop 0 (Nat.zero_le _) (Closed.zero _) rfl ?_) | (refine FinR.keep ?_) | (refine And.intro (det3_agg rfl) ?_) | (refine fL_mk ?_) | (refine And.intro (by (try simp only [mk_size, List.size_toArray, ByteArray.size_append, ByteArray.size_extract, List.length_cons, List.length_nil]); omega) ?_) | (refine And.intro (by (try simp only [mk_size, List.size_toArray, ByteArray.size_append, ByteArray.size_extract, List.length_cons, List.length_nil, wrap64_eq]); omega) ?_) | fail)
      all_goals first | (exfalso; omega) | (exfalso; simp_all; done) | exact h0
    | false =>
      repeat' ((conv => whnf); first | (refine Exists.intro ([] : List Nat) ?_) | (refine And.intro rfl ?_) | (refine And.intro (by decide +kernel) ?_) | (refine And.intro trivial ?_) | (refine d_l2Sheet (h0 := ?_) ..) | (refine Exists.intro _ (And.intro (fun τ => callW_fn (d_l2Sheet (h0 := And.intro rfl rfl) ..)) ?_)) | (refine Exists.intro _ (And.intro (callW_fn (d_l2Sheet (h0 := And.intro rfl rfl) ..)) (And.intro trivial ?_))) | (refine Exists.intro _ (And.intro (callW_fn (d_l2Sheet (h0 := And.intro rfl rfl) ..)) ?_)) | (refine Exists.intro _ (And.intro (fun τ _ => callW_fn (d_l2Sheet (h0 := And.intro rfl rfl) ..)) ?_)) | (refine Exists.intro _ (And.intro rfl (And.intro rfl (And.intro (Nat.le_of_ble_eq_true rfl) ?_)))) | (refine Exists.intro _ (And.intro rfl (And.intro rfl (And.intro rfl (And.intro (Nat.le_of_ble_eq_true rfl) ?_))))) | (refine And.intro (Exists.intro _ (And.intro rfl rfl)) ?_) | (exact fun hW => absurd hW (by decide +kernel)) | (intro hW; (try simp only [Bool.not_true, Bool.not_false, Bool.not_eq_true', Bool.not_eq_false', decide_eq_true_eq, decide_eq_false_iff_not, reduceCtorEq, Bool.true_eq_false, Bool.false_eq_true, mk_size, List.size_toArray, ByteArray.size_append, ByteArray.size_extract, List.length_cons, List.length_nil, ba_get, ba_empty, Int.toNat_natCast] at hW)) | (refine And.intro (?_ : _ → _) (?_ : _ → _)) | (refine FinR.drop 0 (Nat.zero_le _) (Closed.zero _) rfl ?_) | (refine FinR.keep ?_) | (refine And.intro (det3_agg rfl) ?_) | (refine fL_mk ?_) | (refine And.intro (by (try simp only [mk_size, List.size_toArray, ByteArray.size_append, ByteArray.size_extract, List.length_cons, List.length_nil]); omega) ?_) | (refine And.intro (by (try simp only [mk_size, List.size_toArray, ByteArray.size_append, ByteArray.size_extract, List.length_cons, List.length_nil, wrap64_eq]); omega) ?_) | fail)
      all_goals first | (exfalso; omega) | (exfalso; simp_all; done) | exact h0
end Go.Proofs.Ytkcbhdjhbnnlgaa
end

section
/- Contracts: plans by sets. -/
set_option linter.unusedVariables false
set_option linter.unusedSimpArgs false
set_option maxRecDepth 100000
set_option maxHeartbeats 4000000
namespace Go.Proofs.Ytkcbhdjhbnnlgaa
open Go Go.RowKit Go.Proofs.Ytkcbhdjhbnnlgaa.Abs
variable {W0 : World} {σ : List Blk}
/-- what a step of a kind does -/
def doA : Nat → AV
  | 1 => .lit (.func (.func 62) #[] #[])
  | 2 => .lit (.func (.func 66) #[] #[])
  | _ => .lit (.func (.func 68) #[] #[])
abbrev doB (k : Nat) : Blk := ⟨[doA k], 0, 96, 0, false, false⟩
abbrev uB (m : Nat) : Blk := ⟨[U m], 0, 104, 0, false, false⟩
abbrev cloA (a b : Nat) : AV := .fn (.func 121) [] [.ptr a 0 0, .ptr b 0 0]
abbrev plB (n : Nat) (s : AV) : Blk := ⟨[U n, s], 0, 129, 0, false, false⟩
/-- the steps of a plan by sets: kinds and pressed stamps -/
inductive StepsSt (σ : List Blk) : AV → List (Nat × Nat) → Prop
  | nil : StepsSt σ nilA []
  | own (r ver cap : Nat) (cs : List AV) (fs : List (Nat × Nat)) (hr : σ[r]? = some ⟨cs, ver, 137, 1, true, true⟩) (hl : cs.length = fs.length)
      (hc : ∀ (j k m : Nat), fs[j]? = some (k, m) → ∃ a b, cs[j]? = some (cloA a b) ∧ σ[a]? = some (doB k) ∧ σ[b]? = some (uB m)) : StepsSt σ (.sl r ver 0 fs.length cap) fs
structure PlanSt (σ : List Blk) (p n : Nat) (fs : List (Nat × Nat)) : Prop where
  ex : ∃ s, σ[p]? = some (plB n s) ∧ StepsSt σ s fs
theorem ne_e {σ : List Blk} {a b : Nat} {X Y : Blk} (h : σ[a]? = some X) (h' : σ[b]? = some Y) (he : X.e ≠ Y.e) : a ≠ b := fun e => he (by subst e; rw [h] at h'; rw [Option.some.inj h'])
theorem plan_step0 {σ : List Blk} {A : Blk} {n m k cap : Nat} {s : AV} (h2 : σ[2]? = some (plB n s)) :
    PlanSt ((σ ++ [A] ++ [uB m] ++ [doB k] ++ [(⟨[cloA (σ ++ [A] ++ [uB m]).length (σ ++ [A]).length], 0, 137, 1, true, true⟩ : Blk)]).set 2 (plB n (.sl (σ ++ [A] ++ [uB m] ++ [doB k]).length 0 0 1 cap))) 2 n [(k, m)] := by
  have hlt := getElem?_lt h2
  have hl1 : (σ ++ [A]).length = σ.length + 1 := by simp
  have hl2 : (σ ++ [A] ++ [uB m]).length = σ.length + 2 := by simp
  have hl3 : (σ ++ [A] ++ [uB m] ++ [doB k]).length = σ.length + 3 := by simp
  refine ⟨_, get_set (getx1 (getx1 (getx1 (getx1 h2)))), ?_⟩
  refine .own _ 0 cap _ [(k, m)] (get_ne getl (by omega)) rfl fun j k' m' hj => ?_
  cases j with
  | zero =>
    simp only [List.getElem?_cons_zero, Option.some.injEq, Prod.mk.injEq] at hj
    obtain ⟨rfl, rfl⟩ := hj
    exact ⟨_, _, rfl, get_ne (getx1 getl) (by omega), get_ne (getx1 (getx1 getl)) (by omega)⟩
  | succ j => simp at hj
theorem plan_stepS {σ : List Blk} {A : Blk} {n m k cap r ver : Nat} {s : AV} {cs : List AV} {fs : List (Nat × Nat)} (h2 : σ[2]? = some (plB n s)) (hr : σ[r]? = some ⟨cs, ver, 137, 1, true, true⟩) (hl : cs.length = fs.length)
    (hc : ∀ (j k m : Nat), fs[j]? = some (k, m) → ∃ a b, cs[j]? = some (cloA a b) ∧ σ[a]? = some (doB k) ∧ σ[b]? = some (uB m)) :
    PlanSt (((σ ++ [A] ++ [uB m] ++ [doB k]).set r ⟨cs ++ [cloA (σ ++ [A] ++ [uB m]).length (σ ++ [A]).length], ver + 1, 137, 1, true, true⟩).set 2 (plB n (.sl r (ver + 1) 0 (fs.length + 1) cap))) 2 n (fs ++ [(k, m)]) := by
  have hlt := getElem?_lt h2
  have hltr := getElem?_lt hr
  have hl1 : (σ ++ [A]).length = σ.length + 1 := by simp
  have hl2 : (σ ++ [A] ++ [uB m]).length = σ.length + 2 := by simp
  have hne : r ≠ 2 := ne_e hr h2 (show (137 : Nat) ≠ 129 by decide)
  refine ⟨_, get_set (get_ne (getx1 (getx1 (getx1 h2))) hne), ?_⟩
  have e : (fs ++ [(k, m)]).length = fs.length + 1 := by simp
  rw [← e]
  refine .own r (ver + 1) cap _ _ (get_ne (get_set (getx1 (getx1 (getx1 hr)))) (fun e => hne e.symm)) (by simp [hl]) fun j k' m' hj => ?_
  by_cases hj2 : j < fs.length
  · rw [List.getElem?_append_left hj2] at hj
    obtain ⟨a, b, q1, q2, q3⟩ := hc j k' m' hj
    have ha : a ≠ r := ne_e q2 hr (show (96 : Nat) ≠ 137 by decide)
    have hb : b ≠ r := ne_e q3 hr (show (104 : Nat) ≠ 137 by decide)
    have ha2 : a ≠ 2 := ne_e q2 h2 (show (96 : Nat) ≠ 129 by decide)
    have hb2 : b ≠ 2 := ne_e q3 h2 (show (104 : Nat) ≠ 129 by decide)
    refine ⟨a, b, ?_, get_ne (get_ne (getx1 (getx1 (getx1 q2))) ha.symm) ha2.symm, get_ne (get_ne (getx1 (getx1 (getx1 q3))) hb.symm) hb2.symm⟩
    rw [List.getElem?_append_left (by omega)]; exact q1
  · have hj3 : j = fs.length := by
      have := getElem?_lt hj
      simp at this; omega
    subst hj3
    rw [List.getElem?_append_right (Nat.le_refl _), Nat.sub_self] at hj
    simp only [List.getElem?_cons_zero, Option.some.injEq, Prod.mk.injEq] at hj
    obtain ⟨rfl, rfl⟩ := hj
    refine ⟨_, _, ?_, get_ne (get_ne getl (by omega)) (by omega), get_ne (get_ne (getx1 getl) (by omega)) (by omega)⟩
    rw [List.getElem?_append_right (by omega), hl, Nat.sub_self]; rfl
/-- sets of sheets, steps by sets -/
def stN (r : List Int) : Nat := setN (r.getD 0 0).toNat (r.getD 1 0).toNat (r.getD 2 0).toNat (r.getD 3 0).toNat (r.getD 4 0).toNat (r.getD 5 0).toNat
def fsOf (xs ys : List (List Int)) : List (Nat × Nat) := ys.map fun r => ((r.getD 0 0).toNat, prN (stN (xs.getD (r.getD 1 0).toNat [])) (r.getD 2 0).toNat (r.getD 3 0).toNat)
theorem st_parts {a b c d e f : Int} (h : shB6 a b c d e f = true) : ∃ n : Nat, n < 2 ^ 36 ∧ (rowN n 0 : Nat) = a ∧ (rowN n 1 : Nat) = b ∧ (rowN n 2 : Nat) = c ∧ (rowN n 3 : Nat) = d ∧ (rowN n 4 : Nat) = e ∧ (rowN n 5 : Nat) = f ∧ stN [a, b, c, d, e, f] = n := by
  obtain ⟨n, hn, rfl, rfl, rfl, rfl, rfl, rfl⟩ := shN_of h
  refine ⟨n, hn, rfl, rfl, rfl, rfl, rfl, rfl, ?_⟩
  simp only [stN, List.getD_cons_zero, List.getD_cons_succ, Int.toNat_natCast, setN_rows hn]
abbrev stB (l : List Nat) : Blk := ⟨l.map (fun n : Nat => U n), l.length, 104, 1, true, true⟩
theorem stB_get {l : List Nat} {i off : Nat} {n : Nat} (h : l[i]? = some n) (ho : off = i) : mkAV false (((l.map (fun n : Nat => U n)).drop off).take 1) = U n := by
  subst ho
  rw [← List.map_drop, ← List.map_take, List.drop_eq_getElem_cons (getElem?_lt h), (List.getElem?_eq_some_iff.1 h).2]; rfl
end Go.Proofs.Ytkcbhdjhbnnlgaa
end

section
/- Contracts: plans by sets: the program's planOf. -/
set_option linter.unusedVariables false
set_option linter.unusedSimpArgs false
set_option maxRecDepth 100000
set_option maxHeartbeats 4000000
namespace Go.Proofs.Ytkcbhdjhbnnlgaa
open Go Go.RowKit Go.Proofs.Ytkcbhdjhbnnlgaa.Abs
variable {W0 : World} {σ : List Blk}
abbrev nilP : AV := .lit (.pointer none)
structure PX where
  i : Nat
  σ : List Blk
theorem c_planOfG (a b c d e f : Int) (v1 v2 : Value) (xs ys : List (List Int)) (h1 : Sli W0 [] 6 enI (.lit v1) xs) (h2 : Sli W0 [] 4 enI (.lit v2) ys) (hx : ∀ x ∈ xs, x.length = 6) (hy : ∀ x ∈ ys, x.length = 4) (hs : shB6 a b c d e f = true) (hx4 : xs.length ≤ 4) (hy40 : ys.length ≤ 40) (K : Cont)
    (h0 : planB a b c d e f xs ys = true → ∀ σ', PlanSt σ' 2 (stN [a, b, c, d, e, f]) (fsOf xs ys) → K (.tup [.ptr 2 0 0, Bo true]) σ') (h00 : planB a b c d e f xs ys = false → K (.tup [nilP, Bo false]) []) : ACall Try.prog W0 95 [PlA a b c d e f (.lit v1) (.lit v2)] [] K := by
  obtain ⟨n, hn, rfl, rfl, rfl, rfl, rfl, rfl, hst⟩ := st_parts hs
  rw [hst] at h0
  refine by95 (Nat.le_of_ble_eq_true rfl) ?_
  obtain ⟨o1, n1, cap1, hv1, hn1, hc1, hm1, hf1⟩ := sli_form h1
  obtain ⟨o2, n2, cap2, hv2, hn2, hc2, hm2, hf2⟩ := sli_form h2
  cases hv1; cases hv2
  subst hn1; subst hn2
  repeat' ((conv => whnf); first | (refine Exists.intro ([] : List Nat) ?_) | (refine And.intro rfl ?_) | (refine And.intro (by decide +kernel) ?_) | (refine And.intro trivial ?_) | (refine d_setOfN (n := n) (hn := hn) (h0 := ?_) ..) | (refine Exists.intro _ (And.intro rfl (And.intro rfl (And.intro (Nat.le_of_ble_eq_true rfl) ?_)))) | (refine Exists.intro _ (And.intro rfl (And.intro rfl (And.intro rfl (And.intro (Nat.le_of_ble_eq_true rfl) ?_))))) | (refine And.intro (Exists.intro _ (And.intro rfl rfl)) ?_) | (exact fun hW => absurd hW (by decide +kernel)) | (intro hW; (try simp only [Bool.not_true, Bool.not_false, Bool.not_eq_true', Bool.not_eq_false', decide_eq_true_eq, decide_eq_false_iff_not, reduceCtorEq, Bool.true_eq_false, Bool.false_eq_true, mk_size, List.size_toArray, ByteArray.size_append, ByteArray.size_extract, List.length_cons, List.length_nil, ba_get, ba_empty, Int.toNat_natCast] at hW)) | (refine And.intro (?_ : _ → _) (?_ : _ → _)) | (refine FinR.drop 0 (Nat.zero_le _) (Closed.zero _) rfl ?_) | (refine FinR.keep ?_) | (refine And.intro (det3_agg rfl) ?_) | (refine fL_mk ?_) | (refine And.intro (by (try simp only [mk_size, List.size_toArray, ByteArray.size_append, ByteArray.size_extract, List.length_cons, List.length_nil]); omega) ?_) | (refine And.intro (by (try simp only [mk_size, List.size_toArray, ByteArray.size_append, ByteArray.size_extract, List.length_cons, List.length_nil, wrap64_eq]); omega) ?_) | fail)
  all_goals first | (exfalso; omega) | (exfalso; simp_all; done) | skip
  refine LoopR.live (fun y : Nat × Nat => [(1, .ptr 0 0 0), (4, U n), (6, .sl 1 ((xs.take y.1).map stN).length 0 ((xs.take y.1).map stN).length y.2), (38, .lit (.slice o1 xs.length cap1)), (39, I xs.length), (40, I y.1)]) (fun y => [plBx (rowN n 0 : Nat) (rowN n 1 : Nat) (rowN n 2 : Nat) (rowN n 3 : Nat) (rowN n 4 : Nat) (rowN n 5 : Nat) (.lit (.slice o1 xs.length cap1)) (.lit (.slice o2 ys.length cap2)) 67, stB ((xs.take y.1).map stN)]) (fun y => y.1 ≤ xs.length ∧ (xs.take y.1).all shRow = true) (fun y => xs.length - y.1) (0, 0) ⟨rfl, rfl, rfl, rfl, rfl, rfl, trivial⟩ (.keep rfl) ⟨Nat.zero_le _, rfl⟩ ?_
  rintro ⟨i, cp⟩ ⟨hi, hxa⟩
  dsimp only at hi hxa
  have hml : ((xs.take i).map stN).length = i := by rw [List.length_map, List.length_take, Nat.min_eq_left hi]
  by_cases hlt : i < xs.length
  · obtain ⟨c0, c1, c2, c3, c4, c5, hxi⟩ := row6x hx hlt
    obtain ⟨ad, rfl, hb, hxx⟩ := hf1 i _ hxi
    have hld := fun C h => ldIn (W0 := W0) (s := 6) (enc := enI) hb hxx (k := i) hxi rfl (C := C) h
    cases hrr : shRow [c0, c1, c2, c3, c4, c5] with
    | false =>
      have hr : shB6 c0 c1 c2 c3 c4 c5 = false := hrr
      have h0 := h00 (by simp [planB, all_badG hxi hrr])
      repeat' ((conv => whnf); first | (refine Exists.intro ([] : List Nat) ?_) | (refine And.intro rfl ?_) | (refine And.intro (by decide +kernel) ?_) | (refine And.intro trivial ?_) | (refine hld _ ?_) | (refine d_setOfF (hb := hr) (h0 := ?_) ..) | (refine Exists.intro _ (And.intro rfl (And.intro rfl (And.intro (Nat.le_of_ble_eq_true rfl) ?_)))) | (refine Exists.intro _ (And.intro rfl (And.intro rfl (And.intro rfl (And.intro (Nat.le_of_ble_eq_true rfl) ?_))))) | (refine And.intro (Exists.intro _ (And.intro rfl rfl)) ?_) | (exact fun hW => absurd hW (by decide +kernel)) | (intro hW; (try simp only [Bool.not_true, Bool.not_false, Bool.not_eq_true', Bool.not_eq_false', decide_eq_true_eq, decide_eq_false_iff_not, reduceCtorEq, Bool.true_eq_false, Bool.false_eq_true, mk_size, List.size_toArray, ByteArray.size_append, ByteArray.size_extract, List.length_cons, List.length_nil, ba_get, ba_empty, Int.toNat_natCast] at hW)) | (refine And.intro (?_ : _ → _) (?_ : _ → _)) | (refine FinR.drop 0 (Nat.zero_le _) (Closed.zero _) rfl ?_) | (refine FinR.keep ?_) | (refine And.intro (det3_agg rfl) ?_) | (refine fL_mk ?_) | (refine And.intro (by (try simp only [mk_size, List.size_toArray, ByteArray.size_append, ByteArray.size_extract, List.length_cons, List.length_nil]); omega) ?_) | (refine And.intro (by (try simp only [mk_size, List.size_toArray, ByteArray.size_append, ByteArray.size_extract, List.length_cons, List.length_nil, wrap64_eq]); omega) ?_) | fail)
      all_goals first | (exfalso; omega) | (exfalso; simp_all; done) | exact h0
    | true =>
      have hr : shB6 c0 c1 c2 c3 c4 c5 = true := hrr
      obtain ⟨m, hm, rfl, rfl, rfl, rfl, rfl, rfl, hsm⟩ := st_parts hr
      have hsn : (xs.take (i + 1)).map stN = (xs.take i).map stN ++ [m] := by rw [take_snoc hxi, List.map_append, List.map_cons, hsm]; rfl
      repeat' ((conv => whnf); first | (refine Exists.intro ([] : List Nat) ?_) | (refine And.intro rfl ?_) | (refine And.intro (by decide +kernel) ?_) | (refine And.intro trivial ?_) | (refine hld _ ?_) | (refine d_setOfN (n := m) (hn := hm) (h0 := ?_) ..) | (refine Exists.intro _ (And.intro rfl (And.intro rfl (And.intro rfl (And.intro rfl (And.intro rfl (And.intro rfl (And.intro (by decide) (And.intro (by simp [List.length_map]) (And.intro rfl (And.intro (by (try dsimp only); unfold maxLen; omega) (And.intro (by (try dsimp only); omega) (fun cap' hcap1 hcap2 => ?_))))))))))))) | (refine Exists.intro _ (And.intro rfl (And.intro rfl (And.intro (Nat.le_of_ble_eq_true rfl) ?_)))) | (refine Exists.intro _ (And.intro rfl (And.intro rfl (And.intro rfl (And.intro (Nat.le_of_ble_eq_true rfl) ?_))))) | (refine And.intro (Exists.intro _ (And.intro rfl rfl)) ?_) | (exact fun hW => absurd hW (by decide +kernel)) | (intro hW; (try simp only [Bool.not_true, Bool.not_false, Bool.not_eq_true', Bool.not_eq_false', decide_eq_true_eq, decide_eq_false_iff_not, reduceCtorEq, Bool.true_eq_false, Bool.false_eq_true, mk_size, List.size_toArray, ByteArray.size_append, ByteArray.size_extract, List.length_cons, List.length_nil, ba_get, ba_empty, Int.toNat_natCast] at hW)) | (refine And.intro (?_ : _ → _) (?_ : _ → _)) | (refine FinR.drop 0 (Nat.zero_le _) (Closed.zero _) rfl ?_) | (refine FinR.keep ?_) | (refine And.intro (det3_agg rfl) ?_) | (refine fL_mk ?_) | (refine And.intro (by (try simp only [mk_size, List.size_toArray, ByteArray.size_append, ByteArray.size_extract, List.length_cons, List.length_nil]); omega) ?_) | (refine And.intro (by (try simp only [mk_size, List.size_toArray, ByteArray.size_append, ByteArray.size_extract, List.length_cons, List.length_nil, wrap64_eq]); omega) ?_) | fail)
      all_goals first | (exfalso; omega) | (exfalso; simp_all; done) | skip
      refine Again.go (i + 1, _) ⟨rfl, rfl, (by show AV.sl _ _ _ _ _ = AV.sl _ _ _ _ _; rw [hsn, List.length_append]; rfl), rfl, rfl, slI' (wsucc' i (by omega)), trivial⟩ (.drop 2 (Nat.zero_le _) ?_ (closCons rfl (closCons (List.all_eq_true.2 fun v hv => by obtain ⟨w, _, rfl⟩ := List.mem_map.1 hv; rfl) (closNil 2))) rfl) ⟨by dsimp only; omega, by dsimp only; rw [all_takeG hxi, hxa, hrr]; rfl⟩ (by dsimp only; omega)
      dsimp only [stB]
      rw [hsn, List.length_append, List.map_append]; rfl
  · obtain rfl : i = xs.length := by omega
    rw [List.take_length] at hml hxa ⊢
    repeat' ((conv => whnf); first | (refine Exists.intro ([] : List Nat) ?_) | (refine And.intro rfl ?_) | (refine And.intro (by decide +kernel) ?_) | (refine And.intro trivial ?_) | (refine Exists.intro _ (And.intro rfl (And.intro rfl (And.intro (Nat.le_of_ble_eq_true rfl) ?_)))) | (refine Exists.intro _ (And.intro rfl (And.intro rfl (And.intro rfl (And.intro (Nat.le_of_ble_eq_true rfl) ?_))))) | (refine And.intro (Exists.intro _ (And.intro rfl rfl)) ?_) | (exact fun hW => absurd hW (by decide +kernel)) | (intro hW; (try simp only [Bool.not_true, Bool.not_false, Bool.not_eq_true', Bool.not_eq_false', decide_eq_true_eq, decide_eq_false_iff_not, reduceCtorEq, Bool.true_eq_false, Bool.false_eq_true, mk_size, List.size_toArray, ByteArray.size_append, ByteArray.size_extract, List.length_cons, List.length_nil, ba_get, ba_empty, Int.toNat_natCast] at hW)) | (refine And.intro (?_ : _ → _) (?_ : _ → _)) | (refine FinR.drop 0 (Nat.zero_le _) (Closed.zero _) rfl ?_) | (refine FinR.keep ?_) | (refine And.intro (det3_agg rfl) ?_) | (refine fL_mk ?_) | (refine And.intro (by (try simp only [mk_size, List.size_toArray, ByteArray.size_append, ByteArray.size_extract, List.length_cons, List.length_nil]); omega) ?_) | (refine And.intro (by (try simp only [mk_size, List.size_toArray, ByteArray.size_append, ByteArray.size_extract, List.length_cons, List.length_nil, wrap64_eq]); omega) ?_) | fail)
    all_goals first | (exfalso; omega) | skip
    refine LoopR.live (fun y : PX => [(6, .sl 1 (xs.map stN).length 0 (xs.map stN).length cp), (11, .ptr 2 0 0), (60, .lit (.slice o2 ys.length cap2)), (61, I ys.length), (62, I y.i)]) (fun y => y.σ) (fun y => y.i ≤ ys.length ∧ y.σ[1]? = some (stB (xs.map stN)) ∧ PlanSt y.σ 2 n ((fsOf xs ys).take y.i) ∧ (ys.take y.i).all (stOk xs.length) = true) (fun y => ys.length - y.i) ⟨0, _⟩ ⟨rfl, rfl, rfl, rfl, rfl, trivial⟩ (.keep rfl) ⟨Nat.zero_le _, rfl, ⟨nilA, rfl, .nil⟩, rfl⟩ ?_
    rintro ⟨j, σ⟩ ⟨hj, h1, hps, hya⟩
    dsimp only at hj h1 hps hya
    by_cases hlt2 : j < ys.length
    · obtain ⟨k, s, x, y, hyj⟩ := row4x hy hlt2
      obtain ⟨ad, rfl, hb, hxx⟩ := hf2 j _ hyj
      have hld := fun C h => ldIn (W0 := W0) (s := 4) (enc := enI) hb hxx (k := j) hyj rfl (C := C) h
      have hmm : (xs.map stN).length ≤ 1048576 := by omega
      cases hok : stOk xs.length [k, s, x, y] with
      | false =>
        have h0 := h00 (by simp [planB, all_badG hyj hok])
        rw [← hml] at hok
        repeat' ((conv => whnf); first | (refine Exists.intro _ (And.intro getl (And.intro rfl (And.intro rfl (And.intro (Nat.le_of_ble_eq_true rfl) ?_)))); rw [set_last]) | (refine Exists.intro ([] : List Nat) ?_) | (refine And.intro rfl ?_) | (refine And.intro (by decide +kernel) ?_) | (refine And.intro trivial ?_) | (refine fS_mk ?_) | (refine hld _ ?_) | (refine d_isStep (m := (xs.map stN).length) (hm := hmm) (h0 := ?_) ..) | (refine Exists.intro _ (And.intro (fun τ => callW_fn (d_isStep (m := (xs.map stN).length) (hm := hmm) (h0 := And.intro rfl rfl) ..)) ?_)) | (refine Exists.intro _ (And.intro (callW_fn (d_isStep (m := (xs.map stN).length) (hm := hmm) (h0 := And.intro rfl rfl) ..)) (And.intro trivial ?_))) | (refine Exists.intro _ (And.intro (callW_fn (d_isStep (m := (xs.map stN).length) (hm := hmm) (h0 := And.intro rfl rfl) ..)) ?_)) | (refine Exists.intro _ (And.intro (fun τ _ => callW_fn (d_isStep (m := (xs.map stN).length) (hm := hmm) (h0 := And.intro rfl rfl) ..)) ?_)) | (refine Exists.intro _ (And.intro getl (And.intro rfl (And.intro (Nat.le_of_ble_eq_true rfl) ?_)))) | (refine Exists.intro _ (And.intro (getx1 getl) (And.intro rfl (And.intro (Nat.le_of_ble_eq_true rfl) ?_)))) | (refine Exists.intro _ (And.intro (getx1 (getx1 getl)) (And.intro rfl (And.intro (Nat.le_of_ble_eq_true rfl) ?_)))) | (refine Exists.intro _ (And.intro (getx1 h1) (And.intro rfl (And.intro (Nat.le_of_ble_eq_true rfl) ?_)))) | (refine Exists.intro _ (And.intro (getx1 (getx1 h1)) (And.intro rfl (And.intro (Nat.le_of_ble_eq_true rfl) ?_)))) | (refine Exists.intro _ (And.intro (getx1 (getx1 (getx1 h1))) (And.intro rfl (And.intro (Nat.le_of_ble_eq_true rfl) ?_)))) | (refine And.intro ⟨_, getl, rfl⟩ ?_) | (refine And.intro ⟨_, (getx1 getl), rfl⟩ ?_) | (refine And.intro ⟨_, (getx1 (getx1 getl)), rfl⟩ ?_) | (refine And.intro ⟨_, (getx1 h1), rfl⟩ ?_) | (refine And.intro ⟨_, (getx1 (getx1 h1)), rfl⟩ ?_) | (refine And.intro ⟨_, (getx1 (getx1 (getx1 h1))), rfl⟩ ?_) | (refine Exists.intro _ (And.intro rfl (And.intro rfl (And.intro (Nat.le_of_ble_eq_true rfl) ?_)))) | (refine Exists.intro _ (And.intro rfl (And.intro rfl (And.intro rfl (And.intro (Nat.le_of_ble_eq_true rfl) ?_))))) | (refine And.intro (Exists.intro _ (And.intro rfl rfl)) ?_) | (exact fun hW => absurd hW (by decide +kernel)) | (intro hW; (try simp only [Bool.not_true, Bool.not_false, Bool.not_eq_true', Bool.not_eq_false', decide_eq_true_eq, decide_eq_false_iff_not, reduceCtorEq, Bool.true_eq_false, Bool.false_eq_true, mk_size, List.size_toArray, ByteArray.size_append, ByteArray.size_extract, List.length_cons, List.length_nil, ba_get, ba_empty, Int.toNat_natCast] at hW)) | (refine And.intro (?_ : _ → _) (?_ : _ → _)) | (refine FinR.drop 0 (Nat.zero_le _) (Closed.zero _) rfl ?_) | (refine FinR.keep ?_) | (refine And.intro (det3_agg rfl) ?_) | (refine fL_mk ?_) | (refine And.intro (by (try simp only [mk_size, List.size_toArray, ByteArray.size_append, ByteArray.size_extract, List.length_cons, List.length_nil]); omega) ?_) | (refine And.intro (by (try simp only [mk_size, List.size_toArray, ByteArray.size_append, ByteArray.size_extract, List.length_cons, List.length_nil, wrap64_eq]); omega) ?_) | fail)
        all_goals first | (exfalso; omega) | (exfalso; simp_all; done) | exact h0 | (exfalso; rw [hok] at hW; cases hW; done)
      | true =>
        have hnx : (ys.take (j + 1)).all (stOk xs.length) = true := by rw [all_takeG hyj, hya, hok]; rfl
        have hok2 := hok
        rw [stOk_eq] at hok2
        simp only [Bool.and_eq_true] at hok2
        obtain ⟨⟨hk, hsx⟩, hce⟩ := hok2
        have hk3 := (inB_iff _ _ _).1 hk
        have hs3 := (inB_iff _ _ _).1 hsx
        obtain ⟨u, v, rfl, rfl, hu, hv⟩ : ∃ u v : Nat, x = u ∧ y = v ∧ u < 6 ∧ v < 6 := by
          have := cellB_iff.1 hce
          exact ⟨x.toNat, y.toNat, by omega, by omega, by omega, by omega⟩
        have hxs := xget (xs := xs) (k := s) (by omega)
        have hq : shRow (xs.getD s.toNat []) = true := List.all_eq_true.1 hxa _ (List.mem_of_getElem? hxs)
        have hq6 := hx _ (List.mem_of_getElem? hxs)
        obtain ⟨m, hm, hsm⟩ : ∃ m : Nat, m < 2 ^ 36 ∧ stN (xs.getD s.toNat []) = m := by
          match hz : xs.getD s.toNat [], hq6, hq with
          | [c0, c1, c2, c3, c4, c5], _, hq =>
            obtain ⟨m, hm, _, _, _, _, _, _, hsm⟩ := st_parts hq
            exact ⟨m, hm, hsm⟩
        have hsg : (xs.map stN)[s.toNat]? = some m := by rw [List.getElem?_map, hxs, Option.map_some, hsm]
        have hfs : (fsOf xs ys).take (j + 1) = (fsOf xs ys).take j ++ [(k.toNat, prN m u v)] := by
          refine take_snoc ?_
          rw [fsOf, List.getElem?_map, hyj]
          show some (k.toNat, prN (stN (xs.getD s.toNat [])) u v) = _
          rw [hsm]
        have hpr : ∀ {W : World} {σ : List Blk} (K : Cont), K (U (prN m u v : Nat)) σ → ACall Try.prog W 111 [U m, I (v * 6 + u : Nat)] σ K := by
          intro W σ K hK
          refine d_pressed m (v * 6 + u) hm (by omega) K ?_
          rw [show (v * 6 + u) % 6 = u by omega, show (v * 6 + u) / 6 = v by omega]
          exact hK
        have hget := stB_get hsg (off := 0 + s.toNat * 1) (by omega)
        have hgle : 0 + s.toNat * 1 + 1 ≤ ((xs.map stN).map (fun n : Nat => U n)).length := by rw [List.length_map, List.length_map]; omega
        rw [← hml] at hok hs3
        obtain ⟨st, h2, hst2⟩ := hps.ex
        have hps0 : ∀ k', k.toNat = k' → 1 ≤ k' ∧ k' ≤ 3 := by intro k' e; omega
        obtain ⟨k', rfl, hk1, hk2⟩ : ∃ k' : Nat, k = k' ∧ 1 ≤ k' ∧ k' ≤ 3 := ⟨k.toNat, by omega, by omega, by omega⟩
        rw [Int.toNat_natCast] at hfs
        generalize (fsOf xs ys).take j = fs at hst2 hps hfs
        clear hps0
        cases hst2 with
        | nil =>
          obtain rfl | rfl | rfl : k' = 1 ∨ k' = 2 ∨ k' = 3 := by omega
          · skip
            repeat' ((conv => whnf); first | (refine And.intro rfl (Exists.intro (stB (xs.map stN)) (And.intro (getx1 h1) (And.intro rfl (And.intro hgle ?_)))); rw [show (stB (xs.map stN)).cells = (xs.map stN).map (fun n : Nat => U n) from rfl, hget]) | (refine Exists.intro _ (And.intro getl (And.intro rfl (And.intro rfl (And.intro (Nat.le_of_ble_eq_true rfl) ?_)))); rw [set_last]) | (refine Exists.intro ([] : List Nat) ?_) | (refine And.intro rfl ?_) | (refine And.intro (by decide +kernel) ?_) | (refine And.intro trivial ?_) | (refine fS_mk ?_) | (refine hld _ ?_) | (refine d_isStep (m := (xs.map stN).length) (hm := hmm) (h0 := ?_) ..) | (refine Exists.intro _ (And.intro (fun τ => callW_fn (d_isStep (m := (xs.map stN).length) (hm := hmm) (h0 := And.intro rfl rfl) ..)) ?_)) | (refine Exists.intro _ (And.intro (callW_fn (d_isStep (m := (xs.map stN).length) (hm := hmm) (h0 := And.intro rfl rfl) ..)) (And.intro trivial ?_))) | (refine Exists.intro _ (And.intro (callW_fn (d_isStep (m := (xs.map stN).length) (hm := hmm) (h0 := And.intro rfl rfl) ..)) ?_)) | (refine Exists.intro _ (And.intro (fun τ _ => callW_fn (d_isStep (m := (xs.map stN).length) (hm := hmm) (h0 := And.intro rfl rfl) ..)) ?_)) | (refine Exists.intro _ (And.intro (fun τ => callW_fn (d_number (hx := by omega) (hy := by omega) (h0 := And.intro rfl rfl) ..)) ?_)) | (refine Exists.intro _ (And.intro (fun τ => callW_fn (hpr _ (And.intro rfl rfl))) ?_)) | (refine Exists.intro _ (And.intro getl (And.intro rfl (And.intro (Nat.le_of_ble_eq_true rfl) ?_)))) | (refine Exists.intro _ (And.intro (getx1 getl) (And.intro rfl (And.intro (Nat.le_of_ble_eq_true rfl) ?_)))) | (refine Exists.intro _ (And.intro (getx1 (getx1 getl)) (And.intro rfl (And.intro (Nat.le_of_ble_eq_true rfl) ?_)))) | (refine Exists.intro _ (And.intro (getx1 h1) (And.intro rfl (And.intro (Nat.le_of_ble_eq_true rfl) ?_)))) | (refine Exists.intro _ (And.intro (getx1 (getx1 h1)) (And.intro rfl (And.intro (Nat.le_of_ble_eq_true rfl) ?_)))) | (refine Exists.intro _ (And.intro (getx1 (getx1 (getx1 h1))) (And.intro rfl (And.intro (Nat.le_of_ble_eq_true rfl) ?_)))) | (refine Exists.intro _ (And.intro (getx1 h2) (And.intro rfl (And.intro (Nat.le_of_ble_eq_true rfl) ?_)))) | (refine Exists.intro _ (And.intro (getx1 (getx1 h2)) (And.intro rfl (And.intro (Nat.le_of_ble_eq_true rfl) ?_)))) | (refine Exists.intro _ (And.intro (getx1 (getx1 (getx1 h2))) (And.intro rfl (And.intro (Nat.le_of_ble_eq_true rfl) ?_)))) | (refine And.intro ⟨_, getl, rfl⟩ ?_) | (refine And.intro ⟨_, (getx1 getl), rfl⟩ ?_) | (refine And.intro ⟨_, (getx1 (getx1 getl)), rfl⟩ ?_) | (refine And.intro ⟨_, (getx1 h1), rfl⟩ ?_) | (refine And.intro ⟨_, (getx1 (getx1 h1)), rfl⟩ ?_) | (refine And.intro ⟨_, (getx1 (getx1 (getx1 h1))), rfl⟩ ?_) | (refine And.intro ⟨_, (getx1 h2), rfl⟩ ?_) | (refine And.intro ⟨_, (getx1 (getx1 h2)), rfl⟩ ?_) | (refine And.intro ⟨_, (getx1 (getx1 (getx1 h2))), rfl⟩ ?_) | (refine And.intro ⟨_, (getx1 (getx1 (getx1 (getx1 h2)))), rfl⟩ ?_) | (refine Exists.intro _ (And.intro (getx1 (getx1 (getx1 (getx1 h2)))) (And.intro rfl (And.intro rfl (And.intro (Nat.le_of_ble_eq_true rfl) ?_))))) | (refine Exists.intro _ (And.intro rfl (And.intro rfl (And.intro (Nat.le_of_ble_eq_true rfl) ?_)))) | (refine Exists.intro _ (And.intro rfl (And.intro rfl (And.intro rfl (And.intro (Nat.le_of_ble_eq_true rfl) ?_))))) | (refine And.intro (Exists.intro _ (And.intro rfl rfl)) ?_) | (exact fun hW => absurd hW (by decide +kernel)) | (intro hW; (try simp only [Bool.not_true, Bool.not_false, Bool.not_eq_true', Bool.not_eq_false', decide_eq_true_eq, decide_eq_false_iff_not, reduceCtorEq, Bool.true_eq_false, Bool.false_eq_true, mk_size, List.size_toArray, ByteArray.size_append, ByteArray.size_extract, List.length_cons, List.length_nil, ba_get, ba_empty, Int.toNat_natCast] at hW)) | (refine And.intro (?_ : _ → _) (?_ : _ → _)) | (refine FinR.drop 0 (Nat.zero_le _) (Closed.zero _) rfl ?_) | (refine FinR.keep ?_) | (refine And.intro (det3_agg rfl) ?_) | (refine fL_mk ?_) | (refine And.intro (by (try simp only [mk_size, List.size_toArray, ByteArray.size_append, ByteArray.size_extract, List.length_cons, List.length_nil]); omega) ?_) | (refine And.intro (by (try simp only [mk_size, List.size_toArray, ByteArray.size_append, ByteArray.size_extract, List.length_cons, List.length_nil, wrap64_eq]); omega) ?_) | fail)
            all_goals first | (exfalso; omega) | (exfalso; simp_all; done) | (exfalso; rw [hok] at hW; cases hW; done) | skip
            refine Again.go ⟨j + 1, _⟩ ⟨rfl, rfl, rfl, rfl, slI' (wsucc' j (by omega)), trivial⟩ (.keep rfl) ⟨by dsimp only; omega, get_ne (getx1 (getx1 (getx1 (getx1 h1)))) (by decide), ?_, hnx⟩ (by dsimp only; omega)
            dsimp only
            rw [hfs]
            exact plan_step0 (m := prN m u v) (k := 1) (s := nilA) h2
          · skip
            repeat' ((conv => whnf); first | (refine And.intro rfl (Exists.intro (stB (xs.map stN)) (And.intro (getx1 h1) (And.intro rfl (And.intro hgle ?_)))); rw [show (stB (xs.map stN)).cells = (xs.map stN).map (fun n : Nat => U n) from rfl, hget]) | (refine Exists.intro _ (And.intro getl (And.intro rfl (And.intro rfl (And.intro (Nat.le_of_ble_eq_true rfl) ?_)))); rw [set_last]) | (refine Exists.intro ([] : List Nat) ?_) | (refine And.intro rfl ?_) | (refine And.intro (by decide +kernel) ?_) | (refine And.intro trivial ?_) | (refine fS_mk ?_) | (refine hld _ ?_) | (refine d_isStep (m := (xs.map stN).length) (hm := hmm) (h0 := ?_) ..) | (refine Exists.intro _ (And.intro (fun τ => callW_fn (d_isStep (m := (xs.map stN).length) (hm := hmm) (h0 := And.intro rfl rfl) ..)) ?_)) | (refine Exists.intro _ (And.intro (callW_fn (d_isStep (m := (xs.map stN).length) (hm := hmm) (h0 := And.intro rfl rfl) ..)) (And.intro trivial ?_))) | (refine Exists.intro _ (And.intro (callW_fn (d_isStep (m := (xs.map stN).length) (hm := hmm) (h0 := And.intro rfl rfl) ..)) ?_)) | (refine Exists.intro _ (And.intro (fun τ _ => callW_fn (d_isStep (m := (xs.map stN).length) (hm := hmm) (h0 := And.intro rfl rfl) ..)) ?_)) | (refine Exists.intro _ (And.intro (fun τ => callW_fn (d_number (hx := by omega) (hy := by omega) (h0 := And.intro rfl rfl) ..)) ?_)) | (refine Exists.intro _ (And.intro (fun τ => callW_fn (hpr _ (And.intro rfl rfl))) ?_)) | (refine Exists.intro _ (And.intro getl (And.intro rfl (And.intro (Nat.le_of_ble_eq_true rfl) ?_)))) | (refine Exists.intro _ (And.intro (getx1 getl) (And.intro rfl (And.intro (Nat.le_of_ble_eq_true rfl) ?_)))) | (refine Exists.intro _ (And.intro (getx1 (getx1 getl)) (And.intro rfl (And.intro (Nat.le_of_ble_eq_true rfl) ?_)))) | (refine Exists.intro _ (And.intro (getx1 h1) (And.intro rfl (And.intro (Nat.le_of_ble_eq_true rfl) ?_)))) | (refine Exists.intro _ (And.intro (getx1 (getx1 h1)) (And.intro rfl (And.intro (Nat.le_of_ble_eq_true rfl) ?_)))) | (refine Exists.intro _ (And.intro (getx1 (getx1 (getx1 h1))) (And.intro rfl (And.intro (Nat.le_of_ble_eq_true rfl) ?_)))) | (refine Exists.intro _ (And.intro (getx1 h2) (And.intro rfl (And.intro (Nat.le_of_ble_eq_true rfl) ?_)))) | (refine Exists.intro _ (And.intro (getx1 (getx1 h2)) (And.intro rfl (And.intro (Nat.le_of_ble_eq_true rfl) ?_)))) | (refine Exists.intro _ (And.intro (getx1 (getx1 (getx1 h2))) (And.intro rfl (And.intro (Nat.le_of_ble_eq_true rfl) ?_)))) | (refine And.intro ⟨_, getl, rfl⟩ ?_) | (refine And.intro ⟨_, (getx1 getl), rfl⟩ ?_) | (refine And.intro ⟨_, (getx1 (getx1 getl)), rfl⟩ ?_) | (refine And.intro ⟨_, (getx1 h1), rfl⟩ ?_) | (refine And.intro ⟨_, (getx1 (getx1 h1)), rfl⟩ ?_) | (refine And.intro ⟨_, (getx1 (getx1 (getx1 h1))), rfl⟩ ?_) | (refine And.intro ⟨_, (getx1 h2), rfl⟩ ?_) | (refine And.intro ⟨_, (getx1 (getx1 h2)), rfl⟩ ?_) | (refine And.intro ⟨_, (getx1 (getx1 (getx1 h2))), rfl⟩ ?_) | (refine And.intro ⟨_, (getx1 (getx1 (getx1 (getx1 h2)))), rfl⟩ ?_) | (refine Exists.intro _ (And.intro (getx1 (getx1 (getx1 (getx1 h2)))) (And.intro rfl (And.intro rfl (And.intro (Nat.le_of_ble_eq_true rfl) ?_))))) | (refine Exists.intro _ (And.intro rfl (And.intro rfl (And.intro (Nat.le_of_ble_eq_true rfl) ?_)))) | (refine Exists.intro _ (And.intro rfl (And.intro rfl (And.intro rfl (And.intro (Nat.le_of_ble_eq_true rfl) ?_))))) | (refine And.intro (Exists.intro _ (And.intro rfl rfl)) ?_) | (exact fun hW => absurd hW (by decide +kernel)) | (intro hW; (try simp only [Bool.not_true, Bool.not_false, Bool.not_eq_true', Bool.not_eq_false', decide_eq_true_eq, decide_eq_false_iff_not, reduceCtorEq, Bool.true_eq_false, Bool.false_eq_true, mk_size, List.size_toArray, ByteArray.size_append, ByteArray.size_extract, List.length_cons, List.length_nil, ba_get, ba_empty, Int.toNat_natCast] at hW)) | (refine And.intro (?_ : _ → _) (?_ : _ → _)) | (refine FinR.drop 0 (Nat.zero_le _) (Closed.zero _) rfl ?_) | (refine FinR.keep ?_) | (refine And.intro (det3_agg rfl) ?_) | (refine fL_mk ?_) | (refine And.intro (by (try simp only [mk_size, List.size_toArray, ByteArray.size_append, ByteArray.size_extract, List.length_cons, List.length_nil]); omega) ?_) | (refine And.intro (by (try simp only [mk_size, List.size_toArray, ByteArray.size_append, ByteArray.size_extract, List.length_cons, List.length_nil, wrap64_eq]); omega) ?_) | fail)
            all_goals first | (exfalso; omega) | (exfalso; simp_all; done) | (exfalso; rw [hok] at hW; cases hW; done) | skip
            refine Again.go ⟨j + 1, _⟩ ⟨rfl, rfl, rfl, rfl, slI' (wsucc' j (by omega)), trivial⟩ (.keep rfl) ⟨by dsimp only; omega, get_ne (getx1 (getx1 (getx1 (getx1 h1)))) (by decide), ?_, hnx⟩ (by dsimp only; omega)
            dsimp only
            rw [hfs]
            exact plan_step0 (m := prN m u v) (k := 2) (s := nilA) h2
          · skip
            repeat' ((conv => whnf); first | (refine And.intro rfl (Exists.intro (stB (xs.map stN)) (And.intro (getx1 h1) (And.intro rfl (And.intro hgle ?_)))); rw [show (stB (xs.map stN)).cells = (xs.map stN).map (fun n : Nat => U n) from rfl, hget]) | (refine Exists.intro _ (And.intro getl (And.intro rfl (And.intro rfl (And.intro (Nat.le_of_ble_eq_true rfl) ?_)))); rw [set_last]) | (refine Exists.intro ([] : List Nat) ?_) | (refine And.intro rfl ?_) | (refine And.intro (by decide +kernel) ?_) | (refine And.intro trivial ?_) | (refine fS_mk ?_) | (refine hld _ ?_) | (refine d_isStep (m := (xs.map stN).length) (hm := hmm) (h0 := ?_) ..) | (refine Exists.intro _ (And.intro (fun τ => callW_fn (d_isStep (m := (xs.map stN).length) (hm := hmm) (h0 := And.intro rfl rfl) ..)) ?_)) | (refine Exists.intro _ (And.intro (callW_fn (d_isStep (m := (xs.map stN).length) (hm := hmm) (h0 := And.intro rfl rfl) ..)) (And.intro trivial ?_))) | (refine Exists.intro _ (And.intro (callW_fn (d_isStep (m := (xs.map stN).length) (hm := hmm) (h0 := And.intro rfl rfl) ..)) ?_)) | (refine Exists.intro _ (And.intro (fun τ _ => callW_fn (d_isStep (m := (xs.map stN).length) (hm := hmm) (h0 := And.intro rfl rfl) ..)) ?_)) | (refine Exists.intro _ (And.intro (fun τ => callW_fn (d_number (hx := by omega) (hy := by omega) (h0 := And.intro rfl rfl) ..)) ?_)) | (refine Exists.intro _ (And.intro (fun τ => callW_fn (hpr _ (And.intro rfl rfl))) ?_)) | (refine Exists.intro _ (And.intro getl (And.intro rfl (And.intro (Nat.le_of_ble_eq_true rfl) ?_)))) | (refine Exists.intro _ (And.intro (getx1 getl) (And.intro rfl (And.intro (Nat.le_of_ble_eq_true rfl) ?_)))) | (refine Exists.intro _ (And.intro (getx1 (getx1 getl)) (And.intro rfl (And.intro (Nat.le_of_ble_eq_true rfl) ?_)))) | (refine Exists.intro _ (And.intro (getx1 h1) (And.intro rfl (And.intro (Nat.le_of_ble_eq_true rfl) ?_)))) | (refine Exists.intro _ (And.intro (getx1 (getx1 h1)) (And.intro rfl (And.intro (Nat.le_of_ble_eq_true rfl) ?_)))) | (refine Exists.intro _ (And.intro (getx1 (getx1 (getx1 h1))) (And.intro rfl (And.intro (Nat.le_of_ble_eq_true rfl) ?_)))) | (refine Exists.intro _ (And.intro (getx1 h2) (And.intro rfl (And.intro (Nat.le_of_ble_eq_true rfl) ?_)))) | (refine Exists.intro _ (And.intro (getx1 (getx1 h2)) (And.intro rfl (And.intro (Nat.le_of_ble_eq_true rfl) ?_)))) | (refine Exists.intro _ (And.intro (getx1 (getx1 (getx1 h2))) (And.intro rfl (And.intro (Nat.le_of_ble_eq_true rfl) ?_)))) | (refine And.intro ⟨_, getl, rfl⟩ ?_) | (refine And.intro ⟨_, (getx1 getl), rfl⟩ ?_) | (refine And.intro ⟨_, (getx1 (getx1 getl)), rfl⟩ ?_) | (refine And.intro ⟨_, (getx1 h1), rfl⟩ ?_) | (refine And.intro ⟨_, (getx1 (getx1 h1)), rfl⟩ ?_) | (refine And.intro ⟨_, (getx1 (getx1 (getx1 h1))), rfl⟩ ?_) | (refine And.intro ⟨_, (getx1 h2), rfl⟩ ?_) | (refine And.intro ⟨_, (getx1 (getx1 h2)), rfl⟩ ?_) | (refine And.intro ⟨_, (getx1 (getx1 (getx1 h2))), rfl⟩ ?_) | (refine And.intro ⟨_, (getx1 (getx1 (getx1 (getx1 h2)))), rfl⟩ ?_) | (refine Exists.intro _ (And.intro (getx1 (getx1 (getx1 (getx1 h2)))) (And.intro rfl (And.intro rfl (And.intro (Nat.le_of_ble_eq_true rfl) ?_))))) | (refine Exists.intro _ (And.intro rfl (And.intro rfl (And.intro (Nat.le_of_ble_eq_true rfl) ?_)))) | (refine Exists.intro _ (And.intro rfl (And.intro rfl (And.intro rfl (And.intro (Nat.le_of_ble_eq_true rfl) ?_))))) | (refine And.intro (Exists.intro _ (And.intro rfl rfl)) ?_) | (exact fun hW => absurd hW (by decide +kernel)) | (intro hW; (try simp only [Bool.not_true, Bool.not_false, Bool.not_eq_true', Bool.not_eq_false', decide_eq_true_eq, decide_eq_false_iff_not, reduceCtorEq, Bool.true_eq_false, Bool.false_eq_true, mk_size, List.size_toArray, ByteArray.size_append, ByteArray.size_extract, List.length_cons, List.length_nil, ba_get, ba_empty, Int.toNat_natCast] at hW)) | (refine And.intro (?_ : _ → _) (?_ : _ → _)) | (refine FinR.drop 0 (Nat.zero_le _) (Closed.zero _) rfl ?_) | (refine FinR.keep ?_) | (refine And.intro (det3_agg rfl) ?_) | (refine fL_mk ?_) | (refine And.intro (by (try simp only [mk_size, List.size_toArray, ByteArray.size_append, ByteArray.size_extract, List.length_cons, List.length_nil]); omega) ?_) | (refine And.intro (by (try simp only [mk_size, List.size_toArray, ByteArray.size_append, ByteArray.size_extract, List.length_cons, List.length_nil, wrap64_eq]); omega) ?_) | fail)
            all_goals first | (exfalso; omega) | (exfalso; simp_all; done) | (exfalso; rw [hok] at hW; cases hW; done) | skip
            refine Again.go ⟨j + 1, _⟩ ⟨rfl, rfl, rfl, rfl, slI' (wsucc' j (by omega)), trivial⟩ (.keep rfl) ⟨by dsimp only; omega, get_ne (getx1 (getx1 (getx1 (getx1 h1)))) (by decide), ?_, hnx⟩ (by dsimp only; omega)
            dsimp only
            rw [hfs]
            exact plan_step0 (m := prN m u v) (k := 3) (s := nilA) h2
        | own r ver cap cs fs hr hl hc =>
          have hr2 : r ≠ 2 := ne_e hr h2 (show (137 : Nat) ≠ 129 by decide)
          have hr1 : r ≠ 1 := ne_e hr h1 (show (137 : Nat) ≠ 104 by decide)
          have hfl : fs.length ≤ 40 := by
            have := congrArg List.length hfs
            rw [List.length_append, List.length_take] at this
            have e : ([((k' : Nat), prN m u v)] : List (Nat × Nat)).length = 1 := rfl
            rw [fsOf, List.length_map] at this
            omega
          obtain rfl | rfl | rfl : k' = 1 ∨ k' = 2 ∨ k' = 3 := by omega
          · skip
            repeat' ((conv => whnf); first | (refine And.intro rfl (Exists.intro (stB (xs.map stN)) (And.intro (getx1 h1) (And.intro rfl (And.intro hgle ?_)))); rw [show (stB (xs.map stN)).cells = (xs.map stN).map (fun n : Nat => U n) from rfl, hget]) | (refine Exists.intro _ (And.intro getl (And.intro rfl (And.intro rfl (And.intro (Nat.le_of_ble_eq_true rfl) ?_)))); rw [set_last]) | (refine Exists.intro _ (And.intro (getx1 (getx1 (getx1 hr))) (And.intro rfl (And.intro rfl (And.intro rfl (And.intro rfl (And.intro rfl (And.intro (by decide) (And.intro (by rw [Nat.mul_one]; exact hl.symm) (And.intro rfl (And.intro (by unfold maxLen; omega) (And.intro (by omega) (fun cap' hcap1 hcap2 => ?_))))))))))))) | (refine Exists.intro ([] : List Nat) ?_) | (refine And.intro rfl ?_) | (refine And.intro (by decide +kernel) ?_) | (refine And.intro trivial ?_) | (refine fS_mk ?_) | (refine hld _ ?_) | (refine d_isStep (m := (xs.map stN).length) (hm := hmm) (h0 := ?_) ..) | (refine Exists.intro _ (And.intro (fun τ => callW_fn (d_isStep (m := (xs.map stN).length) (hm := hmm) (h0 := And.intro rfl rfl) ..)) ?_)) | (refine Exists.intro _ (And.intro (callW_fn (d_isStep (m := (xs.map stN).length) (hm := hmm) (h0 := And.intro rfl rfl) ..)) (And.intro trivial ?_))) | (refine Exists.intro _ (And.intro (callW_fn (d_isStep (m := (xs.map stN).length) (hm := hmm) (h0 := And.intro rfl rfl) ..)) ?_)) | (refine Exists.intro _ (And.intro (fun τ _ => callW_fn (d_isStep (m := (xs.map stN).length) (hm := hmm) (h0 := And.intro rfl rfl) ..)) ?_)) | (refine Exists.intro _ (And.intro (fun τ => callW_fn (d_number (hx := by omega) (hy := by omega) (h0 := And.intro rfl rfl) ..)) ?_)) | (refine Exists.intro _ (And.intro (fun τ => callW_fn (hpr _ (And.intro rfl rfl))) ?_)) | (refine Exists.intro _ (And.intro getl (And.intro rfl (And.intro (Nat.le_of_ble_eq_true rfl) ?_)))) | (refine Exists.intro _ (And.intro (getx1 getl) (And.intro rfl (And.intro (Nat.le_of_ble_eq_true rfl) ?_)))) | (refine Exists.intro _ (And.intro (getx1 (getx1 getl)) (And.intro rfl (And.intro (Nat.le_of_ble_eq_true rfl) ?_)))) | (refine Exists.intro _ (And.intro (getx1 h1) (And.intro rfl (And.intro (Nat.le_of_ble_eq_true rfl) ?_)))) | (refine Exists.intro _ (And.intro (getx1 (getx1 h1)) (And.intro rfl (And.intro (Nat.le_of_ble_eq_true rfl) ?_)))) | (refine Exists.intro _ (And.intro (getx1 (getx1 (getx1 h1))) (And.intro rfl (And.intro (Nat.le_of_ble_eq_true rfl) ?_)))) | (refine Exists.intro _ (And.intro (getx1 h2) (And.intro rfl (And.intro (Nat.le_of_ble_eq_true rfl) ?_)))) | (refine Exists.intro _ (And.intro (getx1 (getx1 h2)) (And.intro rfl (And.intro (Nat.le_of_ble_eq_true rfl) ?_)))) | (refine Exists.intro _ (And.intro (getx1 (getx1 (getx1 h2))) (And.intro rfl (And.intro (Nat.le_of_ble_eq_true rfl) ?_)))) | (refine And.intro ⟨_, getl, rfl⟩ ?_) | (refine And.intro ⟨_, (getx1 getl), rfl⟩ ?_) | (refine And.intro ⟨_, (getx1 (getx1 getl)), rfl⟩ ?_) | (refine And.intro ⟨_, (getx1 h1), rfl⟩ ?_) | (refine And.intro ⟨_, (getx1 (getx1 h1)), rfl⟩ ?_) | (refine And.intro ⟨_, (getx1 (getx1 (getx1 h1))), rfl⟩ ?_) | (refine And.intro ⟨_, (getx1 h2), rfl⟩ ?_) | (refine And.intro ⟨_, (getx1 (getx1 h2)), rfl⟩ ?_) | (refine And.intro ⟨_, (getx1 (getx1 (getx1 h2))), rfl⟩ ?_) | (refine And.intro ⟨_, (get_ne (getx1 (getx1 (getx1 h2))) hr2), rfl⟩ ?_) | (refine Exists.intro _ (And.intro (get_ne (getx1 (getx1 (getx1 h2))) hr2) (And.intro rfl (And.intro rfl (And.intro (Nat.le_of_ble_eq_true rfl) ?_))))) | (refine Exists.intro _ (And.intro rfl (And.intro rfl (And.intro (Nat.le_of_ble_eq_true rfl) ?_)))) | (refine Exists.intro _ (And.intro rfl (And.intro rfl (And.intro rfl (And.intro (Nat.le_of_ble_eq_true rfl) ?_))))) | (refine And.intro (Exists.intro _ (And.intro rfl rfl)) ?_) | (exact fun hW => absurd hW (by decide +kernel)) | (intro hW; (try simp only [Bool.not_true, Bool.not_false, Bool.not_eq_true', Bool.not_eq_false', decide_eq_true_eq, decide_eq_false_iff_not, reduceCtorEq, Bool.true_eq_false, Bool.false_eq_true, mk_size, List.size_toArray, ByteArray.size_append, ByteArray.size_extract, List.length_cons, List.length_nil, ba_get, ba_empty, Int.toNat_natCast] at hW)) | (refine And.intro (?_ : _ → _) (?_ : _ → _)) | (refine FinR.drop 0 (Nat.zero_le _) (Closed.zero _) rfl ?_) | (refine FinR.keep ?_) | (refine And.intro (det3_agg rfl) ?_) | (refine fL_mk ?_) | (refine And.intro (by (try simp only [mk_size, List.size_toArray, ByteArray.size_append, ByteArray.size_extract, List.length_cons, List.length_nil]); omega) ?_) | (refine And.intro (by (try simp only [mk_size, List.size_toArray, ByteArray.size_append, ByteArray.size_extract, List.length_cons, List.length_nil, wrap64_eq]); omega) ?_) | fail)
            all_goals first | (exfalso; omega) | (exfalso; simp_all; done) | (exfalso; rw [hok] at hW; cases hW; done) | skip
            refine Again.go ⟨j + 1, _⟩ ⟨rfl, rfl, rfl, rfl, slI' (wsucc' j (by omega)), trivial⟩ (.keep rfl) ⟨by dsimp only; omega, get_ne (get_ne (getx1 (getx1 (getx1 h1))) hr1) (by decide), ?_, hnx⟩ (by dsimp only; omega)
            dsimp only
            rw [hfs]
            exact plan_stepS (m := prN m u v) (k := 1) h2 hr hl hc
          · skip
            repeat' ((conv => whnf); first | (refine And.intro rfl (Exists.intro (stB (xs.map stN)) (And.intro (getx1 h1) (And.intro rfl (And.intro hgle ?_)))); rw [show (stB (xs.map stN)).cells = (xs.map stN).map (fun n : Nat => U n) from rfl, hget]) | (refine Exists.intro _ (And.intro getl (And.intro rfl (And.intro rfl (And.intro (Nat.le_of_ble_eq_true rfl) ?_)))); rw [set_last]) | (refine Exists.intro _ (And.intro (getx1 (getx1 (getx1 hr))) (And.intro rfl (And.intro rfl (And.intro rfl (And.intro rfl (And.intro rfl (And.intro (by decide) (And.intro (by rw [Nat.mul_one]; exact hl.symm) (And.intro rfl (And.intro (by unfold maxLen; omega) (And.intro (by omega) (fun cap' hcap1 hcap2 => ?_))))))))))))) | (refine Exists.intro ([] : List Nat) ?_) | (refine And.intro rfl ?_) | (refine And.intro (by decide +kernel) ?_) | (refine And.intro trivial ?_) | (refine fS_mk ?_) | (refine hld _ ?_) | (refine d_isStep (m := (xs.map stN).length) (hm := hmm) (h0 := ?_) ..) | (refine Exists.intro _ (And.intro (fun τ => callW_fn (d_isStep (m := (xs.map stN).length) (hm := hmm) (h0 := And.intro rfl rfl) ..)) ?_)) | (refine Exists.intro _ (And.intro (callW_fn (d_isStep (m := (xs.map stN).length) (hm := hmm) (h0 := And.intro rfl rfl) ..)) (And.intro trivial ?_))) | (refine Exists.intro _ (And.intro (callW_fn (d_isStep (m := (xs.map stN).length) (hm := hmm) (h0 := And.intro rfl rfl) ..)) ?_)) | (refine Exists.intro _ (And.intro (fun τ _ => callW_fn (d_isStep (m := (xs.map stN).length) (hm := hmm) (h0 := And.intro rfl rfl) ..)) ?_)) | (refine Exists.intro _ (And.intro (fun τ => callW_fn (d_number (hx := by omega) (hy := by omega) (h0 := And.intro rfl rfl) ..)) ?_)) | (refine Exists.intro _ (And.intro (fun τ => callW_fn (hpr _ (And.intro rfl rfl))) ?_)) | (refine Exists.intro _ (And.intro getl (And.intro rfl (And.intro (Nat.le_of_ble_eq_true rfl) ?_)))) | (refine Exists.intro _ (And.intro (getx1 getl) (And.intro rfl (And.intro (Nat.le_of_ble_eq_true rfl) ?_)))) | (refine Exists.intro _ (And.intro (getx1 (getx1 getl)) (And.intro rfl (And.intro (Nat.le_of_ble_eq_true rfl) ?_)))) | (refine Exists.intro _ (And.intro (getx1 h1) (And.intro rfl (And.intro (Nat.le_of_ble_eq_true rfl) ?_)))) | (refine Exists.intro _ (And.intro (getx1 (getx1 h1)) (And.intro rfl (And.intro (Nat.le_of_ble_eq_true rfl) ?_)))) | (refine Exists.intro _ (And.intro (getx1 (getx1 (getx1 h1))) (And.intro rfl (And.intro (Nat.le_of_ble_eq_true rfl) ?_)))) | (refine Exists.intro _ (And.intro (getx1 h2) (And.intro rfl (And.intro (Nat.le_of_ble_eq_true rfl) ?_)))) | (refine Exists.intro _ (And.intro (getx1 (getx1 h2)) (And.intro rfl (And.intro (Nat.le_of_ble_eq_true rfl) ?_)))) | (refine Exists.intro _ (And.intro (getx1 (getx1 (getx1 h2))) (And.intro rfl (And.intro (Nat.le_of_ble_eq_true rfl) ?_)))) | (refine And.intro ⟨_, getl, rfl⟩ ?_) | (refine And.intro ⟨_, (getx1 getl), rfl⟩ ?_) | (refine And.intro ⟨_, (getx1 (getx1 getl)), rfl⟩ ?_) | (refine And.intro ⟨_, (getx1 h1), rfl⟩ ?_) | (refine And.intro ⟨_, (getx1 (getx1 h1)), rfl⟩ ?_) | (refine And.intro ⟨_, (getx1 (getx1 (getx1 h1))), rfl⟩ ?_) | (refine And.intro ⟨_, (getx1 h2), rfl⟩ ?_) | (refine And.intro ⟨_, (getx1 (getx1 h2)), rfl⟩ ?_) | (refine And.intro ⟨_, (getx1 (getx1 (getx1 h2))), rfl⟩ ?_) | (refine And.intro ⟨_, (get_ne (getx1 (getx1 (getx1 h2))) hr2), rfl⟩ ?_) | (refine Exists.intro _ (And.intro (get_ne (getx1 (getx1 (getx1 h2))) hr2) (And.intro rfl (And.intro rfl (And.intro (Nat.le_of_ble_eq_true rfl) ?_))))) | (refine Exists.intro _ (And.intro rfl (And.intro rfl (And.intro (Nat.le_of_ble_eq_true rfl) ?_)))) | (refine Exists.intro _ (And.intro rfl (And.intro rfl (And.intro rfl (And.intro (Nat.le_of_ble_eq_true rfl) ?_))))) | (refine And.intro (Exists.intro _ (And.intro rfl rfl)) ?_) | (exact fun hW => absurd hW (by decide +kernel)) | (intro hW; (try simp only [Bool.not_true, Bool.not_false, Bool.not_eq_true', Bool.not_eq_false', decide_eq_true_eq, decide_eq_false_iff_not, reduceCtorEq, Bool.true_eq_false, Bool.false_eq_true, mk_size, List.size_toArray, ByteArray.size_append, ByteArray.size_extract, List.length_cons, List.length_nil, ba_get, ba_empty, Int.toNat_natCast] at hW)) | (refine And.intro (?_ : _ → _) (?_ : _ → _)) | (refine FinR.drop 0 (Nat.zero_le _) (Closed.zero _) rfl ?_) | (refine FinR.keep ?_) | (refine And.intro (det3_agg rfl) ?_) | (refine fL_mk ?_) | (refine And.intro (by (try simp only [mk_size, List.size_toArray, ByteArray.size_append, ByteArray.size_extract, List.length_cons, List.length_nil]); omega) ?_) | (refine And.intro (by (try simp only [mk_size, List.size_toArray, ByteArray.size_append, ByteArray.size_extract, List.length_cons, List.length_nil, wrap64_eq]); omega) ?_) | fail)
            all_goals first | (exfalso; omega) | (exfalso; simp_all; done) | (exfalso; rw [hok] at hW; cases hW; done) | skip
            refine Again.go ⟨j + 1, _⟩ ⟨rfl, rfl, rfl, rfl, slI' (wsucc' j (by omega)), trivial⟩ (.keep rfl) ⟨by dsimp only; omega, get_ne (get_ne (getx1 (getx1 (getx1 h1))) hr1) (by decide), ?_, hnx⟩ (by dsimp only; omega)
            dsimp only
            rw [hfs]
            exact plan_stepS (m := prN m u v) (k := 2) h2 hr hl hc
          · skip
            repeat' ((conv => whnf); first | (refine And.intro rfl (Exists.intro (stB (xs.map stN)) (And.intro (getx1 h1) (And.intro rfl (And.intro hgle ?_)))); rw [show (stB (xs.map stN)).cells = (xs.map stN).map (fun n : Nat => U n) from rfl, hget]) | (refine Exists.intro _ (And.intro getl (And.intro rfl (And.intro rfl (And.intro (Nat.le_of_ble_eq_true rfl) ?_)))); rw [set_last]) | (refine Exists.intro _ (And.intro (getx1 (getx1 (getx1 hr))) (And.intro rfl (And.intro rfl (And.intro rfl (And.intro rfl (And.intro rfl (And.intro (by decide) (And.intro (by rw [Nat.mul_one]; exact hl.symm) (And.intro rfl (And.intro (by unfold maxLen; omega) (And.intro (by omega) (fun cap' hcap1 hcap2 => ?_))))))))))))) | (refine Exists.intro ([] : List Nat) ?_) | (refine And.intro rfl ?_) | (refine And.intro (by decide +kernel) ?_) | (refine And.intro trivial ?_) | (refine fS_mk ?_) | (refine hld _ ?_) | (refine d_isStep (m := (xs.map stN).length) (hm := hmm) (h0 := ?_) ..) | (refine Exists.intro _ (And.intro (fun τ => callW_fn (d_isStep (m := (xs.map stN).length) (hm := hmm) (h0 := And.intro rfl rfl) ..)) ?_)) | (refine Exists.intro _ (And.intro (callW_fn (d_isStep (m := (xs.map stN).length) (hm := hmm) (h0 := And.intro rfl rfl) ..)) (And.intro trivial ?_))) | (refine Exists.intro _ (And.intro (callW_fn (d_isStep (m := (xs.map stN).length) (hm := hmm) (h0 := And.intro rfl rfl) ..)) ?_)) | (refine Exists.intro _ (And.intro (fun τ _ => callW_fn (d_isStep (m := (xs.map stN).length) (hm := hmm) (h0 := And.intro rfl rfl) ..)) ?_)) | (refine Exists.intro _ (And.intro (fun τ => callW_fn (d_number (hx := by omega) (hy := by omega) (h0 := And.intro rfl rfl) ..)) ?_)) | (refine Exists.intro _ (And.intro (fun τ => callW_fn (hpr _ (And.intro rfl rfl))) ?_)) | (refine Exists.intro _ (And.intro getl (And.intro rfl (And.intro (Nat.le_of_ble_eq_true rfl) ?_)))) | (refine Exists.intro _ (And.intro (getx1 getl) (And.intro rfl (And.intro (Nat.le_of_ble_eq_true rfl) ?_)))) | (refine Exists.intro _ (And.intro (getx1 (getx1 getl)) (And.intro rfl (And.intro (Nat.le_of_ble_eq_true rfl) ?_)))) | (refine Exists.intro _ (And.intro (getx1 h1) (And.intro rfl (And.intro (Nat.le_of_ble_eq_true rfl) ?_)))) | (refine Exists.intro _ (And.intro (getx1 (getx1 h1)) (And.intro rfl (And.intro (Nat.le_of_ble_eq_true rfl) ?_)))) | (refine Exists.intro _ (And.intro (getx1 (getx1 (getx1 h1))) (And.intro rfl (And.intro (Nat.le_of_ble_eq_true rfl) ?_)))) | (refine Exists.intro _ (And.intro (getx1 h2) (And.intro rfl (And.intro (Nat.le_of_ble_eq_true rfl) ?_)))) | (refine Exists.intro _ (And.intro (getx1 (getx1 h2)) (And.intro rfl (And.intro (Nat.le_of_ble_eq_true rfl) ?_)))) | (refine Exists.intro _ (And.intro (getx1 (getx1 (getx1 h2))) (And.intro rfl (And.intro (Nat.le_of_ble_eq_true rfl) ?_)))) | (refine And.intro ⟨_, getl, rfl⟩ ?_) | (refine And.intro ⟨_, (getx1 getl), rfl⟩ ?_) | (refine And.intro ⟨_, (getx1 (getx1 getl)), rfl⟩ ?_) | (refine And.intro ⟨_, (getx1 h1), rfl⟩ ?_) | (refine And.intro ⟨_, (getx1 (getx1 h1)), rfl⟩ ?_) | (refine And.intro ⟨_, (getx1 (getx1 (getx1 h1))), rfl⟩ ?_) | (refine And.intro ⟨_, (getx1 h2), rfl⟩ ?_) | (refine And.intro ⟨_, (getx1 (getx1 h2)), rfl⟩ ?_) | (refine And.intro ⟨_, (getx1 (getx1 (getx1 h2))), rfl⟩ ?_) | (refine And.intro ⟨_, (get_ne (getx1 (getx1 (getx1 h2))) hr2), rfl⟩ ?_) | (refine Exists.intro _ (And.intro (get_ne (getx1 (getx1 (getx1 h2))) hr2) (And.intro rfl (And.intro rfl (And.intro (Nat.le_of_ble_eq_true rfl) ?_))))) | (refine Exists.intro _ (And.intro rfl (And.intro rfl (And.intro (Nat.le_of_ble_eq_true rfl) ?_)))) | (refine Exists.intro _ (And.intro rfl (And.intro rfl (And.intro rfl (And.intro (Nat.le_of_ble_eq_true rfl) ?_))))) | (refine And.intro (Exists.intro _ (And.intro rfl rfl)) ?_) | (exact fun hW => absurd hW (by decide +kernel)) | (intro hW; (try simp only [Bool.not_true, Bool.not_false, Bool.not_eq_true', Bool.not_eq_false', decide_eq_true_eq, decide_eq_false_iff_not, reduceCtorEq, Bool.true_eq_false, Bool.false_eq_true, mk_size, List.size_toArray, ByteArray.size_append, ByteArray.size_extract, List.length_cons, List.length_nil, ba_get, ba_empty, Int.toNat_natCast] at hW)) | (refine And.intro (?_ : _ → _) (?_ : _ → _)) | (refine FinR.drop 0 (Nat.zero_le _) (Closed.zero _) rfl ?_) | (refine FinR.keep ?_) | (refine And.intro (det3_agg rfl) ?_) | (refine fL_mk ?_) | (refine And.intro (by (try simp only [mk_size, List.size_toArray, ByteArray.size_append, ByteArray.size_extract, List.length_cons, List.length_nil]); omega) ?_) | (refine And.intro (by (try simp only [mk_size, List.size_toArray, ByteArray.size_append, ByteArray.size_extract, List.length_cons, List.length_nil, wrap64_eq]); omega) ?_) | fail)
            all_goals first | (exfalso; omega) | (exfalso; simp_all; done) | (exfalso; rw [hok] at hW; cases hW; done) | skip
            refine Again.go ⟨j + 1, _⟩ ⟨rfl, rfl, rfl, rfl, slI' (wsucc' j (by omega)), trivial⟩ (.keep rfl) ⟨by dsimp only; omega, get_ne (get_ne (getx1 (getx1 (getx1 h1))) hr1) (by decide), ?_, hnx⟩ (by dsimp only; omega)
            dsimp only
            rw [hfs]
            exact plan_stepS (m := prN m u v) (k := 3) h2 hr hl hc
    · obtain rfl : j = ys.length := by omega
      have e : (fsOf xs ys).take ys.length = fsOf xs ys := List.take_of_length_le (by rw [fsOf, List.length_map]; exact Nat.le_refl _)
      rw [e] at hps
      rw [List.take_length] at hya
      have h00 := h0 (planB_iff.2 ⟨hs, hx4, hy40, hxa, hya⟩) σ hps
      repeat' ((conv => whnf); first | (refine Exists.intro ([] : List Nat) ?_) | (refine And.intro rfl ?_) | (refine And.intro (by decide +kernel) ?_) | (refine And.intro trivial ?_) | (refine Exists.intro _ (And.intro rfl (And.intro rfl (And.intro (Nat.le_of_ble_eq_true rfl) ?_)))) | (refine Exists.intro _ (And.intro rfl (And.intro rfl (And.intro rfl (And.intro (Nat.le_of_ble_eq_true rfl) ?_))))) | (refine And.intro (Exists.intro _ (And.intro rfl rfl)) ?_) | (exact fun hW => absurd hW (by decide +kernel)) | (intro hW; (try simp only [Bool.not_true, Bool.not_false, Bool.not_eq_true', Bool.not_eq_false', decide_eq_true_eq, decide_eq_false_iff_not, reduceCtorEq, Bool.true_eq_false, Bool.false_eq_true, mk_size, List.size_toArray, ByteArray.size_append, ByteArray.size_extract, List.length_cons, List.length_nil, ba_get, ba_empty, Int.toNat_natCast] at hW)) | (refine And.intro (?_ : _ → _) (?_ : _ → _)) | (refine FinR.drop 0 (Nat.zero_le _) (Closed.zero _) rfl ?_) | (refine FinR.keep ?_) | (refine And.intro (det3_agg rfl) ?_) | (refine fL_mk ?_) | (refine And.intro (by (try simp only [mk_size, List.size_toArray, ByteArray.size_append, ByteArray.size_extract, List.length_cons, List.length_nil]); omega) ?_) | (refine And.intro (by (try simp only [mk_size, List.size_toArray, ByteArray.size_append, ByteArray.size_extract, List.length_cons, List.length_nil, wrap64_eq]); omega) ?_) | fail)
      all_goals first | (exfalso; omega) | exact h00
end Go.Proofs.Ytkcbhdjhbnnlgaa
end

section
/- Contracts: the program's planOf; IsPlan; plans that the laws make and compare. -/
set_option linter.unusedVariables false
set_option linter.unusedSimpArgs false
set_option maxRecDepth 100000
set_option maxHeartbeats 4000000
namespace Go.Proofs.Ytkcbhdjhbnnlgaa
open Go Go.RowKit Go.Proofs.Ytkcbhdjhbnnlgaa.Abs
variable {W0 : World} {σ : List Blk}
theorem c_planOf (a b c d e f : Int) (v1 v2 : Value) (xs ys : List (List Int)) (h1 : Sli W0 [] 6 enI (.lit v1) xs) (h2 : Sli W0 [] 4 enI (.lit v2) ys) (hx : ∀ x ∈ xs, x.length = 6) (hy : ∀ x ∈ ys, x.length = 4) (K : Cont)
    (h0 : planB a b c d e f xs ys = true → ∀ σ', PlanSt σ' 2 (stN [a, b, c, d, e, f]) (fsOf xs ys) → K (.tup [.ptr 2 0 0, Bo true]) σ') (h00 : planB a b c d e f xs ys = false → K (.tup [nilP, Bo false]) []) : ACall Try.prog W0 95 [PlA a b c d e f (.lit v1) (.lit v2)] [] K := by
  by_cases hg : shB6 a b c d e f = true ∧ xs.length ≤ 4 ∧ ys.length ≤ 40
  · exact c_planOfG a b c d e f v1 v2 xs ys h1 h2 hx hy hg.1 hg.2.1 hg.2.2 K h0 h00
  · have hpf : planB a b c d e f xs ys = false := by
      rw [Bool.eq_false_iff]; intro h
      have := planB_iff.1 h
      exact hg ⟨this.1, this.2.1, this.2.2.1⟩
    have hnp := h00 hpf
    refine by95 (Nat.le_of_ble_eq_true rfl) ?_
    obtain ⟨o1, n1, cap1, hv1, hn1, hc1, hm1, hf1⟩ := sli_form h1
    obtain ⟨o2, n2, cap2, hv2, hn2, hc2, hm2, hf2⟩ := sli_form h2
    cases hv1; cases hv2
    subst hn1; subst hn2
    cases hs : shB6 a b c d e f with
    | true =>
      obtain ⟨n, hn, rfl, rfl, rfl, rfl, rfl, rfl, hst⟩ := st_parts hs
      have hg2 : 4 < xs.length ∨ 40 < ys.length := by
        by_cases h4 : xs.length ≤ 4
        · right
          by_cases h5 : ys.length ≤ 40
          · exact absurd ⟨hs, h4, h5⟩ hg
          · omega
        · left; omega
      repeat' ((conv => whnf); first | (refine Exists.intro ([] : List Nat) ?_) | (refine And.intro rfl ?_) | (refine And.intro (by decide +kernel) ?_) | (refine And.intro trivial ?_) | (refine d_setOfN (n := n) (hn := hn) (h0 := ?_) ..) | (refine Exists.intro _ (And.intro rfl (And.intro rfl (And.intro (Nat.le_of_ble_eq_true rfl) ?_)))) | (refine Exists.intro _ (And.intro rfl (And.intro rfl (And.intro rfl (And.intro (Nat.le_of_ble_eq_true rfl) ?_))))) | (refine And.intro (Exists.intro _ (And.intro rfl rfl)) ?_) | (exact fun hW => absurd hW (by decide +kernel)) | (intro hW; (try simp only [Bool.not_true, Bool.not_false, Bool.not_eq_true', Bool.not_eq_false', decide_eq_true_eq, decide_eq_false_iff_not, reduceCtorEq, Bool.true_eq_false, Bool.false_eq_true, mk_size, List.size_toArray, ByteArray.size_append, ByteArray.size_extract, List.length_cons, List.length_nil, ba_get, ba_empty, Int.toNat_natCast] at hW)) | (refine And.intro (?_ : _ → _) (?_ : _ → _)) | (refine FinR.drop 0 (Nat.zero_le _) (Closed.zero _) rfl ?_) | (refine FinR.keep ?_) | (refine And.intro (det3_agg rfl) ?_) | (refine fL_mk ?_) | (refine And.intro (by (try simp only [mk_size, List.size_toArray, ByteArray.size_append, ByteArray.size_extract, List.length_cons, List.length_nil]); omega) ?_) | (refine And.intro (by (try simp only [mk_size, List.size_toArray, ByteArray.size_append, ByteArray.size_extract, List.length_cons, List.length_nil, wrap64_eq]); omega) ?_) | fail)
      all_goals first | (exfalso; omega) | (exfalso; simp_all; done) | exact hnp
    | false =>
      repeat' ((conv => whnf); first | (refine Exists.intro ([] : List Nat) ?_) | (refine And.intro rfl ?_) | (refine And.intro (by decide +kernel) ?_) | (refine And.intro trivial ?_) | (refine d_setOfF (hb := hs) (h0 := ?_) ..) | (refine Exists.intro _ (And.intro rfl (And.intro rfl (And.intro (Nat.le_of_ble_eq_true rfl) ?_)))) | (refine Exists.intro _ (And.intro rfl (And.intro rfl (And.intro rfl (And.intro (Nat.le_of_ble_eq_true rfl) ?_))))) | (refine And.intro (Exists.intro _ (And.intro rfl rfl)) ?_) | (exact fun hW => absurd hW (by decide +kernel)) | (intro hW; (try simp only [Bool.not_true, Bool.not_false, Bool.not_eq_true', Bool.not_eq_false', decide_eq_true_eq, decide_eq_false_iff_not, reduceCtorEq, Bool.true_eq_false, Bool.false_eq_true, mk_size, List.size_toArray, ByteArray.size_append, ByteArray.size_extract, List.length_cons, List.length_nil, ba_get, ba_empty, Int.toNat_natCast] at hW)) | (refine And.intro (?_ : _ → _) (?_ : _ → _)) | (refine FinR.drop 0 (Nat.zero_le _) (Closed.zero _) rfl ?_) | (refine FinR.keep ?_) | (refine And.intro (det3_agg rfl) ?_) | (refine fL_mk ?_) | (refine And.intro (by (try simp only [mk_size, List.size_toArray, ByteArray.size_append, ByteArray.size_extract, List.length_cons, List.length_nil]); omega) ?_) | (refine And.intro (by (try simp only [mk_size, List.size_toArray, ByteArray.size_append, ByteArray.size_extract, List.length_cons, List.length_nil, wrap64_eq]); omega) ?_) | fail)
      all_goals first | (exfalso; omega) | (exfalso; simp_all; done) | exact hnp
/-! plans moved -/
theorem StepsSt.sh {σ τ : List Blk} {s : AV} {fs : List (Nat × Nat)} (h : StepsSt τ s fs) : StepsSt (σ ++ shB σ.length τ) (sh1 σ.length s) fs := by
  cases h with
  | nil => exact .nil
  | own r ver cap cs fs hr hl hc =>
    refine .own (σ.length + r) ver cap (cs.map (sh1 σ.length)) fs (get_sh hr) (by rw [List.length_map]; exact hl) fun j k m hj => ?_
    obtain ⟨a, b, q1, q2, q3⟩ := hc j k m hj
    refine ⟨σ.length + a, σ.length + b, by rw [List.getElem?_map, q1]; rfl, ?_, get_sh q3⟩
    have := get_sh (σ := σ) q2
    rw [this]
    show some (⟨[sh1 σ.length (doA k)], _, _, _, _, _⟩ : Blk) = _
    have e : sh1 σ.length (doA k) = doA k := by unfold doA; split <;> rfl
    rw [e]
theorem PlanSt.sh {σ τ : List Blk} {p n : Nat} {fs : List (Nat × Nat)} (h : PlanSt τ p n fs) : PlanSt (σ ++ shB σ.length τ) (σ.length + p) n fs := by
  obtain ⟨s, h1, h2⟩ := h.ex
  exact ⟨sh1 σ.length s, get_sh h1, h2.sh⟩
theorem StepsSt.add {σ τ : List Blk} {s : AV} {fs : List (Nat × Nat)} (h : StepsSt σ s fs) : StepsSt (σ ++ τ) s fs := by
  cases h with
  | nil => exact .nil
  | own r ver cap cs fs hr hl hc =>
    exact .own r ver cap cs fs (getx1 hr) hl fun j k m hj => let ⟨a, b, q1, q2, q3⟩ := hc j k m hj; ⟨a, b, q1, getx1 q2, getx1 q3⟩
theorem PlanSt.add {σ τ : List Blk} {p n : Nat} {fs : List (Nat × Nat)} (h : PlanSt σ p n fs) : PlanSt (σ ++ τ) p n fs := by
  obtain ⟨s, h1, h2⟩ := h.ex
  exact ⟨s, getx1 h1, h2.add⟩
theorem d_planOf (a b c d e f : Int) (s1 s2 : AV) (xs ys : List (List Int)) (h1 : Sli W0 σ 6 enI s1 xs) (h2 : Sli W0 σ 4 enI s2 ys) (hx : ∀ x ∈ xs, x.length = 6) (hy : ∀ x ∈ ys, x.length = 4) (K : Cont)
    (h0 : planB a b c d e f xs ys = true → ∀ τ, PlanSt (σ ++ τ) (σ.length + 2) (stN [a, b, c, d, e, f]) (fsOf xs ys) → K (.tup [.ptr (σ.length + 2) 0 0, Bo true]) (σ ++ τ)) (h00 : planB a b c d e f xs ys = false → K (.tup [nilP, Bo false]) σ) : ACall Try.prog W0 95 [PlA a b c d e f s1 s2] σ K := by
  cases hg : planB a b c d e f xs ys with
  | true =>
    exact lift_Pl (rest := []) (ι := { τ : List Blk // PlanSt τ 2 (stN [a, b, c, d, e, f]) (fsOf xs ys) }) (fun _ => .tup [.ptr 2 0 0, Bo true]) (fun τ => τ.1) (by kernel_rfl) rfl h1 h2
      (fun W1 v1 v2 q1 q2 K hK => c_planOf a b c d e f v1 v2 xs ys q1 q2 hx hy K (fun _ σ' hp => hK ⟨σ', hp⟩) (fun hf => by rw [hg] at hf; cases hf)) K (fun τ => h0 hg _ τ.2.sh)
  | false =>
    exact lift_Pl (rest := []) (ι := Unit) (fun _ => .tup [nilP, Bo false]) (fun τ => []) (by kernel_rfl) rfl h1 h2
      (fun W1 v1 v2 q1 q2 K hK => c_planOf a b c d e f v1 v2 xs ys q1 q2 hx hy K (fun hf => by rw [hg] at hf; cases hf) (fun _ => hK ())) K (fun τ => by
        rw [show shB σ.length [] = [] from rfl, List.append_nil]; exact h00 hg)
theorem d_l11Plan (a b c d e f : Int) (s1 s2 : AV) (xs ys : List (List Int)) (h1 : Sli W0 σ 6 enI s1 xs) (h2 : Sli W0 σ 4 enI s2 ys) (hx : ∀ x ∈ xs, x.length = 6) (hy : ∀ x ∈ ys, x.length = 4) (hl : xs.length ≤ 1048576) (hl2 : ys.length ≤ 1048576) (K : Cont) (h0 : K (Bo (planB a b c d e f xs ys)) σ) : ACall Try.prog W0 97 [PlA a b c d e f s1 s2] σ K :=
  lift_Pl (rest := []) (ι := Unit) (fun _ => Bo (planB a b c d e f xs ys)) (fun τ => []) (by kernel_rfl) rfl h1 h2 (fun W1 v1 v2 q1 q2 K hK => c_l11Plan a b c d e f v1 v2 xs ys q1 q2 hx hy hl hl2 K (hK ())) K (fun _ => by
    rw [show shB σ.length [] = [] from rfl, List.append_nil]; exact h0)
theorem sli_box {α : Type} {s : Nat} {enc : α → List Value} {a : AV} {xs : List α} {τ : List Blk} (h : Sli W0 σ s enc a xs) : Sli W0 (σ ++ τ) s enc a xs := by
  cases h with
  | nil => exact .nil
  | inn ad n cap xs hn hc hm hb hx => exact .inn ad n cap xs hn hc hm hb hx
  | own b ver off n cap B xs hB hv hn hx => exact .own b ver off n cap B xs (getx1 hB) hv hn hx
theorem c_IsPlan (a b c d e f : Int) (v1 v2 : Value) (xs ys : List (List Int)) (h1 : Sli W0 [] 6 enI (.lit v1) xs) (h2 : Sli W0 [] 4 enI (.lit v2) ys) (hx : ∀ x ∈ xs, x.length = 6) (hy : ∀ x ∈ ys, x.length = 4) (K : Cont) (h0 : K (Bo (planB a b c d e f xs ys)) []) : ACall Try.prog W0 44 [PlA a b c d e f (.lit v1) (.lit v2)] [] K := by
  refine by44 (Nat.le_of_ble_eq_true rfl) ?_
  repeat' ((conv => whnf); first | (refine Exists.intro ([] : List Nat) ?_) | (refine And.intro rfl ?_) | (refine And.intro (by decide +kernel) ?_) | (refine And.intro trivial ?_) | (refine d_planOf (h1 := sli_up h1) (h2 := sli_up h2) (hx := hx) (hy := hy) (h0 := fun hg τ hp => ?_) (h00 := fun hg => ?_) ..) | (refine Exists.intro _ (And.intro rfl (And.intro rfl (And.intro (Nat.le_of_ble_eq_true rfl) ?_)))) | (refine Exists.intro _ (And.intro rfl (And.intro rfl (And.intro rfl (And.intro (Nat.le_of_ble_eq_true rfl) ?_))))) | (refine And.intro (Exists.intro _ (And.intro rfl rfl)) ?_) | (exact fun hW => absurd hW (by decide +kernel)) | (intro hW; (try simp only [Bool.not_true, Bool.not_false, Bool.not_eq_true', Bool.not_eq_false', decide_eq_true_eq, decide_eq_false_iff_not, reduceCtorEq, Bool.true_eq_false, Bool.false_eq_true, mk_size, List.size_toArray, ByteArray.size_append, ByteArray.size_extract, List.length_cons, List.length_nil, ba_get, ba_empty, Int.toNat_natCast] at hW)) | (refine And.intro (?_ : _ → _) (?_ : _ → _)) | (refine FinR.drop 0 (Nat.zero_le _) (Closed.zero _) rfl ?_) | (refine FinR.keep ?_) | (refine And.intro (det3_agg rfl) ?_) | (refine fL_mk ?_) | (refine And.intro (by (try simp only [mk_size, List.size_toArray, ByteArray.size_append, ByteArray.size_extract, List.length_cons, List.length_nil]); omega) ?_) | (refine And.intro (by (try simp only [mk_size, List.size_toArray, ByteArray.size_append, ByteArray.size_extract, List.length_cons, List.length_nil, wrap64_eq]); omega) ?_) | fail)
  all_goals (rw [hg] at h0; exact h0)
theorem d_IsPlan (a b c d e f : Int) (s1 s2 : AV) (xs ys : List (List Int)) (h1 : Sli W0 σ 6 enI s1 xs) (h2 : Sli W0 σ 4 enI s2 ys) (hx : ∀ x ∈ xs, x.length = 6) (hy : ∀ x ∈ ys, x.length = 4) (K : Cont) (h0 : K (Bo (planB a b c d e f xs ys)) σ) : ACall Try.prog W0 44 [PlA a b c d e f s1 s2] σ K :=
  lift_Pl (rest := []) (ι := Unit) (fun _ => Bo (planB a b c d e f xs ys)) (fun τ => []) (by kernel_rfl) rfl h1 h2 (fun W1 v1 v2 q1 q2 K hK => c_IsPlan a b c d e f v1 v2 xs ys q1 q2 hx hy K (hK ())) K (fun _ => by
    rw [show shB σ.length [] = [] from rfl, List.append_nil]; exact h0)
/-! the laws' plans -/
abbrev shSB (xs : List (List Int)) : Blk := ⟨jc xs, 0, 26, 6, true, true⟩
abbrev stSB (ys : List (List Int)) : Blk := ⟨jc ys, 0, 87, 4, true, true⟩
theorem lift_PlPl {g : FuncId} {a b c d e f a' b' c' d' e' f' : Int} {s1 s2 t1 t2 : AV} {xs ys zs ws : List (List Int)} {r : AV} (hok : callOK Try.prog g = true) (hr : ∀ k, sh3 k r = r) (h1 : Sli W0 σ 6 enI s1 xs) (h2 : Sli W0 σ 4 enI s2 ys) (g1 : Sli W0 σ 6 enI t1 zs) (g2 : Sli W0 σ 4 enI t2 ws)
    (h : ∀ (W1 : World) (v1 v2 u1 u2 : Value), Sli W1 [] 6 enI (.lit v1) xs → Sli W1 [] 4 enI (.lit v2) ys → Sli W1 [] 6 enI (.lit u1) zs → Sli W1 [] 4 enI (.lit u2) ws → ∀ K : Cont, K r [] → ACall Try.prog W1 g [PlA a b c d e f (.lit v1) (.lit v2), PlA a' b' c' d' e' f' (.lit u1) (.lit u2)] [] K) (K : Cont) (h0 : K r σ) : ACall Try.prog W0 g [PlA a b c d e f s1 s2, PlA a' b' c' d' e' f' t1 t2] σ K := by
  refine ACall.frameA (K0 := fun v σ' => v = r ∧ σ' = []) hok (fun W1 ι vs hh hrr => ?_) ?_
  · obtain ⟨v1, vs', rfl, hr1, hr2⟩ := Rels.uncons hrr
    obtain ⟨v2, vs'', rfl, hr3, hr4⟩ := Rels.uncons hr2
    obtain rfl := hr4.nil_inv
    obtain ⟨q1, q2, p1, p2, p3⟩ := plA_conc h1 h2 hh hr1
    obtain ⟨w1, w2, o1, o2, o3⟩ := plA_conc g1 g2 hh hr3
    obtain ⟨u1, rfl⟩ := sli_lit p1
    obtain ⟨u2, rfl⟩ := sli_lit p2
    obtain ⟨u3, rfl⟩ := sli_lit o1
    obtain ⟨u4, rfl⟩ := sli_lit o2
    exact ⟨[_, _], Rels.cons p3 (Rels.cons o3 Rels.nil), h W1 _ _ _ _ p1 p2 o1 o2 _ ⟨rfl, rfl⟩⟩
  · rintro v σ' ⟨rfl, rfl⟩
    have e : σ ++ shB σ.length [] = σ := by simp [shB]
    rw [e, hr]; exact h0
end Go.Proofs.Ytkcbhdjhbnnlgaa
end

section
/- Contracts: plans that run. -/
set_option linter.unusedVariables false
set_option linter.unusedSimpArgs false
set_option maxRecDepth 100000
set_option maxHeartbeats 4000000
namespace Go.Proofs.Ytkcbhdjhbnnlgaa
open Go Go.RowKit Go.Proofs.Ytkcbhdjhbnnlgaa.Abs
variable {W0 : World} {σ : List Blk}
/-- a step by sets; many -/
def stepF (k m n : Nat) : Nat := if k = 1 then n ^^^ m else if k = 2 then n ||| m else n &&& (fullN ^^^ m)
def runN (fs : List (Nat × Nat)) (n : Nat) : Nat := fs.foldl (fun n s => stepF s.1 s.2 n) n
def runL : List (Nat × Nat) → Nat → List Nat
  | [], n => [n]
  | s :: fs, n => n :: runL fs (stepF s.1 s.2 n)
theorem stepF_lt {k m n : Nat} (hm : m < 2 ^ 36) (hn : n < 2 ^ 36) : stepF k m n < 2 ^ 36 := by
  unfold stepF
  split
  · exact Nat.xor_lt_two_pow hn hm
  · split
    · exact Nat.or_lt_two_pow hn hm
    · exact Nat.lt_of_le_of_lt Nat.and_le_left hn
/-- steps that are valid -/
def FsOk (fs : List (Nat × Nat)) : Prop := ∀ s ∈ fs, (1 ≤ s.1 ∧ s.1 ≤ 3) ∧ s.2 < 2 ^ 36
theorem FsOk.take {fs : List (Nat × Nat)} (h : FsOk fs) (i : Nat) : FsOk (fs.take i) := fun s hs => h s (List.mem_of_mem_take hs)
theorem runN_lt : ∀ {fs : List (Nat × Nat)} {n : Nat}, FsOk fs → n < 2 ^ 36 → runN fs n < 2 ^ 36
  | [], n, _, hn => hn
  | s :: fs, n, h, hn => runN_lt (fs := fs) (n := stepF s.1 s.2 n) (fun t ht => h t (List.mem_cons_of_mem _ ht)) (stepF_lt (h s List.mem_cons_self).2 hn)
theorem runN_snoc (fs : List (Nat × Nat)) (k m n : Nat) : runN (fs ++ [(k, m)]) n = stepF k m (runN fs n) := by simp [runN]
theorem runL_len : ∀ (fs : List (Nat × Nat)) (n : Nat), (runL fs n).length = fs.length + 1
  | [], _ => rfl
  | s :: fs, n => by rw [runL, List.length_cons, runL_len fs, List.length_cons]
theorem runL_snoc : ∀ (fs : List (Nat × Nat)) (k m n : Nat), runL (fs ++ [(k, m)]) n = runL fs n ++ [stepF k m (runN fs n)]
  | [], k, m, n => rfl
  | s :: fs, k, m, n => by
    rw [List.cons_append, runL, runL_snoc fs, runL]; rfl
theorem runL_get : ∀ (fs : List (Nat × Nat)) (n : Nat) {i : Nat}, i ≤ fs.length → (runL fs n)[i]? = some (runN (fs.take i) n)
  | [], n, i, h => by
    have : i = 0 := by simpa using h
    subst this; rfl
  | s :: fs, n, 0, h => rfl
  | s :: fs, n, i + 1, h => by
    rw [runL, List.getElem?_cons_succ, runL_get fs _ (by simpa using h)]; rfl
theorem fsOf_ok {xs ys : List (List Int)} (hx : ∀ x ∈ xs, x.length = 6) (hy : ∀ x ∈ ys, x.length = 4) (hxa : xs.all shRow = true) (hya : ys.all (stOk xs.length) = true) : FsOk (fsOf xs ys) := by
  intro s hs
  obtain ⟨r, hr, rfl⟩ := List.mem_map.1 hs
  have h4 := hy r hr
  have hok := List.all_eq_true.1 hya r hr
  match r, h4, hok with
  | [k, t, x, y], _, hok =>
    rw [stOk_eq] at hok
    simp only [Bool.and_eq_true] at hok
    obtain ⟨⟨hk, ht⟩, hc⟩ := hok
    have hk3 := (inB_iff _ _ _).1 hk
    have hc6 := cellB_iff.1 hc
    exact ⟨(show 1 ≤ k.toNat ∧ k.toNat ≤ 3 by omega), prN_lt (show x.toNat < 6 by omega) (show y.toNat < 6 by omega)⟩
theorem fsOf_len (xs ys : List (List Int)) : (fsOf xs ys).length = ys.length := by rw [fsOf, List.length_map]
/-! the program -/
theorem d_clo (a b k m y : Nat) (ha : σ[a]? = some (doB k)) (hb : σ[b]? = some (uB m)) (hk : 1 ≤ k ∧ k ≤ 3) (hm : m < 2 ^ 36) (hy : y < 2 ^ 36) (K : Cont) (h0 : K (U (stepF k m y : Nat)) σ) : ACall Try.prog W0 121 [U y, .ptr a 0 0, .ptr b 0 0] σ K := by
  refine by121 (Nat.le_of_ble_eq_true rfl) ?_
  obtain rfl | rfl | rfl : k = 1 ∨ k = 2 ∨ k = 3 := by omega
  · have h0 : K (U (y ^^^ m : Nat)) σ := h0
    repeat' ((conv => whnf); first | (refine Exists.intro ([] : List Nat) ?_) | (refine And.intro rfl ?_) | (refine And.intro (by decide +kernel) ?_) | (refine And.intro trivial ?_) | (refine Exists.intro _ (And.intro ha (And.intro rfl (And.intro (Nat.le_of_ble_eq_true rfl) ?_)))) | (refine Exists.intro _ (And.intro hb (And.intro rfl (And.intro (Nat.le_of_ble_eq_true rfl) ?_)))) | (refine d_toggled (hn := hy) (hm := hm) (h0 := ?_) ..) | (refine Exists.intro _ (And.intro rfl (And.intro rfl (And.intro (Nat.le_of_ble_eq_true rfl) ?_)))) | (refine Exists.intro _ (And.intro rfl (And.intro rfl (And.intro rfl (And.intro (Nat.le_of_ble_eq_true rfl) ?_))))) | (refine And.intro (Exists.intro _ (And.intro rfl rfl)) ?_) | (exact fun hW => absurd hW (by decide +kernel)) | (intro hW; (try simp only [Bool.not_true, Bool.not_false, Bool.not_eq_true', Bool.not_eq_false', decide_eq_true_eq, decide_eq_false_iff_not, reduceCtorEq, Bool.true_eq_false, Bool.false_eq_true, mk_size, List.size_toArray, ByteArray.size_append, ByteArray.size_extract, List.length_cons, List.length_nil, ba_get, ba_empty, Int.toNat_natCast] at hW)) | (refine And.intro (?_ : _ → _) (?_ : _ → _)) | (refine FinR.drop 0 (Nat.zero_le _) (Closed.zero _) rfl ?_) | (refine FinR.keep ?_) | (refine And.intro (det3_agg rfl) ?_) | (refine fL_mk ?_) | (refine And.intro (by (try simp only [mk_size, List.size_toArray, ByteArray.size_append, ByteArray.size_extract, List.length_cons, List.length_nil]); omega) ?_) | (refine And.intro (by (try simp only [mk_size, List.size_toArray, ByteArray.size_append, ByteArray.size_extract, List.length_cons, List.length_nil, wrap64_eq]); omega) ?_) | fail)
    all_goals first | exact h0 | exact FinR.keep h0
  · have h0 : K (U (y ||| m : Nat)) σ := h0
    repeat' ((conv => whnf); first | (refine Exists.intro ([] : List Nat) ?_) | (refine And.intro rfl ?_) | (refine And.intro (by decide +kernel) ?_) | (refine And.intro trivial ?_) | (refine Exists.intro _ (And.intro ha (And.intro rfl (And.intro (Nat.le_of_ble_eq_true rfl) ?_)))) | (refine Exists.intro _ (And.intro hb (And.intro rfl (And.intro (Nat.le_of_ble_eq_true rfl) ?_)))) | (refine d_inked (hn := hy) (hm := hm) (h0 := ?_) ..) | (refine Exists.intro _ (And.intro rfl (And.intro rfl (And.intro (Nat.le_of_ble_eq_true rfl) ?_)))) | (refine Exists.intro _ (And.intro rfl (And.intro rfl (And.intro rfl (And.intro (Nat.le_of_ble_eq_true rfl) ?_))))) | (refine And.intro (Exists.intro _ (And.intro rfl rfl)) ?_) | (exact fun hW => absurd hW (by decide +kernel)) | (intro hW; (try simp only [Bool.not_true, Bool.not_false, Bool.not_eq_true', Bool.not_eq_false', decide_eq_true_eq, decide_eq_false_iff_not, reduceCtorEq, Bool.true_eq_false, Bool.false_eq_true, mk_size, List.size_toArray, ByteArray.size_append, ByteArray.size_extract, List.length_cons, List.length_nil, ba_get, ba_empty, Int.toNat_natCast] at hW)) | (refine And.intro (?_ : _ → _) (?_ : _ → _)) | (refine FinR.drop 0 (Nat.zero_le _) (Closed.zero _) rfl ?_) | (refine FinR.keep ?_) | (refine And.intro (det3_agg rfl) ?_) | (refine fL_mk ?_) | (refine And.intro (by (try simp only [mk_size, List.size_toArray, ByteArray.size_append, ByteArray.size_extract, List.length_cons, List.length_nil]); omega) ?_) | (refine And.intro (by (try simp only [mk_size, List.size_toArray, ByteArray.size_append, ByteArray.size_extract, List.length_cons, List.length_nil, wrap64_eq]); omega) ?_) | fail)
    all_goals first | exact h0 | exact FinR.keep h0
  · have h0 : K (U (y &&& (fullN ^^^ m) : Nat)) σ := h0
    repeat' ((conv => whnf); first | (refine Exists.intro ([] : List Nat) ?_) | (refine And.intro rfl ?_) | (refine And.intro (by decide +kernel) ?_) | (refine And.intro trivial ?_) | (refine Exists.intro _ (And.intro ha (And.intro rfl (And.intro (Nat.le_of_ble_eq_true rfl) ?_)))) | (refine Exists.intro _ (And.intro hb (And.intro rfl (And.intro (Nat.le_of_ble_eq_true rfl) ?_)))) | (refine d_wiped (hn := hy) (hm := hm) (h0 := ?_) ..) | (refine Exists.intro _ (And.intro rfl (And.intro rfl (And.intro (Nat.le_of_ble_eq_true rfl) ?_)))) | (refine Exists.intro _ (And.intro rfl (And.intro rfl (And.intro rfl (And.intro (Nat.le_of_ble_eq_true rfl) ?_))))) | (refine And.intro (Exists.intro _ (And.intro rfl rfl)) ?_) | (exact fun hW => absurd hW (by decide +kernel)) | (intro hW; (try simp only [Bool.not_true, Bool.not_false, Bool.not_eq_true', Bool.not_eq_false', decide_eq_true_eq, decide_eq_false_iff_not, reduceCtorEq, Bool.true_eq_false, Bool.false_eq_true, mk_size, List.size_toArray, ByteArray.size_append, ByteArray.size_extract, List.length_cons, List.length_nil, ba_get, ba_empty, Int.toNat_natCast] at hW)) | (refine And.intro (?_ : _ → _) (?_ : _ → _)) | (refine FinR.drop 0 (Nat.zero_le _) (Closed.zero _) rfl ?_) | (refine FinR.keep ?_) | (refine And.intro (det3_agg rfl) ?_) | (refine fL_mk ?_) | (refine And.intro (by (try simp only [mk_size, List.size_toArray, ByteArray.size_append, ByteArray.size_extract, List.length_cons, List.length_nil]); omega) ?_) | (refine And.intro (by (try simp only [mk_size, List.size_toArray, ByteArray.size_append, ByteArray.size_extract, List.length_cons, List.length_nil, wrap64_eq]); omega) ?_) | fail)
    all_goals first | exact h0 | exact FinR.keep h0
abbrev ruB (l : List Nat) : Blk := ⟨l.map (fun n : Nat => U n), l.length - 1, 104, 1, true, true⟩
theorem d_run (p n x : Nat) (fs : List (Nat × Nat)) (hp : PlanSt σ p n fs) (hf : FsOk fs) (hl : fs.length ≤ 1048576) (hx : x < 2 ^ 36) (K : Cont) (h0 : ∀ cap, K (.sl σ.length fs.length 0 (fs.length + 1) cap) (σ ++ [ruB (runL fs x)])) : ACall Try.prog W0 99 [.ptr p 0 0, U x] σ K := by
  refine by99 (Nat.le_of_ble_eq_true rfl) ?_
  obtain ⟨s, h1, hs⟩ := hp.ex
  cases hs with
  | nil =>
    have h00 := h0 1
    repeat' ((conv => whnf); first | (refine Exists.intro ([] : List Nat) ?_) | (refine And.intro rfl ?_) | (refine And.intro (by decide +kernel) ?_) | (refine And.intro trivial ?_) | (refine fS_mk ?_) | (refine And.intro ⟨_, getx1 h1, rfl⟩ ?_) | (refine Exists.intro _ (And.intro (getx1 h1) (And.intro rfl (And.intro (Nat.le_of_ble_eq_true rfl) ?_)))) | (refine Exists.intro _ (And.intro rfl (And.intro rfl (And.intro (Nat.le_of_ble_eq_true rfl) ?_)))) | (refine Exists.intro _ (And.intro rfl (And.intro rfl (And.intro rfl (And.intro (Nat.le_of_ble_eq_true rfl) ?_))))) | (refine And.intro (Exists.intro _ (And.intro rfl rfl)) ?_) | (exact fun hW => absurd hW (by decide +kernel)) | (intro hW; (try simp only [Bool.not_true, Bool.not_false, Bool.not_eq_true', Bool.not_eq_false', decide_eq_true_eq, decide_eq_false_iff_not, reduceCtorEq, Bool.true_eq_false, Bool.false_eq_true, mk_size, List.size_toArray, ByteArray.size_append, ByteArray.size_extract, List.length_cons, List.length_nil, ba_get, ba_empty, Int.toNat_natCast] at hW)) | (refine And.intro (?_ : _ → _) (?_ : _ → _)) | (refine FinR.drop 0 (Nat.zero_le _) (Closed.zero _) rfl ?_) | (refine FinR.keep ?_) | (refine And.intro (det3_agg rfl) ?_) | (refine fL_mk ?_) | (refine And.intro (by (try simp only [mk_size, List.size_toArray, ByteArray.size_append, ByteArray.size_extract, List.length_cons, List.length_nil]); omega) ?_) | (refine And.intro (by (try simp only [mk_size, List.size_toArray, ByteArray.size_append, ByteArray.size_extract, List.length_cons, List.length_nil, wrap64_eq]); omega) ?_) | fail)
    refine LoopR.unroll 1 ?_
    repeat' ((conv => whnf); first | (refine Exists.intro ([] : List Nat) ?_) | (refine And.intro rfl ?_) | (refine And.intro (by decide +kernel) ?_) | (refine And.intro trivial ?_) | (refine Exists.intro _ (And.intro rfl (And.intro rfl (And.intro (Nat.le_of_ble_eq_true rfl) ?_)))) | (refine Exists.intro _ (And.intro rfl (And.intro rfl (And.intro rfl (And.intro (Nat.le_of_ble_eq_true rfl) ?_))))) | (refine And.intro (Exists.intro _ (And.intro rfl rfl)) ?_) | (exact fun hW => absurd hW (by decide +kernel)) | (intro hW; (try simp only [Bool.not_true, Bool.not_false, Bool.not_eq_true', Bool.not_eq_false', decide_eq_true_eq, decide_eq_false_iff_not, reduceCtorEq, Bool.true_eq_false, Bool.false_eq_true, mk_size, List.size_toArray, ByteArray.size_append, ByteArray.size_extract, List.length_cons, List.length_nil, ba_get, ba_empty, Int.toNat_natCast] at hW)) | (refine And.intro (?_ : _ → _) (?_ : _ → _)) | (refine FinR.drop 0 (Nat.zero_le _) (Closed.zero _) rfl ?_) | (refine FinR.keep ?_) | (refine And.intro (det3_agg rfl) ?_) | (refine fL_mk ?_) | (refine And.intro (by (try simp only [mk_size, List.size_toArray, ByteArray.size_append, ByteArray.size_extract, List.length_cons, List.length_nil]); omega) ?_) | (refine And.intro (by (try simp only [mk_size, List.size_toArray, ByteArray.size_append, ByteArray.size_extract, List.length_cons, List.length_nil, wrap64_eq]); omega) ?_) | fail)
    all_goals first | (exfalso; omega) | exact h00 | exact FinR.keep h00
  | own r ver cap cs fs hr hlc hc =>
    repeat' ((conv => whnf); first | (refine Exists.intro ([] : List Nat) ?_) | (refine And.intro rfl ?_) | (refine And.intro (by decide +kernel) ?_) | (refine And.intro trivial ?_) | (refine fS_mk ?_) | (refine And.intro ⟨_, getx1 h1, rfl⟩ ?_) | (refine And.intro ⟨_, getx1 hr, rfl⟩ ?_) | (refine Exists.intro _ (And.intro (getx1 h1) (And.intro rfl (And.intro (Nat.le_of_ble_eq_true rfl) ?_)))) | (refine Exists.intro _ (And.intro rfl (And.intro rfl (And.intro (Nat.le_of_ble_eq_true rfl) ?_)))) | (refine Exists.intro _ (And.intro rfl (And.intro rfl (And.intro rfl (And.intro (Nat.le_of_ble_eq_true rfl) ?_))))) | (refine And.intro (Exists.intro _ (And.intro rfl rfl)) ?_) | (exact fun hW => absurd hW (by decide +kernel)) | (intro hW; (try simp only [Bool.not_true, Bool.not_false, Bool.not_eq_true', Bool.not_eq_false', decide_eq_true_eq, decide_eq_false_iff_not, reduceCtorEq, Bool.true_eq_false, Bool.false_eq_true, mk_size, List.size_toArray, ByteArray.size_append, ByteArray.size_extract, List.length_cons, List.length_nil, ba_get, ba_empty, Int.toNat_natCast] at hW)) | (refine And.intro (?_ : _ → _) (?_ : _ → _)) | (refine FinR.drop 0 (Nat.zero_le _) (Closed.zero _) rfl ?_) | (refine FinR.keep ?_) | (refine And.intro (det3_agg rfl) ?_) | (refine fL_mk ?_) | (refine And.intro (by (try simp only [mk_size, List.size_toArray, ByteArray.size_append, ByteArray.size_extract, List.length_cons, List.length_nil]); omega) ?_) | (refine And.intro (by (try simp only [mk_size, List.size_toArray, ByteArray.size_append, ByteArray.size_extract, List.length_cons, List.length_nil, wrap64_eq]); omega) ?_) | fail)
    refine LoopR.live (fun y : Nat × Nat => [(1, U (runN (fs.take y.1) x : Nat)), (5, .sl σ.length y.1 0 (y.1 + 1) y.2), (13, .sl r ver 0 fs.length cap), (14, I fs.length), (15, I y.1)]) (fun y => σ ++ [ruB (runL (fs.take y.1) x)]) (fun y => y.1 ≤ fs.length) (fun y => fs.length - y.1) (0, 1) ⟨rfl, rfl, rfl, rfl, rfl, trivial⟩ (.keep rfl) (Nat.zero_le _) ?_
    rintro ⟨i, cp⟩ hi
    dsimp only at hi
    have hrl : (runL (fs.take i) x).length = i + 1 := by rw [runL_len, List.length_take, Nat.min_eq_left hi]
    have hrn : runN (fs.take i) x < 2 ^ 36 := runN_lt (hf.take i) hx
    by_cases hlt : i < fs.length
    · obtain ⟨k, m, hkm⟩ : ∃ k m, fs[i]? = some (k, m) := ⟨fs[i].1, fs[i].2, List.getElem?_eq_getElem hlt⟩
      obtain ⟨a, b, q1, q2, q3⟩ := hc i k m hkm
      have hkk := hf (k, m) (List.mem_of_getElem? hkm)
      have hsn : fs.take (i + 1) = fs.take i ++ [(k, m)] := take_snoc hkm
      have hce : ∀ off, off = i → mkAV false ((cs.drop off).take 1) = cloA a b := fun off ho => by
        subst ho
        rw [List.drop_eq_getElem_cons (getElem?_lt q1), (List.getElem?_eq_some_iff.1 q1).2]; rfl
      have hle : ∀ off, off = i → off + 1 ≤ cs.length := fun off ho => by have := getElem?_lt q1; omega
      have hml : (i + 1) * 1 = ((runL (fs.take i) x).map (fun n : Nat => U n)).length := by rw [List.length_map, hrl]; omega
      have hver : (runL (fs.take i) x).length - 1 = i := by omega
      repeat' ((conv => whnf); first | (refine Exists.intro _ (And.intro (getx1 hr) (And.intro rfl (And.intro (hle _ (by rw [Int.toNat_natCast]; omega)) ?_))); rw [hce _ (by rw [Int.toNat_natCast]; omega)]) | (refine Exists.intro _ (And.intro getl (And.intro hver (And.intro rfl (And.intro rfl (And.intro rfl (And.intro rfl (And.intro (by decide) (And.intro hml (And.intro rfl (And.intro (by dsimp only; unfold maxLen; omega) (And.intro (by dsimp only; omega) (fun cap' hcap1 hcap2 => ?_)))))))))))); rw [set_last]) | (refine Exists.intro ([] : List Nat) ?_) | (refine And.intro rfl ?_) | (refine And.intro (by decide +kernel) ?_) | (refine And.intro trivial ?_) | (refine And.intro ⟨_, getx1 hr, rfl⟩ ?_) | (refine d_clo (ha := getx1 q2) (hb := getx1 q3) (hk := hkk.1) (hm := hkk.2) (hy := hrn) (h0 := ?_) ..) | (refine Exists.intro _ (And.intro rfl (And.intro rfl (And.intro (Nat.le_of_ble_eq_true rfl) ?_)))) | (refine Exists.intro _ (And.intro rfl (And.intro rfl (And.intro rfl (And.intro (Nat.le_of_ble_eq_true rfl) ?_))))) | (refine And.intro (Exists.intro _ (And.intro rfl rfl)) ?_) | (exact fun hW => absurd hW (by decide +kernel)) | (intro hW; (try simp only [Bool.not_true, Bool.not_false, Bool.not_eq_true', Bool.not_eq_false', decide_eq_true_eq, decide_eq_false_iff_not, reduceCtorEq, Bool.true_eq_false, Bool.false_eq_true, mk_size, List.size_toArray, ByteArray.size_append, ByteArray.size_extract, List.length_cons, List.length_nil, ba_get, ba_empty, Int.toNat_natCast] at hW)) | (refine And.intro (?_ : _ → _) (?_ : _ → _)) | (refine FinR.drop 0 (Nat.zero_le _) (Closed.zero _) rfl ?_) | (refine FinR.keep ?_) | (refine And.intro (det3_agg rfl) ?_) | (refine fL_mk ?_) | (refine And.intro (by (try simp only [mk_size, List.size_toArray, ByteArray.size_append, ByteArray.size_extract, List.length_cons, List.length_nil]); omega) ?_) | (refine And.intro (by (try simp only [mk_size, List.size_toArray, ByteArray.size_append, ByteArray.size_extract, List.length_cons, List.length_nil, wrap64_eq]); omega) ?_) | fail)
      all_goals first | (exfalso; omega) | skip
      refine Again.go (i + 1, _) ⟨(by show U _ = U _; rw [hsn, runN_snoc]), rfl, rfl, rfl, slI' (wsucc' i (by omega)), trivial⟩ (.keep ?_) (by dsimp only; omega) (by dsimp only; omega)
      dsimp only [ruB]
      rw [hsn, runL_snoc, List.map_append, List.length_append, hrl]; rfl
    · obtain rfl : i = fs.length := by omega
      rw [List.take_length]
      have h00 := h0 cp
      repeat' ((conv => whnf); first | (refine Exists.intro ([] : List Nat) ?_) | (refine And.intro rfl ?_) | (refine And.intro (by decide +kernel) ?_) | (refine And.intro trivial ?_) | (refine Exists.intro _ (And.intro rfl (And.intro rfl (And.intro (Nat.le_of_ble_eq_true rfl) ?_)))) | (refine Exists.intro _ (And.intro rfl (And.intro rfl (And.intro rfl (And.intro (Nat.le_of_ble_eq_true rfl) ?_))))) | (refine And.intro (Exists.intro _ (And.intro rfl rfl)) ?_) | (exact fun hW => absurd hW (by decide +kernel)) | (intro hW; (try simp only [Bool.not_true, Bool.not_false, Bool.not_eq_true', Bool.not_eq_false', decide_eq_true_eq, decide_eq_false_iff_not, reduceCtorEq, Bool.true_eq_false, Bool.false_eq_true, mk_size, List.size_toArray, ByteArray.size_append, ByteArray.size_extract, List.length_cons, List.length_nil, ba_get, ba_empty, Int.toNat_natCast] at hW)) | (refine And.intro (?_ : _ → _) (?_ : _ → _)) | (refine FinR.drop 0 (Nat.zero_le _) (Closed.zero _) rfl ?_) | (refine FinR.keep ?_) | (refine And.intro (det3_agg rfl) ?_) | (refine fL_mk ?_) | (refine And.intro (by (try simp only [mk_size, List.size_toArray, ByteArray.size_append, ByteArray.size_extract, List.length_cons, List.length_nil]); omega) ?_) | (refine And.intro (by (try simp only [mk_size, List.size_toArray, ByteArray.size_append, ByteArray.size_extract, List.length_cons, List.length_nil, wrap64_eq]); omega) ?_) | fail)
      all_goals first | (exfalso; omega) | exact h00 | exact FinR.keep h00
end Go.Proofs.Ytkcbhdjhbnnlgaa
end

section
/- Contracts: sheets of a plan, by both sides. -/
set_option linter.unusedVariables false
set_option linter.unusedSimpArgs false
set_option maxRecDepth 100000
set_option maxHeartbeats 4000000
namespace Go.Proofs.Ytkcbhdjhbnnlgaa
open Go Go.RowKit Go.Proofs.Ytkcbhdjhbnnlgaa.Abs
variable {W0 : World} {σ : List Blk}
theorem st_row {r : List Int} (h6 : r.length = 6) (h : shRow r = true) : ∃ n : Nat, n < 2 ^ 36 ∧ r = shR n ∧ stN r = n := by
  match r, h6, h with
  | [a, b, c, d, e, f], _, h =>
    obtain ⟨n, hn, rfl, rfl, rfl, rfl, rfl, rfl, hs⟩ := st_parts h
    exact ⟨n, hn, rfl, hs⟩
theorem c_l11Next (n : Nat) (v1 : Value) (xs : List (List Int)) (h1 : Sli W0 [] 6 enI (.lit v1) xs) (k s : Int) (m u v : Nat) (hm : xs[s.toNat]? = some (shR m)) (hk : 1 ≤ k ∧ k ≤ 3) (hs : 0 ≤ s ∧ s < xs.length) (hu : u < 6) (hv : v < 6) (K : Cont) (h0 : K (ShN (stepF k.toNat (prN m u v) n)) []) : ACall Try.prog W0 125 [ShN n, .lit v1, Ste k s u v] [] K := by
  refine by125 (Nat.le_of_ble_eq_true rfl) ?_
  obtain ⟨o1, n1, cap1, hv1, hn1, hc1, hm1, hf1⟩ := sli_form h1
  cases hv1
  subst hn1
  obtain ⟨ad, rfl, hb, hxx⟩ := hf1 _ _ hm
  have hld := fun C h => ldIn (W0 := W0) (s := 6) (enc := enI) hb hxx hm rfl (C := C) h
  obtain rfl | rfl | rfl : k = 1 ∨ k = 2 ∨ k = 3 := by omega
  · have h0 : K (ShN (n ^^^ prN m u v)) [] := h0
    repeat' ((conv => whnf); first | (refine Exists.intro ([] : List Nat) ?_) | (refine And.intro rfl ?_) | (refine And.intro (by decide +kernel) ?_) | (refine And.intro trivial ?_) | (refine hld _ ?_) | (refine d_l2AtN (n := m) (hx := hu) (hy := hv) (h0 := ?_) ..) | (refine Exists.intro _ (And.intro (fun τ => callW_fn (d_l2AtN (n := m) (hx := hu) (hy := hv) (h0 := And.intro rfl rfl) ..)) ?_)) | (refine Exists.intro _ (And.intro (callW_fn (d_l2AtN (n := m) (hx := hu) (hy := hv) (h0 := And.intro rfl rfl) ..)) (And.intro trivial ?_))) | (refine Exists.intro _ (And.intro (callW_fn (d_l2AtN (n := m) (hx := hu) (hy := hv) (h0 := And.intro rfl rfl) ..)) ?_)) | (refine Exists.intro _ (And.intro (fun τ _ => callW_fn (d_l2AtN (n := m) (hx := hu) (hy := hv) (h0 := And.intro rfl rfl) ..)) ?_)) | (refine d_l2XorN (n := n) (m := prN m u v) (h0 := ?_) ..) | (refine Exists.intro _ (And.intro (fun τ => callW_fn (d_l2XorN (n := n) (m := prN m u v) (h0 := And.intro rfl rfl) ..)) ?_)) | (refine Exists.intro _ (And.intro (callW_fn (d_l2XorN (n := n) (m := prN m u v) (h0 := And.intro rfl rfl) ..)) (And.intro trivial ?_))) | (refine Exists.intro _ (And.intro (callW_fn (d_l2XorN (n := n) (m := prN m u v) (h0 := And.intro rfl rfl) ..)) ?_)) | (refine Exists.intro _ (And.intro (fun τ _ => callW_fn (d_l2XorN (n := n) (m := prN m u v) (h0 := And.intro rfl rfl) ..)) ?_)) | (refine Exists.intro _ (And.intro rfl (And.intro rfl (And.intro (Nat.le_of_ble_eq_true rfl) ?_)))) | (refine Exists.intro _ (And.intro rfl (And.intro rfl (And.intro rfl (And.intro (Nat.le_of_ble_eq_true rfl) ?_))))) | (refine And.intro (Exists.intro _ (And.intro rfl rfl)) ?_) | (exact fun hW => absurd hW (by decide +kernel)) | (intro hW; (try simp only [Bool.not_true, Bool.not_false, Bool.not_eq_true', Bool.not_eq_false', decide_eq_true_eq, decide_eq_false_iff_not, reduceCtorEq, Bool.true_eq_false, Bool.false_eq_true, mk_size, List.size_toArray, ByteArray.size_append, ByteArray.size_extract, List.length_cons, List.length_nil, ba_get, ba_empty, Int.toNat_natCast] at hW)) | (refine And.intro (?_ : _ → _) (?_ : _ → _)) | (refine FinR.drop 0 (Nat.zero_le _) (Closed.zero _) rfl ?_) | (refine FinR.keep ?_) | (refine And.intro (det3_agg rfl) ?_) | (refine fL_mk ?_) | (refine And.intro (by (try simp only [mk_size, List.size_toArray, ByteArray.size_append, ByteArray.size_extract, List.length_cons, List.length_nil]); omega) ?_) | (refine And.intro (by (try simp only [mk_size, List.size_toArray, ByteArray.size_append, ByteArray.size_extract, List.length_cons, List.length_nil, wrap64_eq]); omega) ?_) | fail)
    all_goals exact h0
  · have h0 : K (ShN (n ||| prN m u v)) [] := h0
    repeat' ((conv => whnf); first | (refine Exists.intro ([] : List Nat) ?_) | (refine And.intro rfl ?_) | (refine And.intro (by decide +kernel) ?_) | (refine And.intro trivial ?_) | (refine hld _ ?_) | (refine d_l2AtN (n := m) (hx := hu) (hy := hv) (h0 := ?_) ..) | (refine Exists.intro _ (And.intro (fun τ => callW_fn (d_l2AtN (n := m) (hx := hu) (hy := hv) (h0 := And.intro rfl rfl) ..)) ?_)) | (refine Exists.intro _ (And.intro (callW_fn (d_l2AtN (n := m) (hx := hu) (hy := hv) (h0 := And.intro rfl rfl) ..)) (And.intro trivial ?_))) | (refine Exists.intro _ (And.intro (callW_fn (d_l2AtN (n := m) (hx := hu) (hy := hv) (h0 := And.intro rfl rfl) ..)) ?_)) | (refine Exists.intro _ (And.intro (fun τ _ => callW_fn (d_l2AtN (n := m) (hx := hu) (hy := hv) (h0 := And.intro rfl rfl) ..)) ?_)) | (refine d_l2OrN (n := n) (m := prN m u v) (h0 := ?_) ..) | (refine Exists.intro _ (And.intro (fun τ => callW_fn (d_l2OrN (n := n) (m := prN m u v) (h0 := And.intro rfl rfl) ..)) ?_)) | (refine Exists.intro _ (And.intro (callW_fn (d_l2OrN (n := n) (m := prN m u v) (h0 := And.intro rfl rfl) ..)) (And.intro trivial ?_))) | (refine Exists.intro _ (And.intro (callW_fn (d_l2OrN (n := n) (m := prN m u v) (h0 := And.intro rfl rfl) ..)) ?_)) | (refine Exists.intro _ (And.intro (fun τ _ => callW_fn (d_l2OrN (n := n) (m := prN m u v) (h0 := And.intro rfl rfl) ..)) ?_)) | (refine Exists.intro _ (And.intro rfl (And.intro rfl (And.intro (Nat.le_of_ble_eq_true rfl) ?_)))) | (refine Exists.intro _ (And.intro rfl (And.intro rfl (And.intro rfl (And.intro (Nat.le_of_ble_eq_true rfl) ?_))))) | (refine And.intro (Exists.intro _ (And.intro rfl rfl)) ?_) | (exact fun hW => absurd hW (by decide +kernel)) | (intro hW; (try simp only [Bool.not_true, Bool.not_false, Bool.not_eq_true', Bool.not_eq_false', decide_eq_true_eq, decide_eq_false_iff_not, reduceCtorEq, Bool.true_eq_false, Bool.false_eq_true, mk_size, List.size_toArray, ByteArray.size_append, ByteArray.size_extract, List.length_cons, List.length_nil, ba_get, ba_empty, Int.toNat_natCast] at hW)) | (refine And.intro (?_ : _ → _) (?_ : _ → _)) | (refine FinR.drop 0 (Nat.zero_le _) (Closed.zero _) rfl ?_) | (refine FinR.keep ?_) | (refine And.intro (det3_agg rfl) ?_) | (refine fL_mk ?_) | (refine And.intro (by (try simp only [mk_size, List.size_toArray, ByteArray.size_append, ByteArray.size_extract, List.length_cons, List.length_nil]); omega) ?_) | (refine And.intro (by (try simp only [mk_size, List.size_toArray, ByteArray.size_append, ByteArray.size_extract, List.length_cons, List.length_nil, wrap64_eq]); omega) ?_) | fail)
    all_goals exact h0
  · have h0 : K (ShN (n &&& (fullN ^^^ prN m u v))) [] := h0
    repeat' ((conv => whnf); first | (refine Exists.intro ([] : List Nat) ?_) | (refine And.intro rfl ?_) | (refine And.intro (by decide +kernel) ?_) | (refine And.intro trivial ?_) | (refine hld _ ?_) | (refine d_l2AtN (n := m) (hx := hu) (hy := hv) (h0 := ?_) ..) | (refine Exists.intro _ (And.intro (fun τ => callW_fn (d_l2AtN (n := m) (hx := hu) (hy := hv) (h0 := And.intro rfl rfl) ..)) ?_)) | (refine Exists.intro _ (And.intro (callW_fn (d_l2AtN (n := m) (hx := hu) (hy := hv) (h0 := And.intro rfl rfl) ..)) (And.intro trivial ?_))) | (refine Exists.intro _ (And.intro (callW_fn (d_l2AtN (n := m) (hx := hu) (hy := hv) (h0 := And.intro rfl rfl) ..)) ?_)) | (refine Exists.intro _ (And.intro (fun τ _ => callW_fn (d_l2AtN (n := m) (hx := hu) (hy := hv) (h0 := And.intro rfl rfl) ..)) ?_)) | (refine d_l2NotN (n := prN m u v) (h0 := ?_) ..) | (refine Exists.intro _ (And.intro (fun τ => callW_fn (d_l2NotN (n := prN m u v) (h0 := And.intro rfl rfl) ..)) ?_)) | (refine Exists.intro _ (And.intro (callW_fn (d_l2NotN (n := prN m u v) (h0 := And.intro rfl rfl) ..)) (And.intro trivial ?_))) | (refine Exists.intro _ (And.intro (callW_fn (d_l2NotN (n := prN m u v) (h0 := And.intro rfl rfl) ..)) ?_)) | (refine Exists.intro _ (And.intro (fun τ _ => callW_fn (d_l2NotN (n := prN m u v) (h0 := And.intro rfl rfl) ..)) ?_)) | (refine d_l2AndM (n := n) (m := fullN ^^^ prN m u v) (h0 := ?_) ..) | (refine Exists.intro _ (And.intro (fun τ => callW_fn (d_l2AndM (n := n) (m := fullN ^^^ prN m u v) (h0 := And.intro rfl rfl) ..)) ?_)) | (refine Exists.intro _ (And.intro (callW_fn (d_l2AndM (n := n) (m := fullN ^^^ prN m u v) (h0 := And.intro rfl rfl) ..)) (And.intro trivial ?_))) | (refine Exists.intro _ (And.intro (callW_fn (d_l2AndM (n := n) (m := fullN ^^^ prN m u v) (h0 := And.intro rfl rfl) ..)) ?_)) | (refine Exists.intro _ (And.intro (fun τ _ => callW_fn (d_l2AndM (n := n) (m := fullN ^^^ prN m u v) (h0 := And.intro rfl rfl) ..)) ?_)) | (refine Exists.intro _ (And.intro rfl (And.intro rfl (And.intro (Nat.le_of_ble_eq_true rfl) ?_)))) | (refine Exists.intro _ (And.intro rfl (And.intro rfl (And.intro rfl (And.intro (Nat.le_of_ble_eq_true rfl) ?_))))) | (refine And.intro (Exists.intro _ (And.intro rfl rfl)) ?_) | (exact fun hW => absurd hW (by decide +kernel)) | (intro hW; (try simp only [Bool.not_true, Bool.not_false, Bool.not_eq_true', Bool.not_eq_false', decide_eq_true_eq, decide_eq_false_iff_not, reduceCtorEq, Bool.true_eq_false, Bool.false_eq_true, mk_size, List.size_toArray, ByteArray.size_append, ByteArray.size_extract, List.length_cons, List.length_nil, ba_get, ba_empty, Int.toNat_natCast] at hW)) | (refine And.intro (?_ : _ → _) (?_ : _ → _)) | (refine FinR.drop 0 (Nat.zero_le _) (Closed.zero _) rfl ?_) | (refine FinR.keep ?_) | (refine And.intro (det3_agg rfl) ?_) | (refine fL_mk ?_) | (refine And.intro (by (try simp only [mk_size, List.size_toArray, ByteArray.size_append, ByteArray.size_extract, List.length_cons, List.length_nil]); omega) ?_) | (refine And.intro (by (try simp only [mk_size, List.size_toArray, ByteArray.size_append, ByteArray.size_extract, List.length_cons, List.length_nil, wrap64_eq]); omega) ?_) | fail)
    all_goals exact h0
theorem lift_PSP {α : Type} {enc : α → List Value} {g : FuncId} {b a c r : AV} {xs : List α} {s : Nat} (hok : callOK Try.prog g = true) (hb : pure3 b = true) (hc : pure3 c = true) (hr : ∀ k, sh3 k r = r) (hs : Sli W0 σ s enc a xs) (h : ∀ (W1 : World) (v : Value), Sli W1 [] s enc (.lit v) xs → ∀ K : Cont, K r [] → ACall Try.prog W1 g [b, .lit v, c] [] K) (K : Cont) (h0 : K r σ) : ACall Try.prog W0 g [b, a, c] σ K := by
  refine ACall.frameA (K0 := fun v σ' => v = r ∧ σ' = []) hok (fun W1 ι vs hh hrr => ?_) ?_
  · obtain ⟨v1, vs', rfl, hr1, hr2⟩ := Rels.uncons hrr
    obtain ⟨v2, vs'', rfl, hr3, hr4⟩ := Rels.uncons hr2
    obtain ⟨v3, vs3, rfl, hr5, hr6⟩ := Rels.uncons hr4
    obtain rfl := hr6.nil_inv
    obtain ⟨a', ha, hs'⟩ := hs.conc hh ⟨v2, hr3⟩
    obtain ⟨u, rfl⟩ := sli_lit hs'
    exact ⟨[b, .lit u, c], Rels.cons (rel3_pure hb hr1) (Rels.cons (ha _ hr3) (Rels.cons (rel3_pure hc hr5) Rels.nil)), h W1 u hs' _ ⟨rfl, rfl⟩⟩
  · rintro v σ' ⟨rfl, rfl⟩
    have e : σ ++ shB σ.length [] = σ := by simp [shB]
    rw [e, hr]; exact h0
theorem d_l11Next (n : Nat) (a : AV) (xs : List (List Int)) (h1 : Sli W0 σ 6 enI a xs) (k s : Int) (m u v : Nat) (hm : xs[s.toNat]? = some (shR m)) (hk : 1 ≤ k ∧ k ≤ 3) (hs : 0 ≤ s ∧ s < xs.length) (hu : u < 6) (hv : v < 6) (K : Cont) (h0 : K (ShN (stepF k.toNat (prN m u v) n)) σ) : ACall Try.prog W0 125 [ShN n, a, Ste k s u v] σ K :=
  lift_PSP (by kernel_rfl) rfl rfl (fun _ => rfl) h1 (fun W1 v1 q K hK => c_l11Next n v1 xs q k s m u v hm hk hs hu hv K hK) K h0
/-- a step of a valid plan by its parts -/
theorem step_parts {xs ys : List (List Int)} (hx : ∀ x ∈ xs, x.length = 6) (hy : ∀ x ∈ ys, x.length = 4) (hxa : xs.all shRow = true) (hya : ys.all (stOk xs.length) = true) {i : Nat} (hi : i < ys.length) :
    ∃ (k s : Int) (m u v : Nat), ys[i]? = some [k, s, (u : Int), (v : Int)] ∧ (1 ≤ k ∧ k ≤ 3) ∧ (0 ≤ s ∧ s < xs.length) ∧ u < 6 ∧ v < 6 ∧ m < 2 ^ 36 ∧ xs[s.toNat]? = some (shR m) ∧ (fsOf xs ys)[i]? = some (k.toNat, prN m u v) := by
  obtain ⟨k, s, x, y, hyi⟩ := row4x hy hi
  have hok := List.all_eq_true.1 hya _ (List.mem_of_getElem? hyi)
  rw [stOk_eq] at hok
  simp only [Bool.and_eq_true] at hok
  obtain ⟨⟨hk, ht⟩, hc⟩ := hok
  have hk3 := (inB_iff _ _ _).1 hk
  have hs3 := (inB_iff _ _ _).1 ht
  obtain ⟨u, v, rfl, rfl, hu, hv⟩ : ∃ u v : Nat, x = u ∧ y = v ∧ u < 6 ∧ v < 6 := by
    have := cellB_iff.1 hc
    exact ⟨x.toNat, y.toNat, by omega, by omega, by omega, by omega⟩
  have hxs := xget (xs := xs) (k := s) (by omega)
  have hmem := List.mem_of_getElem? hxs
  obtain ⟨m, hm, hr, hst⟩ := st_row (hx _ hmem) (List.all_eq_true.1 hxa _ hmem)
  refine ⟨k, s, m, u, v, hyi, hk3, by omega, hu, hv, hm, by rw [hxs, hr], ?_⟩
  rw [fsOf, List.getElem?_map, hyi]
  show some (k.toNat, prN (stN (xs.getD s.toNat [])) u v) = _
  rw [hst]
theorem c_l11At (a b c d e f : Int) (v1 v2 : Value) (xs ys : List (List Int)) (h1 : Sli W0 [] 6 enI (.lit v1) xs) (h2 : Sli W0 [] 4 enI (.lit v2) ys) (hx : ∀ x ∈ xs, x.length = 6) (hy : ∀ x ∈ ys, x.length = 4) (hxa : xs.all shRow = true) (hya : ys.all (stOk xs.length) = true) (hl2 : ys.length ≤ 1048576) (n k : Nat) (hk : k ≤ ys.length) (K : Cont) (h0 : K (ShN (runN ((fsOf xs ys).take k) n)) []) : ACall Try.prog W0 124 [PlA a b c d e f (.lit v1) (.lit v2), ShN n, I k] [] K := by
  refine by124 (Nat.le_of_ble_eq_true rfl) ?_
  obtain ⟨o2, n2, cap2, hv2, hn2, hc2, hm2, hf2⟩ := sli_form h2
  cases hv2
  subst hn2
  repeat' ((conv => whnf); first | (refine Exists.intro ([] : List Nat) ?_) | (refine And.intro rfl ?_) | (refine And.intro (by decide +kernel) ?_) | (refine And.intro trivial ?_) | (refine Exists.intro _ (And.intro rfl (And.intro rfl (And.intro (Nat.le_of_ble_eq_true rfl) ?_)))) | (refine Exists.intro _ (And.intro rfl (And.intro rfl (And.intro rfl (And.intro (Nat.le_of_ble_eq_true rfl) ?_))))) | (refine And.intro (Exists.intro _ (And.intro rfl rfl)) ?_) | (exact fun hW => absurd hW (by decide +kernel)) | (intro hW; (try simp only [Bool.not_true, Bool.not_false, Bool.not_eq_true', Bool.not_eq_false', decide_eq_true_eq, decide_eq_false_iff_not, reduceCtorEq, Bool.true_eq_false, Bool.false_eq_true, mk_size, List.size_toArray, ByteArray.size_append, ByteArray.size_extract, List.length_cons, List.length_nil, ba_get, ba_empty, Int.toNat_natCast] at hW)) | (refine And.intro (?_ : _ → _) (?_ : _ → _)) | (refine FinR.drop 0 (Nat.zero_le _) (Closed.zero _) rfl ?_) | (refine FinR.keep ?_) | (refine And.intro (det3_agg rfl) ?_) | (refine fL_mk ?_) | (refine And.intro (by (try simp only [mk_size, List.size_toArray, ByteArray.size_append, ByteArray.size_extract, List.length_cons, List.length_nil]); omega) ?_) | (refine And.intro (by (try simp only [mk_size, List.size_toArray, ByteArray.size_append, ByteArray.size_extract, List.length_cons, List.length_nil, wrap64_eq]); omega) ?_) | fail)
  refine LoopR.live (fun i : Nat => [(2, I k), (3, .ptr 0 0 0), (4, .ptr 1 0 0), (6, .ptr 2 0 0), (7, I i)]) (fun i => [plBx a b c d e f (.lit v1) (.lit (.slice o2 ys.length cap2)) 67, bl (runN ((fsOf xs ys).take i) n), bl 0]) (fun i => i ≤ k) (fun i => k - i) 0 ⟨rfl, rfl, rfl, rfl, rfl, trivial⟩ (.keep rfl) (Nat.zero_le _) ?_
  intro i hi
  by_cases hlt : i < k
  · obtain ⟨k', s, m, u, v, hyi, hk3, hs3, hu, hv, hm, hxs, hfs⟩ := step_parts hx hy hxa hya (show i < ys.length by omega)
    obtain ⟨ad, rfl, hb, hxx⟩ := hf2 _ _ hyi
    have hld := fun C h => ldIn (W0 := W0) (s := 4) (enc := enI) hb hxx hyi rfl (C := C) h
    have hsn : runN ((fsOf xs ys).take (i + 1)) n = stepF k'.toNat (prN m u v) (runN ((fsOf xs ys).take i) n) := by rw [take_snoc hfs, runN_snoc]
    repeat' ((conv => whnf); first | (refine Exists.intro ([] : List Nat) ?_) | (refine And.intro rfl ?_) | (refine And.intro (by decide +kernel) ?_) | (refine And.intro trivial ?_) | (refine hld _ ?_) | (refine Exists.intro _ (And.intro (fun τ => callW_fn (d_l11Next (n := runN ((fsOf xs ys).take i) n) (h1 := sli_up h1) (hm := hxs) (hk := hk3) (hs := hs3) (hu := hu) (hv := hv) (h0 := And.intro rfl rfl) ..)) ?_)) | (refine Exists.intro _ (And.intro rfl (And.intro rfl (And.intro (Nat.le_of_ble_eq_true rfl) ?_)))) | (refine Exists.intro _ (And.intro rfl (And.intro rfl (And.intro rfl (And.intro (Nat.le_of_ble_eq_true rfl) ?_))))) | (refine And.intro (Exists.intro _ (And.intro rfl rfl)) ?_) | (exact fun hW => absurd hW (by decide +kernel)) | (intro hW; (try simp only [Bool.not_true, Bool.not_false, Bool.not_eq_true', Bool.not_eq_false', decide_eq_true_eq, decide_eq_false_iff_not, reduceCtorEq, Bool.true_eq_false, Bool.false_eq_true, mk_size, List.size_toArray, ByteArray.size_append, ByteArray.size_extract, List.length_cons, List.length_nil, ba_get, ba_empty, Int.toNat_natCast] at hW)) | (refine And.intro (?_ : _ → _) (?_ : _ → _)) | (refine FinR.drop 0 (Nat.zero_le _) (Closed.zero _) rfl ?_) | (refine FinR.keep ?_) | (refine And.intro (det3_agg rfl) ?_) | (refine fL_mk ?_) | (refine And.intro (by (try simp only [mk_size, List.size_toArray, ByteArray.size_append, ByteArray.size_extract, List.length_cons, List.length_nil]); omega) ?_) | (refine And.intro (by (try simp only [mk_size, List.size_toArray, ByteArray.size_append, ByteArray.size_extract, List.length_cons, List.length_nil, wrap64_eq]); omega) ?_) | fail)
    all_goals first | (exfalso; omega) | skip
    refine Again.go (i + 1) ⟨rfl, rfl, rfl, rfl, slI' (wsucc' i (by omega)), trivial⟩ (.keep ?_) (by omega) (by omega)
    rw [hsn]; rfl
  · obtain rfl : i = k := by omega
    repeat' ((conv => whnf); first | (refine Exists.intro ([] : List Nat) ?_) | (refine And.intro rfl ?_) | (refine And.intro (by decide +kernel) ?_) | (refine And.intro trivial ?_) | (refine Exists.intro _ (And.intro rfl (And.intro rfl (And.intro (Nat.le_of_ble_eq_true rfl) ?_)))) | (refine Exists.intro _ (And.intro rfl (And.intro rfl (And.intro rfl (And.intro (Nat.le_of_ble_eq_true rfl) ?_))))) | (refine And.intro (Exists.intro _ (And.intro rfl rfl)) ?_) | (exact fun hW => absurd hW (by decide +kernel)) | (intro hW; (try simp only [Bool.not_true, Bool.not_false, Bool.not_eq_true', Bool.not_eq_false', decide_eq_true_eq, decide_eq_false_iff_not, reduceCtorEq, Bool.true_eq_false, Bool.false_eq_true, mk_size, List.size_toArray, ByteArray.size_append, ByteArray.size_extract, List.length_cons, List.length_nil, ba_get, ba_empty, Int.toNat_natCast] at hW)) | (refine And.intro (?_ : _ → _) (?_ : _ → _)) | (refine FinR.drop 0 (Nat.zero_le _) (Closed.zero _) rfl ?_) | (refine FinR.keep ?_) | (refine And.intro (det3_agg rfl) ?_) | (refine fL_mk ?_) | (refine And.intro (by (try simp only [mk_size, List.size_toArray, ByteArray.size_append, ByteArray.size_extract, List.length_cons, List.length_nil]); omega) ?_) | (refine And.intro (by (try simp only [mk_size, List.size_toArray, ByteArray.size_append, ByteArray.size_extract, List.length_cons, List.length_nil, wrap64_eq]); omega) ?_) | fail)
    all_goals first | (exfalso; omega) | exact h0
theorem d_l11At (a b c d e f : Int) (s1 s2 : AV) (xs ys : List (List Int)) (h1 : Sli W0 σ 6 enI s1 xs) (h2 : Sli W0 σ 4 enI s2 ys) (hx : ∀ x ∈ xs, x.length = 6) (hy : ∀ x ∈ ys, x.length = 4) (hxa : xs.all shRow = true) (hya : ys.all (stOk xs.length) = true) (hl2 : ys.length ≤ 1048576) (n k : Nat) (hk : k ≤ ys.length) (K : Cont) (h0 : K (ShN (runN ((fsOf xs ys).take k) n)) σ) : ACall Try.prog W0 124 [PlA a b c d e f s1 s2, ShN n, I k] σ K :=
  lift_Pl (rest := [ShN n, I k]) (ι := Unit) (fun _ => ShN (runN ((fsOf xs ys).take k) n)) (fun τ => []) (by kernel_rfl) rfl h1 h2 (fun W1 v1 v2 q1 q2 K hK => c_l11At a b c d e f v1 v2 xs ys q1 q2 hx hy hxa hya hl2 n k hk K (hK ())) K (fun _ => by
    rw [show shB σ.length [] = [] from rfl, List.append_nil]; exact h0)
/-- a plan's sheet -/
def atR (a b c d e f : Int) (xs ys : List (List Int)) (k : Int) : AV := if planB a b c d e f xs ys && inB k 0 ys.length then .tup [ShN (runN ((fsOf xs ys).take k.toNat) (stN [a, b, c, d, e, f])), Bo true] else .tup [Sh0, Bo false]
theorem atR_sh (a b c d e f : Int) (xs ys : List (List Int)) (k : Int) (j : Nat) : sh3 j (atR a b c d e f xs ys k) = atR a b c d e f xs ys k := by unfold atR; split <;> rfl
theorem c_SheetAt (a b c d e f : Int) (v1 v2 : Value) (xs ys : List (List Int)) (h1 : Sli W0 [] 6 enI (.lit v1) xs) (h2 : Sli W0 [] 4 enI (.lit v2) ys) (hx : ∀ x ∈ xs, x.length = 6) (hy : ∀ x ∈ ys, x.length = 4) (k : Int) (K : Cont) (h0 : K (atR a b c d e f xs ys k) []) : ACall Try.prog W0 110 [PlA a b c d e f (.lit v1) (.lit v2), I k] [] K := by
  refine by110 (Nat.le_of_ble_eq_true rfl) ?_
  obtain ⟨o2, n2, cap2, hv2, hn2, hc2, hm2, hf2⟩ := sli_form h2
  cases hv2
  subst hn2
  cases hg : planB a b c d e f xs ys with
  | false =>
    rw [atR, hg, Bool.false_and] at h0
    have h0 : K (.tup [Sh0, Bo false]) [] := h0
    repeat' ((conv => whnf); first | (refine Exists.intro ([] : List Nat) ?_) | (refine And.intro rfl ?_) | (refine And.intro (by decide +kernel) ?_) | (refine And.intro trivial ?_) | (refine d_planOf (h1 := sli_up h1) (h2 := sli_up h2) (hx := hx) (hy := hy) (h0 := fun h τ hp => by rw [hg] at h; cases h) (h00 := fun _ => ?_) ..) | (refine Exists.intro _ (And.intro rfl (And.intro rfl (And.intro (Nat.le_of_ble_eq_true rfl) ?_)))) | (refine Exists.intro _ (And.intro rfl (And.intro rfl (And.intro rfl (And.intro (Nat.le_of_ble_eq_true rfl) ?_))))) | (refine And.intro (Exists.intro _ (And.intro rfl rfl)) ?_) | (exact fun hW => absurd hW (by decide +kernel)) | (intro hW; (try simp only [Bool.not_true, Bool.not_false, Bool.not_eq_true', Bool.not_eq_false', decide_eq_true_eq, decide_eq_false_iff_not, reduceCtorEq, Bool.true_eq_false, Bool.false_eq_true, mk_size, List.size_toArray, ByteArray.size_append, ByteArray.size_extract, List.length_cons, List.length_nil, ba_get, ba_empty, Int.toNat_natCast] at hW)) | (refine And.intro (?_ : _ → _) (?_ : _ → _)) | (refine FinR.drop 0 (Nat.zero_le _) (Closed.zero _) rfl ?_) | (refine FinR.keep ?_) | (refine And.intro (det3_agg rfl) ?_) | (refine fL_mk ?_) | (refine And.intro (by (try simp only [mk_size, List.size_toArray, ByteArray.size_append, ByteArray.size_extract, List.length_cons, List.length_nil]); omega) ?_) | (refine And.intro (by (try simp only [mk_size, List.size_toArray, ByteArray.size_append, ByteArray.size_extract, List.length_cons, List.length_nil, wrap64_eq]); omega) ?_) | fail)
    all_goals first | exact h0 | (exfalso; omega) | (exfalso; simp_all; done)
  | true =>
    obtain ⟨hs, hx4, hy40, hxa, hya⟩ := planB_iff.1 hg
    have hfo := fsOf_ok hx hy hxa hya
    have hfl := fsOf_len xs ys
    obtain ⟨n, hn, rfl, rfl, rfl, rfl, rfl, rfl, hst⟩ := st_parts hs
    cases hkb : inB k 0 ys.length with
    | false =>
      rw [atR, hg, hkb] at h0
      have h0 : K (.tup [Sh0, Bo false]) [] := h0
      have hk2 : ¬ (0 ≤ k ∧ k ≤ ys.length) := fun h => by rw [(inB_iff _ _ _).2 h] at hkb; cases hkb
      repeat' ((conv => whnf); first | (refine Exists.intro ([] : List Nat) ?_) | (refine And.intro rfl ?_) | (refine And.intro (by decide +kernel) ?_) | (refine And.intro trivial ?_) | (refine d_planOf (h1 := sli_up h1) (h2 := sli_up h2) (hx := hx) (hy := hy) (h0 := fun h τ hp => ?_) (h00 := fun h => by rw [hg] at h; cases h) ..) | (refine fS_mk ?_) | (refine Exists.intro _ (And.intro rfl (And.intro rfl (And.intro (Nat.le_of_ble_eq_true rfl) ?_)))) | (refine Exists.intro _ (And.intro rfl (And.intro rfl (And.intro rfl (And.intro (Nat.le_of_ble_eq_true rfl) ?_))))) | (refine And.intro (Exists.intro _ (And.intro rfl rfl)) ?_) | (exact fun hW => absurd hW (by decide +kernel)) | (intro hW; (try simp only [Bool.not_true, Bool.not_false, Bool.not_eq_true', Bool.not_eq_false', decide_eq_true_eq, decide_eq_false_iff_not, reduceCtorEq, Bool.true_eq_false, Bool.false_eq_true, mk_size, List.size_toArray, ByteArray.size_append, ByteArray.size_extract, List.length_cons, List.length_nil, ba_get, ba_empty, Int.toNat_natCast] at hW)) | (refine And.intro (?_ : _ → _) (?_ : _ → _)) | (refine FinR.drop 0 (Nat.zero_le _) (Closed.zero _) rfl ?_) | (refine FinR.keep ?_) | (refine And.intro (det3_agg rfl) ?_) | (refine fL_mk ?_) | (refine And.intro (by (try simp only [mk_size, List.size_toArray, ByteArray.size_append, ByteArray.size_extract, List.length_cons, List.length_nil]); omega) ?_) | (refine And.intro (by (try simp only [mk_size, List.size_toArray, ByteArray.size_append, ByteArray.size_extract, List.length_cons, List.length_nil, wrap64_eq]); omega) ?_) | fail)
      all_goals first | exact h0 | (exfalso; omega) | (exfalso; simp_all; done)
    | true =>
      rw [atR, hg, hkb, hst] at h0
      have hk2 := (inB_iff _ _ _).1 hkb
      obtain ⟨j, rfl⟩ : ∃ j : Nat, k = j := ⟨k.toNat, by omega⟩
      have h0 : K (.tup [ShN (runN ((fsOf xs ys).take j) n), Bo true]) [] := h0
      have hver : (ruB (runL (fsOf xs ys) n)).ver = (fsOf xs ys).length := by show (runL (fsOf xs ys) n).length - 1 = _; rw [runL_len]; rfl
      have hle : ∀ off, off = j → off + 1 ≤ (ruB (runL (fsOf xs ys) n)).cells.length := fun off ho => by show _ ≤ (List.map _ _).length; rw [List.length_map, runL_len]; omega
      have hget : ∀ off, off = j → mkAV false (((ruB (runL (fsOf xs ys) n)).cells.drop off).take 1) = U (runN ((fsOf xs ys).take j) n : Nat) := fun off ho => stB_get (runL_get _ _ (by omega)) ho
      have hrn := runN_lt (hfo.take j) hn
      repeat' ((conv => whnf); first | (refine Exists.intro _ (And.intro getl (And.intro hver (And.intro (hle _ (by rw [Int.toNat_natCast]; omega)) ?_))); rw [hget _ (by rw [Int.toNat_natCast]; omega)]) | (refine Exists.intro ([] : List Nat) ?_) | (refine And.intro rfl ?_) | (refine And.intro (by decide +kernel) ?_) | (refine And.intro trivial ?_) | (refine d_planOf (h1 := sli_up h1) (h2 := sli_up h2) (hx := hx) (hy := hy) (h0 := fun h τ hp => ?_) (h00 := fun h => by rw [hg] at h; cases h) ..; rw [hst] at hp; obtain ⟨sq, hq1, hq2⟩ := hp.ex) | (refine And.intro ⟨_, hq1, rfl⟩ ?_) | (refine Exists.intro _ (And.intro hq1 (And.intro rfl (And.intro (Nat.le_of_ble_eq_true rfl) ?_)))) | (refine d_run (hp := hp) (hf := hfo) (hl := by omega) (hx := hn) (h0 := fun cap => ?_) ..) | (refine And.intro ⟨_, getl, hver⟩ ?_) | (refine d_sheet (hn := by omega) (h0 := ?_) ..) | (refine fS_mk ?_) | (refine Exists.intro _ (And.intro rfl (And.intro rfl (And.intro (Nat.le_of_ble_eq_true rfl) ?_)))) | (refine Exists.intro _ (And.intro rfl (And.intro rfl (And.intro rfl (And.intro (Nat.le_of_ble_eq_true rfl) ?_))))) | (refine And.intro (Exists.intro _ (And.intro rfl rfl)) ?_) | (exact fun hW => absurd hW (by decide +kernel)) | (intro hW; (try simp only [Bool.not_true, Bool.not_false, Bool.not_eq_true', Bool.not_eq_false', decide_eq_true_eq, decide_eq_false_iff_not, reduceCtorEq, Bool.true_eq_false, Bool.false_eq_true, mk_size, List.size_toArray, ByteArray.size_append, ByteArray.size_extract, List.length_cons, List.length_nil, ba_get, ba_empty, Int.toNat_natCast] at hW)) | (refine And.intro (?_ : _ → _) (?_ : _ → _)) | (refine FinR.drop 0 (Nat.zero_le _) (Closed.zero _) rfl ?_) | (refine FinR.keep ?_) | (refine And.intro (det3_agg rfl) ?_) | (refine fL_mk ?_) | (refine And.intro (by (try simp only [mk_size, List.size_toArray, ByteArray.size_append, ByteArray.size_extract, List.length_cons, List.length_nil]); omega) ?_) | (refine And.intro (by (try simp only [mk_size, List.size_toArray, ByteArray.size_append, ByteArray.size_extract, List.length_cons, List.length_nil, wrap64_eq]); omega) ?_) | fail)
      all_goals first | exact h0 | (exfalso; omega) | (exfalso; simp_all; done)
end Go.Proofs.Ytkcbhdjhbnnlgaa
end

section
/- Contracts: the laws SheetAt and EndOf. -/
set_option linter.unusedVariables false
set_option linter.unusedSimpArgs false
set_option maxRecDepth 100000
set_option maxHeartbeats 4000000
namespace Go.Proofs.Ytkcbhdjhbnnlgaa
open Go Go.RowKit Go.Proofs.Ytkcbhdjhbnnlgaa.Abs
variable {W0 : World} {σ : List Blk}
theorem atR_form (a b c d e f : Int) (xs ys : List (List Int)) (k : Int) : ∃ r0 r1 r2 r3 r4 r5 bb, atR a b c d e f xs ys k = .tup [Sh r0 r1 r2 r3 r4 r5, Bo bb] := by
  unfold atR; split <;> exact ⟨_, _, _, _, _, _, _, rfl⟩
theorem d_SheetAt (a b c d e f : Int) (s1 s2 : AV) (xs ys : List (List Int)) (h1 : Sli W0 σ 6 enI s1 xs) (h2 : Sli W0 σ 4 enI s2 ys) (hx : ∀ x ∈ xs, x.length = 6) (hy : ∀ x ∈ ys, x.length = 4) (k : Int) (K : Cont) (h0 : K (atR a b c d e f xs ys k) σ) : ACall Try.prog W0 110 [PlA a b c d e f s1 s2, I k] σ K :=
  lift_Pl (rest := [I k]) (ι := Unit) (fun _ => atR a b c d e f xs ys k) (fun τ => []) (by kernel_rfl) rfl h1 h2 (fun W1 v1 v2 q1 q2 K hK => c_SheetAt a b c d e f v1 v2 xs ys q1 q2 hx hy k K (hK ())) K (fun _ => by
    rw [show shB σ.length [] = [] from rfl, List.append_nil, atR_sh]; exact h0)
theorem c_EndOf (a b c d e f : Int) (v1 v2 : Value) (xs ys : List (List Int)) (h1 : Sli W0 [] 6 enI (.lit v1) xs) (h2 : Sli W0 [] 4 enI (.lit v2) ys) (hx : ∀ x ∈ xs, x.length = 6) (hy : ∀ x ∈ ys, x.length = 4) (K : Cont) (h0 : K (atR a b c d e f xs ys ys.length) []) : ACall Try.prog W0 57 [PlA a b c d e f (.lit v1) (.lit v2)] [] K := by
  refine by57 (Nat.le_of_ble_eq_true rfl) ?_
  obtain ⟨o2, n2, cap2, hv2, hn2, hc2, hm2, hf2⟩ := sli_form h2
  cases hv2
  subst hn2
  obtain ⟨r0, r1, r2, r3, r4, r5, bb, hat⟩ := atR_form a b c d e f xs ys ys.length
  rw [hat] at h0
  repeat' ((conv => whnf); first | (refine Exists.intro ([] : List Nat) ?_) | (refine And.intro rfl ?_) | (refine And.intro (by decide +kernel) ?_) | (refine And.intro trivial ?_) | (refine d_SheetAt (h1 := sli_up h1) (h2 := sli_up h2) (hx := hx) (hy := hy) (h0 := ?_) ..; rw [hat]) | (refine Exists.intro _ (And.intro rfl (And.intro rfl (And.intro (Nat.le_of_ble_eq_true rfl) ?_)))) | (refine Exists.intro _ (And.intro rfl (And.intro rfl (And.intro rfl (And.intro (Nat.le_of_ble_eq_true rfl) ?_))))) | (refine And.intro (Exists.intro _ (And.intro rfl rfl)) ?_) | (exact fun hW => absurd hW (by decide +kernel)) | (intro hW; (try simp only [Bool.not_true, Bool.not_false, Bool.not_eq_true', Bool.not_eq_false', decide_eq_true_eq, decide_eq_false_iff_not, reduceCtorEq, Bool.true_eq_false, Bool.false_eq_true, mk_size, List.size_toArray, ByteArray.size_append, ByteArray.size_extract, List.length_cons, List.length_nil, ba_get, ba_empty, Int.toNat_natCast] at hW)) | (refine And.intro (?_ : _ → _) (?_ : _ → _)) | (refine FinR.drop 0 (Nat.zero_le _) (Closed.zero _) rfl ?_) | (refine FinR.keep ?_) | (refine And.intro (det3_agg rfl) ?_) | (refine fL_mk ?_) | (refine And.intro (by (try simp only [mk_size, List.size_toArray, ByteArray.size_append, ByteArray.size_extract, List.length_cons, List.length_nil]); omega) ?_) | (refine And.intro (by (try simp only [mk_size, List.size_toArray, ByteArray.size_append, ByteArray.size_extract, List.length_cons, List.length_nil, wrap64_eq]); omega) ?_) | fail)
  all_goals exact h0
theorem d_EndOf (a b c d e f : Int) (s1 s2 : AV) (xs ys : List (List Int)) (h1 : Sli W0 σ 6 enI s1 xs) (h2 : Sli W0 σ 4 enI s2 ys) (hx : ∀ x ∈ xs, x.length = 6) (hy : ∀ x ∈ ys, x.length = 4) (K : Cont) (h0 : K (atR a b c d e f xs ys ys.length) σ) : ACall Try.prog W0 57 [PlA a b c d e f s1 s2] σ K :=
  lift_Pl (rest := []) (ι := Unit) (fun _ => atR a b c d e f xs ys ys.length) (fun τ => []) (by kernel_rfl) rfl h1 h2 (fun W1 v1 v2 q1 q2 K hK => c_EndOf a b c d e f v1 v2 xs ys q1 q2 hx hy K (hK ())) K (fun _ => by
    rw [show shB σ.length [] = [] from rfl, List.append_nil, atR_sh]; exact h0)
end Go.Proofs.Ytkcbhdjhbnnlgaa
end
