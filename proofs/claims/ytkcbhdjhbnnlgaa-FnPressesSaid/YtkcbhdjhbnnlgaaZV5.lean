import Derived.Test.YtkcbhdjhbnnlgaaZV4
section
/- Contracts: sheets drawn from bytes. -/
set_option linter.unusedVariables false
set_option linter.unusedSimpArgs false
set_option maxRecDepth 100000
set_option maxHeartbeats 4000000
namespace Go.Proofs.Ytkcbhdjhbnnlgaa
open Go Go.RowKit Go.Proofs.Ytkcbhdjhbnnlgaa.Abs
variable {W0 : World} {σ : List Blk}
abbrev shC (a b c d e f : Int) : Blk := ⟨[I a, I b, I c, I d, I e, I f], 0, 26, 0, false, false⟩
theorem mem5 {x a b c d e : Int} (h : x ∈ [a, b, c, d, e]) : x = a ∨ x = b ∨ x = c ∨ x = d ∨ x = e := by simpa using h
theorem d_sheetC (b n : Nat) (v : Value) (xs : List Int) (hcd : Code W0 v xs) (hc : CurAt b v n σ) (hn : n < 800000000) (K : Cont) (h0 : ∀ a1 a2 a3 a4 a5 a6 R, CurAt b v (n + 90) R → Keeps b σ R → K (Sh a1 a2 a3 a4 a5 a6) R) : ACall Try.prog W0 60 [.ptr b 0 0] σ K := by
  refine by60 (Nat.le_of_ble_eq_true rfl) ?_
  have hbl := hc.lt
  repeat' ((conv => whnf); first
    | (refine And.intro rfl ?_)
    | (refine And.intro (by decide +kernel) ?_)
    | (refine And.intro trivial ?_)
    | (refine Exists.intro _ (And.intro rfl (And.intro rfl (And.intro (Nat.le_of_ble_eq_true rfl) ?_))))
    | (refine Exists.intro _ (And.intro rfl (And.intro rfl (And.intro rfl (And.intro (Nat.le_of_ble_eq_true rfl) ?_)))))
    | (refine And.intro (Exists.intro _ (And.intro rfl rfl)) ?_)
    | (exact fun hW => absurd hW (by decide +kernel))
    | (intro hW; (try simp only [Bool.not_true, Bool.not_false, Bool.not_eq_true', Bool.not_eq_false', decide_eq_true_eq, decide_eq_false_iff_not, reduceCtorEq, Bool.true_eq_false, Bool.false_eq_true, mk_size, List.size_toArray, ByteArray.size_append, ByteArray.size_extract, List.length_cons, List.length_nil, ba_get, ba_empty, Int.toNat_natCast] at hW))
    | (refine And.intro (?_ : _ → _) (?_ : _ → _))
    | (refine FinR.drop 0 (Nat.zero_le _) (Closed.zero _) rfl ?_)
    | (refine FinR.keep ?_)
    | (refine And.intro (det3_agg rfl) ?_)
    | (refine fL_mk ?_)
    | (refine And.intro (by (try simp only [mk_size, List.size_toArray, ByteArray.size_append, ByteArray.size_extract, List.length_cons, List.length_nil]); omega) ?_)
    | (refine And.intro (by (try simp only [mk_size, List.size_toArray, ByteArray.size_append, ByteArray.size_extract, List.length_cons, List.length_nil, wrap64_eq]); omega) ?_)
    | fail)
  have hc := hc.app (τ := [shC 0 0 0 0 0 0])
  have q : (σ ++ [shC 0 0 0 0 0 0])[σ.length]? = some (shC 0 0 0 0 0 0) := getl
  have hk : Keeps b σ (σ ++ [shC 0 0 0 0 0 0]) := .app
  repeat' ((conv => whnf); first
    | (refine And.intro rfl ?_)
    | (refine And.intro (by decide +kernel) ?_)
    | (refine And.intro trivial ?_)
    | (refine fS_mk ?_)
    | (refine d_among (y0 := 2) (ys := [4, 3, 1, 6]) (hL := getl) (hys := by decide) (hcd := hcd) (hc := hc.app) (hbl := by have := hc.lt; omega) (hn := by omega) (h0 := fun few R hxx hc1 hk1 => ?_) ..; have q := hk1.2 _ _ (by omega) (getx1 q); have hk := hk.trans hk1.snoc; have hc := hc1)
    | (refine Exists.intro _ (And.intro rfl (And.intro rfl (And.intro (Nat.le_of_ble_eq_true rfl) ?_))))
    | (refine Exists.intro _ (And.intro rfl (And.intro rfl (And.intro rfl (And.intro (Nat.le_of_ble_eq_true rfl) ?_)))))
    | (refine And.intro (Exists.intro _ (And.intro rfl rfl)) ?_)
    | (exact fun hW => absurd hW (by decide +kernel))
    | (intro hW; (try simp only [Bool.not_true, Bool.not_false, Bool.not_eq_true', Bool.not_eq_false', decide_eq_true_eq, decide_eq_false_iff_not, reduceCtorEq, Bool.true_eq_false, Bool.false_eq_true, mk_size, List.size_toArray, ByteArray.size_append, ByteArray.size_extract, List.length_cons, List.length_nil, ba_get, ba_empty, Int.toNat_natCast] at hW))
    | (refine And.intro (?_ : _ → _) (?_ : _ → _))
    | (refine FinR.drop 0 (Nat.zero_le _) (Closed.zero _) rfl ?_)
    | (refine FinR.keep ?_)
    | (refine And.intro (det3_agg rfl) ?_)
    | (refine fL_mk ?_)
    | (refine And.intro (by (try simp only [mk_size, List.size_toArray, ByteArray.size_append, ByteArray.size_extract, List.length_cons, List.length_nil]); omega) ?_)
    | (refine And.intro (by (try simp only [mk_size, List.size_toArray, ByteArray.size_append, ByteArray.size_extract, List.length_cons, List.length_nil, wrap64_eq]); omega) ?_)
    | fail)
  repeat' ((conv => whnf); first
    | (refine And.intro rfl ?_)
    | (refine And.intro (by decide +kernel) ?_)
    | (refine And.intro trivial ?_)
    | (refine fS_mk ?_)
    | (refine Exists.intro _ (And.intro getl (And.intro rfl (And.intro rfl (And.intro (Nat.le_of_ble_eq_true rfl) ?_)))); rw [set_last])
    | (refine Exists.intro _ (And.intro rfl (And.intro rfl (And.intro (Nat.le_of_ble_eq_true rfl) ?_))))
    | (refine Exists.intro _ (And.intro rfl (And.intro rfl (And.intro rfl (And.intro (Nat.le_of_ble_eq_true rfl) ?_)))))
    | (refine And.intro (Exists.intro _ (And.intro rfl rfl)) ?_)
    | (exact fun hW => absurd hW (by decide +kernel))
    | (intro hW; (try simp only [Bool.not_true, Bool.not_false, Bool.not_eq_true', Bool.not_eq_false', decide_eq_true_eq, decide_eq_false_iff_not, reduceCtorEq, Bool.true_eq_false, Bool.false_eq_true, mk_size, List.size_toArray, ByteArray.size_append, ByteArray.size_extract, List.length_cons, List.length_nil, ba_get, ba_empty, Int.toNat_natCast] at hW))
    | (refine And.intro (?_ : _ → _) (?_ : _ → _))
    | (refine FinR.drop 0 (Nat.zero_le _) (Closed.zero _) rfl ?_)
    | (refine FinR.keep ?_)
    | (refine And.intro (det3_agg rfl) ?_)
    | (refine fL_mk ?_)
    | (refine And.intro (by (try simp only [mk_size, List.size_toArray, ByteArray.size_append, ByteArray.size_extract, List.length_cons, List.length_nil]); omega) ?_)
    | (refine And.intro (by (try simp only [mk_size, List.size_toArray, ByteArray.size_append, ByteArray.size_extract, List.length_cons, List.length_nil, wrap64_eq]); omega) ?_)
    | fail)
  have q3 : (R ++ [bl 0])[R.length]? = some (bl 0) := getl
  have hRl := getElem?_lt q
  refine LoopR.live (fun y : Nat × Nat × List Blk => [(0, .ptr b 0 0), (2, .ptr σ.length 0 0), (3, .ptr R.length 0 0), (4, I few), (5, I y.1)]) (fun y => y.2.2) (fun y => y.1 ≤ 6 ∧ CurAt b v (n + 2 + 12 * y.1) y.2.2 ∧ Keeps b σ y.2.2 ∧ y.2.2[σ.length]? = some (shC 0 0 0 0 0 0) ∧ y.2.2[R.length]? = some (bl y.2.1)) (fun y => 6 - y.1) (0, 0, R ++ [bl 0]) ⟨rfl, rfl, rfl, rfl, rfl, trivial⟩ (.keep rfl) ⟨Nat.zero_le _, hc.app, hk.trans .app, getx1 q, q3⟩ ?_
  rintro ⟨y, m, T⟩ ⟨hy, hc, hk, q, q3⟩
  replace hy : y ≤ 6 := hy
  replace hc : CurAt b v (n + 2 + 12 * y) T := hc
  replace hk : Keeps b σ T := hk
  replace q : T[σ.length]? = some (shC 0 0 0 0 0 0) := q
  replace q3 : T[R.length]? = some (bl m) := q3
  by_cases hy6 : y < 6
  · skip
    repeat' ((conv => whnf); first
      | (refine And.intro rfl ?_)
      | (refine And.intro (by decide +kernel) ?_)
      | (refine And.intro trivial ?_)
      | (refine Exists.intro _ (And.intro rfl (And.intro rfl (And.intro (Nat.le_of_ble_eq_true rfl) ?_))))
      | (refine Exists.intro _ (And.intro rfl (And.intro rfl (And.intro rfl (And.intro (Nat.le_of_ble_eq_true rfl) ?_)))))
      | (refine And.intro (Exists.intro _ (And.intro rfl rfl)) ?_)
      | (exact fun hW => absurd hW (by decide +kernel))
      | (intro hW; (try simp only [Bool.not_true, Bool.not_false, Bool.not_eq_true', Bool.not_eq_false', decide_eq_true_eq, decide_eq_false_iff_not, reduceCtorEq, Bool.true_eq_false, Bool.false_eq_true, mk_size, List.size_toArray, ByteArray.size_append, ByteArray.size_extract, List.length_cons, List.length_nil, ba_get, ba_empty, Int.toNat_natCast] at hW))
      | (refine And.intro (?_ : _ → _) (?_ : _ → _))
      | (refine FinR.drop 0 (Nat.zero_le _) (Closed.zero _) rfl ?_)
      | (refine FinR.keep ?_)
      | (refine And.intro (det3_agg rfl) ?_)
      | (refine fL_mk ?_)
      | (refine And.intro (by (try simp only [mk_size, List.size_toArray, ByteArray.size_append, ByteArray.size_extract, List.length_cons, List.length_nil]); omega) ?_)
      | (refine And.intro (by (try simp only [mk_size, List.size_toArray, ByteArray.size_append, ByteArray.size_extract, List.length_cons, List.length_nil, wrap64_eq]); omega) ?_)
      | fail)
    · refine LoopR.live (fun z : Nat × Nat × List Blk => [(0, .ptr b 0 0), (2, .ptr σ.length 0 0), (3, .ptr R.length 0 0), (4, I few), (5, I y), (6, I z.1)]) (fun z => z.2.2) (fun z => z.1 ≤ 6 ∧ CurAt b v (n + 2 + 12 * y + 2 * z.1) z.2.2 ∧ Keeps b σ z.2.2 ∧ z.2.2[σ.length]? = some (shC 0 0 0 0 0 0) ∧ z.2.2[R.length]? = some (bl z.2.1)) (fun z => 6 - z.1) (0, m, T) ⟨rfl, rfl, rfl, rfl, rfl, rfl, trivial⟩ (.keep rfl) ⟨Nat.zero_le _, hc, hk, q, q3⟩ ?_
      rintro ⟨x, m, T⟩ ⟨hx, hc, hk, q, q3⟩
      replace hx : x ≤ 6 := hx
      replace hc : CurAt b v (n + 2 + 12 * y + 2 * x) T := hc
      replace hk : Keeps b σ T := hk
      replace q : T[σ.length]? = some (shC 0 0 0 0 0 0) := q
      replace q3 : T[R.length]? = some (bl m) := q3
      by_cases hx6 : x < 6
      · skip
        repeat' ((conv => whnf); first
          | (refine And.intro rfl ?_)
          | (refine And.intro (by decide +kernel) ?_)
          | (refine And.intro trivial ?_)
          | (refine fS_mk ?_)
          | (refine d_one (hcd := hcd) (hc := hc) (hn := by omega) (hm := by have := mem5 hxx; omega) (h0 := fun w S hc1 hk1 => ?_) ..; have q := hk1.2 _ _ (by omega) q; have q3 := hk1.2 _ _ (by omega) q3; have hk := hk.trans hk1; have hc := hc1)
          | (refine Exists.intro _ (And.intro q3 (And.intro rfl (And.intro (Nat.le_of_ble_eq_true rfl) ?_))))
          | (refine d_l2FlipN (hx := hx6) (hy := hy6) (h0 := ?_) ..)
          | (refine Exists.intro _ (And.intro q3 (And.intro rfl (And.intro rfl (And.intro (Nat.le_of_ble_eq_true rfl) ?_)))))
          | (refine Exists.intro _ (And.intro rfl (And.intro rfl (And.intro (Nat.le_of_ble_eq_true rfl) ?_))))
          | (refine Exists.intro _ (And.intro rfl (And.intro rfl (And.intro rfl (And.intro (Nat.le_of_ble_eq_true rfl) ?_)))))
          | (refine And.intro (Exists.intro _ (And.intro rfl rfl)) ?_)
          | (exact fun hW => absurd hW (by decide +kernel))
          | (intro hW; (try simp only [Bool.not_true, Bool.not_false, Bool.not_eq_true', Bool.not_eq_false', decide_eq_true_eq, decide_eq_false_iff_not, reduceCtorEq, Bool.true_eq_false, Bool.false_eq_true, mk_size, List.size_toArray, ByteArray.size_append, ByteArray.size_extract, List.length_cons, List.length_nil, ba_get, ba_empty, Int.toNat_natCast] at hW))
          | (refine And.intro (?_ : _ → _) (?_ : _ → _))
          | (refine FinR.drop 0 (Nat.zero_le _) (Closed.zero _) rfl ?_)
          | (refine FinR.keep ?_)
          | (refine And.intro (det3_agg rfl) ?_)
          | (refine fL_mk ?_)
          | (refine And.intro (by (try simp only [mk_size, List.size_toArray, ByteArray.size_append, ByteArray.size_extract, List.length_cons, List.length_nil]); omega) ?_)
          | (refine And.intro (by (try simp only [mk_size, List.size_toArray, ByteArray.size_append, ByteArray.size_extract, List.length_cons, List.length_nil, wrap64_eq]); omega) ?_)
          | fail)
        all_goals first | (exfalso; omega) | skip
        · exact Again.go (x + 1, m ^^^ 2 ^ (6 * y + x), _) ⟨rfl, rfl, rfl, rfl, rfl, slI' (wsucc x (by omega)), trivial⟩ (.keep rfl) ⟨by omega, (hc.set (by omega)).mono (by show _ ≤ n + 2 + 12 * y + 2 * (x + 1); omega), hk.setO (by omega), getn q (by omega), get_set q3⟩ (by show _ < 6 - x; omega)
        · exact Again.go (x + 1, m, _) ⟨rfl, rfl, rfl, rfl, rfl, slI' (wsucc x (by omega)), trivial⟩ (.keep rfl) ⟨by omega, hc.mono (by show _ ≤ n + 2 + 12 * y + 2 * (x + 1); omega), hk, q, q3⟩ (by show _ < 6 - x; omega)
      · obtain rfl : x = 6 := by omega
        repeat' ((conv => whnf); first
          | (refine And.intro rfl ?_)
          | (refine And.intro (by decide +kernel) ?_)
          | (refine And.intro trivial ?_)
          | (refine Exists.intro _ (And.intro rfl (And.intro rfl (And.intro (Nat.le_of_ble_eq_true rfl) ?_))))
          | (refine Exists.intro _ (And.intro rfl (And.intro rfl (And.intro rfl (And.intro (Nat.le_of_ble_eq_true rfl) ?_)))))
          | (refine And.intro (Exists.intro _ (And.intro rfl rfl)) ?_)
          | (exact fun hW => absurd hW (by decide +kernel))
          | (intro hW; (try simp only [Bool.not_true, Bool.not_false, Bool.not_eq_true', Bool.not_eq_false', decide_eq_true_eq, decide_eq_false_iff_not, reduceCtorEq, Bool.true_eq_false, Bool.false_eq_true, mk_size, List.size_toArray, ByteArray.size_append, ByteArray.size_extract, List.length_cons, List.length_nil, ba_get, ba_empty, Int.toNat_natCast] at hW))
          | (refine And.intro (?_ : _ → _) (?_ : _ → _))
          | (refine FinR.drop 0 (Nat.zero_le _) (Closed.zero _) rfl ?_)
          | (refine FinR.keep ?_)
          | (refine And.intro (det3_agg rfl) ?_)
          | (refine fL_mk ?_)
          | (refine And.intro (by (try simp only [mk_size, List.size_toArray, ByteArray.size_append, ByteArray.size_extract, List.length_cons, List.length_nil]); omega) ?_)
          | (refine And.intro (by (try simp only [mk_size, List.size_toArray, ByteArray.size_append, ByteArray.size_extract, List.length_cons, List.length_nil, wrap64_eq]); omega) ?_)
          | fail)
        all_goals first | (exfalso; omega) | skip
        exact Again.go (y + 1, m, T) ⟨rfl, rfl, rfl, rfl, slI' (wsucc y (by omega)), trivial⟩ (.keep rfl) ⟨by omega, hc.mono (by omega), hk, q, q3⟩ (by show _ < 6 - y; omega)
    · exfalso; omega
  · obtain rfl : y = 6 := by omega
    repeat' ((conv => whnf); first
      | (refine And.intro rfl ?_)
      | (refine And.intro (by decide +kernel) ?_)
      | (refine And.intro trivial ?_)
      | (refine fS_mk ?_)
      | (refine Exists.intro _ (And.intro q3 (And.intro rfl (And.intro (Nat.le_of_ble_eq_true rfl) ?_))))
      | (refine d_pick (m := 40) (hcd := hcd) (hc := hc) (hn := by omega) (hm := by decide) (h0 := fun w S hw hw' hc1 hk1 => ?_) ..; have q := hk1.2 _ _ (by omega) q; have q3 := hk1.2 _ _ (by omega) q3; have hk := hk.trans hk1; have hc := hc1)
      | (refine Exists.intro _ (And.intro rfl (And.intro rfl (And.intro (Nat.le_of_ble_eq_true rfl) ?_))))
      | (refine Exists.intro _ (And.intro rfl (And.intro rfl (And.intro rfl (And.intro (Nat.le_of_ble_eq_true rfl) ?_)))))
      | (refine And.intro (Exists.intro _ (And.intro rfl rfl)) ?_)
      | (exact fun hW => absurd hW (by decide +kernel))
      | (intro hW; (try simp only [Bool.not_true, Bool.not_false, Bool.not_eq_true', Bool.not_eq_false', decide_eq_true_eq, decide_eq_false_iff_not, reduceCtorEq, Bool.true_eq_false, Bool.false_eq_true, mk_size, List.size_toArray, ByteArray.size_append, ByteArray.size_extract, List.length_cons, List.length_nil, ba_get, ba_empty, Int.toNat_natCast] at hW))
      | (refine And.intro (?_ : _ → _) (?_ : _ → _))
      | (refine FinR.drop 0 (Nat.zero_le _) (Closed.zero _) rfl ?_)
      | (refine FinR.keep ?_)
      | (refine And.intro (det3_agg rfl) ?_)
      | (refine fL_mk ?_)
      | (refine And.intro (by (try simp only [mk_size, List.size_toArray, ByteArray.size_append, ByteArray.size_extract, List.length_cons, List.length_nil]); omega) ?_)
      | (refine And.intro (by (try simp only [mk_size, List.size_toArray, ByteArray.size_append, ByteArray.size_extract, List.length_cons, List.length_nil, wrap64_eq]); omega) ?_)
      | fail)
    all_goals first | (exfalso; omega) | skip
    all_goals
      repeat' ((conv => whnf); first
        | (refine And.intro rfl ?_)
        | (refine And.intro (by decide +kernel) ?_)
        | (refine And.intro trivial ?_)
        | (refine d_pick (m := 6) (hcd := hcd) (hc := hc) (hn := by omega) (hm := by decide) (h0 := fun x S hx hx' hc1 hk1 => ?_) ..; have q := hk1.2 _ _ (by omega) q; have q3 := hk1.2 _ _ (by omega) q3; have hk := hk.trans hk1; have hc := hc1; obtain rfl | rfl | rfl | rfl | rfl | rfl : x = 0 ∨ x = 1 ∨ x = 2 ∨ x = 3 ∨ x = 4 ∨ x = 5 := by omega)
        | (refine d_among (y0 := -1) (ys := [64, 4611686018427387904]) (hL := getl) (hys := by decide) (hcd := hcd) (hc := hc.app) (hbl := by have := hc.lt; omega) (hn := by omega) (h0 := fun few R hxx hc1 hk1 => ?_) ..; have q := hk1.2 _ _ (by omega) (getx1 q); have q3 := hk1.2 _ _ (by omega) (getx1 q3); have hk := hk.trans hk1.snoc; have hc := hc1)
        | (refine fS_mk ?_)
        | (refine LoopR.unroll 6 ?_)
        | (refine And.intro ⟨_, q3, rfl⟩ ?_)
        | (refine And.intro ⟨_, get_set (q3), rfl⟩ ?_)
        | (refine And.intro ⟨_, get_set (get_set (q3)), rfl⟩ ?_)
        | (refine And.intro ⟨_, get_set (get_set (get_set (q3))), rfl⟩ ?_)
        | (refine And.intro ⟨_, get_set (get_set (get_set (get_set (q3)))), rfl⟩ ?_)
        | (refine And.intro ⟨_, get_set (get_set (get_set (get_set (get_set (q3))))), rfl⟩ ?_)
        | (refine Exists.intro _ (And.intro (q3) (And.intro rfl (And.intro rfl (And.intro (Nat.le_of_ble_eq_true rfl) ?_)))))
        | (refine Exists.intro _ (And.intro (get_set (q3)) (And.intro rfl (And.intro rfl (And.intro (Nat.le_of_ble_eq_true rfl) ?_)))))
        | (refine Exists.intro _ (And.intro (get_set (get_set (q3))) (And.intro rfl (And.intro rfl (And.intro (Nat.le_of_ble_eq_true rfl) ?_)))))
        | (refine Exists.intro _ (And.intro (get_set (get_set (get_set (q3)))) (And.intro rfl (And.intro rfl (And.intro (Nat.le_of_ble_eq_true rfl) ?_)))))
        | (refine Exists.intro _ (And.intro (get_set (get_set (get_set (get_set (q3))))) (And.intro rfl (And.intro rfl (And.intro (Nat.le_of_ble_eq_true rfl) ?_)))))
        | (refine Exists.intro _ (And.intro (get_set (get_set (get_set (get_set (get_set (q3)))))) (And.intro rfl (And.intro rfl (And.intro (Nat.le_of_ble_eq_true rfl) ?_)))))
        | (refine Exists.intro _ (And.intro (q3) (And.intro rfl (And.intro (Nat.le_of_ble_eq_true rfl) ?_))))
        | (refine Exists.intro _ (And.intro (get_set (q3)) (And.intro rfl (And.intro (Nat.le_of_ble_eq_true rfl) ?_))))
        | (refine Exists.intro _ (And.intro (get_set (get_set (q3))) (And.intro rfl (And.intro (Nat.le_of_ble_eq_true rfl) ?_))))
        | (refine Exists.intro _ (And.intro (get_set (get_set (get_set (q3)))) (And.intro rfl (And.intro (Nat.le_of_ble_eq_true rfl) ?_))))
        | (refine Exists.intro _ (And.intro (get_set (get_set (get_set (get_set (q3))))) (And.intro rfl (And.intro (Nat.le_of_ble_eq_true rfl) ?_))))
        | (refine Exists.intro _ (And.intro (get_set (get_set (get_set (get_set (get_set (q3)))))) (And.intro rfl (And.intro (Nat.le_of_ble_eq_true rfl) ?_))))
        | (refine Exists.intro _ (And.intro (q) (And.intro rfl (And.intro rfl (And.intro (Nat.le_of_ble_eq_true rfl) ?_)))))
        | (refine Exists.intro _ (And.intro (getn (q) (by omega)) (And.intro rfl (And.intro rfl (And.intro (Nat.le_of_ble_eq_true rfl) ?_)))))
        | (refine Exists.intro _ (And.intro (getn (getn (q) (by omega)) (by omega)) (And.intro rfl (And.intro rfl (And.intro (Nat.le_of_ble_eq_true rfl) ?_)))))
        | (refine Exists.intro _ (And.intro (getn (getn (getn (q) (by omega)) (by omega)) (by omega)) (And.intro rfl (And.intro rfl (And.intro (Nat.le_of_ble_eq_true rfl) ?_)))))
        | (refine Exists.intro _ (And.intro (getn (getn (getn (getn (q) (by omega)) (by omega)) (by omega)) (by omega)) (And.intro rfl (And.intro rfl (And.intro (Nat.le_of_ble_eq_true rfl) ?_)))))
        | (refine Exists.intro _ (And.intro (getn (getn (getn (getn (getn (q) (by omega)) (by omega)) (by omega)) (by omega)) (by omega)) (And.intro rfl (And.intro rfl (And.intro (Nat.le_of_ble_eq_true rfl) ?_)))))
        | (refine Exists.intro _ (And.intro (get_set (q)) (And.intro rfl (And.intro (Nat.le_of_ble_eq_true rfl) ?_))))
        | (refine Exists.intro _ (And.intro (get_set (getn (q) (by omega))) (And.intro rfl (And.intro (Nat.le_of_ble_eq_true rfl) ?_))))
        | (refine Exists.intro _ (And.intro (get_set (getn (getn (q) (by omega)) (by omega))) (And.intro rfl (And.intro (Nat.le_of_ble_eq_true rfl) ?_))))
        | (refine Exists.intro _ (And.intro (get_set (getn (getn (getn (q) (by omega)) (by omega)) (by omega))) (And.intro rfl (And.intro (Nat.le_of_ble_eq_true rfl) ?_))))
        | (refine Exists.intro _ (And.intro (get_set (getn (getn (getn (getn (q) (by omega)) (by omega)) (by omega)) (by omega))) (And.intro rfl (And.intro (Nat.le_of_ble_eq_true rfl) ?_))))
        | (refine Exists.intro _ (And.intro (get_set (getn (getn (getn (getn (getn (q) (by omega)) (by omega)) (by omega)) (by omega)) (by omega))) (And.intro rfl (And.intro (Nat.le_of_ble_eq_true rfl) ?_))))
        | (refine Exists.intro _ (And.intro rfl (And.intro rfl (And.intro (Nat.le_of_ble_eq_true rfl) ?_))))
        | (refine Exists.intro _ (And.intro rfl (And.intro rfl (And.intro rfl (And.intro (Nat.le_of_ble_eq_true rfl) ?_)))))
        | (refine And.intro (Exists.intro _ (And.intro rfl rfl)) ?_)
        | (exact fun hW => absurd hW (by decide +kernel))
        | (intro hW; (try simp only [Bool.not_true, Bool.not_false, Bool.not_eq_true', Bool.not_eq_false', decide_eq_true_eq, decide_eq_false_iff_not, reduceCtorEq, Bool.true_eq_false, Bool.false_eq_true, mk_size, List.size_toArray, ByteArray.size_append, ByteArray.size_extract, List.length_cons, List.length_nil, ba_get, ba_empty, Int.toNat_natCast] at hW))
        | (refine And.intro (?_ : _ → _) (?_ : _ → _))
        | (refine FinR.drop 0 (Nat.zero_le _) (Closed.zero _) rfl ?_)
        | (refine FinR.keep ?_)
        | (refine And.intro (det3_agg rfl) ?_)
        | (refine fL_mk ?_)
        | (refine And.intro (by (try simp only [mk_size, List.size_toArray, ByteArray.size_append, ByteArray.size_extract, List.length_cons, List.length_nil]); omega) ?_)
        | (refine And.intro (by (try simp only [mk_size, List.size_toArray, ByteArray.size_append, ByteArray.size_extract, List.length_cons, List.length_nil, wrap64_eq]); omega) ?_)
        | fail)
    all_goals (refine h0 _ _ _ _ _ _ _ ?_ ?_)
    all_goals repeat' (first | exact hc.mono (by omega) | exact hk | refine CurAt.set ?_ (by omega) | refine Keeps.setO ?_ (by omega))
end Go.Proofs.Ytkcbhdjhbnnlgaa
end

section
/- Contracts: stamps drawn from bytes. -/
set_option linter.unusedVariables false
set_option linter.unusedSimpArgs false
set_option maxRecDepth 100000
set_option maxHeartbeats 4000000
namespace Go.Proofs.Ytkcbhdjhbnnlgaa
open Go Go.RowKit Go.Proofs.Ytkcbhdjhbnnlgaa.Abs
variable {W0 : World} {σ : List Blk}
theorem mem4 {x a b c d : Int} (h : x ∈ [a, b, c, d]) : x = a ∨ x = b ∨ x = c ∨ x = d := by simpa using h
theorem mem6 {x a b c d e f : Int} (h : x ∈ [a, b, c, d, e, f]) : x = a ∨ x = b ∨ x = c ∨ x = d ∨ x = e ∨ x = f := by simpa using h
theorem wpred (n : Nat) (h : n < 1000000) (h1 : 0 < n) : IntKind.i64.wrap ((n : Int) - 1) = ((n - 1 : Nat) : Int) := by rw [wrap_i64 _ (by omega) (by omega)]; omega
theorem d_stampC (b n : Nat) (v : Value) (xs : List Int) (hcd : Code W0 v xs) (hc : CurAt b v n σ) (hn : n < 700000000) (K : Cont) (h0 : ∀ a1 a2 a3 a4 a5 a6 R, CurAt b v (n + 100) R → Keeps b σ R → K (Sh a1 a2 a3 a4 a5 a6) R) : ACall Try.prog W0 59 [.ptr b 0 0] σ K := by
  refine by59 (Nat.le_of_ble_eq_true rfl) ?_
  have hbl := hc.lt
  repeat' ((conv => whnf); first
    | (refine And.intro rfl ?_)
    | (refine And.intro (by decide +kernel) ?_)
    | (refine And.intro trivial ?_)
    | (refine Exists.intro _ (And.intro rfl (And.intro rfl (And.intro (Nat.le_of_ble_eq_true rfl) ?_))))
    | (refine Exists.intro _ (And.intro rfl (And.intro rfl (And.intro rfl (And.intro (Nat.le_of_ble_eq_true rfl) ?_)))))
    | (refine And.intro (Exists.intro _ (And.intro rfl rfl)) ?_)
    | (exact fun hW => absurd hW (by decide +kernel))
    | (intro hW; (try simp only [Bool.not_true, Bool.not_false, Bool.not_eq_true', Bool.not_eq_false', decide_eq_true_eq, decide_eq_false_iff_not, reduceCtorEq, Bool.true_eq_false, Bool.false_eq_true, mk_size, List.size_toArray, ByteArray.size_append, ByteArray.size_extract, List.length_cons, List.length_nil, ba_get, ba_empty, Int.toNat_natCast] at hW))
    | (refine And.intro (?_ : _ → _) (?_ : _ → _))
    | (refine FinR.drop 0 (Nat.zero_le _) (Closed.zero _) rfl ?_)
    | (refine FinR.keep ?_)
    | (refine And.intro (det3_agg rfl) ?_)
    | (refine fL_mk ?_)
    | (refine And.intro (by (try simp only [mk_size, List.size_toArray, ByteArray.size_append, ByteArray.size_extract, List.length_cons, List.length_nil]); omega) ?_)
    | (refine And.intro (by (try simp only [mk_size, List.size_toArray, ByteArray.size_append, ByteArray.size_extract, List.length_cons, List.length_nil, wrap64_eq]); omega) ?_)
    | fail)
  have hc := hc.app (τ := [shC 0 0 0 0 0 0])
  have q : (σ ++ [shC 0 0 0 0 0 0])[σ.length]? = some (shC 0 0 0 0 0 0) := getl
  have hk : Keeps b σ (σ ++ [shC 0 0 0 0 0 0]) := .app
  repeat' ((conv => whnf); first
    | (refine And.intro rfl ?_)
    | (refine And.intro (by decide +kernel) ?_)
    | (refine And.intro trivial ?_)
    | (refine fS_mk ?_)
    | (refine d_one (hcd := hcd) (hc := hc) (hn := by omega) (hm := by decide) (h0 := fun w S hc1 hk1 => ?_) ..; have q := hk1.2 _ _ (by omega) q; have hk := hk.trans hk1; have hc := hc1)
    | (refine d_sheetC (hcd := hcd) (hc := hc) (hn := by omega) (h0 := fun a1 a2 a3 a4 a5 a6 S hc1 hk1 => ?_) ..; have q := hk1.2 _ _ (by omega) q; have hk := hk.trans hk1; have hc := hc1)
    | (refine d_among (y0 := 2) (ys := [3, 2, 6]) (hL := getl) (hys := by decide) (hcd := hcd) (hc := hc.app) (hbl := by have := hc.lt; omega) (hn := by omega) (h0 := fun few Q hxx hc1 hk1 => ?_) ..; have q := hk1.2 _ _ (by omega) (getx1 q); have hk := hk.trans hk1.snoc; have hc := hc1)
    | (refine Exists.intro _ (And.intro q (And.intro rfl (And.intro rfl (And.intro (Nat.le_of_ble_eq_true rfl) ?_)))))
    | (refine Exists.intro _ (And.intro (get_set q) (And.intro rfl (And.intro (Nat.le_of_ble_eq_true rfl) ?_))))
    | (refine Exists.intro _ (And.intro getl (And.intro rfl (And.intro rfl (And.intro (Nat.le_of_ble_eq_true rfl) ?_)))); rw [set_last])
    | (refine Exists.intro _ (And.intro rfl (And.intro rfl (And.intro (Nat.le_of_ble_eq_true rfl) ?_))))
    | (refine Exists.intro _ (And.intro rfl (And.intro rfl (And.intro rfl (And.intro (Nat.le_of_ble_eq_true rfl) ?_)))))
    | (refine And.intro (Exists.intro _ (And.intro rfl rfl)) ?_)
    | (exact fun hW => absurd hW (by decide +kernel))
    | (intro hW; (try simp only [Bool.not_true, Bool.not_false, Bool.not_eq_true', Bool.not_eq_false', decide_eq_true_eq, decide_eq_false_iff_not, reduceCtorEq, Bool.true_eq_false, Bool.false_eq_true, mk_size, List.size_toArray, ByteArray.size_append, ByteArray.size_extract, List.length_cons, List.length_nil, ba_get, ba_empty, Int.toNat_natCast] at hW))
    | (refine And.intro (?_ : _ → _) (?_ : _ → _))
    | (refine FinR.drop 0 (Nat.zero_le _) (Closed.zero _) rfl ?_)
    | (refine FinR.keep ?_)
    | (refine And.intro (det3_agg rfl) ?_)
    | (refine fL_mk ?_)
    | (refine And.intro (by (try simp only [mk_size, List.size_toArray, ByteArray.size_append, ByteArray.size_extract, List.length_cons, List.length_nil]); omega) ?_)
    | (refine And.intro (by (try simp only [mk_size, List.size_toArray, ByteArray.size_append, ByteArray.size_extract, List.length_cons, List.length_nil, wrap64_eq]); omega) ?_)
    | fail)
  · refine h0 _ _ _ _ _ _ _ ?_ ?_
    all_goals repeat' (first | exact hc.mono (by omega) | exact hk | refine CurAt.set ?_ (by omega) | refine Keeps.setO ?_ (by omega))
  have q3 : (Q ++ [shC 0 0 0 0 0 0])[Q.length]? = some (shC 0 0 0 0 0 0) := getl
  have hRl := getElem?_lt q
  have hc := hc.app (τ := [shC 0 0 0 0 0 0])
  have q := getx1 (τ := [shC 0 0 0 0 0 0]) q
  have hk := hk.trans (.app (τ := [shC 0 0 0 0 0 0]))
  have hfew := mem4 hxx
  have hfew : few ≤ 65536 := by omega
  have hfe6 : 1 < few ∧ few ≤ 6 := by have := mem4 hxx; omega
  clear hxx hc1 hk1
  repeat' ((conv => whnf); first
    | (refine And.intro rfl ?_)
    | (refine And.intro (by decide +kernel) ?_)
    | (refine And.intro trivial ?_)
    | (refine fS_mk ?_)
    | (refine d_among (y0 := 3) (ys := [2, 1, 4, 5, 0]) (hL := getl) (hys := by decide) (hcd := hcd) (hc := hc.app) (hbl := by have := hc.lt; omega) (hn := by omega) (h0 := fun z R hxx hc1 hk1 => ?_) ..; have q := hk1.2 _ _ (by omega) (getx1 q); have q3 := hk1.2 _ _ (by omega) (getx1 q3); have hk := hk.trans hk1.snoc; have hc := hc1)
    | (refine Exists.intro _ (And.intro rfl (And.intro rfl (And.intro (Nat.le_of_ble_eq_true rfl) ?_))))
    | (refine Exists.intro _ (And.intro rfl (And.intro rfl (And.intro rfl (And.intro (Nat.le_of_ble_eq_true rfl) ?_)))))
    | (refine And.intro (Exists.intro _ (And.intro rfl rfl)) ?_)
    | (exact fun hW => absurd hW (by decide +kernel))
    | (intro hW; (try simp only [Bool.not_true, Bool.not_false, Bool.not_eq_true', Bool.not_eq_false', decide_eq_true_eq, decide_eq_false_iff_not, reduceCtorEq, Bool.true_eq_false, Bool.false_eq_true, mk_size, List.size_toArray, ByteArray.size_append, ByteArray.size_extract, List.length_cons, List.length_nil, ba_get, ba_empty, Int.toNat_natCast] at hW))
    | (refine And.intro (?_ : _ → _) (?_ : _ → _))
    | (refine FinR.drop 0 (Nat.zero_le _) (Closed.zero _) rfl ?_)
    | (refine FinR.keep ?_)
    | (refine And.intro (det3_agg rfl) ?_)
    | (refine fL_mk ?_)
    | (refine And.intro (by (try simp only [mk_size, List.size_toArray, ByteArray.size_append, ByteArray.size_extract, List.length_cons, List.length_nil]); omega) ?_)
    | (refine And.intro (by (try simp only [mk_size, List.size_toArray, ByteArray.size_append, ByteArray.size_extract, List.length_cons, List.length_nil, wrap64_eq]); omega) ?_)
    | fail)
  obtain ⟨z, rfl⟩ : ∃ k : Nat, z = k := ⟨z.toNat, by have := mem6 hxx; omega⟩
  have hz6 : z ≤ 5 := by have := mem6 hxx; omega
  clear hxx hc1 hk1
  refine LoopR.live (fun y : Nat × List Blk => [(0, .ptr b 0 0), (2, .ptr σ.length 0 0), (3, .ptr Q.length 0 0), (4, I few), (5, I y.1)]) (fun y => y.2) (fun y => y.1 ≤ z ∧ CurAt b v (n + 2 + 2 + 2 + 4 * (z - y.1)) y.2 ∧ Keeps b σ y.2 ∧ y.2[σ.length]? = some (shC 0 0 0 0 0 0) ∧ ∃ a1 a2 a3 a4 a5 a6, y.2[Q.length]? = some (shC a1 a2 a3 a4 a5 a6)) (fun y => y.1) (z, R) ⟨rfl, rfl, rfl, rfl, rfl, trivial⟩ (.keep rfl) ⟨Nat.le_refl _, hc.mono (by omega), hk, q, 0, 0, 0, 0, 0, 0, q3⟩ ?_
  clear hc hk q q3
  rintro ⟨y, T⟩ ⟨hy, hc, hk, q, a1, a2, a3, a4, a5, a6, q3⟩
  replace hy : y ≤ z := hy
  replace hc : CurAt b v (n + 2 + 2 + 2 + 4 * (z - y)) T := hc
  replace hk : Keeps b σ T := hk
  replace q : T[σ.length]? = some (shC 0 0 0 0 0 0) := q
  replace q3 : T[Q.length]? = some (shC a1 a2 a3 a4 a5 a6) := q3
  by_cases hy0 : 0 < y
  · skip
    repeat' ((conv => whnf); first
      | (refine And.intro x1 ?_)
      | (refine And.intro rfl ?_)
      | (refine And.intro (by decide +kernel) ?_)
      | (refine And.intro trivial ?_)
      | (refine fS_mk ?_)
      | (have hz9 := x1; refine d_pick (hcd := hcd) (hc := hc) (hn := by omega) (hm := hfew) (h0 := fun w S y1 y2 hc1 hk1 => ?_) ..; have q := hk1.2 _ _ (by omega) q; have q3 := hk1.2 _ _ (by omega) q3; have hk := hk.trans hk1; have hc := hc1; obtain rfl | rfl | rfl | rfl | rfl | rfl : w = 0 ∨ w = 1 ∨ w = 2 ∨ w = 3 ∨ w = 4 ∨ w = 5 := by omega)
      | (refine d_pick (hcd := hcd) (hc := hc) (hn := by omega) (hm := hfew) (h0 := fun x S x1 x2 hc1 hk1 => ?_) ..; have q := hk1.2 _ _ (by omega) q; have q3 := hk1.2 _ _ (by omega) q3; have hk := hk.trans hk1; have hc := hc1)
      | (refine And.intro ⟨_, q3, rfl⟩ ?_)
      | (refine Exists.intro _ (And.intro q3 (And.intro rfl (And.intro (Nat.le_of_ble_eq_true rfl) ?_))))
      | (refine Exists.intro _ (And.intro q3 (And.intro rfl (And.intro rfl (And.intro (Nat.le_of_ble_eq_true rfl) ?_)))))
      | (refine Exists.intro _ (And.intro rfl (And.intro rfl (And.intro (Nat.le_of_ble_eq_true rfl) ?_))))
      | (refine Exists.intro _ (And.intro rfl (And.intro rfl (And.intro rfl (And.intro (Nat.le_of_ble_eq_true rfl) ?_)))))
      | (refine And.intro (Exists.intro _ (And.intro rfl rfl)) ?_)
      | (exact fun hW => absurd hW (by decide +kernel))
      | (intro hW; (try simp only [Bool.not_true, Bool.not_false, Bool.not_eq_true', Bool.not_eq_false', decide_eq_true_eq, decide_eq_false_iff_not, reduceCtorEq, Bool.true_eq_false, Bool.false_eq_true, mk_size, List.size_toArray, ByteArray.size_append, ByteArray.size_extract, List.length_cons, List.length_nil, ba_get, ba_empty, Int.toNat_natCast] at hW))
      | (refine And.intro (?_ : _ → _) (?_ : _ → _))
      | (refine FinR.drop 0 (Nat.zero_le _) (Closed.zero _) rfl ?_)
      | (refine FinR.keep ?_)
      | (refine And.intro (det3_agg rfl) ?_)
      | (refine fL_mk ?_)
      | (refine And.intro (by (try simp only [mk_size, List.size_toArray, ByteArray.size_append, ByteArray.size_extract, List.length_cons, List.length_nil]); omega) ?_)
      | (refine And.intro (by (try simp only [mk_size, List.size_toArray, ByteArray.size_append, ByteArray.size_extract, List.length_cons, List.length_nil, wrap64_eq]); omega) ?_)
      | fail)
    all_goals first | (exfalso; omega) | exact Again.go (y - 1, _) ⟨rfl, rfl, rfl, rfl, slI' (wpred y (by omega) hy0), trivial⟩ (.keep rfl) ⟨by show _ ≤ z; omega, (hc.set (by omega)).mono (by show _ ≤ n + 2 + 2 + 2 + 4 * (z - (y - 1)); omega), hk.setO (by omega), getn q (by omega), _, _, _, _, _, _, get_set q3⟩ (by show _ < y; omega)
  · obtain rfl : y = 0 := by omega
    repeat' ((conv => whnf); first
      | (refine And.intro rfl ?_)
      | (refine And.intro (by decide +kernel) ?_)
      | (refine And.intro trivial ?_)
      | (refine fS_mk ?_)
      | (refine Exists.intro _ (And.intro q3 (And.intro rfl (And.intro (Nat.le_of_ble_eq_true rfl) ?_))))
      | (refine Exists.intro _ (And.intro q (And.intro rfl (And.intro rfl (And.intro (Nat.le_of_ble_eq_true rfl) ?_)))))
      | (refine Exists.intro _ (And.intro (get_set q) (And.intro rfl (And.intro (Nat.le_of_ble_eq_true rfl) ?_))))
      | (refine Exists.intro _ (And.intro rfl (And.intro rfl (And.intro (Nat.le_of_ble_eq_true rfl) ?_))))
      | (refine Exists.intro _ (And.intro rfl (And.intro rfl (And.intro rfl (And.intro (Nat.le_of_ble_eq_true rfl) ?_)))))
      | (refine And.intro (Exists.intro _ (And.intro rfl rfl)) ?_)
      | (exact fun hW => absurd hW (by decide +kernel))
      | (intro hW; (try simp only [Bool.not_true, Bool.not_false, Bool.not_eq_true', Bool.not_eq_false', decide_eq_true_eq, decide_eq_false_iff_not, reduceCtorEq, Bool.true_eq_false, Bool.false_eq_true, mk_size, List.size_toArray, ByteArray.size_append, ByteArray.size_extract, List.length_cons, List.length_nil, ba_get, ba_empty, Int.toNat_natCast] at hW))
      | (refine And.intro (?_ : _ → _) (?_ : _ → _))
      | (refine FinR.drop 0 (Nat.zero_le _) (Closed.zero _) rfl ?_)
      | (refine FinR.keep ?_)
      | (refine And.intro (det3_agg rfl) ?_)
      | (refine fL_mk ?_)
      | (refine And.intro (by (try simp only [mk_size, List.size_toArray, ByteArray.size_append, ByteArray.size_extract, List.length_cons, List.length_nil]); omega) ?_)
      | (refine And.intro (by (try simp only [mk_size, List.size_toArray, ByteArray.size_append, ByteArray.size_extract, List.length_cons, List.length_nil, wrap64_eq]); omega) ?_)
      | fail)
    all_goals first | (exfalso; omega) | skip
    refine h0 _ _ _ _ _ _ _ ?_ ?_
    all_goals repeat' (first | exact hc.mono (by omega) | exact hk | refine CurAt.set ?_ (by omega) | refine Keeps.setO ?_ (by omega))
end Go.Proofs.Ytkcbhdjhbnnlgaa
end

section
/- Contracts: what is drawn for presses, shifts, flips. -/
set_option linter.unusedVariables false
set_option linter.unusedSimpArgs false
set_option maxRecDepth 100000
set_option maxHeartbeats 4000000
namespace Go.Proofs.Ytkcbhdjhbnnlgaa
open Go Go.RowKit Go.Proofs.Ytkcbhdjhbnnlgaa.Abs
variable {W0 : World} {σ : List Blk}
theorem Code.below {W1 : World} {v : Value} {xs : List Int} (h : Code W0 v xs) (hb : Below W0.heap.size W0 W1) : Code W1 v xs := by
  have hh : HRel W0 [] [] W1 := ⟨hb, rfl, fun i j c t t' h => by simp at h, fun i c t h => by simp at h, fun i B c t h => by simp at h⟩
  obtain ⟨a', ha, hs⟩ := h.sli.conc hh ⟨v, (rfl : rel3 [] [] (.lit v) v)⟩
  obtain ⟨u, rfl⟩ := sli_lit hs
  have e : u = v := (ha v (rfl : rel3 [] [] (.lit v) v)).symm
  subst e
  exact ⟨hs, h.rng, h.len⟩
theorem varC_of {F : List Nat} {R : Prop} : ∀ {σ σ' : List Blk} {k : Nat}, (∀ (j : Nat) (B : Blk), σ[j]? = some B → ∃ B', σ'[j]? = some B' ∧ B'.ver = B.ver ∧ B'.esz = B.esz ∧ B'.row = B.row ∧ (memB (k + j) F = false → B' = B)) → R → varC F σ R k σ'
  | [], σ', k, _, h => h
  | B :: σ, [], k, hk, h => by obtain ⟨B', h1, _⟩ := hk 0 B rfl; cases h1
  | B :: σ, B' :: σ', k, hk, h => by
    obtain ⟨B0, h1, h2, h3, h4, h5⟩ := hk 0 B rfl
    cases h1
    have ih : varC F σ R (k + 1) σ' := varC_of (fun j C hC => by
      obtain ⟨C', g1, g2, g3, g4, g5⟩ := hk (j + 1) C hC
      exact ⟨C', g1, g2, g3, g4, fun e => g5 (by rw [show k + (j + 1) = k + 1 + j by omega]; exact e)⟩) h
    show (match memB k F with
      | true => B'.ver = B.ver ∧ B'.esz = B.esz ∧ B'.row = B.row ∧ varC F σ R (k + 1) σ'
      | false => B' = B ∧ varC F σ R (k + 1) σ' : Prop)
    cases hm : memB k F with
    | true => exact ⟨h2, h3, h4, ih⟩
    | false => exact ⟨h5 hm, ih⟩
/-- blocks but those of F are as they were -/
def VarK (F : List Nat) (S T : List Blk) : Prop := ∀ (j : Nat) (B : Blk), S[j]? = some B → ∃ B', T[j]? = some B' ∧ B'.ver = B.ver ∧ B'.esz = B.esz ∧ B'.row = B.row ∧ (memB j F = false → B' = B)
theorem varC_k {F : List Nat} {S T : List Blk} {R : Prop} (h : VarK F S T) (k : VarK F S T → R) : varC F S R 0 T :=
  varC_of (fun j B hB => by rw [Nat.zero_add]; exact h j B hB) (k h)
theorem VarK.cur {F : List Nat} {b n n' : Nat} {v : Value} {S T : List Blk} (hb : memB b F = true) (hc : CurAt b v n S) (hc1 : CurAt b v n' T) (hk : Keeps b S T) : VarK F S T := fun j B hB => by
  by_cases hj : j = b
  · subst hj
    obtain ⟨a, sd, _, h1⟩ := hc
    obtain ⟨a', sd', _, h2⟩ := hc1
    rw [h1] at hB; cases hB
    exact ⟨_, h2, rfl, rfl, rfl, fun e => by rw [hb] at e; cases e⟩
  · exact ⟨B, hk.2 j B hj hB, rfl, rfl, rfl, fun _ => rfl⟩
theorem VarK.set {F : List Nat} {i : Nat} {B0 X : Blk} {S T : List Blk} (h : VarK F S T) (hi : T[i]? = some B0) (h1 : X.ver = B0.ver) (h2 : X.esz = B0.esz) (h3 : X.row = B0.row) (hm : memB i F = true) : VarK F S (T.set i X) := fun j B hB => by
  obtain ⟨B', g1, g2, g3, g4, g5⟩ := h j B hB
  by_cases hj : i = j
  · subst hj
    rw [hi] at g1; cases g1
    exact ⟨X, get_set hi, h1.trans g2, h2.trans g3, h3.trans g4, fun e => by rw [hm] at e; cases e⟩
  · exact ⟨B', getn g1 hj, g2, g3, g4, g5⟩
theorem memB_no {k : Nat} : ∀ {l : List Nat}, (∀ x ∈ l, x ≠ k) → memB k l = false
  | [], _ => rfl
  | x :: l, h => by
    show cond (Nat.beq k x) true (memB k l) = false
    have e : Nat.beq k x = false := by
      cases hb : Nat.beq k x with
      | false => rfl
      | true => exact absurd (Nat.eq_of_beq_eq_true hb).symm (h x (by simp))
    rw [e]; exact memB_no fun y hy => h y (by simp [hy])
theorem memB_lt {k m : Nat} {l : List Nat} (h : (l.all fun x => Nat.ble x m) = true) (hm : m < k) : memB k l = false :=
  memB_no fun x hx e => by
    have := Nat.le_of_ble_eq_true (List.all_eq_true.1 h x hx)
    omega
abbrev ceC (x y : Int) : Blk := ⟨[I x, I y], 0, 27, 0, false, false⟩
theorem c_DrawToggleAt (v : Value) (xs : List Int) (hcd : Code W0 v xs) (K : Cont) (h0 : ∀ a1 a2 a3 a4 a5 a6 b1 b2 b3 b4 b5 b6 x y, K (.tup [Sh a1 a2 a3 a4 a5 a6, Sh b1 b2 b3 b4 b5 b6, Ce x y]) []) : ACall Try.prog W0 7 [.lit v] [] K := by
  refine by7 (Nat.le_of_ble_eq_true rfl) ?_
  obtain ⟨o, m, cap, hv, -, -, -, -⟩ := sli_form hcd.sli
  cases hv
  have hc : CurAt 3 (.slice o m cap) 0 [shC 0 0 0 0 0 0, shC 0 0 0 0 0 0, ceC 0 0, CurB (.slice o m cap) 0 0] := ⟨0, 0, Nat.le_refl _, rfl⟩
  repeat' ((conv => whnf); first
    | (refine And.intro rfl ?_)
    | (refine And.intro (by decide +kernel) ?_)
    | (refine And.intro trivial ?_)
    | (refine fS_mk ?_)
    | (refine d_cell (hcd := hcd) (hc := hc) (hn := by omega) (h0 := fun x y R hc1 hk1 => ?_) ..; have q0 := hk1.2 0 _ (by decide) rfl; have q1 := hk1.2 1 _ (by decide) rfl; have q2 := hk1.2 2 _ (by decide) rfl; have hc := hc1)
    | (refine d_stampC (hcd := hcd) (hc := hc) (hn := by omega) (h0 := fun b1 b2 b3 b4 b5 b6 S hc1 hk1 => ?_) ..; have q0 := hk1.2 _ _ (by decide) q0; have q1 := hk1.2 _ _ (by decide) q1; have q2 := hk1.2 _ _ (by decide) q2; have hc := hc1)
    | (refine Exists.intro _ (And.intro rfl (And.intro rfl (And.intro (Nat.le_of_ble_eq_true rfl) ?_))))
    | (refine Exists.intro _ (And.intro rfl (And.intro rfl (And.intro rfl (And.intro (Nat.le_of_ble_eq_true rfl) ?_)))))
    | (refine And.intro (Exists.intro _ (And.intro rfl rfl)) ?_)
    | (exact fun hW => absurd hW (by decide +kernel))
    | (intro hW; (try simp only [Bool.not_true, Bool.not_false, Bool.not_eq_true', Bool.not_eq_false', decide_eq_true_eq, decide_eq_false_iff_not, reduceCtorEq, Bool.true_eq_false, Bool.false_eq_true, mk_size, List.size_toArray, ByteArray.size_append, ByteArray.size_extract, List.length_cons, List.length_nil, ba_get, ba_empty, Int.toNat_natCast] at hW))
    | (refine And.intro (?_ : _ → _) (?_ : _ → _))
    | (refine FinR.drop 0 (Nat.zero_le _) (Closed.zero _) rfl ?_)
    | (refine FinR.keep ?_)
    | (refine And.intro (det3_agg rfl) ?_)
    | (refine fL_mk ?_)
    | (refine And.intro (by (try simp only [mk_size, List.size_toArray, ByteArray.size_append, ByteArray.size_extract, List.length_cons, List.length_nil]); omega) ?_)
    | (refine And.intro (by (try simp only [mk_size, List.size_toArray, ByteArray.size_append, ByteArray.size_extract, List.length_cons, List.length_nil, wrap64_eq]); omega) ?_)
    | fail)
  have hSl := hc.lt
  have eL : (S ++ [ceC 0 0]).length = S.length + 1 := by rw [List.length_append]; rfl
  have hSl1 : 3 < (S ++ [ceC 0 0]).length := by omega
  have n67 : S.length ≠ (S ++ [ceC 0 0]).length := by omega
  have n76 : (S ++ [ceC 0 0]).length ≠ S.length := by omega
  have n70 : (S ++ [ceC 0 0]).length ≠ 0 := by omega
  have n71 : (S ++ [ceC 0 0]).length ≠ 1 := by omega
  have n72 : (S ++ [ceC 0 0]).length ≠ 2 := by omega
  have n73 : (S ++ [ceC 0 0]).length ≠ 3 := by omega
  have q6 : ((S ++ [ceC 0 0]) ++ [shC 0 0 0 0 0 0])[S.length]? = some (ceC 0 0) := getx1 getl
  have q7 : ((S ++ [ceC 0 0]) ++ [shC 0 0 0 0 0 0])[(S ++ [ceC 0 0]).length]? = some (shC 0 0 0 0 0 0) := getl
  have hc := (hc.app (τ := [ceC 0 0])).app (τ := [shC 0 0 0 0 0 0])
  have q0 := getx1 (τ := [shC 0 0 0 0 0 0]) (getx1 (τ := [ceC 0 0]) q0)
  have q1 := getx1 (τ := [shC 0 0 0 0 0 0]) (getx1 (τ := [ceC 0 0]) q1)
  have q2 := getx1 (τ := [shC 0 0 0 0 0 0]) (getx1 (τ := [ceC 0 0]) q2)
  repeat' ((conv => whnf); first
    | (refine And.intro rfl ?_)
    | (refine And.intro (by decide +kernel) ?_)
    | (refine And.intro trivial ?_)
    | (refine fS_mk ?_)
    | (refine Exists.intro _ (And.intro (q6) (And.intro rfl (And.intro rfl (And.intro (Nat.le_of_ble_eq_true rfl) ?_)))))
    | (refine Exists.intro _ (And.intro (getn q7 n67) (And.intro rfl (And.intro rfl (And.intro (Nat.le_of_ble_eq_true rfl) ?_)))))
    | (refine d_sheetC (hcd := hcd) (hc := (hc.set (by omega)).set n73) (hn := by omega) (h0 := fun a1 a2 a3 a4 a5 a6 T hc1 hk1 => varC_k (VarK.cur (by rfl) ((hc.set (by omega)).set n73) hc1 hk1) fun hv => ?_) ..; have q6 := hk1.2 _ _ (by omega) (getn (get_set q6) n76); have q7 := hk1.2 _ _ n73 (get_set (getn q7 n67)); have q0 := hk1.2 _ _ (by decide) (getn (getn q0 (by omega)) n70); have q1 := hk1.2 _ _ (by decide) (getn (getn q1 (by omega)) n71); have q2 := hk1.2 _ _ (by decide) (getn (getn q2 (by omega)) n72))
    | (refine And.intro (memB_lt (m := 3) rfl hSl) ?_)
    | (refine And.intro (memB_lt (m := 3) rfl hSl1) ?_)
    | (refine Exists.intro _ (And.intro (q6) (And.intro rfl (And.intro (Nat.le_of_ble_eq_true rfl) ?_))))
    | (refine Exists.intro _ (And.intro (q7) (And.intro rfl (And.intro (Nat.le_of_ble_eq_true rfl) ?_))))
    | (refine Exists.intro _ (And.intro (getn (get_set q6) n76) (And.intro rfl (And.intro (Nat.le_of_ble_eq_true rfl) ?_))))
    | (refine Exists.intro _ (And.intro (get_set (getn q7 n67)) (And.intro rfl (And.intro (Nat.le_of_ble_eq_true rfl) ?_))))
    | (refine Exists.intro _ (And.intro (q0) (And.intro rfl (And.intro rfl (And.intro (Nat.le_of_ble_eq_true rfl) (fS_mk (varC_k (hv.set (q0) rfl rfl rfl (by rfl)) fun hv => ?_)))))))
    | (refine Exists.intro _ (And.intro (getn (q1) (show (0 : Nat) ≠ 1 by decide)) (And.intro rfl (And.intro rfl (And.intro (Nat.le_of_ble_eq_true rfl) (fS_mk (varC_k (hv.set (getn (q1) (show (0 : Nat) ≠ 1 by decide)) rfl rfl rfl (by rfl)) fun hv => ?_)))))))
    | (refine Exists.intro _ (And.intro (getn (getn (q2) (show (0 : Nat) ≠ 2 by decide)) (show (1 : Nat) ≠ 2 by decide)) (And.intro rfl (And.intro rfl (And.intro (Nat.le_of_ble_eq_true rfl) (fS_mk (varC_k (hv.set (getn (getn (q2) (show (0 : Nat) ≠ 2 by decide)) (show (1 : Nat) ≠ 2 by decide)) rfl rfl rfl (by rfl)) fun hv => ?_)))))))
    | (refine Exists.intro _ (And.intro (getn (getn (get_set (q0)) (show (1 : Nat) ≠ 0 by decide)) (show (2 : Nat) ≠ 0 by decide)) (And.intro rfl (And.intro (Nat.le_of_ble_eq_true rfl) ?_))))
    | (refine Exists.intro _ (And.intro (getn (get_set (getn (q1) (show (0 : Nat) ≠ 1 by decide))) (show (2 : Nat) ≠ 1 by decide)) (And.intro rfl (And.intro (Nat.le_of_ble_eq_true rfl) ?_))))
    | (refine Exists.intro _ (And.intro (get_set (getn (getn (q2) (show (0 : Nat) ≠ 2 by decide)) (show (1 : Nat) ≠ 2 by decide))) (And.intro rfl (And.intro (Nat.le_of_ble_eq_true rfl) ?_))))
    | (refine Exists.intro _ (And.intro rfl (And.intro rfl (And.intro (Nat.le_of_ble_eq_true rfl) ?_))))
    | (refine Exists.intro _ (And.intro rfl (And.intro rfl (And.intro rfl (And.intro (Nat.le_of_ble_eq_true rfl) ?_)))))
    | (refine And.intro (Exists.intro _ (And.intro rfl rfl)) ?_)
    | (exact fun hW => absurd hW (by decide +kernel))
    | (intro hW; (try simp only [Bool.not_true, Bool.not_false, Bool.not_eq_true', Bool.not_eq_false', decide_eq_true_eq, decide_eq_false_iff_not, reduceCtorEq, Bool.true_eq_false, Bool.false_eq_true, mk_size, List.size_toArray, ByteArray.size_append, ByteArray.size_extract, List.length_cons, List.length_nil, ba_get, ba_empty, Int.toNat_natCast] at hW))
    | (refine And.intro (?_ : _ → _) (?_ : _ → _))
    | (refine FinR.drop 0 (Nat.zero_le _) (Closed.zero _) rfl ?_)
    | (refine FinR.keep ?_)
    | (refine And.intro (det3_agg rfl) ?_)
    | (refine fL_mk ?_)
    | (refine And.intro (by (try simp only [mk_size, List.size_toArray, ByteArray.size_append, ByteArray.size_extract, List.length_cons, List.length_nil]); omega) ?_)
    | (refine And.intro (by (try simp only [mk_size, List.size_toArray, ByteArray.size_append, ByteArray.size_extract, List.length_cons, List.length_nil, wrap64_eq]); omega) ?_)
    | fail)
  all_goals exact h0 _ _ _ _ _ _ _ _ _ _ _ _ _ _
theorem d_DrawToggleAt (v : Value) (xs : List Int) (hcd : Code W0 v xs) (K : Cont) (h0 : ∀ a1 a2 a3 a4 a5 a6 b1 b2 b3 b4 b5 b6 x y, K (.tup [Sh a1 a2 a3 a4 a5 a6, Sh b1 b2 b3 b4 b5 b6, Ce x y]) σ) : ACall Try.prog W0 7 [.lit v] σ K := by
  refine ACall.frame (K0 := fun w σ' => ∃ a1 a2 a3 a4 a5 a6 b1 b2 b3 b4 b5 b6 x y, w = .tup [Sh a1 a2 a3 a4 a5 a6, Sh b1 b2 b3 b4 b5 b6, Ce x y] ∧ σ' = []) rfl (fun W1 hb => c_DrawToggleAt v xs (hcd.below hb) _ fun a1 a2 a3 a4 a5 a6 b1 b2 b3 b4 b5 b6 x y => ⟨a1, a2, a3, a4, a5, a6, b1, b2, b3, b4, b5, b6, x, y, rfl, rfl⟩) ?_
  rintro w σ' ⟨a1, a2, a3, a4, a5, a6, b1, b2, b3, b4, b5, b6, x, y, rfl, rfl⟩
  show K _ (σ ++ [])
  rw [List.append_nil]; exact h0 _ _ _ _ _ _ _ _ _ _ _ _ _ _
theorem c_DrawIsBlack (v : Value) (xs : List Int) (hcd : Code W0 v xs) (K : Cont) (h0 : ∀ a1 a2 a3 a4 a5 a6 x y, K (.tup [Sh a1 a2 a3 a4 a5 a6, Ce x y]) []) : ACall Try.prog W0 79 [.lit v] [] K := by
  refine by79 (Nat.le_of_ble_eq_true rfl) ?_
  obtain ⟨o, m, cap, hv, -, -, -, -⟩ := sli_form hcd.sli
  cases hv
  have hc : CurAt 2 (.slice o m cap) 0 [shC 0 0 0 0 0 0, ceC 0 0, CurB (.slice o m cap) 0 0] := ⟨0, 0, Nat.le_refl _, rfl⟩
  repeat' ((conv => whnf); first
    | (refine And.intro rfl ?_)
    | (refine And.intro (by decide +kernel) ?_)
    | (refine And.intro trivial ?_)
    | (refine fS_mk ?_)
    | (refine d_cell (hcd := hcd) (hc := hc) (hn := by omega) (h0 := fun x y S hc1 hk1 => ?_) ..; have q0 := hk1.2 0 _ (by decide) rfl; have q1 := hk1.2 1 _ (by decide) rfl; have hc := hc1)
    | (refine Exists.intro _ (And.intro rfl (And.intro rfl (And.intro (Nat.le_of_ble_eq_true rfl) ?_))))
    | (refine Exists.intro _ (And.intro rfl (And.intro rfl (And.intro rfl (And.intro (Nat.le_of_ble_eq_true rfl) ?_)))))
    | (refine And.intro (Exists.intro _ (And.intro rfl rfl)) ?_)
    | (exact fun hW => absurd hW (by decide +kernel))
    | (intro hW; (try simp only [Bool.not_true, Bool.not_false, Bool.not_eq_true', Bool.not_eq_false', decide_eq_true_eq, decide_eq_false_iff_not, reduceCtorEq, Bool.true_eq_false, Bool.false_eq_true, mk_size, List.size_toArray, ByteArray.size_append, ByteArray.size_extract, List.length_cons, List.length_nil, ba_get, ba_empty, Int.toNat_natCast] at hW))
    | (refine And.intro (?_ : _ → _) (?_ : _ → _))
    | (refine FinR.drop 0 (Nat.zero_le _) (Closed.zero _) rfl ?_)
    | (refine FinR.keep ?_)
    | (refine And.intro (det3_agg rfl) ?_)
    | (refine fL_mk ?_)
    | (refine And.intro (by (try simp only [mk_size, List.size_toArray, ByteArray.size_append, ByteArray.size_extract, List.length_cons, List.length_nil]); omega) ?_)
    | (refine And.intro (by (try simp only [mk_size, List.size_toArray, ByteArray.size_append, ByteArray.size_extract, List.length_cons, List.length_nil, wrap64_eq]); omega) ?_)
    | fail)
  have hSl := hc.lt
  have q6 : (S ++ [ceC 0 0])[S.length]? = some (ceC 0 0) := getl
  have hc := hc.app (τ := [ceC 0 0])
  have q0 := getx1 (τ := [ceC 0 0]) q0
  have q1 := getx1 (τ := [ceC 0 0]) q1
  repeat' ((conv => whnf); first
    | (refine And.intro rfl ?_)
    | (refine And.intro (by decide +kernel) ?_)
    | (refine And.intro trivial ?_)
    | (refine fS_mk ?_)
    | (refine Exists.intro _ (And.intro (q6) (And.intro rfl (And.intro rfl (And.intro (Nat.le_of_ble_eq_true rfl) ?_)))))
    | (refine d_sheetC (hcd := hcd) (hc := hc.set (by omega)) (hn := by omega) (h0 := fun a1 a2 a3 a4 a5 a6 T hc1 hk1 => varC_k (VarK.cur (by rfl) (hc.set (by omega)) hc1 hk1) fun hv => ?_) ..; have q6 := hk1.2 _ _ (by omega) (get_set q6); have q0 := hk1.2 _ _ (by decide) (getn q0 (by omega)); have q1 := hk1.2 _ _ (by decide) (getn q1 (by omega)))
    | (refine And.intro (memB_lt (m := 2) rfl hSl) ?_)
    | (refine Exists.intro _ (And.intro (q6) (And.intro rfl (And.intro (Nat.le_of_ble_eq_true rfl) ?_))))
    | (refine Exists.intro _ (And.intro (get_set (q6)) (And.intro rfl (And.intro (Nat.le_of_ble_eq_true rfl) ?_))))
    | (refine Exists.intro _ (And.intro (q0) (And.intro rfl (And.intro rfl (And.intro (Nat.le_of_ble_eq_true rfl) (fS_mk (varC_k (hv.set (q0) rfl rfl rfl (by rfl)) fun hv => ?_)))))))
    | (refine Exists.intro _ (And.intro (getn (q1) (show (0 : Nat) ≠ 1 by decide)) (And.intro rfl (And.intro rfl (And.intro (Nat.le_of_ble_eq_true rfl) (fS_mk (varC_k (hv.set (getn (q1) (show (0 : Nat) ≠ 1 by decide)) rfl rfl rfl (by rfl)) fun hv => ?_)))))))
    | (refine Exists.intro _ (And.intro (getn (get_set (q0)) (show (1 : Nat) ≠ 0 by decide)) (And.intro rfl (And.intro (Nat.le_of_ble_eq_true rfl) ?_))))
    | (refine Exists.intro _ (And.intro (get_set (getn (q1) (show (0 : Nat) ≠ 1 by decide))) (And.intro rfl (And.intro (Nat.le_of_ble_eq_true rfl) ?_))))
    | (refine Exists.intro _ (And.intro rfl (And.intro rfl (And.intro (Nat.le_of_ble_eq_true rfl) ?_))))
    | (refine Exists.intro _ (And.intro rfl (And.intro rfl (And.intro rfl (And.intro (Nat.le_of_ble_eq_true rfl) ?_)))))
    | (refine And.intro (Exists.intro _ (And.intro rfl rfl)) ?_)
    | (exact fun hW => absurd hW (by decide +kernel))
    | (intro hW; (try simp only [Bool.not_true, Bool.not_false, Bool.not_eq_true', Bool.not_eq_false', decide_eq_true_eq, decide_eq_false_iff_not, reduceCtorEq, Bool.true_eq_false, Bool.false_eq_true, mk_size, List.size_toArray, ByteArray.size_append, ByteArray.size_extract, List.length_cons, List.length_nil, ba_get, ba_empty, Int.toNat_natCast] at hW))
    | (refine And.intro (?_ : _ → _) (?_ : _ → _))
    | (refine FinR.drop 0 (Nat.zero_le _) (Closed.zero _) rfl ?_)
    | (refine FinR.keep ?_)
    | (refine And.intro (det3_agg rfl) ?_)
    | (refine fL_mk ?_)
    | (refine And.intro (by (try simp only [mk_size, List.size_toArray, ByteArray.size_append, ByteArray.size_extract, List.length_cons, List.length_nil]); omega) ?_)
    | (refine And.intro (by (try simp only [mk_size, List.size_toArray, ByteArray.size_append, ByteArray.size_extract, List.length_cons, List.length_nil, wrap64_eq]); omega) ?_)
    | fail)
  all_goals exact h0 _ _ _ _ _ _ _ _
theorem d_DrawIsBlack (v : Value) (xs : List Int) (hcd : Code W0 v xs) (K : Cont) (h0 : ∀ a1 a2 a3 a4 a5 a6 x y, K (.tup [Sh a1 a2 a3 a4 a5 a6, Ce x y]) σ) : ACall Try.prog W0 79 [.lit v] σ K := by
  refine ACall.frame (K0 := fun w σ' => ∃ a1 a2 a3 a4 a5 a6 x y, w = .tup [Sh a1 a2 a3 a4 a5 a6, Ce x y] ∧ σ' = []) rfl (fun W1 hb => c_DrawIsBlack v xs (hcd.below hb) _ fun a1 a2 a3 a4 a5 a6 x y => ⟨a1, a2, a3, a4, a5, a6, x, y, rfl, rfl⟩) ?_
  rintro w σ' ⟨a1, a2, a3, a4, a5, a6, x, y, rfl, rfl⟩
  show K _ (σ ++ [])
  rw [List.append_nil]; exact h0 _ _ _ _ _ _ _ _
theorem c_DrawFlipCell (v : Value) (xs : List Int) (hcd : Code W0 v xs) (K : Cont) (h0 : ∀ a1 a2 a3 a4 a5 a6 x y, K (.tup [Sh a1 a2 a3 a4 a5 a6, Ce x y]) []) : ACall Try.prog W0 18 [.lit v] [] K := by
  refine by18 (Nat.le_of_ble_eq_true rfl) ?_
  repeat' ((conv => whnf); first
    | (refine And.intro rfl ?_)
    | (refine And.intro (by decide +kernel) ?_)
    | (refine And.intro trivial ?_)
    | (refine d_DrawIsBlack (hcd := hcd) (h0 := fun a1 a2 a3 a4 a5 a6 x y => ?_) ..)
    | (refine Exists.intro _ (And.intro rfl (And.intro rfl (And.intro (Nat.le_of_ble_eq_true rfl) ?_))))
    | (refine Exists.intro _ (And.intro rfl (And.intro rfl (And.intro rfl (And.intro (Nat.le_of_ble_eq_true rfl) ?_)))))
    | (refine And.intro (Exists.intro _ (And.intro rfl rfl)) ?_)
    | (exact fun hW => absurd hW (by decide +kernel))
    | (intro hW; (try simp only [Bool.not_true, Bool.not_false, Bool.not_eq_true', Bool.not_eq_false', decide_eq_true_eq, decide_eq_false_iff_not, reduceCtorEq, Bool.true_eq_false, Bool.false_eq_true, mk_size, List.size_toArray, ByteArray.size_append, ByteArray.size_extract, List.length_cons, List.length_nil, ba_get, ba_empty, Int.toNat_natCast] at hW))
    | (refine And.intro (?_ : _ → _) (?_ : _ → _))
    | (refine FinR.drop 0 (Nat.zero_le _) (Closed.zero _) rfl ?_)
    | (refine FinR.keep ?_)
    | (refine And.intro (det3_agg rfl) ?_)
    | (refine fL_mk ?_)
    | (refine And.intro (by (try simp only [mk_size, List.size_toArray, ByteArray.size_append, ByteArray.size_extract, List.length_cons, List.length_nil]); omega) ?_)
    | (refine And.intro (by (try simp only [mk_size, List.size_toArray, ByteArray.size_append, ByteArray.size_extract, List.length_cons, List.length_nil, wrap64_eq]); omega) ?_)
    | fail)
  all_goals exact h0 _ _ _ _ _ _ _ _
theorem d_DrawFlipCell (v : Value) (xs : List Int) (hcd : Code W0 v xs) (K : Cont) (h0 : ∀ a1 a2 a3 a4 a5 a6 x y, K (.tup [Sh a1 a2 a3 a4 a5 a6, Ce x y]) σ) : ACall Try.prog W0 18 [.lit v] σ K := by
  refine ACall.frame (K0 := fun w σ' => ∃ a1 a2 a3 a4 a5 a6 x y, w = .tup [Sh a1 a2 a3 a4 a5 a6, Ce x y] ∧ σ' = []) rfl (fun W1 hb => c_DrawFlipCell v xs (hcd.below hb) _ fun a1 a2 a3 a4 a5 a6 x y => ⟨a1, a2, a3, a4, a5, a6, x, y, rfl, rfl⟩) ?_
  rintro w σ' ⟨a1, a2, a3, a4, a5, a6, x, y, rfl, rfl⟩
  show K _ (σ ++ [])
  rw [List.append_nil]; exact h0 _ _ _ _ _ _ _ _
theorem c_DrawShiftSheet (v : Value) (xs : List Int) (hcd : Code W0 v xs) (K : Cont) (h0 : ∀ a1 a2 a3 a4 a5 a6 dx dy, IntKind.i64.has dx → -6 ≤ dy ∧ dy ≤ 8 → K (.tup [Sh a1 a2 a3 a4 a5 a6, I dx, I dy]) []) : ACall Try.prog W0 14 [.lit v] [] K := by
  refine by14 (Nat.le_of_ble_eq_true rfl) ?_
  obtain ⟨o, m, cap, hv, -, -, -, -⟩ := sli_form hcd.sli
  cases hv
  have hc : CurAt 1 (.slice o m cap) 0 [shC 0 0 0 0 0 0, CurB (.slice o m cap) 0 0] := ⟨0, 0, Nat.le_refl _, rfl⟩
  repeat' ((conv => whnf); first
    | (refine And.intro rfl ?_)
    | (refine And.intro (by decide +kernel) ?_)
    | (refine And.intro trivial ?_)
    | (refine fS_mk ?_)
    | (have hz9 := hx1; refine d_pick (m := 15) (hcd := hcd) (hc := hc) (hn := by omega) (hm := by decide) (h0 := fun y R hy1 hy2 hc1 hk1 => ?_) ..; have q0 := hk1.2 _ _ (by decide) q0; have hc := hc1; have ey : IntKind.i64.wrap (y - 6) = y - 6 := wrap_i64 _ (by omega) (by omega))
    | (refine d_pick (m := 15) (hcd := hcd) (hc := hc) (hn := by omega) (hm := by decide) (h0 := fun x R hx1 hx2 hc1 hk1 => ?_) ..; have q0 := hk1.2 0 _ (by decide) rfl; have hc := hc1; have ex : IntKind.i64.wrap (x - 6) = x - 6 := wrap_i64 _ (by omega) (by omega))
    | (refine d_one (hcd := hcd) (hc := hc) (hn := by omega) (hm := by decide) (h0 := fun w R hc1 hk1 => ?_) ..; have q0 := hk1.2 _ _ (by decide) q0; have hc := hc1)
    | (refine d_among (y0 := 9223372036854775807) (ys := [-9223372036854775808, 4611686018427387904]) (hL := getl) (hys := by decide) (hcd := hcd) (hc := hc.app) (hbl := by have := hc.lt; omega) (hn := by omega) (h0 := fun z R hzz hc1 hk1 => ?_) ..; have q0 := hk1.2 _ _ (by decide) (getx1 q0); have hc := hc1)
    | (refine d_sheetC (hcd := hcd) (hc := hc) (hn := by omega) (h0 := fun a1 a2 a3 a4 a5 a6 R hc1 hk1 => ?_) ..; have q0 := hk1.2 _ _ (by decide) q0; have hc := hc1)
    | (refine Exists.intro _ (And.intro (q0) (And.intro rfl (And.intro rfl (And.intro (Nat.le_of_ble_eq_true rfl) ?_)))))
    | (refine Exists.intro _ (And.intro (get_set q0) (And.intro rfl (And.intro (Nat.le_of_ble_eq_true rfl) ?_))))
    | (refine Exists.intro _ (And.intro rfl (And.intro rfl (And.intro (Nat.le_of_ble_eq_true rfl) ?_))))
    | (refine Exists.intro _ (And.intro rfl (And.intro rfl (And.intro rfl (And.intro (Nat.le_of_ble_eq_true rfl) ?_)))))
    | (refine And.intro (Exists.intro _ (And.intro rfl rfl)) ?_)
    | (exact fun hW => absurd hW (by decide +kernel))
    | (intro hW; (try simp only [Bool.not_true, Bool.not_false, Bool.not_eq_true', Bool.not_eq_false', decide_eq_true_eq, decide_eq_false_iff_not, reduceCtorEq, Bool.true_eq_false, Bool.false_eq_true, mk_size, List.size_toArray, ByteArray.size_append, ByteArray.size_extract, List.length_cons, List.length_nil, ba_get, ba_empty, Int.toNat_natCast] at hW))
    | (refine And.intro (?_ : _ → _) (?_ : _ → _))
    | (refine FinR.drop 0 (Nat.zero_le _) (Closed.zero _) rfl ?_)
    | (refine FinR.keep ?_)
    | (refine And.intro (det3_agg rfl) ?_)
    | (refine fL_mk ?_)
    | (refine And.intro (by (try simp only [mk_size, List.size_toArray, ByteArray.size_append, ByteArray.size_extract, List.length_cons, List.length_nil]); omega) ?_)
    | (refine And.intro (by (try simp only [mk_size, List.size_toArray, ByteArray.size_append, ByteArray.size_extract, List.length_cons, List.length_nil, wrap64_eq]); omega) ?_)
    | fail)
  · refine h0 _ _ _ _ _ _ _ _ ?_ ?_
    · have := mem3 hzz; exact ⟨by show (-9223372036854775808 : Int) ≤ _; omega, by show _ ≤ (9223372036854775807 : Int); omega⟩
    · rw [ey]; omega
  · refine h0 _ _ _ _ _ _ _ _ ?_ ?_
    · rw [ex]; exact ⟨by show (-9223372036854775808 : Int) ≤ _; omega, by show _ ≤ (9223372036854775807 : Int); omega⟩
    · rw [ey]; omega
theorem d_DrawShiftSheet (v : Value) (xs : List Int) (hcd : Code W0 v xs) (K : Cont) (h0 : ∀ a1 a2 a3 a4 a5 a6 dx dy, IntKind.i64.has dx → -6 ≤ dy ∧ dy ≤ 8 → K (.tup [Sh a1 a2 a3 a4 a5 a6, I dx, I dy]) σ) : ACall Try.prog W0 14 [.lit v] σ K := by
  refine ACall.frame (K0 := fun w σ' => ∃ a1 a2 a3 a4 a5 a6 x y, IntKind.i64.has x ∧ (-6 ≤ y ∧ y ≤ 8) ∧ w = .tup [Sh a1 a2 a3 a4 a5 a6, I x, I y] ∧ σ' = []) rfl (fun W1 hb => c_DrawShiftSheet v xs (hcd.below hb) _ fun a1 a2 a3 a4 a5 a6 x y hx hy => ⟨a1, a2, a3, a4, a5, a6, x, y, hx, hy, rfl, rfl⟩) ?_
  rintro w σ' ⟨a1, a2, a3, a4, a5, a6, x, y, hx, hy, rfl, rfl⟩
  show K _ (σ ++ [])
  rw [List.append_nil]; exact h0 _ _ _ _ _ _ _ _ hx hy
end Go.Proofs.Ytkcbhdjhbnnlgaa
end

section
/- Contracts: CommonCells of the program, and its law. -/
set_option linter.unusedVariables false
set_option linter.unusedSimpArgs false
namespace Go.Proofs.Ytkcbhdjhbnnlgaa
open Go Go.RowKit Go.Proofs.Ytkcbhdjhbnnlgaa.Abs
variable {W0 : World} {σ : List Blk}
theorem c_sizeN (x : Nat) (hx : x < 18446744073709551616) (K : Cont) (h0 : K (I (ones 64 x : Nat)) []) : ACall Try.prog W0 86 [U x] [] K := by
  refine c_size _ K ?_
  rw [pcI_ones x hx]
  exact h0
theorem d_sizeN (x : Nat) (hx : x < 18446744073709551616) (K : Cont) (h0 : K (I (ones 64 x : Nat)) σ) : ACall Try.prog W0 86 [U x] σ K :=
  ACall.lift rfl (fun _ => rfl) (fun W1 K _ hK => c_sizeN x hx K hK) h0
end Go.Proofs.Ytkcbhdjhbnnlgaa
end

section
/- Arithmetic: presses of sets twice, back again; sizes of shifted sets. -/
set_option linter.unusedVariables false
set_option linter.unusedSimpArgs false
set_option maxRecDepth 100000
namespace Go.Proofs.Ytkcbhdjhbnnlgaa
open Go Go.RowKit Go.Proofs.Ytkcbhdjhbnnlgaa.Abs
theorem xor_twice (n p : Nat) : (n ^^^ p) ^^^ p = n := by rw [Nat.xor_assoc, Nat.xor_self, Nat.xor_zero]
theorem bit_hi {n j : Nat} (h : n < 2 ^ 36) (hj : ¬ j < 36) : n.testBit j = false := Nat.testBit_lt_two_pow (Nat.lt_of_lt_of_le h (Nat.pow_le_pow_right (by decide) (by omega)))
theorem or_cov {n p : Nat} (hp : p < 2 ^ 36) : p &&& (fullN ^^^ (n ||| p)) = 0 := by
  apply Nat.eq_of_testBit_eq; intro j
  rw [Nat.testBit_and, Nat.testBit_xor, Nat.testBit_or, Nat.zero_testBit]
  by_cases hj : j < 36
  · rw [full_bit hj]; cases p.testBit j <;> simp
  · rw [bit_hi hp hj]; simp
theorem and_wip {n p : Nat} (hp : p < 2 ^ 36) : p &&& (n &&& (fullN ^^^ p)) = 0 := by
  apply Nat.eq_of_testBit_eq; intro j
  rw [Nat.testBit_and, Nat.testBit_and, Nat.testBit_xor, Nat.zero_testBit]
  by_cases hj : j < 36
  · rw [full_bit hj]; cases p.testBit j <;> simp
  · rw [bit_hi hp hj]; simp
theorem sh_back : ∀ x, x < 6 → ∀ y, y < 6 → ∀ j, j < 36 → shH x y (shH ((6 - x) % 6) ((6 - y) % 6) j) = j ∧ shH x y j < 36 ∧ shH ((6 - x) % 6) ((6 - y) % 6) j < 36 := by decide +kernel
theorem mv_back {n x y : Nat} (hn : n < 2 ^ 36) (hx : x < 6) (hy : y < 6) : mvN (shG ((6 - x) % 6) ((6 - y) % 6)) (mvN (shG x y) n 36) 36 = n := by
  have h1 : (6 - x) % 6 < 6 := by omega
  have h2 : (6 - y) % 6 < 6 := by omega
  apply Nat.eq_of_testBit_eq; intro j
  by_cases hj : j < 36
  · obtain ⟨e, _, e2⟩ := sh_back x hx y hy j hj
    rw [mvN_perm (sh_perm _ h1 _ h2) _ hj, mvN_perm (sh_perm x hx y hy) _ e2, e]
  · rw [bit_hi hn hj, bit_hi (mvN_lt (sh_perm _ h1 _ h2) _) hj]
theorem ones_sum : ∀ k x, ones k x = ((List.range k).map fun i => (x.testBit i).toNat).sum
  | 0, _ => rfl
  | k + 1, x => by
    have h : ones (k + 1) x = x % 2 + ones k (x / 2) := rfl
    rw [h, ones_sum k, List.range_succ_eq_map, List.map_cons, List.sum_cons, List.map_map]
    have e : (x.testBit 0).toNat = x % 2 := by
      rw [Nat.testBit_zero]
      rcases Nat.mod_two_eq_zero_or_one x with h | h <;> rw [h] <;> rfl
    rw [e]
    congr 2
    apply List.map_congr_left; intro i _
    show ((x / 2).testBit i).toNat = (x.testBit (i + 1)).toNat
    rw [Nat.testBit_succ]
theorem sh_list : ∀ x, x < 6 → ∀ y, y < 6 → ((List.range 36).map (shH x y)).isPerm (List.range 36) = true := by decide +kernel
theorem ones_36 {n : Nat} (h : n < 2 ^ 36) : ones 64 n = ones 36 n := by
  rw [show 64 = 36 + 28 from rfl, ones_add, Nat.div_eq_of_lt h, ones_zero]; omega
theorem ones_mv {n x y : Nat} (hn : n < 2 ^ 36) (hx : x < 6) (hy : y < 6) : ones 64 (mvN (shG x y) n 36) = ones 64 n := by
  rw [ones_36 hn, ones_36 (mvN_lt (sh_perm x hx y hy) n), ones_sum, ones_sum]
  have e : (List.range 36).map (fun i => ((mvN (shG x y) n 36).testBit i).toNat) = ((List.range 36).map (shH x y)).map fun i => (n.testBit i).toNat := by
    rw [List.map_map]
    apply List.map_congr_left; intro i hi
    rw [mvN_perm (sh_perm x hx y hy) n (List.mem_range.1 hi)]; rfl
  rw [e]
  exact ((List.isPerm_iff.1 (sh_list x hx y hy)).map _).sum_nat
theorem flip_bit {n k : Nat} : (n ^^^ 2 ^ k).testBit k = !n.testBit k := by
  rw [Nat.testBit_xor, Nat.testBit_two_pow_self]; cases n.testBit k <;> rfl
end Go.Proofs.Ytkcbhdjhbnnlgaa
end

section
/- Contracts: presses of whatever sheets; cells, shifts, sizes, parts. -/
set_option linter.unusedVariables false
set_option linter.unusedSimpArgs false
set_option maxRecDepth 100000
set_option maxHeartbeats 4000000
namespace Go.Proofs.Ytkcbhdjhbnnlgaa
open Go Go.RowKit Go.Proofs.Ytkcbhdjhbnnlgaa.Abs
variable {W0 : World} {σ : List Blk}
variable {a b c d e f a' b' c' d' e' f' : Int} {x y : Int}
theorem c_twoSetsF (h : (shB6 a b c d e f && shB6 a' b' c' d' e' f') = false) (K : Cont) (h0 : ∀ p q, K (.tup [U p, U q, Bo false]) []) : ACall Try.prog W0 87 [Sh a b c d e f, Sh a' b' c' d' e' f'] [] K := by
  refine by87 (Nat.le_of_ble_eq_true rfl) ?_
  have e1 : ∃ p, setR a b c d e f = .tup [U p, Bo (shB6 a b c d e f)] := by unfold setR; cases shB6 a b c d e f <;> exact ⟨_, rfl⟩
  have e2 : ∃ p, setR a' b' c' d' e' f' = .tup [U p, Bo (shB6 a' b' c' d' e' f')] := by unfold setR; cases shB6 a' b' c' d' e' f' <;> exact ⟨_, rfl⟩
  obtain ⟨p, e1⟩ := e1
  obtain ⟨q, e2⟩ := e2
  cases hs : shB6 a b c d e f with
  | false =>
    rw [hs] at e1
    repeat' ((conv => whnf); first
      | (refine And.intro rfl ?_)
      | (refine And.intro (by decide +kernel) ?_)
      | (refine And.intro trivial ?_)
      | (refine d_setOf (a := a) (b := b) (c := c) (d := d) (e := e) (f := f) (h0 := ?_) ..; rw [e1])
      | (refine d_setOf (a := a') (b := b') (c := c') (d := d') (e := e') (f := f') (h0 := ?_) ..; rw [e2])
      | (refine Exists.intro _ (And.intro rfl (And.intro rfl (And.intro (Nat.le_of_ble_eq_true rfl) ?_))))
      | (refine Exists.intro _ (And.intro rfl (And.intro rfl (And.intro rfl (And.intro (Nat.le_of_ble_eq_true rfl) ?_)))))
      | (refine And.intro (Exists.intro _ (And.intro rfl rfl)) ?_)
      | (exact fun hW => absurd hW (by decide +kernel))
      | (intro hW; (try simp only [Bool.not_true, Bool.not_false, Bool.not_eq_true', Bool.not_eq_false', decide_eq_true_eq, decide_eq_false_iff_not, reduceCtorEq, Bool.true_eq_false, Bool.false_eq_true, mk_size, List.size_toArray, ByteArray.size_append, ByteArray.size_extract, List.length_cons, List.length_nil, ba_get, ba_empty, Int.toNat_natCast] at hW))
      | (refine And.intro (?_ : _ → _) (?_ : _ → _))
      | (refine FinR.drop 0 (Nat.zero_le _) (Closed.zero _) rfl ?_)
      | (refine FinR.keep ?_)
      | (refine And.intro (det3_agg rfl) ?_)
      | (refine fL_mk ?_)
      | (refine And.intro (by (try simp only [mk_size, List.size_toArray, ByteArray.size_append, ByteArray.size_extract, List.length_cons, List.length_nil]); omega) ?_)
      | (refine And.intro (by (try simp only [mk_size, List.size_toArray, ByteArray.size_append, ByteArray.size_extract, List.length_cons, List.length_nil, wrap64_eq]); omega) ?_)
      | fail)
    all_goals first | exact h0 _ _ | (exfalso; simp_all; done)
  | true =>
    rw [hs] at e1 h
    rw [Bool.true_and] at h
    rw [h] at e2
    repeat' ((conv => whnf); first
      | (refine And.intro rfl ?_)
      | (refine And.intro (by decide +kernel) ?_)
      | (refine And.intro trivial ?_)
      | (refine d_setOf (a := a) (b := b) (c := c) (d := d) (e := e) (f := f) (h0 := ?_) ..; rw [e1])
      | (refine d_setOf (a := a') (b := b') (c := c') (d := d') (e := e') (f := f') (h0 := ?_) ..; rw [e2])
      | (refine Exists.intro _ (And.intro rfl (And.intro rfl (And.intro (Nat.le_of_ble_eq_true rfl) ?_))))
      | (refine Exists.intro _ (And.intro rfl (And.intro rfl (And.intro rfl (And.intro (Nat.le_of_ble_eq_true rfl) ?_)))))
      | (refine And.intro (Exists.intro _ (And.intro rfl rfl)) ?_)
      | (exact fun hW => absurd hW (by decide +kernel))
      | (intro hW; (try simp only [Bool.not_true, Bool.not_false, Bool.not_eq_true', Bool.not_eq_false', decide_eq_true_eq, decide_eq_false_iff_not, reduceCtorEq, Bool.true_eq_false, Bool.false_eq_true, mk_size, List.size_toArray, ByteArray.size_append, ByteArray.size_extract, List.length_cons, List.length_nil, ba_get, ba_empty, Int.toNat_natCast] at hW))
      | (refine And.intro (?_ : _ → _) (?_ : _ → _))
      | (refine FinR.drop 0 (Nat.zero_le _) (Closed.zero _) rfl ?_)
      | (refine FinR.keep ?_)
      | (refine And.intro (det3_agg rfl) ?_)
      | (refine fL_mk ?_)
      | (refine And.intro (by (try simp only [mk_size, List.size_toArray, ByteArray.size_append, ByteArray.size_extract, List.length_cons, List.length_nil]); omega) ?_)
      | (refine And.intro (by (try simp only [mk_size, List.size_toArray, ByteArray.size_append, ByteArray.size_extract, List.length_cons, List.length_nil, wrap64_eq]); omega) ?_)
      | fail)
    all_goals first | exact h0 _ _ | (exfalso; simp_all; done)
theorem d_twoSetsF (h : (shB6 a b c d e f && shB6 a' b' c' d' e' f') = false) (K : Cont) (h0 : ∀ p q, K (.tup [U p, U q, Bo false]) σ) : ACall Try.prog W0 87 [Sh a b c d e f, Sh a' b' c' d' e' f'] σ K := by
  refine ACall.frame (K0 := fun v σ' => ∃ p q, v = .tup [U p, U q, Bo false] ∧ σ' = []) rfl (fun W1 _ => c_twoSetsF h _ fun p q => ⟨p, q, rfl, rfl⟩) ?_
  rintro v σ' ⟨p, q, rfl, rfl⟩
  show K _ (σ ++ [])
  rw [List.append_nil]; exact h0 p q
/-- whether a press is one -/
def prV (a b c d e f a' b' c' d' e' f' x y : Int) : Bool := (shB6 a b c d e f && shB6 a' b' c' d' e' f') && cellB x y
theorem c_pressG (h : prV a b c d e f a' b' c' d' e' f' x y = false) (g : FuncId) (K : Cont) (h0 : K (.tup [Sh0, Bo false]) []) : ACall Try.prog W0 61 [Sh a b c d e f, Sh a' b' c' d' e' f', Ce x y, .lit (.func (.func g) #[] #[])] [] K := by
  unfold prV at h
  cases hs : shB6 a b c d e f && shB6 a' b' c' d' e' f' with
  | false =>
    refine by61 (Nat.le_of_ble_eq_true rfl) ?_
    repeat' ((conv => whnf); first
      | (refine And.intro rfl ?_)
      | (refine And.intro (by decide +kernel) ?_)
      | (refine And.intro trivial ?_)
      | (refine d_twoSetsF (h := hs) (h0 := fun p q => ?_) ..)
      | (refine Exists.intro _ (And.intro rfl (And.intro rfl (And.intro (Nat.le_of_ble_eq_true rfl) ?_))))
      | (refine Exists.intro _ (And.intro rfl (And.intro rfl (And.intro rfl (And.intro (Nat.le_of_ble_eq_true rfl) ?_)))))
      | (refine And.intro (Exists.intro _ (And.intro rfl rfl)) ?_)
      | (exact fun hW => absurd hW (by decide +kernel))
      | (intro hW; (try simp only [Bool.not_true, Bool.not_false, Bool.not_eq_true', Bool.not_eq_false', decide_eq_true_eq, decide_eq_false_iff_not, reduceCtorEq, Bool.true_eq_false, Bool.false_eq_true, mk_size, List.size_toArray, ByteArray.size_append, ByteArray.size_extract, List.length_cons, List.length_nil, ba_get, ba_empty, Int.toNat_natCast] at hW))
      | (refine And.intro (?_ : _ → _) (?_ : _ → _))
      | (refine FinR.drop 0 (Nat.zero_le _) (Closed.zero _) rfl ?_)
      | (refine FinR.keep ?_)
      | (refine And.intro (det3_agg rfl) ?_)
      | (refine fL_mk ?_)
      | (refine And.intro (by (try simp only [mk_size, List.size_toArray, ByteArray.size_append, ByteArray.size_extract, List.length_cons, List.length_nil]); omega) ?_)
      | (refine And.intro (by (try simp only [mk_size, List.size_toArray, ByteArray.size_append, ByteArray.size_extract, List.length_cons, List.length_nil, wrap64_eq]); omega) ?_)
      | fail)
    all_goals first | exact h0 | (exfalso; simp_all; done)
  | true =>
    rw [hs, Bool.true_and] at h
    rw [Bool.and_eq_true] at hs
    obtain ⟨n, hn, rfl, rfl, rfl, rfl, rfl, rfl⟩ := shN_of hs.1
    obtain ⟨m, hm, rfl, rfl, rfl, rfl, rfl, rfl⟩ := shN_of hs.2
    exact c_pressF n m hn hm x y h _ K h0
theorem d_pressG (h : prV a b c d e f a' b' c' d' e' f' x y = false) (g : FuncId) (K : Cont) (h0 : K (.tup [Sh0, Bo false]) σ) : ACall Try.prog W0 61 [Sh a b c d e f, Sh a' b' c' d' e' f', Ce x y, .lit (.func (.func g) #[] #[])] σ K :=
  ACall.lift rfl (fun _ => rfl) (fun W1 K _ hK => c_pressG h g K hK) h0
theorem c_ToggleG (h : prV a b c d e f a' b' c' d' e' f' x y = false) (K : Cont) (h0 : K (.tup [Sh0, Bo false]) []) : ACall Try.prog W0 8 [Sh a b c d e f, Sh a' b' c' d' e' f', Ce x y] [] K := by
  refine by8 (Nat.le_of_ble_eq_true rfl) ?_
  repeat' ((conv => whnf); first
    | (refine And.intro rfl ?_)
    | (refine And.intro (by decide +kernel) ?_)
    | (refine And.intro trivial ?_)
    | (refine d_pressG (h := h) (h0 := ?_) ..)
    | (refine Exists.intro _ (And.intro rfl (And.intro rfl (And.intro (Nat.le_of_ble_eq_true rfl) ?_))))
    | (refine Exists.intro _ (And.intro rfl (And.intro rfl (And.intro rfl (And.intro (Nat.le_of_ble_eq_true rfl) ?_)))))
    | (refine And.intro (Exists.intro _ (And.intro rfl rfl)) ?_)
    | (exact fun hW => absurd hW (by decide +kernel))
    | (intro hW; (try simp only [Bool.not_true, Bool.not_false, Bool.not_eq_true', Bool.not_eq_false', decide_eq_true_eq, decide_eq_false_iff_not, reduceCtorEq, Bool.true_eq_false, Bool.false_eq_true, mk_size, List.size_toArray, ByteArray.size_append, ByteArray.size_extract, List.length_cons, List.length_nil, ba_get, ba_empty, Int.toNat_natCast] at hW))
    | (refine And.intro (?_ : _ → _) (?_ : _ → _))
    | (refine FinR.drop 0 (Nat.zero_le _) (Closed.zero _) rfl ?_)
    | (refine FinR.keep ?_)
    | (refine And.intro (det3_agg rfl) ?_)
    | (refine fL_mk ?_)
    | (refine And.intro (by (try simp only [mk_size, List.size_toArray, ByteArray.size_append, ByteArray.size_extract, List.length_cons, List.length_nil]); omega) ?_)
    | (refine And.intro (by (try simp only [mk_size, List.size_toArray, ByteArray.size_append, ByteArray.size_extract, List.length_cons, List.length_nil, wrap64_eq]); omega) ?_)
    | fail)
  all_goals exact h0
theorem d_ToggleG (h : prV a b c d e f a' b' c' d' e' f' x y = false) (K : Cont) (h0 : K (.tup [Sh0, Bo false]) σ) : ACall Try.prog W0 8 [Sh a b c d e f, Sh a' b' c' d' e' f', Ce x y] σ K :=
  ACall.lift rfl (fun _ => rfl) (fun W1 K _ hK => c_ToggleG h K hK) h0
theorem c_InkG (h : prV a b c d e f a' b' c' d' e' f' x y = false) (K : Cont) (h0 : K (.tup [Sh0, Bo false]) []) : ACall Try.prog W0 10 [Sh a b c d e f, Sh a' b' c' d' e' f', Ce x y] [] K := by
  refine by10 (Nat.le_of_ble_eq_true rfl) ?_
  repeat' ((conv => whnf); first
    | (refine And.intro rfl ?_)
    | (refine And.intro (by decide +kernel) ?_)
    | (refine And.intro trivial ?_)
    | (refine d_pressG (h := h) (h0 := ?_) ..)
    | (refine Exists.intro _ (And.intro rfl (And.intro rfl (And.intro (Nat.le_of_ble_eq_true rfl) ?_))))
    | (refine Exists.intro _ (And.intro rfl (And.intro rfl (And.intro rfl (And.intro (Nat.le_of_ble_eq_true rfl) ?_)))))
    | (refine And.intro (Exists.intro _ (And.intro rfl rfl)) ?_)
    | (exact fun hW => absurd hW (by decide +kernel))
    | (intro hW; (try simp only [Bool.not_true, Bool.not_false, Bool.not_eq_true', Bool.not_eq_false', decide_eq_true_eq, decide_eq_false_iff_not, reduceCtorEq, Bool.true_eq_false, Bool.false_eq_true, mk_size, List.size_toArray, ByteArray.size_append, ByteArray.size_extract, List.length_cons, List.length_nil, ba_get, ba_empty, Int.toNat_natCast] at hW))
    | (refine And.intro (?_ : _ → _) (?_ : _ → _))
    | (refine FinR.drop 0 (Nat.zero_le _) (Closed.zero _) rfl ?_)
    | (refine FinR.keep ?_)
    | (refine And.intro (det3_agg rfl) ?_)
    | (refine fL_mk ?_)
    | (refine And.intro (by (try simp only [mk_size, List.size_toArray, ByteArray.size_append, ByteArray.size_extract, List.length_cons, List.length_nil]); omega) ?_)
    | (refine And.intro (by (try simp only [mk_size, List.size_toArray, ByteArray.size_append, ByteArray.size_extract, List.length_cons, List.length_nil, wrap64_eq]); omega) ?_)
    | fail)
  all_goals exact h0
theorem d_InkG (h : prV a b c d e f a' b' c' d' e' f' x y = false) (K : Cont) (h0 : K (.tup [Sh0, Bo false]) σ) : ACall Try.prog W0 10 [Sh a b c d e f, Sh a' b' c' d' e' f', Ce x y] σ K :=
  ACall.lift rfl (fun _ => rfl) (fun W1 K _ hK => c_InkG h K hK) h0
theorem c_WipeG (h : prV a b c d e f a' b' c' d' e' f' x y = false) (K : Cont) (h0 : K (.tup [Sh0, Bo false]) []) : ACall Try.prog W0 12 [Sh a b c d e f, Sh a' b' c' d' e' f', Ce x y] [] K := by
  refine by12 (Nat.le_of_ble_eq_true rfl) ?_
  repeat' ((conv => whnf); first
    | (refine And.intro rfl ?_)
    | (refine And.intro (by decide +kernel) ?_)
    | (refine And.intro trivial ?_)
    | (refine d_pressG (h := h) (h0 := ?_) ..)
    | (refine Exists.intro _ (And.intro rfl (And.intro rfl (And.intro (Nat.le_of_ble_eq_true rfl) ?_))))
    | (refine Exists.intro _ (And.intro rfl (And.intro rfl (And.intro rfl (And.intro (Nat.le_of_ble_eq_true rfl) ?_)))))
    | (refine And.intro (Exists.intro _ (And.intro rfl rfl)) ?_)
    | (exact fun hW => absurd hW (by decide +kernel))
    | (intro hW; (try simp only [Bool.not_true, Bool.not_false, Bool.not_eq_true', Bool.not_eq_false', decide_eq_true_eq, decide_eq_false_iff_not, reduceCtorEq, Bool.true_eq_false, Bool.false_eq_true, mk_size, List.size_toArray, ByteArray.size_append, ByteArray.size_extract, List.length_cons, List.length_nil, ba_get, ba_empty, Int.toNat_natCast] at hW))
    | (refine And.intro (?_ : _ → _) (?_ : _ → _))
    | (refine FinR.drop 0 (Nat.zero_le _) (Closed.zero _) rfl ?_)
    | (refine FinR.keep ?_)
    | (refine And.intro (det3_agg rfl) ?_)
    | (refine fL_mk ?_)
    | (refine And.intro (by (try simp only [mk_size, List.size_toArray, ByteArray.size_append, ByteArray.size_extract, List.length_cons, List.length_nil]); omega) ?_)
    | (refine And.intro (by (try simp only [mk_size, List.size_toArray, ByteArray.size_append, ByteArray.size_extract, List.length_cons, List.length_nil, wrap64_eq]); omega) ?_)
    | fail)
  all_goals exact h0
theorem d_WipeG (h : prV a b c d e f a' b' c' d' e' f' x y = false) (K : Cont) (h0 : K (.tup [Sh0, Bo false]) σ) : ACall Try.prog W0 12 [Sh a b c d e f, Sh a' b' c' d' e' f', Ce x y] σ K :=
  ACall.lift rfl (fun _ => rfl) (fun W1 K _ hK => c_WipeG h K hK) h0
theorem c_l2PressG (K : Cont) (h0 : K (Bo (prV a b c d e f a' b' c' d' e' f' x y)) []) : ACall Try.prog W0 63 [Sh a b c d e f, Sh a' b' c' d' e' f', Ce x y] [] K := by
  refine by63 (Nat.le_of_ble_eq_true rfl) ?_
  unfold prV at h0
  cases hs : shB6 a b c d e f <;> cases hs' : shB6 a' b' c' d' e' f' <;> rw [hs, hs'] at h0
  all_goals
    repeat' ((conv => whnf); first
      | (refine And.intro rfl ?_)
      | (refine And.intro (by decide +kernel) ?_)
      | (refine And.intro trivial ?_)
      | (refine d_l2Sheet (a := a) (b := b) (c := c) (d := d) (e := e) (f := f) (h0 := ?_) ..; rw [hs])
      | (refine d_l2Sheet (a := a') (b := b') (c := c') (d := d') (e := e') (f := f') (h0 := ?_) ..; rw [hs'])
      | (refine d_l2Cell (h0 := ?_) ..)
      | (refine Exists.intro _ (And.intro (fun τ => callW_fn (d_l2Cell (h0 := And.intro rfl rfl) ..)) ?_))
      | (refine Exists.intro _ (And.intro (callW_fn (d_l2Cell (h0 := And.intro rfl rfl) ..)) (And.intro trivial ?_)))
      | (refine Exists.intro _ (And.intro (callW_fn (d_l2Cell (h0 := And.intro rfl rfl) ..)) ?_))
      | (refine Exists.intro _ (And.intro (fun τ _ => callW_fn (d_l2Cell (h0 := And.intro rfl rfl) ..)) ?_))
      | (refine Exists.intro _ (And.intro rfl (And.intro rfl (And.intro (Nat.le_of_ble_eq_true rfl) ?_))))
      | (refine Exists.intro _ (And.intro rfl (And.intro rfl (And.intro rfl (And.intro (Nat.le_of_ble_eq_true rfl) ?_)))))
      | (refine And.intro (Exists.intro _ (And.intro rfl rfl)) ?_)
      | (exact fun hW => absurd hW (by decide +kernel))
      | (intro hW; (try simp only [Bool.not_true, Bool.not_false, Bool.not_eq_true', Bool.not_eq_false', decide_eq_true_eq, decide_eq_false_iff_not, reduceCtorEq, Bool.true_eq_false, Bool.false_eq_true, mk_size, List.size_toArray, ByteArray.size_append, ByteArray.size_extract, List.length_cons, List.length_nil, ba_get, ba_empty, Int.toNat_natCast] at hW))
      | (refine And.intro (?_ : _ → _) (?_ : _ → _))
      | (refine FinR.drop 0 (Nat.zero_le _) (Closed.zero _) rfl ?_)
      | (refine FinR.keep ?_)
      | (refine And.intro (det3_agg rfl) ?_)
      | (refine fL_mk ?_)
      | (refine And.intro (by (try simp only [mk_size, List.size_toArray, ByteArray.size_append, ByteArray.size_extract, List.length_cons, List.length_nil]); omega) ?_)
      | (refine And.intro (by (try simp only [mk_size, List.size_toArray, ByteArray.size_append, ByteArray.size_extract, List.length_cons, List.length_nil, wrap64_eq]); omega) ?_)
      | fail)
    all_goals first | exact h0 | (exfalso; simp_all; done)
theorem d_l2PressG  (K : Cont) (h0 : K (Bo (prV a b c d e f a' b' c' d' e' f' x y)) σ) : ACall Try.prog W0 63 [Sh a b c d e f, Sh a' b' c' d' e' f', Ce x y] σ K :=
  ACall.lift rfl (fun _ => rfl) (fun W1 K _ hK => c_l2PressG  K hK) h0
theorem c_sToggleG (h : prV a b c d e f a' b' c' d' e' f' x y = false) (K : Cont) (h0 : K (.tup [Sh0, Bo false]) []) : ACall Try.prog W0 9 [Sh a b c d e f, Sh a' b' c' d' e' f', Ce x y] [] K := by
  refine by9 (Nat.le_of_ble_eq_true rfl) ?_
  repeat' ((conv => whnf); first
    | (refine And.intro rfl ?_)
    | (refine And.intro (by decide +kernel) ?_)
    | (refine And.intro trivial ?_)
    | (refine d_l2PressG (h0 := ?_) ..; rw [h])
    | (refine Exists.intro _ (And.intro rfl (And.intro rfl (And.intro (Nat.le_of_ble_eq_true rfl) ?_))))
    | (refine Exists.intro _ (And.intro rfl (And.intro rfl (And.intro rfl (And.intro (Nat.le_of_ble_eq_true rfl) ?_)))))
    | (refine And.intro (Exists.intro _ (And.intro rfl rfl)) ?_)
    | (exact fun hW => absurd hW (by decide +kernel))
    | (intro hW; (try simp only [Bool.not_true, Bool.not_false, Bool.not_eq_true', Bool.not_eq_false', decide_eq_true_eq, decide_eq_false_iff_not, reduceCtorEq, Bool.true_eq_false, Bool.false_eq_true, mk_size, List.size_toArray, ByteArray.size_append, ByteArray.size_extract, List.length_cons, List.length_nil, ba_get, ba_empty, Int.toNat_natCast] at hW))
    | (refine And.intro (?_ : _ → _) (?_ : _ → _))
    | (refine FinR.drop 0 (Nat.zero_le _) (Closed.zero _) rfl ?_)
    | (refine FinR.keep ?_)
    | (refine And.intro (det3_agg rfl) ?_)
    | (refine fL_mk ?_)
    | (refine And.intro (by (try simp only [mk_size, List.size_toArray, ByteArray.size_append, ByteArray.size_extract, List.length_cons, List.length_nil]); omega) ?_)
    | (refine And.intro (by (try simp only [mk_size, List.size_toArray, ByteArray.size_append, ByteArray.size_extract, List.length_cons, List.length_nil, wrap64_eq]); omega) ?_)
    | fail)
  all_goals first | exact h0 | (exfalso; simp_all; done)
theorem d_sToggleG (h : prV a b c d e f a' b' c' d' e' f' x y = false) (K : Cont) (h0 : K (.tup [Sh0, Bo false]) σ) : ACall Try.prog W0 9 [Sh a b c d e f, Sh a' b' c' d' e' f', Ce x y] σ K :=
  ACall.lift rfl (fun _ => rfl) (fun W1 K _ hK => c_sToggleG h K hK) h0
theorem c_sInkG (h : prV a b c d e f a' b' c' d' e' f' x y = false) (K : Cont) (h0 : K (.tup [Sh0, Bo false]) []) : ACall Try.prog W0 11 [Sh a b c d e f, Sh a' b' c' d' e' f', Ce x y] [] K := by
  refine by11 (Nat.le_of_ble_eq_true rfl) ?_
  repeat' ((conv => whnf); first
    | (refine And.intro rfl ?_)
    | (refine And.intro (by decide +kernel) ?_)
    | (refine And.intro trivial ?_)
    | (refine d_l2PressG (h0 := ?_) ..; rw [h])
    | (refine Exists.intro _ (And.intro rfl (And.intro rfl (And.intro (Nat.le_of_ble_eq_true rfl) ?_))))
    | (refine Exists.intro _ (And.intro rfl (And.intro rfl (And.intro rfl (And.intro (Nat.le_of_ble_eq_true rfl) ?_)))))
    | (refine And.intro (Exists.intro _ (And.intro rfl rfl)) ?_)
    | (exact fun hW => absurd hW (by decide +kernel))
    | (intro hW; (try simp only [Bool.not_true, Bool.not_false, Bool.not_eq_true', Bool.not_eq_false', decide_eq_true_eq, decide_eq_false_iff_not, reduceCtorEq, Bool.true_eq_false, Bool.false_eq_true, mk_size, List.size_toArray, ByteArray.size_append, ByteArray.size_extract, List.length_cons, List.length_nil, ba_get, ba_empty, Int.toNat_natCast] at hW))
    | (refine And.intro (?_ : _ → _) (?_ : _ → _))
    | (refine FinR.drop 0 (Nat.zero_le _) (Closed.zero _) rfl ?_)
    | (refine FinR.keep ?_)
    | (refine And.intro (det3_agg rfl) ?_)
    | (refine fL_mk ?_)
    | (refine And.intro (by (try simp only [mk_size, List.size_toArray, ByteArray.size_append, ByteArray.size_extract, List.length_cons, List.length_nil]); omega) ?_)
    | (refine And.intro (by (try simp only [mk_size, List.size_toArray, ByteArray.size_append, ByteArray.size_extract, List.length_cons, List.length_nil, wrap64_eq]); omega) ?_)
    | fail)
  all_goals first | exact h0 | (exfalso; simp_all; done)
theorem d_sInkG (h : prV a b c d e f a' b' c' d' e' f' x y = false) (K : Cont) (h0 : K (.tup [Sh0, Bo false]) σ) : ACall Try.prog W0 11 [Sh a b c d e f, Sh a' b' c' d' e' f', Ce x y] σ K :=
  ACall.lift rfl (fun _ => rfl) (fun W1 K _ hK => c_sInkG h K hK) h0
theorem c_sWipeG (h : prV a b c d e f a' b' c' d' e' f' x y = false) (K : Cont) (h0 : K (.tup [Sh0, Bo false]) []) : ACall Try.prog W0 13 [Sh a b c d e f, Sh a' b' c' d' e' f', Ce x y] [] K := by
  refine by13 (Nat.le_of_ble_eq_true rfl) ?_
  repeat' ((conv => whnf); first
    | (refine And.intro rfl ?_)
    | (refine And.intro (by decide +kernel) ?_)
    | (refine And.intro trivial ?_)
    | (refine d_l2PressG (h0 := ?_) ..; rw [h])
    | (refine Exists.intro _ (And.intro rfl (And.intro rfl (And.intro (Nat.le_of_ble_eq_true rfl) ?_))))
    | (refine Exists.intro _ (And.intro rfl (And.intro rfl (And.intro rfl (And.intro (Nat.le_of_ble_eq_true rfl) ?_)))))
    | (refine And.intro (Exists.intro _ (And.intro rfl rfl)) ?_)
    | (exact fun hW => absurd hW (by decide +kernel))
    | (intro hW; (try simp only [Bool.not_true, Bool.not_false, Bool.not_eq_true', Bool.not_eq_false', decide_eq_true_eq, decide_eq_false_iff_not, reduceCtorEq, Bool.true_eq_false, Bool.false_eq_true, mk_size, List.size_toArray, ByteArray.size_append, ByteArray.size_extract, List.length_cons, List.length_nil, ba_get, ba_empty, Int.toNat_natCast] at hW))
    | (refine And.intro (?_ : _ → _) (?_ : _ → _))
    | (refine FinR.drop 0 (Nat.zero_le _) (Closed.zero _) rfl ?_)
    | (refine FinR.keep ?_)
    | (refine And.intro (det3_agg rfl) ?_)
    | (refine fL_mk ?_)
    | (refine And.intro (by (try simp only [mk_size, List.size_toArray, ByteArray.size_append, ByteArray.size_extract, List.length_cons, List.length_nil]); omega) ?_)
    | (refine And.intro (by (try simp only [mk_size, List.size_toArray, ByteArray.size_append, ByteArray.size_extract, List.length_cons, List.length_nil, wrap64_eq]); omega) ?_)
    | fail)
  all_goals first | exact h0 | (exfalso; simp_all; done)
theorem d_sWipeG (h : prV a b c d e f a' b' c' d' e' f' x y = false) (K : Cont) (h0 : K (.tup [Sh0, Bo false]) σ) : ACall Try.prog W0 13 [Sh a b c d e f, Sh a' b' c' d' e' f', Ce x y] σ K :=
  ACall.lift rfl (fun _ => rfl) (fun W1 K _ hK => c_sWipeG h K hK) h0
theorem c_sShiftT (n : Nat) (dx dy : Int) (x y : Nat) (hx : dx % 6 = x) (hy : dy % 6 = y) (K : Cont) (h0 : K (.tup [ShN (mvN (shG x y) n 36), Bo true]) []) : ACall Try.prog W0 16 [ShN n, I dx, I dy] [] K := by
  refine by16 (Nat.le_of_ble_eq_true rfl) ?_
  repeat' ((conv => whnf); first
    | (refine And.intro rfl ?_)
    | (refine And.intro (by decide +kernel) ?_)
    | (refine And.intro trivial ?_)
    | (refine d_l2SheetN (h0 := ?_) ..)
    | (refine Exists.intro _ (And.intro (fun τ => callW_fn (d_l2SheetN (h0 := And.intro rfl rfl) ..)) ?_))
    | (refine Exists.intro _ (And.intro (callW_fn (d_l2SheetN (h0 := And.intro rfl rfl) ..)) (And.intro trivial ?_)))
    | (refine Exists.intro _ (And.intro (callW_fn (d_l2SheetN (h0 := And.intro rfl rfl) ..)) ?_))
    | (refine Exists.intro _ (And.intro (fun τ _ => callW_fn (d_l2SheetN (h0 := And.intro rfl rfl) ..)) ?_))
    | (refine d_l2ShiftN (hx := hx) (hy := hy) (h0 := ?_) ..)
    | (refine Exists.intro _ (And.intro rfl (And.intro rfl (And.intro (Nat.le_of_ble_eq_true rfl) ?_))))
    | (refine Exists.intro _ (And.intro rfl (And.intro rfl (And.intro rfl (And.intro (Nat.le_of_ble_eq_true rfl) ?_)))))
    | (refine And.intro (Exists.intro _ (And.intro rfl rfl)) ?_)
    | (exact fun hW => absurd hW (by decide +kernel))
    | (intro hW; (try simp only [Bool.not_true, Bool.not_false, Bool.not_eq_true', Bool.not_eq_false', decide_eq_true_eq, decide_eq_false_iff_not, reduceCtorEq, Bool.true_eq_false, Bool.false_eq_true, mk_size, List.size_toArray, ByteArray.size_append, ByteArray.size_extract, List.length_cons, List.length_nil, ba_get, ba_empty, Int.toNat_natCast] at hW))
    | (refine And.intro (?_ : _ → _) (?_ : _ → _))
    | (refine FinR.drop 0 (Nat.zero_le _) (Closed.zero _) rfl ?_)
    | (refine FinR.keep ?_)
    | (refine And.intro (det3_agg rfl) ?_)
    | (refine fL_mk ?_)
    | (refine And.intro (by (try simp only [mk_size, List.size_toArray, ByteArray.size_append, ByteArray.size_extract, List.length_cons, List.length_nil]); omega) ?_)
    | (refine And.intro (by (try simp only [mk_size, List.size_toArray, ByteArray.size_append, ByteArray.size_extract, List.length_cons, List.length_nil, wrap64_eq]); omega) ?_)
    | fail)
  all_goals first | exact h0 | (exfalso; simp_all; done)
theorem d_sShiftT (n : Nat) (dx dy : Int) (x y : Nat) (hx : dx % 6 = x) (hy : dy % 6 = y) (K : Cont) (h0 : K (.tup [ShN (mvN (shG x y) n 36), Bo true]) σ) : ACall Try.prog W0 16 [ShN n, I dx, I dy] σ K :=
  ACall.lift rfl (fun _ => rfl) (fun W1 K _ hK => c_sShiftT n dx dy x y hx hy K hK) h0
theorem c_sShiftF (h : shB6 a b c d e f = false) (dx dy : Int) (K : Cont) (h0 : K (.tup [Sh0, Bo false]) []) : ACall Try.prog W0 16 [Sh a b c d e f, I dx, I dy] [] K := by
  refine by16 (Nat.le_of_ble_eq_true rfl) ?_
  repeat' ((conv => whnf); first
    | (refine And.intro rfl ?_)
    | (refine And.intro (by decide +kernel) ?_)
    | (refine And.intro trivial ?_)
    | (refine d_l2Sheet (h0 := ?_) ..; rw [h])
    | (refine Exists.intro _ (And.intro rfl (And.intro rfl (And.intro (Nat.le_of_ble_eq_true rfl) ?_))))
    | (refine Exists.intro _ (And.intro rfl (And.intro rfl (And.intro rfl (And.intro (Nat.le_of_ble_eq_true rfl) ?_)))))
    | (refine And.intro (Exists.intro _ (And.intro rfl rfl)) ?_)
    | (exact fun hW => absurd hW (by decide +kernel))
    | (intro hW; (try simp only [Bool.not_true, Bool.not_false, Bool.not_eq_true', Bool.not_eq_false', decide_eq_true_eq, decide_eq_false_iff_not, reduceCtorEq, Bool.true_eq_false, Bool.false_eq_true, mk_size, List.size_toArray, ByteArray.size_append, ByteArray.size_extract, List.length_cons, List.length_nil, ba_get, ba_empty, Int.toNat_natCast] at hW))
    | (refine And.intro (?_ : _ → _) (?_ : _ → _))
    | (refine FinR.drop 0 (Nat.zero_le _) (Closed.zero _) rfl ?_)
    | (refine FinR.keep ?_)
    | (refine And.intro (det3_agg rfl) ?_)
    | (refine fL_mk ?_)
    | (refine And.intro (by (try simp only [mk_size, List.size_toArray, ByteArray.size_append, ByteArray.size_extract, List.length_cons, List.length_nil]); omega) ?_)
    | (refine And.intro (by (try simp only [mk_size, List.size_toArray, ByteArray.size_append, ByteArray.size_extract, List.length_cons, List.length_nil, wrap64_eq]); omega) ?_)
    | fail)
  all_goals first | exact h0 | (exfalso; simp_all; done)
theorem d_sShiftF (h : shB6 a b c d e f = false) (dx dy : Int) (K : Cont) (h0 : K (.tup [Sh0, Bo false]) σ) : ACall Try.prog W0 16 [Sh a b c d e f, I dx, I dy] σ K :=
  ACall.lift rfl (fun _ => rfl) (fun W1 K _ hK => c_sShiftF h dx dy K hK) h0
theorem c_ShiftF (h : shB6 a b c d e f = false) (dx dy : Int) (K : Cont) (h0 : K (.tup [Sh0, Bo false]) []) : ACall Try.prog W0 15 [Sh a b c d e f, I dx, I dy] [] K := by
  refine by15 (Nat.le_of_ble_eq_true rfl) ?_
  repeat' ((conv => whnf); first
    | (refine And.intro rfl ?_)
    | (refine And.intro (by decide +kernel) ?_)
    | (refine And.intro trivial ?_)
    | (refine d_setOfF (hb := h) (h0 := ?_) ..)
    | (refine Exists.intro _ (And.intro rfl (And.intro rfl (And.intro (Nat.le_of_ble_eq_true rfl) ?_))))
    | (refine Exists.intro _ (And.intro rfl (And.intro rfl (And.intro rfl (And.intro (Nat.le_of_ble_eq_true rfl) ?_)))))
    | (refine And.intro (Exists.intro _ (And.intro rfl rfl)) ?_)
    | (exact fun hW => absurd hW (by decide +kernel))
    | (intro hW; (try simp only [Bool.not_true, Bool.not_false, Bool.not_eq_true', Bool.not_eq_false', decide_eq_true_eq, decide_eq_false_iff_not, reduceCtorEq, Bool.true_eq_false, Bool.false_eq_true, mk_size, List.size_toArray, ByteArray.size_append, ByteArray.size_extract, List.length_cons, List.length_nil, ba_get, ba_empty, Int.toNat_natCast] at hW))
    | (refine And.intro (?_ : _ → _) (?_ : _ → _))
    | (refine FinR.drop 0 (Nat.zero_le _) (Closed.zero _) rfl ?_)
    | (refine FinR.keep ?_)
    | (refine And.intro (det3_agg rfl) ?_)
    | (refine fL_mk ?_)
    | (refine And.intro (by (try simp only [mk_size, List.size_toArray, ByteArray.size_append, ByteArray.size_extract, List.length_cons, List.length_nil]); omega) ?_)
    | (refine And.intro (by (try simp only [mk_size, List.size_toArray, ByteArray.size_append, ByteArray.size_extract, List.length_cons, List.length_nil, wrap64_eq]); omega) ?_)
    | fail)
  all_goals first | exact h0 | (exfalso; simp_all; done)
theorem d_ShiftF (h : shB6 a b c d e f = false) (dx dy : Int) (K : Cont) (h0 : K (.tup [Sh0, Bo false]) σ) : ACall Try.prog W0 15 [Sh a b c d e f, I dx, I dy] σ K :=
  ACall.lift rfl (fun _ => rfl) (fun W1 K _ hK => c_ShiftF h dx dy K hK) h0
theorem c_sFlipG (h : (shB6 a b c d e f && cellB x y) = false) (K : Cont) (h0 : K (.tup [Sh0, Bo false]) []) : ACall Try.prog W0 20 [Sh a b c d e f, Ce x y] [] K := by
  refine by20 (Nat.le_of_ble_eq_true rfl) ?_
  cases hs : shB6 a b c d e f <;> rw [hs] at h
  all_goals
    repeat' ((conv => whnf); first
      | (refine And.intro rfl ?_)
      | (refine And.intro (by decide +kernel) ?_)
      | (refine And.intro trivial ?_)
      | (refine d_l2Sheet (h0 := ?_) ..; rw [hs])
      | (refine d_l2Cell (h0 := ?_) ..)
      | (refine Exists.intro _ (And.intro (fun τ => callW_fn (d_l2Cell (h0 := And.intro rfl rfl) ..)) ?_))
      | (refine Exists.intro _ (And.intro (callW_fn (d_l2Cell (h0 := And.intro rfl rfl) ..)) (And.intro trivial ?_)))
      | (refine Exists.intro _ (And.intro (callW_fn (d_l2Cell (h0 := And.intro rfl rfl) ..)) ?_))
      | (refine Exists.intro _ (And.intro (fun τ _ => callW_fn (d_l2Cell (h0 := And.intro rfl rfl) ..)) ?_))
      | (refine Exists.intro _ (And.intro rfl (And.intro rfl (And.intro (Nat.le_of_ble_eq_true rfl) ?_))))
      | (refine Exists.intro _ (And.intro rfl (And.intro rfl (And.intro rfl (And.intro (Nat.le_of_ble_eq_true rfl) ?_)))))
      | (refine And.intro (Exists.intro _ (And.intro rfl rfl)) ?_)
      | (exact fun hW => absurd hW (by decide +kernel))
      | (intro hW; (try simp only [Bool.not_true, Bool.not_false, Bool.not_eq_true', Bool.not_eq_false', decide_eq_true_eq, decide_eq_false_iff_not, reduceCtorEq, Bool.true_eq_false, Bool.false_eq_true, mk_size, List.size_toArray, ByteArray.size_append, ByteArray.size_extract, List.length_cons, List.length_nil, ba_get, ba_empty, Int.toNat_natCast] at hW))
      | (refine And.intro (?_ : _ → _) (?_ : _ → _))
      | (refine FinR.drop 0 (Nat.zero_le _) (Closed.zero _) rfl ?_)
      | (refine FinR.keep ?_)
      | (refine And.intro (det3_agg rfl) ?_)
      | (refine fL_mk ?_)
      | (refine And.intro (by (try simp only [mk_size, List.size_toArray, ByteArray.size_append, ByteArray.size_extract, List.length_cons, List.length_nil]); omega) ?_)
      | (refine And.intro (by (try simp only [mk_size, List.size_toArray, ByteArray.size_append, ByteArray.size_extract, List.length_cons, List.length_nil, wrap64_eq]); omega) ?_)
      | fail)
    all_goals first | exact h0 | (exfalso; simp_all; done)
theorem d_sFlipG (h : (shB6 a b c d e f && cellB x y) = false) (K : Cont) (h0 : K (.tup [Sh0, Bo false]) σ) : ACall Try.prog W0 20 [Sh a b c d e f, Ce x y] σ K :=
  ACall.lift rfl (fun _ => rfl) (fun W1 K _ hK => c_sFlipG h K hK) h0
theorem c_FlipG (h : (shB6 a b c d e f && cellB x y) = false) (K : Cont) (h0 : K (.tup [Sh0, Bo false]) []) : ACall Try.prog W0 19 [Sh a b c d e f, Ce x y] [] K := by
  cases hs : shB6 a b c d e f <;> rw [hs] at h
  · refine by19 (Nat.le_of_ble_eq_true rfl) ?_
    repeat' ((conv => whnf); first
      | (refine And.intro rfl ?_)
      | (refine And.intro (by decide +kernel) ?_)
      | (refine And.intro trivial ?_)
      | (refine d_setOfF (hb := hs) (h0 := ?_) ..)
      | (refine Exists.intro _ (And.intro rfl (And.intro rfl (And.intro (Nat.le_of_ble_eq_true rfl) ?_))))
      | (refine Exists.intro _ (And.intro rfl (And.intro rfl (And.intro rfl (And.intro (Nat.le_of_ble_eq_true rfl) ?_)))))
      | (refine And.intro (Exists.intro _ (And.intro rfl rfl)) ?_)
      | (exact fun hW => absurd hW (by decide +kernel))
      | (intro hW; (try simp only [Bool.not_true, Bool.not_false, Bool.not_eq_true', Bool.not_eq_false', decide_eq_true_eq, decide_eq_false_iff_not, reduceCtorEq, Bool.true_eq_false, Bool.false_eq_true, mk_size, List.size_toArray, ByteArray.size_append, ByteArray.size_extract, List.length_cons, List.length_nil, ba_get, ba_empty, Int.toNat_natCast] at hW))
      | (refine And.intro (?_ : _ → _) (?_ : _ → _))
      | (refine FinR.drop 0 (Nat.zero_le _) (Closed.zero _) rfl ?_)
      | (refine FinR.keep ?_)
      | (refine And.intro (det3_agg rfl) ?_)
      | (refine fL_mk ?_)
      | (refine And.intro (by (try simp only [mk_size, List.size_toArray, ByteArray.size_append, ByteArray.size_extract, List.length_cons, List.length_nil]); omega) ?_)
      | (refine And.intro (by (try simp only [mk_size, List.size_toArray, ByteArray.size_append, ByteArray.size_extract, List.length_cons, List.length_nil, wrap64_eq]); omega) ?_)
      | fail)
    all_goals first | exact h0 | (exfalso; simp_all; done)
  · obtain ⟨n, hn, rfl, rfl, rfl, rfl, rfl, rfl⟩ := shN_of hs
    exact c_FlipF n hn x y (by simpa using h) K h0
theorem d_FlipG (h : (shB6 a b c d e f && cellB x y) = false) (K : Cont) (h0 : K (.tup [Sh0, Bo false]) σ) : ACall Try.prog W0 19 [Sh a b c d e f, Ce x y] σ K :=
  ACall.lift rfl (fun _ => rfl) (fun W1 K _ hK => c_FlipG h K hK) h0
theorem c_sBlackG (h : (shB6 a b c d e f && cellB x y) = false) (K : Cont) (h0 : K (.tup [Bo false, Bo false]) []) : ACall Try.prog W0 22 [Sh a b c d e f, Ce x y] [] K := by
  refine by22 (Nat.le_of_ble_eq_true rfl) ?_
  cases hs : shB6 a b c d e f <;> rw [hs] at h
  all_goals
    repeat' ((conv => whnf); first
      | (refine And.intro rfl ?_)
      | (refine And.intro (by decide +kernel) ?_)
      | (refine And.intro trivial ?_)
      | (refine d_l2Sheet (h0 := ?_) ..; rw [hs])
      | (refine d_l2Cell (h0 := ?_) ..)
      | (refine Exists.intro _ (And.intro (fun τ => callW_fn (d_l2Cell (h0 := And.intro rfl rfl) ..)) ?_))
      | (refine Exists.intro _ (And.intro (callW_fn (d_l2Cell (h0 := And.intro rfl rfl) ..)) (And.intro trivial ?_)))
      | (refine Exists.intro _ (And.intro (callW_fn (d_l2Cell (h0 := And.intro rfl rfl) ..)) ?_))
      | (refine Exists.intro _ (And.intro (fun τ _ => callW_fn (d_l2Cell (h0 := And.intro rfl rfl) ..)) ?_))
      | (refine Exists.intro _ (And.intro rfl (And.intro rfl (And.intro (Nat.le_of_ble_eq_true rfl) ?_))))
      | (refine Exists.intro _ (And.intro rfl (And.intro rfl (And.intro rfl (And.intro (Nat.le_of_ble_eq_true rfl) ?_)))))
      | (refine And.intro (Exists.intro _ (And.intro rfl rfl)) ?_)
      | (exact fun hW => absurd hW (by decide +kernel))
      | (intro hW; (try simp only [Bool.not_true, Bool.not_false, Bool.not_eq_true', Bool.not_eq_false', decide_eq_true_eq, decide_eq_false_iff_not, reduceCtorEq, Bool.true_eq_false, Bool.false_eq_true, mk_size, List.size_toArray, ByteArray.size_append, ByteArray.size_extract, List.length_cons, List.length_nil, ba_get, ba_empty, Int.toNat_natCast] at hW))
      | (refine And.intro (?_ : _ → _) (?_ : _ → _))
      | (refine FinR.drop 0 (Nat.zero_le _) (Closed.zero _) rfl ?_)
      | (refine FinR.keep ?_)
      | (refine And.intro (det3_agg rfl) ?_)
      | (refine fL_mk ?_)
      | (refine And.intro (by (try simp only [mk_size, List.size_toArray, ByteArray.size_append, ByteArray.size_extract, List.length_cons, List.length_nil]); omega) ?_)
      | (refine And.intro (by (try simp only [mk_size, List.size_toArray, ByteArray.size_append, ByteArray.size_extract, List.length_cons, List.length_nil, wrap64_eq]); omega) ?_)
      | fail)
    all_goals first | exact h0 | (exfalso; simp_all; done)
theorem d_sBlackG (h : (shB6 a b c d e f && cellB x y) = false) (K : Cont) (h0 : K (.tup [Bo false, Bo false]) σ) : ACall Try.prog W0 22 [Sh a b c d e f, Ce x y] σ K :=
  ACall.lift rfl (fun _ => rfl) (fun W1 K _ hK => c_sBlackG h K hK) h0
theorem c_sBlackT (n x y : Nat) (hx : x < 6) (hy : y < 6) (K : Cont) (h0 : K (.tup [Bo (n.testBit (6 * y + x)), Bo true]) []) : ACall Try.prog W0 22 [ShN n, Ce x y] [] K := by
  refine by22 (Nat.le_of_ble_eq_true rfl) ?_
  have hc : cellB x y = true := cellB_iff.2 (by omega)
  repeat' ((conv => whnf); first
    | (refine And.intro rfl ?_)
    | (refine And.intro (by decide +kernel) ?_)
    | (refine And.intro trivial ?_)
    | (refine d_l2SheetN (h0 := ?_) ..)
    | (refine Exists.intro _ (And.intro (fun τ => callW_fn (d_l2SheetN (h0 := And.intro rfl rfl) ..)) ?_))
    | (refine Exists.intro _ (And.intro (callW_fn (d_l2SheetN (h0 := And.intro rfl rfl) ..)) (And.intro trivial ?_)))
    | (refine Exists.intro _ (And.intro (callW_fn (d_l2SheetN (h0 := And.intro rfl rfl) ..)) ?_))
    | (refine Exists.intro _ (And.intro (fun τ _ => callW_fn (d_l2SheetN (h0 := And.intro rfl rfl) ..)) ?_))
    | (refine d_l2Cell (h0 := ?_) ..)
    | (refine Exists.intro _ (And.intro (fun τ => callW_fn (d_l2Cell (h0 := And.intro rfl rfl) ..)) ?_))
    | (refine Exists.intro _ (And.intro (callW_fn (d_l2Cell (h0 := And.intro rfl rfl) ..)) (And.intro trivial ?_)))
    | (refine Exists.intro _ (And.intro (callW_fn (d_l2Cell (h0 := And.intro rfl rfl) ..)) ?_))
    | (refine Exists.intro _ (And.intro (fun τ _ => callW_fn (d_l2Cell (h0 := And.intro rfl rfl) ..)) ?_))
    | (refine d_l2GetN (hx := hx) (hy := hy) (h0 := ?_) ..)
    | (refine Exists.intro _ (And.intro rfl (And.intro rfl (And.intro (Nat.le_of_ble_eq_true rfl) ?_))))
    | (refine Exists.intro _ (And.intro rfl (And.intro rfl (And.intro rfl (And.intro (Nat.le_of_ble_eq_true rfl) ?_)))))
    | (refine And.intro (Exists.intro _ (And.intro rfl rfl)) ?_)
    | (exact fun hW => absurd hW (by decide +kernel))
    | (intro hW; (try simp only [Bool.not_true, Bool.not_false, Bool.not_eq_true', Bool.not_eq_false', decide_eq_true_eq, decide_eq_false_iff_not, reduceCtorEq, Bool.true_eq_false, Bool.false_eq_true, mk_size, List.size_toArray, ByteArray.size_append, ByteArray.size_extract, List.length_cons, List.length_nil, ba_get, ba_empty, Int.toNat_natCast] at hW))
    | (refine And.intro (?_ : _ → _) (?_ : _ → _))
    | (refine FinR.drop 0 (Nat.zero_le _) (Closed.zero _) rfl ?_)
    | (refine FinR.keep ?_)
    | (refine And.intro (det3_agg rfl) ?_)
    | (refine fL_mk ?_)
    | (refine And.intro (by (try simp only [mk_size, List.size_toArray, ByteArray.size_append, ByteArray.size_extract, List.length_cons, List.length_nil]); omega) ?_)
    | (refine And.intro (by (try simp only [mk_size, List.size_toArray, ByteArray.size_append, ByteArray.size_extract, List.length_cons, List.length_nil, wrap64_eq]); omega) ?_)
    | fail)
  all_goals first | exact h0 | (exfalso; simp_all; done)
theorem d_sBlackT (n x y : Nat) (hx : x < 6) (hy : y < 6) (K : Cont) (h0 : K (.tup [Bo (n.testBit (6 * y + x)), Bo true]) σ) : ACall Try.prog W0 22 [ShN n, Ce x y] σ K :=
  ACall.lift rfl (fun _ => rfl) (fun W1 K _ hK => c_sBlackT n x y hx hy K hK) h0
theorem c_BlackT (n x y : Nat) (hn : n < 2 ^ 36) (hx : x < 6) (hy : y < 6) (K : Cont) (h0 : K (.tup [Bo (n.testBit (6 * y + x)), Bo true]) []) : ACall Try.prog W0 21 [ShN n, Ce x y] [] K := by
  refine by21 (Nat.le_of_ble_eq_true rfl) ?_
  have hc : cellB x y = true := cellB_iff.2 (by omega)
  rw [show 6 * y + x = y * 6 + x by omega] at h0
  repeat' ((conv => whnf); first
    | (refine And.intro rfl ?_)
    | (refine And.intro (by decide +kernel) ?_)
    | (refine And.intro trivial ?_)
    | (refine d_setOfN (hn := hn) (h0 := ?_) ..)
    | (refine d_isCell (h0 := ?_) ..)
    | (refine Exists.intro _ (And.intro (fun τ => callW_fn (d_isCell (h0 := And.intro rfl rfl) ..)) ?_))
    | (refine Exists.intro _ (And.intro (callW_fn (d_isCell (h0 := And.intro rfl rfl) ..)) (And.intro trivial ?_)))
    | (refine Exists.intro _ (And.intro (callW_fn (d_isCell (h0 := And.intro rfl rfl) ..)) ?_))
    | (refine Exists.intro _ (And.intro (fun τ _ => callW_fn (d_isCell (h0 := And.intro rfl rfl) ..)) ?_))
    | (refine d_number (hx := by omega) (hy := by omega) (h0 := ?_) ..)
    | (refine d_has (hn := Nat.lt_trans hn (by decide)) (hk := by omega) (h0 := ?_) ..)
    | (refine Exists.intro _ (And.intro rfl (And.intro rfl (And.intro (Nat.le_of_ble_eq_true rfl) ?_))))
    | (refine Exists.intro _ (And.intro rfl (And.intro rfl (And.intro rfl (And.intro (Nat.le_of_ble_eq_true rfl) ?_)))))
    | (refine And.intro (Exists.intro _ (And.intro rfl rfl)) ?_)
    | (exact fun hW => absurd hW (by decide +kernel))
    | (intro hW; (try simp only [Bool.not_true, Bool.not_false, Bool.not_eq_true', Bool.not_eq_false', decide_eq_true_eq, decide_eq_false_iff_not, reduceCtorEq, Bool.true_eq_false, Bool.false_eq_true, mk_size, List.size_toArray, ByteArray.size_append, ByteArray.size_extract, List.length_cons, List.length_nil, ba_get, ba_empty, Int.toNat_natCast] at hW))
    | (refine And.intro (?_ : _ → _) (?_ : _ → _))
    | (refine FinR.drop 0 (Nat.zero_le _) (Closed.zero _) rfl ?_)
    | (refine FinR.keep ?_)
    | (refine And.intro (det3_agg rfl) ?_)
    | (refine fL_mk ?_)
    | (refine And.intro (by (try simp only [mk_size, List.size_toArray, ByteArray.size_append, ByteArray.size_extract, List.length_cons, List.length_nil]); omega) ?_)
    | (refine And.intro (by (try simp only [mk_size, List.size_toArray, ByteArray.size_append, ByteArray.size_extract, List.length_cons, List.length_nil, wrap64_eq]); omega) ?_)
    | fail)
  all_goals first | exact h0 | (exfalso; simp_all; done)
theorem d_BlackT (n x y : Nat) (hn : n < 2 ^ 36) (hx : x < 6) (hy : y < 6) (K : Cont) (h0 : K (.tup [Bo (n.testBit (6 * y + x)), Bo true]) σ) : ACall Try.prog W0 21 [ShN n, Ce x y] σ K :=
  ACall.lift rfl (fun _ => rfl) (fun W1 K _ hK => c_BlackT n x y hn hx hy K hK) h0
theorem c_BlackG (h : (shB6 a b c d e f && cellB x y) = false) (K : Cont) (h0 : K (.tup [Bo false, Bo false]) []) : ACall Try.prog W0 21 [Sh a b c d e f, Ce x y] [] K := by
  cases hs : shB6 a b c d e f <;> rw [hs] at h
  · refine by21 (Nat.le_of_ble_eq_true rfl) ?_
    repeat' ((conv => whnf); first
      | (refine And.intro rfl ?_)
      | (refine And.intro (by decide +kernel) ?_)
      | (refine And.intro trivial ?_)
      | (refine d_setOfF (hb := hs) (h0 := ?_) ..)
      | (refine Exists.intro _ (And.intro rfl (And.intro rfl (And.intro (Nat.le_of_ble_eq_true rfl) ?_))))
      | (refine Exists.intro _ (And.intro rfl (And.intro rfl (And.intro rfl (And.intro (Nat.le_of_ble_eq_true rfl) ?_)))))
      | (refine And.intro (Exists.intro _ (And.intro rfl rfl)) ?_)
      | (exact fun hW => absurd hW (by decide +kernel))
      | (intro hW; (try simp only [Bool.not_true, Bool.not_false, Bool.not_eq_true', Bool.not_eq_false', decide_eq_true_eq, decide_eq_false_iff_not, reduceCtorEq, Bool.true_eq_false, Bool.false_eq_true, mk_size, List.size_toArray, ByteArray.size_append, ByteArray.size_extract, List.length_cons, List.length_nil, ba_get, ba_empty, Int.toNat_natCast] at hW))
      | (refine And.intro (?_ : _ → _) (?_ : _ → _))
      | (refine FinR.drop 0 (Nat.zero_le _) (Closed.zero _) rfl ?_)
      | (refine FinR.keep ?_)
      | (refine And.intro (det3_agg rfl) ?_)
      | (refine fL_mk ?_)
      | (refine And.intro (by (try simp only [mk_size, List.size_toArray, ByteArray.size_append, ByteArray.size_extract, List.length_cons, List.length_nil]); omega) ?_)
      | (refine And.intro (by (try simp only [mk_size, List.size_toArray, ByteArray.size_append, ByteArray.size_extract, List.length_cons, List.length_nil, wrap64_eq]); omega) ?_)
      | fail)
    all_goals first | exact h0 | (exfalso; simp_all; done)
  · obtain ⟨n, hn, rfl, rfl, rfl, rfl, rfl, rfl⟩ := shN_of hs
    refine by21 (Nat.le_of_ble_eq_true rfl) ?_
    repeat' ((conv => whnf); first
      | (refine And.intro rfl ?_)
      | (refine And.intro (by decide +kernel) ?_)
      | (refine And.intro trivial ?_)
      | (refine d_setOfN (hn := hn) (h0 := ?_) ..)
      | (refine d_isCell (h0 := ?_) ..)
      | (refine Exists.intro _ (And.intro (fun τ => callW_fn (d_isCell (h0 := And.intro rfl rfl) ..)) ?_))
      | (refine Exists.intro _ (And.intro (callW_fn (d_isCell (h0 := And.intro rfl rfl) ..)) (And.intro trivial ?_)))
      | (refine Exists.intro _ (And.intro (callW_fn (d_isCell (h0 := And.intro rfl rfl) ..)) ?_))
      | (refine Exists.intro _ (And.intro (fun τ _ => callW_fn (d_isCell (h0 := And.intro rfl rfl) ..)) ?_))
      | (refine Exists.intro _ (And.intro rfl (And.intro rfl (And.intro (Nat.le_of_ble_eq_true rfl) ?_))))
      | (refine Exists.intro _ (And.intro rfl (And.intro rfl (And.intro rfl (And.intro (Nat.le_of_ble_eq_true rfl) ?_)))))
      | (refine And.intro (Exists.intro _ (And.intro rfl rfl)) ?_)
      | (exact fun hW => absurd hW (by decide +kernel))
      | (intro hW; (try simp only [Bool.not_true, Bool.not_false, Bool.not_eq_true', Bool.not_eq_false', decide_eq_true_eq, decide_eq_false_iff_not, reduceCtorEq, Bool.true_eq_false, Bool.false_eq_true, mk_size, List.size_toArray, ByteArray.size_append, ByteArray.size_extract, List.length_cons, List.length_nil, ba_get, ba_empty, Int.toNat_natCast] at hW))
      | (refine And.intro (?_ : _ → _) (?_ : _ → _))
      | (refine FinR.drop 0 (Nat.zero_le _) (Closed.zero _) rfl ?_)
      | (refine FinR.keep ?_)
      | (refine And.intro (det3_agg rfl) ?_)
      | (refine fL_mk ?_)
      | (refine And.intro (by (try simp only [mk_size, List.size_toArray, ByteArray.size_append, ByteArray.size_extract, List.length_cons, List.length_nil]); omega) ?_)
      | (refine And.intro (by (try simp only [mk_size, List.size_toArray, ByteArray.size_append, ByteArray.size_extract, List.length_cons, List.length_nil, wrap64_eq]); omega) ?_)
      | fail)
    all_goals first | exact h0 | (exfalso; simp_all; done)
theorem d_BlackG (h : (shB6 a b c d e f && cellB x y) = false) (K : Cont) (h0 : K (.tup [Bo false, Bo false]) σ) : ACall Try.prog W0 21 [Sh a b c d e f, Ce x y] σ K :=
  ACall.lift rfl (fun _ => rfl) (fun W1 K _ hK => c_BlackG h K hK) h0
theorem c_SizeT (n : Nat) (hn : n < 2 ^ 36) (K : Cont) (h0 : K (.tup [I (ones 64 n : Nat), Bo true]) []) : ACall Try.prog W0 23 [ShN n] [] K := by
  refine by23 (Nat.le_of_ble_eq_true rfl) ?_
  repeat' ((conv => whnf); first
    | (refine And.intro rfl ?_)
    | (refine And.intro (by decide +kernel) ?_)
    | (refine And.intro trivial ?_)
    | (refine d_setOfN (hn := hn) (h0 := ?_) ..)
    | (refine d_sizeN (hx := Nat.lt_trans hn (by decide)) (h0 := ?_) ..)
    | (refine Exists.intro _ (And.intro rfl (And.intro rfl (And.intro (Nat.le_of_ble_eq_true rfl) ?_))))
    | (refine Exists.intro _ (And.intro rfl (And.intro rfl (And.intro rfl (And.intro (Nat.le_of_ble_eq_true rfl) ?_)))))
    | (refine And.intro (Exists.intro _ (And.intro rfl rfl)) ?_)
    | (exact fun hW => absurd hW (by decide +kernel))
    | (intro hW; (try simp only [Bool.not_true, Bool.not_false, Bool.not_eq_true', Bool.not_eq_false', decide_eq_true_eq, decide_eq_false_iff_not, reduceCtorEq, Bool.true_eq_false, Bool.false_eq_true, mk_size, List.size_toArray, ByteArray.size_append, ByteArray.size_extract, List.length_cons, List.length_nil, ba_get, ba_empty, Int.toNat_natCast] at hW))
    | (refine And.intro (?_ : _ → _) (?_ : _ → _))
    | (refine FinR.drop 0 (Nat.zero_le _) (Closed.zero _) rfl ?_)
    | (refine FinR.keep ?_)
    | (refine And.intro (det3_agg rfl) ?_)
    | (refine fL_mk ?_)
    | (refine And.intro (by (try simp only [mk_size, List.size_toArray, ByteArray.size_append, ByteArray.size_extract, List.length_cons, List.length_nil]); omega) ?_)
    | (refine And.intro (by (try simp only [mk_size, List.size_toArray, ByteArray.size_append, ByteArray.size_extract, List.length_cons, List.length_nil, wrap64_eq]); omega) ?_)
    | fail)
  all_goals exact h0
theorem d_SizeT (n : Nat) (hn : n < 2 ^ 36) (K : Cont) (h0 : K (.tup [I (ones 64 n : Nat), Bo true]) σ) : ACall Try.prog W0 23 [ShN n] σ K :=
  ACall.lift rfl (fun _ => rfl) (fun W1 K _ hK => c_SizeT n hn K hK) h0
theorem c_BothT (n m : Nat) (hn : n < 2 ^ 36) (hm : m < 2 ^ 36) (K : Cont) (h0 : K (.tup [ShN (n &&& m), Bo true]) []) : ACall Try.prog W0 25 [ShN n, ShN m] [] K := by
  refine by25 (Nat.le_of_ble_eq_true rfl) ?_
  have hs : ∀ {W : World} {σ : List Blk} (K : Cont), K (ShN (n &&& m)) σ → ACall Try.prog W 76 [U (bAnd .u64 n m)] σ K := by
    intro W σ K hK
    rw [bAndU hn hm]
    exact d_sheet _ (Nat.lt_of_le_of_lt Nat.and_le_left (Nat.lt_trans hn (by decide))) K hK
  repeat' ((conv => whnf); first
    | (refine And.intro rfl ?_)
    | (refine And.intro (by decide +kernel) ?_)
    | (refine And.intro trivial ?_)
    | (refine d_twoSetsN (hn := hn) (hm := hm) (h0 := ?_) ..)
    | (refine hs _ ?_)
    | (refine Exists.intro _ (And.intro rfl (And.intro rfl (And.intro (Nat.le_of_ble_eq_true rfl) ?_))))
    | (refine Exists.intro _ (And.intro rfl (And.intro rfl (And.intro rfl (And.intro (Nat.le_of_ble_eq_true rfl) ?_)))))
    | (refine And.intro (Exists.intro _ (And.intro rfl rfl)) ?_)
    | (exact fun hW => absurd hW (by decide +kernel))
    | (intro hW; (try simp only [Bool.not_true, Bool.not_false, Bool.not_eq_true', Bool.not_eq_false', decide_eq_true_eq, decide_eq_false_iff_not, reduceCtorEq, Bool.true_eq_false, Bool.false_eq_true, mk_size, List.size_toArray, ByteArray.size_append, ByteArray.size_extract, List.length_cons, List.length_nil, ba_get, ba_empty, Int.toNat_natCast] at hW))
    | (refine And.intro (?_ : _ → _) (?_ : _ → _))
    | (refine FinR.drop 0 (Nat.zero_le _) (Closed.zero _) rfl ?_)
    | (refine FinR.keep ?_)
    | (refine And.intro (det3_agg rfl) ?_)
    | (refine fL_mk ?_)
    | (refine And.intro (by (try simp only [mk_size, List.size_toArray, ByteArray.size_append, ByteArray.size_extract, List.length_cons, List.length_nil]); omega) ?_)
    | (refine And.intro (by (try simp only [mk_size, List.size_toArray, ByteArray.size_append, ByteArray.size_extract, List.length_cons, List.length_nil, wrap64_eq]); omega) ?_)
    | fail)
  all_goals first | exact h0 | (exfalso; simp_all; done)
theorem d_BothT (n m : Nat) (hn : n < 2 ^ 36) (hm : m < 2 ^ 36) (K : Cont) (h0 : K (.tup [ShN (n &&& m), Bo true]) σ) : ACall Try.prog W0 25 [ShN n, ShN m] σ K :=
  ACall.lift rfl (fun _ => rfl) (fun W1 K _ hK => c_BothT n m hn hm K hK) h0
theorem c_PartT (n m : Nat) (hn : n < 2 ^ 36) (hm : m < 2 ^ 36) (K : Cont) (h0 : K (.tup [Bo (decide (n &&& (fullN ^^^ m) = 0)), Bo true]) []) : ACall Try.prog W0 24 [ShN n, ShN m] [] K := by
  refine by24 (Nat.le_of_ble_eq_true rfl) ?_
  have e1 : decide (bAndNot .u64 n m = 0) = decide (n &&& (fullN ^^^ m) = 0) := by rw [bAndNotU hn hm, Bool.eq_iff_iff, decide_eq_true_iff, decide_eq_true_iff]; omega
  rw [← e1] at h0
  repeat' ((conv => whnf); first
    | (refine And.intro rfl ?_)
    | (refine And.intro (by decide +kernel) ?_)
    | (refine And.intro trivial ?_)
    | (refine d_twoSetsN (hn := hn) (hm := hm) (h0 := ?_) ..)
    | (refine Exists.intro _ (And.intro rfl (And.intro rfl (And.intro (Nat.le_of_ble_eq_true rfl) ?_))))
    | (refine Exists.intro _ (And.intro rfl (And.intro rfl (And.intro rfl (And.intro (Nat.le_of_ble_eq_true rfl) ?_)))))
    | (refine And.intro (Exists.intro _ (And.intro rfl rfl)) ?_)
    | (exact fun hW => absurd hW (by decide +kernel))
    | (intro hW; (try simp only [Bool.not_true, Bool.not_false, Bool.not_eq_true', Bool.not_eq_false', decide_eq_true_eq, decide_eq_false_iff_not, reduceCtorEq, Bool.true_eq_false, Bool.false_eq_true, mk_size, List.size_toArray, ByteArray.size_append, ByteArray.size_extract, List.length_cons, List.length_nil, ba_get, ba_empty, Int.toNat_natCast] at hW))
    | (refine And.intro (?_ : _ → _) (?_ : _ → _))
    | (refine FinR.drop 0 (Nat.zero_le _) (Closed.zero _) rfl ?_)
    | (refine FinR.keep ?_)
    | (refine And.intro (det3_agg rfl) ?_)
    | (refine fL_mk ?_)
    | (refine And.intro (by (try simp only [mk_size, List.size_toArray, ByteArray.size_append, ByteArray.size_extract, List.length_cons, List.length_nil]); omega) ?_)
    | (refine And.intro (by (try simp only [mk_size, List.size_toArray, ByteArray.size_append, ByteArray.size_extract, List.length_cons, List.length_nil, wrap64_eq]); omega) ?_)
    | fail)
  all_goals first | exact h0 | (exfalso; simp_all; done)
theorem d_PartT (n m : Nat) (hn : n < 2 ^ 36) (hm : m < 2 ^ 36) (K : Cont) (h0 : K (.tup [Bo (decide (n &&& (fullN ^^^ m) = 0)), Bo true]) σ) : ACall Try.prog W0 24 [ShN n, ShN m] σ K :=
  ACall.lift rfl (fun _ => rfl) (fun W1 K _ hK => c_PartT n m hn hm K hK) h0
end Go.Proofs.Ytkcbhdjhbnnlgaa
end

section
/- Contracts: the law of presses. -/
set_option linter.unusedVariables false
set_option linter.unusedSimpArgs false
set_option maxRecDepth 100000
set_option maxHeartbeats 8000000
namespace Go.Proofs.Ytkcbhdjhbnnlgaa
open Go Go.RowKit Go.Proofs.Ytkcbhdjhbnnlgaa.Abs
variable {W0 : World} {σ : List Blk}
theorem c_rBig (v : Value) (xs : List Int) (hs : Sli W0 [] 1 enB (.lit v) xs) (K : Cont) (h0 : K (Bo (decide (65536 < (xs.length : Int)))) []) : ACall Try.prog W0 6 [.lit v] [] K := by
  refine by6 (Nat.le_of_ble_eq_true rfl) ?_
  obtain ⟨o, m, cap, hv, hm, -, -, -⟩ := sli_form hs
  cases hv; subst hm
  repeat' ((conv => whnf); first
    | (refine And.intro rfl ?_)
    | (refine And.intro (by decide +kernel) ?_)
    | (refine And.intro trivial ?_)
    | (refine Exists.intro _ (And.intro rfl (And.intro rfl (And.intro (Nat.le_of_ble_eq_true rfl) ?_))))
    | (refine Exists.intro _ (And.intro rfl (And.intro rfl (And.intro rfl (And.intro (Nat.le_of_ble_eq_true rfl) ?_)))))
    | (refine And.intro (Exists.intro _ (And.intro rfl rfl)) ?_)
    | (exact fun hW => absurd hW (by decide +kernel))
    | (intro hW; (try simp only [Bool.not_true, Bool.not_false, Bool.not_eq_true', Bool.not_eq_false', decide_eq_true_eq, decide_eq_false_iff_not, reduceCtorEq, Bool.true_eq_false, Bool.false_eq_true, mk_size, List.size_toArray, ByteArray.size_append, ByteArray.size_extract, List.length_cons, List.length_nil, ba_get, ba_empty, Int.toNat_natCast] at hW))
    | (refine And.intro (?_ : _ → _) (?_ : _ → _))
    | (refine FinR.drop 0 (Nat.zero_le _) (Closed.zero _) rfl ?_)
    | (refine FinR.keep ?_)
    | (refine And.intro (det3_agg rfl) ?_)
    | (refine fL_mk ?_)
    | (refine And.intro (by (try simp only [mk_size, List.size_toArray, ByteArray.size_append, ByteArray.size_extract, List.length_cons, List.length_nil]); omega) ?_)
    | (refine And.intro (by (try simp only [mk_size, List.size_toArray, ByteArray.size_append, ByteArray.size_extract, List.length_cons, List.length_nil, wrap64_eq]); omega) ?_)
    | fail)
  all_goals exact h0
theorem prV_of {a b c d e f a' b' c' d' e' f' x y : Int} (h : prV a b c d e f a' b' c' d' e' f' x y = true) : shB6 a b c d e f = true ∧ shB6 a' b' c' d' e' f' = true ∧ ∃ p q : Nat, x = p ∧ y = q ∧ p < 6 ∧ q < 6 := by
  unfold prV at h
  rw [Bool.and_eq_true, Bool.and_eq_true] at h
  have hc := cellB_iff.1 h.2
  exact ⟨h.1.1, h.1.2, x.toNat, y.toNat, by omega, by omega, by omega, by omega⟩
theorem c_law_Presses1 (v : Value) (xs : List Int) (hcd : Code W0 v xs) (hz : ¬ (65536 < (xs.length : Int))) (K : Cont) (h0 : K (Bo true) []) : ACall Try.prog W0 3 [.lit v] [] K := by
  refine by3 (Nat.le_of_ble_eq_true rfl) ?_
  repeat' ((conv => whnf); first
    | (refine And.intro rfl ?_)
    | (refine And.intro (by decide +kernel) ?_)
    | (refine And.intro trivial ?_)
    | (refine c_rBig (hs := hcd.sli) (h0 := ?_) ..; rw [decide_eq_false hz])
    | (refine Exists.intro _ (And.intro rfl (And.intro rfl (And.intro (Nat.le_of_ble_eq_true rfl) ?_))))
    | (refine Exists.intro _ (And.intro rfl (And.intro rfl (And.intro rfl (And.intro (Nat.le_of_ble_eq_true rfl) ?_)))))
    | (refine And.intro (Exists.intro _ (And.intro rfl rfl)) ?_)
    | (exact fun hW => absurd hW (by decide +kernel))
    | (intro hW; (try simp only [Bool.not_true, Bool.not_false, Bool.not_eq_true', Bool.not_eq_false', decide_eq_true_eq, decide_eq_false_iff_not, reduceCtorEq, Bool.true_eq_false, Bool.false_eq_true, mk_size, List.size_toArray, ByteArray.size_append, ByteArray.size_extract, List.length_cons, List.length_nil, ba_get, ba_empty, Int.toNat_natCast] at hW))
    | (refine And.intro (?_ : _ → _) (?_ : _ → _))
    | (refine FinR.drop 0 (Nat.zero_le _) (Closed.zero _) rfl ?_)
    | (refine FinR.keep ?_)
    | (refine And.intro (det3_agg rfl) ?_)
    | (refine fL_mk ?_)
    | (refine And.intro (by (try simp only [mk_size, List.size_toArray, ByteArray.size_append, ByteArray.size_extract, List.length_cons, List.length_nil]); omega) ?_)
    | (refine And.intro (by (try simp only [mk_size, List.size_toArray, ByteArray.size_append, ByteArray.size_extract, List.length_cons, List.length_nil, wrap64_eq]); omega) ?_)
    | fail)
  all_goals (try (exfalso; simp_all; done))
  refine d_DrawToggleAt (hcd := hcd) (h0 := fun a1 a2 a3 a4 a5 a6 b1 b2 b3 b4 b5 b6 x y => ?_) ..
  rcases hp : prV a1 a2 a3 a4 a5 a6 b1 b2 b3 b4 b5 b6 x y with _ | _
  · skip
    repeat' ((conv => whnf); first
      | (refine And.intro rfl ?_)
      | (refine And.intro (by decide +kernel) ?_)
      | (refine And.intro trivial ?_)
      | (refine d_ToggleG (h := hp) (h0 := ?_) ..)
      | (refine d_sToggleG (h := hp) (h0 := ?_) ..)
      | (refine d_InkG (h := hp) (h0 := ?_) ..)
      | (refine d_sInkG (h := hp) (h0 := ?_) ..)
      | (refine d_WipeG (h := hp) (h0 := ?_) ..)
      | (refine d_sWipeG (h := hp) (h0 := ?_) ..)
      | (refine Exists.intro _ (And.intro rfl (And.intro rfl (And.intro (Nat.le_of_ble_eq_true rfl) ?_))))
      | (refine Exists.intro _ (And.intro rfl (And.intro rfl (And.intro rfl (And.intro (Nat.le_of_ble_eq_true rfl) ?_)))))
      | (refine And.intro (Exists.intro _ (And.intro rfl rfl)) ?_)
      | (exact fun hW => absurd hW (by decide +kernel))
      | (intro hW; (try simp only [Bool.not_true, Bool.not_false, Bool.not_eq_true', Bool.not_eq_false', decide_eq_true_eq, decide_eq_false_iff_not, reduceCtorEq, Bool.true_eq_false, Bool.false_eq_true, mk_size, List.size_toArray, ByteArray.size_append, ByteArray.size_extract, List.length_cons, List.length_nil, ba_get, ba_empty, Int.toNat_natCast] at hW))
      | (refine And.intro (?_ : _ → _) (?_ : _ → _))
      | (refine FinR.drop 0 (Nat.zero_le _) (Closed.zero _) rfl ?_)
      | (refine FinR.keep ?_)
      | (refine And.intro (det3_agg rfl) ?_)
      | (refine fL_mk ?_)
      | (refine And.intro (by (try simp only [mk_size, List.size_toArray, ByteArray.size_append, ByteArray.size_extract, List.length_cons, List.length_nil]); omega) ?_)
      | (refine And.intro (by (try simp only [mk_size, List.size_toArray, ByteArray.size_append, ByteArray.size_extract, List.length_cons, List.length_nil, wrap64_eq]); omega) ?_)
      | fail)
    all_goals (try (exfalso; simp_all; done))
    refine d_DrawShiftSheet (hcd := hcd) (h0 := fun c1 c2 c3 c4 c5 c6 dx dy hdx hdy => ?_) ..
    obtain ⟨hd1, hd2⟩ := hdx
    replace hd1 : -9223372036854775808 ≤ dx := hd1
    replace hd2 : dx ≤ 9223372036854775807 := hd2
    obtain ⟨X, eX⟩ : ∃ X : Nat, dx % 6 = X := ⟨(dx % 6).toNat, by omega⟩
    obtain ⟨Y, eY⟩ : ∃ Y : Nat, dy % 6 = Y := ⟨(dy % 6).toNat, by omega⟩
    have hX6 : X < 6 := by omega
    have hY6 : Y < 6 := by omega
    rcases hb : shB6 c1 c2 c3 c4 c5 c6 with _ | _
    all_goals (first | (obtain ⟨u, hu, rfl, rfl, rfl, rfl, rfl, rfl⟩ := shN_of hb; have hmv := mvN_lt (sh_perm X hX6 Y hY6) u) | skip)
    all_goals
      repeat' ((conv => whnf); first
        | (refine And.intro rfl ?_)
        | (refine And.intro (by decide +kernel) ?_)
        | (refine And.intro trivial ?_)
        | (refine d_ShiftT (hn := hu) (hx := eX) (hy := eY) (h0 := ?_) ..)
        | (refine d_sShiftT (hx := eX) (hy := eY) (h0 := ?_) ..)
        | (refine d_ShiftF (h := hb) (h0 := ?_) ..)
        | (refine d_sShiftF (h := hb) (h0 := ?_) ..)
        | (refine d_IsSheet (h0 := ?_) ..; rw [hb])
        | (refine Exists.intro _ (And.intro rfl (And.intro rfl (And.intro (Nat.le_of_ble_eq_true rfl) ?_))))
        | (refine Exists.intro _ (And.intro rfl (And.intro rfl (And.intro rfl (And.intro (Nat.le_of_ble_eq_true rfl) ?_)))))
        | (refine And.intro (Exists.intro _ (And.intro rfl rfl)) ?_)
        | (exact fun hW => absurd hW (by decide +kernel))
        | (intro hW; (try simp only [Bool.not_true, Bool.not_false, Bool.not_eq_true', Bool.not_eq_false', decide_eq_true_eq, decide_eq_false_iff_not, reduceCtorEq, Bool.true_eq_false, Bool.false_eq_true, mk_size, List.size_toArray, ByteArray.size_append, ByteArray.size_extract, List.length_cons, List.length_nil, ba_get, ba_empty, Int.toNat_natCast] at hW))
        | (refine And.intro (?_ : _ → _) (?_ : _ → _))
        | (refine FinR.drop 0 (Nat.zero_le _) (Closed.zero _) rfl ?_)
        | (refine FinR.keep ?_)
        | (refine And.intro (det3_agg rfl) ?_)
        | (refine fL_mk ?_)
        | (refine And.intro (by (try simp only [mk_size, List.size_toArray, ByteArray.size_append, ByteArray.size_extract, List.length_cons, List.length_nil]); omega) ?_)
        | (refine And.intro (by (try simp only [mk_size, List.size_toArray, ByteArray.size_append, ByteArray.size_extract, List.length_cons, List.length_nil, wrap64_eq]); omega) ?_)
        | fail)
    all_goals (try (exfalso; simp_all; done))
    all_goals
      refine d_DrawFlipCell (hcd := hcd) (h0 := fun e1 e2 e3 e4 e5 e6 x y => ?_) ..
      rcases hf : shB6 e1 e2 e3 e4 e5 e6 && cellB x y with _ | _
      all_goals (first | (have hf1 := hf; rw [Bool.and_eq_true] at hf1; obtain ⟨g, hg, rfl, rfl, rfl, rfl, rfl, rfl⟩ := shN_of hf1.1; have hf2 := cellB_iff.1 hf1.2; obtain ⟨k, rfl⟩ : ∃ k : Nat, x = k := ⟨x.toNat, by omega⟩; obtain ⟨l, rfl⟩ : ∃ k : Nat, y = k := ⟨y.toNat, by omega⟩; have hk : k < 6 := (by omega); have hl : l < 6 := (by omega); clear hf hf1 hf2; have hgx : g ^^^ 2 ^ (6 * l + k) < 2 ^ 36 := Nat.xor_lt_two_pow hg (Nat.pow_lt_pow_right (by decide) (by omega))) | skip)
      all_goals
        repeat' ((conv => whnf); first
          | (refine And.intro rfl ?_)
          | (refine And.intro (by decide +kernel) ?_)
          | (refine And.intro trivial ?_)
          | (refine d_FlipT (hn := hg) (hx := hk) (hy := hl) (h0 := ?_) ..)
          | (refine d_sFlipT (hx := hk) (hy := hl) (h0 := ?_) ..)
          | (refine d_BlackT (hn := hg) (hx := hk) (hy := hl) (h0 := ?_) ..)
          | (refine d_sBlackT (hx := hk) (hy := hl) (h0 := ?_) ..)
          | (refine d_FlipG (h := hf) (h0 := ?_) ..)
          | (refine d_sFlipG (h := hf) (h0 := ?_) ..)
          | (refine d_BlackG (h := hf) (h0 := ?_) ..)
          | (refine d_sBlackG (h := hf) (h0 := ?_) ..)
          | (refine d_BlackT (hn := hgx) (hx := hk) (hy := hl) (h0 := ?_) ..; rw [flip_bit])
          | (refine d_FlipT (hn := hgx) (hx := hk) (hy := hl) (h0 := ?_) ..; rw [xor_twice])
          | (refine d_SizeT (hn := hu) (h0 := ?_) ..)
          | (refine d_SizeT (hn := hmv) (h0 := ?_) ..; rw [ones_mv hu hX6 hY6])
          | (refine d_ShiftT (hn := hmv) (x := (6 - X) % 6) (y := (6 - Y) % 6) (hx := by rw [wrap_i64 (0 - dx) (by omega) (by omega)]; omega) (hy := by rw [wrap_i64 (0 - dy) (by omega) (by omega)]; omega) (h0 := ?_) ..; rw [mv_back hu hX6 hY6])
          | (refine d_ShiftT (hn := hu) (x := X) (y := Y) (hx := by rw [wrap_i64 (dx + 6) (by omega) (by omega)]; omega) (hy := by rw [wrap_i64 (dy - 6) (by omega) (by omega)]; omega) (h0 := ?_) ..)
          | (refine d_ShiftT (hn := hm) (x := p) (y := q) (hx := by omega) (hy := by omega) (h0 := ?_) ..)
          | (refine d_ToggleT (hn := hxr) (hm := hm) (hx := hx) (hy := hy) (h0 := ?_) ..; rw [xor_twice])
          | (refine d_PartT (hn := hpr) (hm := hor) (h0 := ?_) ..; rw [decide_eq_true (or_cov hpr)])
          | (refine d_BothT (hn := hpr) (hm := han) (h0 := ?_) ..; rw [and_wip hpr])
          | (refine Exists.intro _ (And.intro rfl (And.intro rfl (And.intro (Nat.le_of_ble_eq_true rfl) ?_))))
          | (refine Exists.intro _ (And.intro rfl (And.intro rfl (And.intro rfl (And.intro (Nat.le_of_ble_eq_true rfl) ?_)))))
          | (refine And.intro (Exists.intro _ (And.intro rfl rfl)) ?_)
          | (exact fun hW => absurd hW (by decide +kernel))
          | (intro hW; (try simp only [Bool.not_true, Bool.not_false, Bool.not_eq_true', Bool.not_eq_false', decide_eq_true_eq, decide_eq_false_iff_not, reduceCtorEq, Bool.true_eq_false, Bool.false_eq_true, mk_size, List.size_toArray, ByteArray.size_append, ByteArray.size_extract, List.length_cons, List.length_nil, ba_get, ba_empty, Int.toNat_natCast] at hW))
          | (refine And.intro (?_ : _ → _) (?_ : _ → _))
          | (refine FinR.drop 0 (Nat.zero_le _) (Closed.zero _) rfl ?_)
          | (refine FinR.keep ?_)
          | (refine And.intro (det3_agg rfl) ?_)
          | (refine fL_mk ?_)
          | (refine And.intro (by (try simp only [mk_size, List.size_toArray, ByteArray.size_append, ByteArray.size_extract, List.length_cons, List.length_nil]); omega) ?_)
          | (refine And.intro (by (try simp only [mk_size, List.size_toArray, ByteArray.size_append, ByteArray.size_extract, List.length_cons, List.length_nil, wrap64_eq]); omega) ?_)
          | fail)
    all_goals (try (exfalso; simp_all; done))
    all_goals (try exact h0)
  · obtain ⟨h1, h2, p, q, rfl, rfl, hx, hy⟩ := prV_of hp
    obtain ⟨n, hn, rfl, rfl, rfl, rfl, rfl, rfl⟩ := shN_of h1
    obtain ⟨m, hm, rfl, rfl, rfl, rfl, rfl, rfl⟩ := shN_of h2
    clear hp h1 h2
    have hpr : prN m p q < 2 ^ 36 := mvN_lt (sh_perm p hx q hy) m
    have hxr : n ^^^ prN m p q < 2 ^ 36 := Nat.xor_lt_two_pow hn hpr
    have hor : n ||| prN m p q < 2 ^ 36 := Nat.or_lt_two_pow hn hpr
    have han : n &&& (fullN ^^^ prN m p q) < 2 ^ 36 := Nat.lt_of_le_of_lt Nat.and_le_left hn
    repeat' ((conv => whnf); first
      | (refine And.intro rfl ?_)
      | (refine And.intro (by decide +kernel) ?_)
      | (refine And.intro trivial ?_)
      | (refine d_ToggleT (hn := hn) (hm := hm) (hx := hx) (hy := hy) (h0 := ?_) ..)
      | (refine d_sToggleT (hx := hx) (hy := hy) (h0 := ?_) ..)
      | (refine d_InkT (hn := hn) (hm := hm) (hx := hx) (hy := hy) (h0 := ?_) ..)
      | (refine d_sInkT (hx := hx) (hy := hy) (h0 := ?_) ..)
      | (refine d_WipeT (hn := hn) (hm := hm) (hx := hx) (hy := hy) (h0 := ?_) ..)
      | (refine d_sWipeT (hx := hx) (hy := hy) (h0 := ?_) ..)
      | (refine Exists.intro _ (And.intro rfl (And.intro rfl (And.intro (Nat.le_of_ble_eq_true rfl) ?_))))
      | (refine Exists.intro _ (And.intro rfl (And.intro rfl (And.intro rfl (And.intro (Nat.le_of_ble_eq_true rfl) ?_)))))
      | (refine And.intro (Exists.intro _ (And.intro rfl rfl)) ?_)
      | (exact fun hW => absurd hW (by decide +kernel))
      | (intro hW; (try simp only [Bool.not_true, Bool.not_false, Bool.not_eq_true', Bool.not_eq_false', decide_eq_true_eq, decide_eq_false_iff_not, reduceCtorEq, Bool.true_eq_false, Bool.false_eq_true, mk_size, List.size_toArray, ByteArray.size_append, ByteArray.size_extract, List.length_cons, List.length_nil, ba_get, ba_empty, Int.toNat_natCast] at hW))
      | (refine And.intro (?_ : _ → _) (?_ : _ → _))
      | (refine FinR.drop 0 (Nat.zero_le _) (Closed.zero _) rfl ?_)
      | (refine FinR.keep ?_)
      | (refine And.intro (det3_agg rfl) ?_)
      | (refine fL_mk ?_)
      | (refine And.intro (by (try simp only [mk_size, List.size_toArray, ByteArray.size_append, ByteArray.size_extract, List.length_cons, List.length_nil]); omega) ?_)
      | (refine And.intro (by (try simp only [mk_size, List.size_toArray, ByteArray.size_append, ByteArray.size_extract, List.length_cons, List.length_nil, wrap64_eq]); omega) ?_)
      | fail)
    all_goals (try (exfalso; simp_all; done))
    refine d_DrawShiftSheet (hcd := hcd) (h0 := fun c1 c2 c3 c4 c5 c6 dx dy hdx hdy => ?_) ..
    obtain ⟨hd1, hd2⟩ := hdx
    replace hd1 : -9223372036854775808 ≤ dx := hd1
    replace hd2 : dx ≤ 9223372036854775807 := hd2
    obtain ⟨X, eX⟩ : ∃ X : Nat, dx % 6 = X := ⟨(dx % 6).toNat, by omega⟩
    obtain ⟨Y, eY⟩ : ∃ Y : Nat, dy % 6 = Y := ⟨(dy % 6).toNat, by omega⟩
    have hX6 : X < 6 := by omega
    have hY6 : Y < 6 := by omega
    rcases hb : shB6 c1 c2 c3 c4 c5 c6 with _ | _
    all_goals (first | (obtain ⟨u, hu, rfl, rfl, rfl, rfl, rfl, rfl⟩ := shN_of hb; have hmv := mvN_lt (sh_perm X hX6 Y hY6) u) | skip)
    all_goals
      repeat' ((conv => whnf); first
        | (refine And.intro rfl ?_)
        | (refine And.intro (by decide +kernel) ?_)
        | (refine And.intro trivial ?_)
        | (refine d_ShiftT (hn := hu) (hx := eX) (hy := eY) (h0 := ?_) ..)
        | (refine d_sShiftT (hx := eX) (hy := eY) (h0 := ?_) ..)
        | (refine d_ShiftF (h := hb) (h0 := ?_) ..)
        | (refine d_sShiftF (h := hb) (h0 := ?_) ..)
        | (refine d_IsSheet (h0 := ?_) ..; rw [hb])
        | (refine Exists.intro _ (And.intro rfl (And.intro rfl (And.intro (Nat.le_of_ble_eq_true rfl) ?_))))
        | (refine Exists.intro _ (And.intro rfl (And.intro rfl (And.intro rfl (And.intro (Nat.le_of_ble_eq_true rfl) ?_)))))
        | (refine And.intro (Exists.intro _ (And.intro rfl rfl)) ?_)
        | (exact fun hW => absurd hW (by decide +kernel))
        | (intro hW; (try simp only [Bool.not_true, Bool.not_false, Bool.not_eq_true', Bool.not_eq_false', decide_eq_true_eq, decide_eq_false_iff_not, reduceCtorEq, Bool.true_eq_false, Bool.false_eq_true, mk_size, List.size_toArray, ByteArray.size_append, ByteArray.size_extract, List.length_cons, List.length_nil, ba_get, ba_empty, Int.toNat_natCast] at hW))
        | (refine And.intro (?_ : _ → _) (?_ : _ → _))
        | (refine FinR.drop 0 (Nat.zero_le _) (Closed.zero _) rfl ?_)
        | (refine FinR.keep ?_)
        | (refine And.intro (det3_agg rfl) ?_)
        | (refine fL_mk ?_)
        | (refine And.intro (by (try simp only [mk_size, List.size_toArray, ByteArray.size_append, ByteArray.size_extract, List.length_cons, List.length_nil]); omega) ?_)
        | (refine And.intro (by (try simp only [mk_size, List.size_toArray, ByteArray.size_append, ByteArray.size_extract, List.length_cons, List.length_nil, wrap64_eq]); omega) ?_)
        | fail)
    all_goals (try (exfalso; simp_all; done))
    all_goals
      refine d_DrawFlipCell (hcd := hcd) (h0 := fun e1 e2 e3 e4 e5 e6 x y => ?_) ..
      rcases hf : shB6 e1 e2 e3 e4 e5 e6 && cellB x y with _ | _
      all_goals (first | (have hf1 := hf; rw [Bool.and_eq_true] at hf1; obtain ⟨g, hg, rfl, rfl, rfl, rfl, rfl, rfl⟩ := shN_of hf1.1; have hf2 := cellB_iff.1 hf1.2; obtain ⟨k, rfl⟩ : ∃ k : Nat, x = k := ⟨x.toNat, by omega⟩; obtain ⟨l, rfl⟩ : ∃ k : Nat, y = k := ⟨y.toNat, by omega⟩; have hk : k < 6 := (by omega); have hl : l < 6 := (by omega); clear hf hf1 hf2; have hgx : g ^^^ 2 ^ (6 * l + k) < 2 ^ 36 := Nat.xor_lt_two_pow hg (Nat.pow_lt_pow_right (by decide) (by omega))) | skip)
      all_goals
        repeat' ((conv => whnf); first
          | (refine And.intro rfl ?_)
          | (refine And.intro (by decide +kernel) ?_)
          | (refine And.intro trivial ?_)
          | (refine d_FlipT (hn := hg) (hx := hk) (hy := hl) (h0 := ?_) ..)
          | (refine d_sFlipT (hx := hk) (hy := hl) (h0 := ?_) ..)
          | (refine d_BlackT (hn := hg) (hx := hk) (hy := hl) (h0 := ?_) ..)
          | (refine d_sBlackT (hx := hk) (hy := hl) (h0 := ?_) ..)
          | (refine d_FlipG (h := hf) (h0 := ?_) ..)
          | (refine d_sFlipG (h := hf) (h0 := ?_) ..)
          | (refine d_BlackG (h := hf) (h0 := ?_) ..)
          | (refine d_sBlackG (h := hf) (h0 := ?_) ..)
          | (refine d_BlackT (hn := hgx) (hx := hk) (hy := hl) (h0 := ?_) ..; rw [flip_bit])
          | (refine d_FlipT (hn := hgx) (hx := hk) (hy := hl) (h0 := ?_) ..; rw [xor_twice])
          | (refine d_SizeT (hn := hu) (h0 := ?_) ..)
          | (refine d_SizeT (hn := hmv) (h0 := ?_) ..; rw [ones_mv hu hX6 hY6])
          | (refine d_ShiftT (hn := hmv) (x := (6 - X) % 6) (y := (6 - Y) % 6) (hx := by rw [wrap_i64 (0 - dx) (by omega) (by omega)]; omega) (hy := by rw [wrap_i64 (0 - dy) (by omega) (by omega)]; omega) (h0 := ?_) ..; rw [mv_back hu hX6 hY6])
          | (refine d_ShiftT (hn := hu) (x := X) (y := Y) (hx := by rw [wrap_i64 (dx + 6) (by omega) (by omega)]; omega) (hy := by rw [wrap_i64 (dy - 6) (by omega) (by omega)]; omega) (h0 := ?_) ..)
          | (refine d_ShiftT (hn := hm) (x := p) (y := q) (hx := by omega) (hy := by omega) (h0 := ?_) ..)
          | (refine d_ToggleT (hn := hxr) (hm := hm) (hx := hx) (hy := hy) (h0 := ?_) ..; rw [xor_twice])
          | (refine d_PartT (hn := hpr) (hm := hor) (h0 := ?_) ..; rw [decide_eq_true (or_cov hpr)])
          | (refine d_BothT (hn := hpr) (hm := han) (h0 := ?_) ..; rw [and_wip hpr])
          | (refine Exists.intro _ (And.intro rfl (And.intro rfl (And.intro (Nat.le_of_ble_eq_true rfl) ?_))))
          | (refine Exists.intro _ (And.intro rfl (And.intro rfl (And.intro rfl (And.intro (Nat.le_of_ble_eq_true rfl) ?_)))))
          | (refine And.intro (Exists.intro _ (And.intro rfl rfl)) ?_)
          | (exact fun hW => absurd hW (by decide +kernel))
          | (intro hW; (try simp only [Bool.not_true, Bool.not_false, Bool.not_eq_true', Bool.not_eq_false', decide_eq_true_eq, decide_eq_false_iff_not, reduceCtorEq, Bool.true_eq_false, Bool.false_eq_true, mk_size, List.size_toArray, ByteArray.size_append, ByteArray.size_extract, List.length_cons, List.length_nil, ba_get, ba_empty, Int.toNat_natCast] at hW))
          | (refine And.intro (?_ : _ → _) (?_ : _ → _))
          | (refine FinR.drop 0 (Nat.zero_le _) (Closed.zero _) rfl ?_)
          | (refine FinR.keep ?_)
          | (refine And.intro (det3_agg rfl) ?_)
          | (refine fL_mk ?_)
          | (refine And.intro (by (try simp only [mk_size, List.size_toArray, ByteArray.size_append, ByteArray.size_extract, List.length_cons, List.length_nil]); omega) ?_)
          | (refine And.intro (by (try simp only [mk_size, List.size_toArray, ByteArray.size_append, ByteArray.size_extract, List.length_cons, List.length_nil, wrap64_eq]); omega) ?_)
          | fail)
    all_goals (try (exfalso; simp_all; done))
    all_goals (try exact h0)
theorem c_law_Presses (v : Value) (xs : List Int) (sv : Sli W0 [] 1 enB (.lit v) xs) (hv : ∀ x ∈ xs, 0 ≤ x ∧ x < 256) (mv : xs.length ≤ maxLen) (K : Cont) (h0 : K (Bo true) []) : ACall Try.prog W0 3 [.lit v] [] K := by
  by_cases hz : 65536 < (xs.length : Int)
  · refine by3 (Nat.le_of_ble_eq_true rfl) ?_
    repeat' ((conv => whnf); first
      | (refine And.intro rfl ?_)
      | (refine And.intro (by decide +kernel) ?_)
      | (refine And.intro trivial ?_)
      | (refine c_rBig (hs := sv) (h0 := ?_) ..; rw [decide_eq_true hz])
      | (refine Exists.intro _ (And.intro rfl (And.intro rfl (And.intro (Nat.le_of_ble_eq_true rfl) ?_))))
      | (refine Exists.intro _ (And.intro rfl (And.intro rfl (And.intro rfl (And.intro (Nat.le_of_ble_eq_true rfl) ?_)))))
      | (refine And.intro (Exists.intro _ (And.intro rfl rfl)) ?_)
      | (exact fun hW => absurd hW (by decide +kernel))
      | (intro hW; (try simp only [Bool.not_true, Bool.not_false, Bool.not_eq_true', Bool.not_eq_false', decide_eq_true_eq, decide_eq_false_iff_not, reduceCtorEq, Bool.true_eq_false, Bool.false_eq_true, mk_size, List.size_toArray, ByteArray.size_append, ByteArray.size_extract, List.length_cons, List.length_nil, ba_get, ba_empty, Int.toNat_natCast] at hW))
      | (refine And.intro (?_ : _ → _) (?_ : _ → _))
      | (refine FinR.drop 0 (Nat.zero_le _) (Closed.zero _) rfl ?_)
      | (refine FinR.keep ?_)
      | (refine And.intro (det3_agg rfl) ?_)
      | (refine fL_mk ?_)
      | (refine And.intro (by (try simp only [mk_size, List.size_toArray, ByteArray.size_append, ByteArray.size_extract, List.length_cons, List.length_nil]); omega) ?_)
      | (refine And.intro (by (try simp only [mk_size, List.size_toArray, ByteArray.size_append, ByteArray.size_extract, List.length_cons, List.length_nil, wrap64_eq]); omega) ?_)
      | fail)
    all_goals first | exact h0 | (exfalso; simp_all; done)
  · exact c_law_Presses1 v xs ⟨sv, hv, by omega⟩ hz K h0
end Go.Proofs.Ytkcbhdjhbnnlgaa
end
