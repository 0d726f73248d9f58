import Derived.Test.YthncpkdhcfaflaaZLawIsRightOrder5
section
/- Contracts: the law of right orders. -/
set_option linter.unusedVariables false
set_option linter.unusedSimpArgs false
set_option maxRecDepth 100000
set_option maxHeartbeats 4000000
namespace Go.Proofs.Ythncpkdhcfaflaa
open Go Go.RowKit Go.Proofs.Ythncpkdhcfaflaa.Abs
variable {W0 : World} {σ : List Blk}
theorem c_sRightF (p : List Int) (hq : p.length = 36) (a b : AV) (xs : List (List Int)) (ord : List Int) (ha : Sli W0 [] 9 enI a xs) (hb : Sli W0 [] 1 en1 b ord) (hx : ∀ x ∈ xs, x.length = 9) (hl : xs.length ≤ 1048576) (hl2 : ord.length ≤ 1048576) (hbad : (picB p && (listB xs && ordB ord xs.length)) = false) (K : Cont) (h0 : K (.tup [Bo false, Bo false]) []) : ACall Try.prog W0 32 [Pi p, a, b] [] K := by
  obtain ⟨o, n, cap, rfl, hn, _⟩ := sli_form ha
  obtain ⟨o2, n2, cap2, rfl, hn2, _⟩ := sli_form hb
  refine by32 (Nat.le_of_ble_eq_true rfl) ?_
  rw [← hn] at hbad
  cases hpic : picB p <;> cases hlb : listB xs <;> cases hob : ordB ord n <;> first | (exfalso; simp_all; done) | skip
  all_goals skip
  · skip
    repeat' ((conv => whnf); first
      | (refine Exists.intro (bQ p 44) (And.intro rfl (And.intro rfl (And.intro (pic_le hq rfl) ?_))); rw [show (bQ p 44).cells = p.map I from rfl, pic_ld hq _ rfl])
      | (refine And.intro rfl ?_)
      | (refine And.intro (by decide +kernel) ?_)
      | (refine And.intro trivial ?_)
      | (refine d_l8Picture (hq := hq) (h0 := ?_) ..; rw [hpic])
      | (refine d_l8List (ha := sli_up ha) (hx := hx) (hl := by omega) (h0 := ?_) ..; rw [hlb])
      | (refine d_l8Order (ha := sli_up hb) (hl := by omega) (hn6 := by omega) (h0 := ?_) ..; rw [hob])
      | (refine Exists.intro _ (And.intro rfl (And.intro rfl (And.intro (Nat.le_of_ble_eq_true rfl) ?_))))
      | (refine Exists.intro _ (And.intro rfl (And.intro rfl (And.intro rfl (And.intro (Nat.le_of_ble_eq_true rfl) ?_)))))
      | (refine And.intro (Exists.intro _ (And.intro rfl rfl)) ?_)
      | (exact fun hW => absurd hW (by decide +kernel))
      | (intro hW; (try simp only [Bool.not_true, Bool.not_false, Bool.not_eq_true', Bool.not_eq_false', decide_eq_true_eq, decide_eq_false_iff_not, reduceCtorEq, Bool.true_eq_false, Bool.false_eq_true, mk_size, List.size_toArray, ByteArray.size_append, ByteArray.size_extract, List.length_cons, List.length_nil, ba_get, ba_empty, Int.toNat_natCast] at hW))
      | (refine And.intro (?_ : _ → _) (?_ : _ → _))
      | (refine FinR.drop 0 (Nat.zero_le _) (Closed.zero _) rfl ?_)
      | (refine FinR.keep ?_)
      | (refine And.intro (det3_agg rfl) ?_)
      | (refine fL_mk ?_)
      | (refine And.intro (by (try simp only [mk_size, List.size_toArray, ByteArray.size_append, ByteArray.size_extract, List.length_cons, List.length_nil]); omega) ?_)
      | (refine And.intro (by (try simp only [mk_size, List.size_toArray, ByteArray.size_append, ByteArray.size_extract, List.length_cons, List.length_nil, wrap64_eq]); omega) ?_)
      | fail)
    all_goals first | (exfalso; omega) | (exfalso; simp_all; done) | exact h0
  · skip
    repeat' ((conv => whnf); first
      | (refine Exists.intro (bQ p 44) (And.intro rfl (And.intro rfl (And.intro (pic_le hq rfl) ?_))); rw [show (bQ p 44).cells = p.map I from rfl, pic_ld hq _ rfl])
      | (refine And.intro rfl ?_)
      | (refine And.intro (by decide +kernel) ?_)
      | (refine And.intro trivial ?_)
      | (refine d_l8Picture (hq := hq) (h0 := ?_) ..; rw [hpic])
      | (refine d_l8List (ha := sli_up ha) (hx := hx) (hl := by omega) (h0 := ?_) ..; rw [hlb])
      | (refine d_l8Order (ha := sli_up hb) (hl := by omega) (hn6 := by omega) (h0 := ?_) ..; rw [hob])
      | (refine Exists.intro _ (And.intro rfl (And.intro rfl (And.intro (Nat.le_of_ble_eq_true rfl) ?_))))
      | (refine Exists.intro _ (And.intro rfl (And.intro rfl (And.intro rfl (And.intro (Nat.le_of_ble_eq_true rfl) ?_)))))
      | (refine And.intro (Exists.intro _ (And.intro rfl rfl)) ?_)
      | (exact fun hW => absurd hW (by decide +kernel))
      | (intro hW; (try simp only [Bool.not_true, Bool.not_false, Bool.not_eq_true', Bool.not_eq_false', decide_eq_true_eq, decide_eq_false_iff_not, reduceCtorEq, Bool.true_eq_false, Bool.false_eq_true, mk_size, List.size_toArray, ByteArray.size_append, ByteArray.size_extract, List.length_cons, List.length_nil, ba_get, ba_empty, Int.toNat_natCast] at hW))
      | (refine And.intro (?_ : _ → _) (?_ : _ → _))
      | (refine FinR.drop 0 (Nat.zero_le _) (Closed.zero _) rfl ?_)
      | (refine FinR.keep ?_)
      | (refine And.intro (det3_agg rfl) ?_)
      | (refine fL_mk ?_)
      | (refine And.intro (by (try simp only [mk_size, List.size_toArray, ByteArray.size_append, ByteArray.size_extract, List.length_cons, List.length_nil]); omega) ?_)
      | (refine And.intro (by (try simp only [mk_size, List.size_toArray, ByteArray.size_append, ByteArray.size_extract, List.length_cons, List.length_nil, wrap64_eq]); omega) ?_)
      | fail)
    all_goals first | (exfalso; omega) | (exfalso; simp_all; done) | exact h0
  · skip
    repeat' ((conv => whnf); first
      | (refine Exists.intro (bQ p 44) (And.intro rfl (And.intro rfl (And.intro (pic_le hq rfl) ?_))); rw [show (bQ p 44).cells = p.map I from rfl, pic_ld hq _ rfl])
      | (refine And.intro rfl ?_)
      | (refine And.intro (by decide +kernel) ?_)
      | (refine And.intro trivial ?_)
      | (refine d_l8Picture (hq := hq) (h0 := ?_) ..; rw [hpic])
      | (refine d_l8List (ha := sli_up ha) (hx := hx) (hl := by omega) (h0 := ?_) ..; rw [hlb])
      | (refine d_l8Order (ha := sli_up hb) (hl := by omega) (hn6 := by omega) (h0 := ?_) ..; rw [hob])
      | (refine Exists.intro _ (And.intro rfl (And.intro rfl (And.intro (Nat.le_of_ble_eq_true rfl) ?_))))
      | (refine Exists.intro _ (And.intro rfl (And.intro rfl (And.intro rfl (And.intro (Nat.le_of_ble_eq_true rfl) ?_)))))
      | (refine And.intro (Exists.intro _ (And.intro rfl rfl)) ?_)
      | (exact fun hW => absurd hW (by decide +kernel))
      | (intro hW; (try simp only [Bool.not_true, Bool.not_false, Bool.not_eq_true', Bool.not_eq_false', decide_eq_true_eq, decide_eq_false_iff_not, reduceCtorEq, Bool.true_eq_false, Bool.false_eq_true, mk_size, List.size_toArray, ByteArray.size_append, ByteArray.size_extract, List.length_cons, List.length_nil, ba_get, ba_empty, Int.toNat_natCast] at hW))
      | (refine And.intro (?_ : _ → _) (?_ : _ → _))
      | (refine FinR.drop 0 (Nat.zero_le _) (Closed.zero _) rfl ?_)
      | (refine FinR.keep ?_)
      | (refine And.intro (det3_agg rfl) ?_)
      | (refine fL_mk ?_)
      | (refine And.intro (by (try simp only [mk_size, List.size_toArray, ByteArray.size_append, ByteArray.size_extract, List.length_cons, List.length_nil]); omega) ?_)
      | (refine And.intro (by (try simp only [mk_size, List.size_toArray, ByteArray.size_append, ByteArray.size_extract, List.length_cons, List.length_nil, wrap64_eq]); omega) ?_)
      | fail)
    all_goals first | (exfalso; omega) | (exfalso; simp_all; done) | exact h0
  · skip
    repeat' ((conv => whnf); first
      | (refine Exists.intro (bQ p 44) (And.intro rfl (And.intro rfl (And.intro (pic_le hq rfl) ?_))); rw [show (bQ p 44).cells = p.map I from rfl, pic_ld hq _ rfl])
      | (refine And.intro rfl ?_)
      | (refine And.intro (by decide +kernel) ?_)
      | (refine And.intro trivial ?_)
      | (refine d_l8Picture (hq := hq) (h0 := ?_) ..; rw [hpic])
      | (refine d_l8List (ha := sli_up ha) (hx := hx) (hl := by omega) (h0 := ?_) ..; rw [hlb])
      | (refine d_l8Order (ha := sli_up hb) (hl := by omega) (hn6 := by omega) (h0 := ?_) ..; rw [hob])
      | (refine Exists.intro _ (And.intro rfl (And.intro rfl (And.intro (Nat.le_of_ble_eq_true rfl) ?_))))
      | (refine Exists.intro _ (And.intro rfl (And.intro rfl (And.intro rfl (And.intro (Nat.le_of_ble_eq_true rfl) ?_)))))
      | (refine And.intro (Exists.intro _ (And.intro rfl rfl)) ?_)
      | (exact fun hW => absurd hW (by decide +kernel))
      | (intro hW; (try simp only [Bool.not_true, Bool.not_false, Bool.not_eq_true', Bool.not_eq_false', decide_eq_true_eq, decide_eq_false_iff_not, reduceCtorEq, Bool.true_eq_false, Bool.false_eq_true, mk_size, List.size_toArray, ByteArray.size_append, ByteArray.size_extract, List.length_cons, List.length_nil, ba_get, ba_empty, Int.toNat_natCast] at hW))
      | (refine And.intro (?_ : _ → _) (?_ : _ → _))
      | (refine FinR.drop 0 (Nat.zero_le _) (Closed.zero _) rfl ?_)
      | (refine FinR.keep ?_)
      | (refine And.intro (det3_agg rfl) ?_)
      | (refine fL_mk ?_)
      | (refine And.intro (by (try simp only [mk_size, List.size_toArray, ByteArray.size_append, ByteArray.size_extract, List.length_cons, List.length_nil]); omega) ?_)
      | (refine And.intro (by (try simp only [mk_size, List.size_toArray, ByteArray.size_append, ByteArray.size_extract, List.length_cons, List.length_nil, wrap64_eq]); omega) ?_)
      | fail)
    all_goals first | (exfalso; omega) | (exfalso; simp_all; done) | exact h0
  · skip
    repeat' ((conv => whnf); first
      | (refine Exists.intro (bQ p 44) (And.intro rfl (And.intro rfl (And.intro (pic_le hq rfl) ?_))); rw [show (bQ p 44).cells = p.map I from rfl, pic_ld hq _ rfl])
      | (refine And.intro rfl ?_)
      | (refine And.intro (by decide +kernel) ?_)
      | (refine And.intro trivial ?_)
      | (refine d_l8Picture (hq := hq) (h0 := ?_) ..; rw [hpic])
      | (refine d_l8List (ha := sli_up ha) (hx := hx) (hl := by omega) (h0 := ?_) ..; rw [hlb])
      | (refine d_l8Order (ha := sli_up hb) (hl := by omega) (hn6 := by omega) (h0 := ?_) ..; rw [hob])
      | (refine Exists.intro _ (And.intro rfl (And.intro rfl (And.intro (Nat.le_of_ble_eq_true rfl) ?_))))
      | (refine Exists.intro _ (And.intro rfl (And.intro rfl (And.intro rfl (And.intro (Nat.le_of_ble_eq_true rfl) ?_)))))
      | (refine And.intro (Exists.intro _ (And.intro rfl rfl)) ?_)
      | (exact fun hW => absurd hW (by decide +kernel))
      | (intro hW; (try simp only [Bool.not_true, Bool.not_false, Bool.not_eq_true', Bool.not_eq_false', decide_eq_true_eq, decide_eq_false_iff_not, reduceCtorEq, Bool.true_eq_false, Bool.false_eq_true, mk_size, List.size_toArray, ByteArray.size_append, ByteArray.size_extract, List.length_cons, List.length_nil, ba_get, ba_empty, Int.toNat_natCast] at hW))
      | (refine And.intro (?_ : _ → _) (?_ : _ → _))
      | (refine FinR.drop 0 (Nat.zero_le _) (Closed.zero _) rfl ?_)
      | (refine FinR.keep ?_)
      | (refine And.intro (det3_agg rfl) ?_)
      | (refine fL_mk ?_)
      | (refine And.intro (by (try simp only [mk_size, List.size_toArray, ByteArray.size_append, ByteArray.size_extract, List.length_cons, List.length_nil]); omega) ?_)
      | (refine And.intro (by (try simp only [mk_size, List.size_toArray, ByteArray.size_append, ByteArray.size_extract, List.length_cons, List.length_nil, wrap64_eq]); omega) ?_)
      | fail)
    all_goals first | (exfalso; omega) | (exfalso; simp_all; done) | exact h0
  · skip
    repeat' ((conv => whnf); first
      | (refine Exists.intro (bQ p 44) (And.intro rfl (And.intro rfl (And.intro (pic_le hq rfl) ?_))); rw [show (bQ p 44).cells = p.map I from rfl, pic_ld hq _ rfl])
      | (refine And.intro rfl ?_)
      | (refine And.intro (by decide +kernel) ?_)
      | (refine And.intro trivial ?_)
      | (refine d_l8Picture (hq := hq) (h0 := ?_) ..; rw [hpic])
      | (refine d_l8List (ha := sli_up ha) (hx := hx) (hl := by omega) (h0 := ?_) ..; rw [hlb])
      | (refine d_l8Order (ha := sli_up hb) (hl := by omega) (hn6 := by omega) (h0 := ?_) ..; rw [hob])
      | (refine Exists.intro _ (And.intro rfl (And.intro rfl (And.intro (Nat.le_of_ble_eq_true rfl) ?_))))
      | (refine Exists.intro _ (And.intro rfl (And.intro rfl (And.intro rfl (And.intro (Nat.le_of_ble_eq_true rfl) ?_)))))
      | (refine And.intro (Exists.intro _ (And.intro rfl rfl)) ?_)
      | (exact fun hW => absurd hW (by decide +kernel))
      | (intro hW; (try simp only [Bool.not_true, Bool.not_false, Bool.not_eq_true', Bool.not_eq_false', decide_eq_true_eq, decide_eq_false_iff_not, reduceCtorEq, Bool.true_eq_false, Bool.false_eq_true, mk_size, List.size_toArray, ByteArray.size_append, ByteArray.size_extract, List.length_cons, List.length_nil, ba_get, ba_empty, Int.toNat_natCast] at hW))
      | (refine And.intro (?_ : _ → _) (?_ : _ → _))
      | (refine FinR.drop 0 (Nat.zero_le _) (Closed.zero _) rfl ?_)
      | (refine FinR.keep ?_)
      | (refine And.intro (det3_agg rfl) ?_)
      | (refine fL_mk ?_)
      | (refine And.intro (by (try simp only [mk_size, List.size_toArray, ByteArray.size_append, ByteArray.size_extract, List.length_cons, List.length_nil]); omega) ?_)
      | (refine And.intro (by (try simp only [mk_size, List.size_toArray, ByteArray.size_append, ByteArray.size_extract, List.length_cons, List.length_nil, wrap64_eq]); omega) ?_)
      | fail)
    all_goals first | (exfalso; omega) | (exfalso; simp_all; done) | exact h0
  · skip
    repeat' ((conv => whnf); first
      | (refine Exists.intro (bQ p 44) (And.intro rfl (And.intro rfl (And.intro (pic_le hq rfl) ?_))); rw [show (bQ p 44).cells = p.map I from rfl, pic_ld hq _ rfl])
      | (refine And.intro rfl ?_)
      | (refine And.intro (by decide +kernel) ?_)
      | (refine And.intro trivial ?_)
      | (refine d_l8Picture (hq := hq) (h0 := ?_) ..; rw [hpic])
      | (refine d_l8List (ha := sli_up ha) (hx := hx) (hl := by omega) (h0 := ?_) ..; rw [hlb])
      | (refine d_l8Order (ha := sli_up hb) (hl := by omega) (hn6 := by omega) (h0 := ?_) ..; rw [hob])
      | (refine Exists.intro _ (And.intro rfl (And.intro rfl (And.intro (Nat.le_of_ble_eq_true rfl) ?_))))
      | (refine Exists.intro _ (And.intro rfl (And.intro rfl (And.intro rfl (And.intro (Nat.le_of_ble_eq_true rfl) ?_)))))
      | (refine And.intro (Exists.intro _ (And.intro rfl rfl)) ?_)
      | (exact fun hW => absurd hW (by decide +kernel))
      | (intro hW; (try simp only [Bool.not_true, Bool.not_false, Bool.not_eq_true', Bool.not_eq_false', decide_eq_true_eq, decide_eq_false_iff_not, reduceCtorEq, Bool.true_eq_false, Bool.false_eq_true, mk_size, List.size_toArray, ByteArray.size_append, ByteArray.size_extract, List.length_cons, List.length_nil, ba_get, ba_empty, Int.toNat_natCast] at hW))
      | (refine And.intro (?_ : _ → _) (?_ : _ → _))
      | (refine FinR.drop 0 (Nat.zero_le _) (Closed.zero _) rfl ?_)
      | (refine FinR.keep ?_)
      | (refine And.intro (det3_agg rfl) ?_)
      | (refine fL_mk ?_)
      | (refine And.intro (by (try simp only [mk_size, List.size_toArray, ByteArray.size_append, ByteArray.size_extract, List.length_cons, List.length_nil]); omega) ?_)
      | (refine And.intro (by (try simp only [mk_size, List.size_toArray, ByteArray.size_append, ByteArray.size_extract, List.length_cons, List.length_nil, wrap64_eq]); omega) ?_)
      | fail)
    all_goals first | (exfalso; omega) | (exfalso; simp_all; done) | exact h0
theorem c_RightF (p : List Int) (hq : p.length = 36) (a b : AV) (xs : List (List Int)) (ord : List Int) (ha : Sli W0 [] 9 enI a xs) (hb : Sli W0 [] 1 en1 b ord) (hx : ∀ x ∈ xs, x.length = 9) (hl : xs.length ≤ 1048576) (hl2 : ord.length ≤ 1048576) (hbad : (picB p && (listB xs && ordB ord xs.length)) = false) (K : Cont) (h0 : K (.tup [Bo false, Bo false]) []) : ACall Try.prog W0 34 [Pi p, a, b] [] K := by
  obtain ⟨o, n, cap, rfl, hn, _⟩ := sli_form ha
  obtain ⟨o2, n2, cap2, rfl, hn2, _⟩ := sli_form hb
  refine by34 (Nat.le_of_ble_eq_true rfl) ?_
  rw [← hn] at hbad
  have h6 : xs.all pOk = true → decide (xs.length ≤ 6) = listB xs := by intro h; rw [listB, h, Bool.and_true]
  cases hpic : picB p <;> cases hlb : listB xs <;> cases hob : ordB ord n <;> first | (exfalso; simp_all; done) | skip
  all_goals (rw [hlb] at h6)
  · skip
    repeat' ((conv => whnf); first
      | (refine Exists.intro (bQ p 44) (And.intro rfl (And.intro rfl (And.intro (pic_le hq rfl) ?_))); rw [show (bQ p 44).cells = p.map I from rfl, pic_ld hq _ rfl])
      | (refine And.intro rfl ?_)
      | (refine And.intro (by decide +kernel) ?_)
      | (refine And.intro trivial ?_)
      | (refine d_layersOf (ha := sli_up ha) (hx := hx) (hl := by omega) (h1 := fun hall cp => ?_) (h2 := fun hf => ?_) .. <;> try rw [h6 hall])
      | (refine d_IsPicture (hq := hq) (h0 := ?_) ..; rw [hpic])
      | (refine d_isOrder (ha := sli_up hb) (hl := by omega) (hn6 := by omega) (h0 := ?_) ..; rw [hob])
      | (refine Exists.intro _ (And.intro rfl (And.intro rfl (And.intro (Nat.le_of_ble_eq_true rfl) ?_))))
      | (refine Exists.intro _ (And.intro rfl (And.intro rfl (And.intro rfl (And.intro (Nat.le_of_ble_eq_true rfl) ?_)))))
      | (refine And.intro (Exists.intro _ (And.intro rfl rfl)) ?_)
      | (exact fun hW => absurd hW (by decide +kernel))
      | (intro hW; (try simp only [Bool.not_true, Bool.not_false, Bool.not_eq_true', Bool.not_eq_false', decide_eq_true_eq, decide_eq_false_iff_not, reduceCtorEq, Bool.true_eq_false, Bool.false_eq_true, mk_size, List.size_toArray, ByteArray.size_append, ByteArray.size_extract, List.length_cons, List.length_nil, ba_get, ba_empty, Int.toNat_natCast] at hW))
      | (refine And.intro (?_ : _ → _) (?_ : _ → _))
      | (refine FinR.drop 0 (Nat.zero_le _) (Closed.zero _) rfl ?_)
      | (refine FinR.keep ?_)
      | (refine And.intro (det3_agg rfl) ?_)
      | (refine fL_mk ?_)
      | (refine And.intro (by (try simp only [mk_size, List.size_toArray, ByteArray.size_append, ByteArray.size_extract, List.length_cons, List.length_nil]); omega) ?_)
      | (refine And.intro (by (try simp only [mk_size, List.size_toArray, ByteArray.size_append, ByteArray.size_extract, List.length_cons, List.length_nil, wrap64_eq]); omega) ?_)
      | fail)
    all_goals first | (exfalso; omega) | (exfalso; simp_all; done) | exact h0 | (exfalso; simp_all [listB]; done)
  · skip
    repeat' ((conv => whnf); first
      | (refine Exists.intro (bQ p 44) (And.intro rfl (And.intro rfl (And.intro (pic_le hq rfl) ?_))); rw [show (bQ p 44).cells = p.map I from rfl, pic_ld hq _ rfl])
      | (refine And.intro rfl ?_)
      | (refine And.intro (by decide +kernel) ?_)
      | (refine And.intro trivial ?_)
      | (refine d_layersOf (ha := sli_up ha) (hx := hx) (hl := by omega) (h1 := fun hall cp => ?_) (h2 := fun hf => ?_) .. <;> try rw [h6 hall])
      | (refine d_IsPicture (hq := hq) (h0 := ?_) ..; rw [hpic])
      | (refine d_isOrder (ha := sli_up hb) (hl := by omega) (hn6 := by omega) (h0 := ?_) ..; rw [hob])
      | (refine Exists.intro _ (And.intro rfl (And.intro rfl (And.intro (Nat.le_of_ble_eq_true rfl) ?_))))
      | (refine Exists.intro _ (And.intro rfl (And.intro rfl (And.intro rfl (And.intro (Nat.le_of_ble_eq_true rfl) ?_)))))
      | (refine And.intro (Exists.intro _ (And.intro rfl rfl)) ?_)
      | (exact fun hW => absurd hW (by decide +kernel))
      | (intro hW; (try simp only [Bool.not_true, Bool.not_false, Bool.not_eq_true', Bool.not_eq_false', decide_eq_true_eq, decide_eq_false_iff_not, reduceCtorEq, Bool.true_eq_false, Bool.false_eq_true, mk_size, List.size_toArray, ByteArray.size_append, ByteArray.size_extract, List.length_cons, List.length_nil, ba_get, ba_empty, Int.toNat_natCast] at hW))
      | (refine And.intro (?_ : _ → _) (?_ : _ → _))
      | (refine FinR.drop 0 (Nat.zero_le _) (Closed.zero _) rfl ?_)
      | (refine FinR.keep ?_)
      | (refine And.intro (det3_agg rfl) ?_)
      | (refine fL_mk ?_)
      | (refine And.intro (by (try simp only [mk_size, List.size_toArray, ByteArray.size_append, ByteArray.size_extract, List.length_cons, List.length_nil]); omega) ?_)
      | (refine And.intro (by (try simp only [mk_size, List.size_toArray, ByteArray.size_append, ByteArray.size_extract, List.length_cons, List.length_nil, wrap64_eq]); omega) ?_)
      | fail)
    all_goals first | (exfalso; omega) | (exfalso; simp_all; done) | exact h0 | (exfalso; simp_all [listB]; done)
  · skip
    repeat' ((conv => whnf); first
      | (refine Exists.intro (bQ p 44) (And.intro rfl (And.intro rfl (And.intro (pic_le hq rfl) ?_))); rw [show (bQ p 44).cells = p.map I from rfl, pic_ld hq _ rfl])
      | (refine And.intro rfl ?_)
      | (refine And.intro (by decide +kernel) ?_)
      | (refine And.intro trivial ?_)
      | (refine d_layersOf (ha := sli_up ha) (hx := hx) (hl := by omega) (h1 := fun hall cp => ?_) (h2 := fun hf => ?_) .. <;> try rw [h6 hall])
      | (refine d_IsPicture (hq := hq) (h0 := ?_) ..; rw [hpic])
      | (refine d_isOrder (ha := sli_up hb) (hl := by omega) (hn6 := by omega) (h0 := ?_) ..; rw [hob])
      | (refine Exists.intro _ (And.intro rfl (And.intro rfl (And.intro (Nat.le_of_ble_eq_true rfl) ?_))))
      | (refine Exists.intro _ (And.intro rfl (And.intro rfl (And.intro rfl (And.intro (Nat.le_of_ble_eq_true rfl) ?_)))))
      | (refine And.intro (Exists.intro _ (And.intro rfl rfl)) ?_)
      | (exact fun hW => absurd hW (by decide +kernel))
      | (intro hW; (try simp only [Bool.not_true, Bool.not_false, Bool.not_eq_true', Bool.not_eq_false', decide_eq_true_eq, decide_eq_false_iff_not, reduceCtorEq, Bool.true_eq_false, Bool.false_eq_true, mk_size, List.size_toArray, ByteArray.size_append, ByteArray.size_extract, List.length_cons, List.length_nil, ba_get, ba_empty, Int.toNat_natCast] at hW))
      | (refine And.intro (?_ : _ → _) (?_ : _ → _))
      | (refine FinR.drop 0 (Nat.zero_le _) (Closed.zero _) rfl ?_)
      | (refine FinR.keep ?_)
      | (refine And.intro (det3_agg rfl) ?_)
      | (refine fL_mk ?_)
      | (refine And.intro (by (try simp only [mk_size, List.size_toArray, ByteArray.size_append, ByteArray.size_extract, List.length_cons, List.length_nil]); omega) ?_)
      | (refine And.intro (by (try simp only [mk_size, List.size_toArray, ByteArray.size_append, ByteArray.size_extract, List.length_cons, List.length_nil, wrap64_eq]); omega) ?_)
      | fail)
    all_goals first | (exfalso; omega) | (exfalso; simp_all; done) | exact h0 | (exfalso; simp_all [listB]; done)
  · skip
    repeat' ((conv => whnf); first
      | (refine Exists.intro (bQ p 44) (And.intro rfl (And.intro rfl (And.intro (pic_le hq rfl) ?_))); rw [show (bQ p 44).cells = p.map I from rfl, pic_ld hq _ rfl])
      | (refine And.intro rfl ?_)
      | (refine And.intro (by decide +kernel) ?_)
      | (refine And.intro trivial ?_)
      | (refine d_layersOf (ha := sli_up ha) (hx := hx) (hl := by omega) (h1 := fun hall cp => ?_) (h2 := fun hf => ?_) .. <;> try rw [h6 hall])
      | (refine d_IsPicture (hq := hq) (h0 := ?_) ..; rw [hpic])
      | (refine d_isOrder (ha := sli_up hb) (hl := by omega) (hn6 := by omega) (h0 := ?_) ..; rw [hob])
      | (refine Exists.intro _ (And.intro rfl (And.intro rfl (And.intro (Nat.le_of_ble_eq_true rfl) ?_))))
      | (refine Exists.intro _ (And.intro rfl (And.intro rfl (And.intro rfl (And.intro (Nat.le_of_ble_eq_true rfl) ?_)))))
      | (refine And.intro (Exists.intro _ (And.intro rfl rfl)) ?_)
      | (exact fun hW => absurd hW (by decide +kernel))
      | (intro hW; (try simp only [Bool.not_true, Bool.not_false, Bool.not_eq_true', Bool.not_eq_false', decide_eq_true_eq, decide_eq_false_iff_not, reduceCtorEq, Bool.true_eq_false, Bool.false_eq_true, mk_size, List.size_toArray, ByteArray.size_append, ByteArray.size_extract, List.length_cons, List.length_nil, ba_get, ba_empty, Int.toNat_natCast] at hW))
      | (refine And.intro (?_ : _ → _) (?_ : _ → _))
      | (refine FinR.drop 0 (Nat.zero_le _) (Closed.zero _) rfl ?_)
      | (refine FinR.keep ?_)
      | (refine And.intro (det3_agg rfl) ?_)
      | (refine fL_mk ?_)
      | (refine And.intro (by (try simp only [mk_size, List.size_toArray, ByteArray.size_append, ByteArray.size_extract, List.length_cons, List.length_nil]); omega) ?_)
      | (refine And.intro (by (try simp only [mk_size, List.size_toArray, ByteArray.size_append, ByteArray.size_extract, List.length_cons, List.length_nil, wrap64_eq]); omega) ?_)
      | fail)
    all_goals first | (exfalso; omega) | (exfalso; simp_all; done) | exact h0 | (exfalso; simp_all [listB]; done)
  · skip
    repeat' ((conv => whnf); first
      | (refine Exists.intro (bQ p 44) (And.intro rfl (And.intro rfl (And.intro (pic_le hq rfl) ?_))); rw [show (bQ p 44).cells = p.map I from rfl, pic_ld hq _ rfl])
      | (refine And.intro rfl ?_)
      | (refine And.intro (by decide +kernel) ?_)
      | (refine And.intro trivial ?_)
      | (refine d_layersOf (ha := sli_up ha) (hx := hx) (hl := by omega) (h1 := fun hall cp => ?_) (h2 := fun hf => ?_) .. <;> try rw [h6 hall])
      | (refine d_IsPicture (hq := hq) (h0 := ?_) ..; rw [hpic])
      | (refine d_isOrder (ha := sli_up hb) (hl := by omega) (hn6 := by omega) (h0 := ?_) ..; rw [hob])
      | (refine Exists.intro _ (And.intro rfl (And.intro rfl (And.intro (Nat.le_of_ble_eq_true rfl) ?_))))
      | (refine Exists.intro _ (And.intro rfl (And.intro rfl (And.intro rfl (And.intro (Nat.le_of_ble_eq_true rfl) ?_)))))
      | (refine And.intro (Exists.intro _ (And.intro rfl rfl)) ?_)
      | (exact fun hW => absurd hW (by decide +kernel))
      | (intro hW; (try simp only [Bool.not_true, Bool.not_false, Bool.not_eq_true', Bool.not_eq_false', decide_eq_true_eq, decide_eq_false_iff_not, reduceCtorEq, Bool.true_eq_false, Bool.false_eq_true, mk_size, List.size_toArray, ByteArray.size_append, ByteArray.size_extract, List.length_cons, List.length_nil, ba_get, ba_empty, Int.toNat_natCast] at hW))
      | (refine And.intro (?_ : _ → _) (?_ : _ → _))
      | (refine FinR.drop 0 (Nat.zero_le _) (Closed.zero _) rfl ?_)
      | (refine FinR.keep ?_)
      | (refine And.intro (det3_agg rfl) ?_)
      | (refine fL_mk ?_)
      | (refine And.intro (by (try simp only [mk_size, List.size_toArray, ByteArray.size_append, ByteArray.size_extract, List.length_cons, List.length_nil]); omega) ?_)
      | (refine And.intro (by (try simp only [mk_size, List.size_toArray, ByteArray.size_append, ByteArray.size_extract, List.length_cons, List.length_nil, wrap64_eq]); omega) ?_)
      | fail)
    all_goals first | (exfalso; omega) | (exfalso; simp_all; done) | exact h0 | (exfalso; simp_all [listB]; done)
  · skip
    repeat' ((conv => whnf); first
      | (refine Exists.intro (bQ p 44) (And.intro rfl (And.intro rfl (And.intro (pic_le hq rfl) ?_))); rw [show (bQ p 44).cells = p.map I from rfl, pic_ld hq _ rfl])
      | (refine And.intro rfl ?_)
      | (refine And.intro (by decide +kernel) ?_)
      | (refine And.intro trivial ?_)
      | (refine d_layersOf (ha := sli_up ha) (hx := hx) (hl := by omega) (h1 := fun hall cp => ?_) (h2 := fun hf => ?_) .. <;> try rw [h6 hall])
      | (refine d_IsPicture (hq := hq) (h0 := ?_) ..; rw [hpic])
      | (refine d_isOrder (ha := sli_up hb) (hl := by omega) (hn6 := by omega) (h0 := ?_) ..; rw [hob])
      | (refine Exists.intro _ (And.intro rfl (And.intro rfl (And.intro (Nat.le_of_ble_eq_true rfl) ?_))))
      | (refine Exists.intro _ (And.intro rfl (And.intro rfl (And.intro rfl (And.intro (Nat.le_of_ble_eq_true rfl) ?_)))))
      | (refine And.intro (Exists.intro _ (And.intro rfl rfl)) ?_)
      | (exact fun hW => absurd hW (by decide +kernel))
      | (intro hW; (try simp only [Bool.not_true, Bool.not_false, Bool.not_eq_true', Bool.not_eq_false', decide_eq_true_eq, decide_eq_false_iff_not, reduceCtorEq, Bool.true_eq_false, Bool.false_eq_true, mk_size, List.size_toArray, ByteArray.size_append, ByteArray.size_extract, List.length_cons, List.length_nil, ba_get, ba_empty, Int.toNat_natCast] at hW))
      | (refine And.intro (?_ : _ → _) (?_ : _ → _))
      | (refine FinR.drop 0 (Nat.zero_le _) (Closed.zero _) rfl ?_)
      | (refine FinR.keep ?_)
      | (refine And.intro (det3_agg rfl) ?_)
      | (refine fL_mk ?_)
      | (refine And.intro (by (try simp only [mk_size, List.size_toArray, ByteArray.size_append, ByteArray.size_extract, List.length_cons, List.length_nil]); omega) ?_)
      | (refine And.intro (by (try simp only [mk_size, List.size_toArray, ByteArray.size_append, ByteArray.size_extract, List.length_cons, List.length_nil, wrap64_eq]); omega) ?_)
      | fail)
    all_goals first | (exfalso; omega) | (exfalso; simp_all; done) | exact h0 | (exfalso; simp_all [listB]; done)
  · skip
    repeat' ((conv => whnf); first
      | (refine Exists.intro (bQ p 44) (And.intro rfl (And.intro rfl (And.intro (pic_le hq rfl) ?_))); rw [show (bQ p 44).cells = p.map I from rfl, pic_ld hq _ rfl])
      | (refine And.intro rfl ?_)
      | (refine And.intro (by decide +kernel) ?_)
      | (refine And.intro trivial ?_)
      | (refine d_layersOf (ha := sli_up ha) (hx := hx) (hl := by omega) (h1 := fun hall cp => ?_) (h2 := fun hf => ?_) .. <;> try rw [h6 hall])
      | (refine d_IsPicture (hq := hq) (h0 := ?_) ..; rw [hpic])
      | (refine d_isOrder (ha := sli_up hb) (hl := by omega) (hn6 := by omega) (h0 := ?_) ..; rw [hob])
      | (refine Exists.intro _ (And.intro rfl (And.intro rfl (And.intro (Nat.le_of_ble_eq_true rfl) ?_))))
      | (refine Exists.intro _ (And.intro rfl (And.intro rfl (And.intro rfl (And.intro (Nat.le_of_ble_eq_true rfl) ?_)))))
      | (refine And.intro (Exists.intro _ (And.intro rfl rfl)) ?_)
      | (exact fun hW => absurd hW (by decide +kernel))
      | (intro hW; (try simp only [Bool.not_true, Bool.not_false, Bool.not_eq_true', Bool.not_eq_false', decide_eq_true_eq, decide_eq_false_iff_not, reduceCtorEq, Bool.true_eq_false, Bool.false_eq_true, mk_size, List.size_toArray, ByteArray.size_append, ByteArray.size_extract, List.length_cons, List.length_nil, ba_get, ba_empty, Int.toNat_natCast] at hW))
      | (refine And.intro (?_ : _ → _) (?_ : _ → _))
      | (refine FinR.drop 0 (Nat.zero_le _) (Closed.zero _) rfl ?_)
      | (refine FinR.keep ?_)
      | (refine And.intro (det3_agg rfl) ?_)
      | (refine fL_mk ?_)
      | (refine And.intro (by (try simp only [mk_size, List.size_toArray, ByteArray.size_append, ByteArray.size_extract, List.length_cons, List.length_nil]); omega) ?_)
      | (refine And.intro (by (try simp only [mk_size, List.size_toArray, ByteArray.size_append, ByteArray.size_extract, List.length_cons, List.length_nil, wrap64_eq]); omega) ?_)
      | fail)
    all_goals first | (exfalso; omega) | (exfalso; simp_all; done) | exact h0 | (exfalso; simp_all [listB]; done)
theorem lift_PS2 {α β : Type} {enc : α → List Value} {enc' : β → List Value} {g : FuncId} {c a b : AV} {r : AV} {xs : List α} {ys : List β} {s s' : Nat} (hok : callOK Try.prog g = true) (hp : pure3 c = true) (hr : ∀ k, sh3 k r = r) (hs : Sli W0 σ s enc a xs) (hs2 : Sli W0 σ s' enc' b ys)
    (h : ∀ (W1 : World) (a' b' : AV), Sli W1 [] s enc a' xs → Sli W1 [] s' enc' b' ys → ∀ K : Cont, K r [] → ACall Try.prog W1 g [c, a', b'] [] K) (K : Cont) (h0 : K r σ) : ACall Try.prog W0 g [c, a, b] σ K := by
  refine ACall.frameA (K0 := fun v σ' => v = r ∧ σ' = []) hok (fun W1 ι vs hh hrr => ?_) ?_
  · obtain ⟨v0, vs0, rfl, hr0, hrr⟩ := Rels.uncons hrr
    obtain ⟨v1, vs', rfl, hr1, hr2⟩ := Rels.uncons hrr
    obtain ⟨v2, vs'', rfl, hr3, hr4⟩ := Rels.uncons hr2
    obtain ⟨a', ha, hs'⟩ := hs.conc hh ⟨v1, hr1⟩
    obtain ⟨b', hb, hs2'⟩ := hs2.conc hh ⟨v2, hr3⟩
    obtain rfl := hr4.nil_inv
    exact ⟨[c, a', b'], Rels.cons (rel3_pure hp hr0) (Rels.cons (ha _ hr1) (Rels.cons (hb _ hr3) Rels.nil)), h W1 a' b' hs' hs2' _ ⟨rfl, rfl⟩⟩
  · rintro v σ' ⟨rfl, rfl⟩
    have e : σ ++ shB σ.length [] = σ := by simp [shB]
    rw [e, hr]; exact h0
theorem d_sRight (p : List Int) (hq : p.length = 36) (a b : AV) (xs : List (List Int)) (ord : List Int) (ha : Sli W0 σ 9 enI a xs) (hb : Sli W0 σ 1 en1 b ord) (hx : ∀ x ∈ xs, x.length = 9) (hl : xs.length ≤ 1048576) (hl2 : ord.length ≤ 1048576) (K : Cont) (h0 : K (.tup [Bo ((picB p && (listB xs && ordB ord xs.length)) && decide (picY (ordL xs ord) = p)), Bo (picB p && (listB xs && ordB ord xs.length))]) σ) : ACall Try.prog W0 32 [Pi p, a, b] σ K :=
  lift_PS2 (by kernel_rfl) (pureI p) (fun _ => rfl) ha hb (fun W1 a' b' h h' K hK => by
    cases hg : picB p && (listB xs && ordB ord xs.length) with
    | true =>
      rw [hg, Bool.true_and] at hK
      simp only [Bool.and_eq_true] at hg
      exact c_sRightT p hq a' b' xs ord h h' hx hg.1 hg.2.1 hg.2.2 K hK
    | false =>
      rw [hg, Bool.false_and] at hK
      exact c_sRightF p hq a' b' xs ord h h' hx hl hl2 hg K hK) K h0
theorem d_Right (p : List Int) (hq : p.length = 36) (a b : AV) (xs : List (List Int)) (ord : List Int) (ha : Sli W0 σ 9 enI a xs) (hb : Sli W0 σ 1 en1 b ord) (hx : ∀ x ∈ xs, x.length = 9) (hl : xs.length ≤ 1048576) (hl2 : ord.length ≤ 1048576) (K : Cont) (h0 : K (.tup [Bo ((picB p && (listB xs && ordB ord xs.length)) && decide (picY (ordL xs ord) = p)), Bo (picB p && (listB xs && ordB ord xs.length))]) σ) : ACall Try.prog W0 34 [Pi p, a, b] σ K :=
  lift_PS2 (by kernel_rfl) (pureI p) (fun _ => rfl) ha hb (fun W1 a' b' h h' K hK => by
    cases hg : picB p && (listB xs && ordB ord xs.length) with
    | true =>
      rw [hg, Bool.true_and] at hK
      simp only [Bool.and_eq_true] at hg
      exact c_RightT p hq a' b' xs ord h h' hx hg.1 hg.2.1 hg.2.2 K hK
    | false =>
      rw [hg, Bool.false_and] at hK
      exact c_RightF p hq a' b' xs ord h h' hx hl hl2 hg K hK) K h0
theorem c_law_IsRightOrderQ (p : List Int) (hq : p.length = 36) (v u : Value) (xs : List (List Int)) (ord : List Int) (ha : Sli W0 [] 9 enI (.lit v) xs) (hb : Sli W0 [] 1 en1 (.lit u) ord) (hx : ∀ x ∈ xs, x.length = 9) (hm : xs.length ≤ maxLen) (hm2 : ord.length ≤ maxLen) (K : Cont) (h0 : K (Bo true) []) : ACall Try.prog W0 7 [Pi p, .lit v, .lit u] [] K := by
  have hm' : xs.length ≤ 9223372036854775807 := hm
  obtain ⟨o2, n2, cap2, hu, hn2, _⟩ := sli_form hb
  cases hu
  refine by7 (Nat.le_of_ble_eq_true rfl) ?_
  by_cases hl2 : ord.length ≤ 1048576
  · by_cases hl : xs.length ≤ 1048576
    · have hz : ¬ ((1048576 : Int) - (xs.length : Nat) < 0) := by omega
      repeat' ((conv => whnf); first
        | (refine Exists.intro (bQ p 42) (And.intro rfl (And.intro rfl (And.intro (pic_le hq rfl) ?_))); rw [show (bQ p 42).cells = p.map I from rfl, pic_ld hq _ rfl])
        | (refine And.intro rfl ?_)
        | (refine And.intro (by decide +kernel) ?_)
        | (refine And.intro trivial ?_)
        | (refine d_szPrintS (ha := sli_up ha) (hl := by omega) (hm := by decide) (h0 := ?_) .. <;> try rw [if_neg hz])
        | (refine d_toPicture (hq := hq) (h0 := ?_) ..)
        | (refine d_toPrintS (hs := sli_up ha) (hx := hx) (hl := by omega) (h0 := ?_) ..)
        | (refine d_toIntS (hs := sli_up hb) (hl := hl2) (h0 := ?_) ..)
        | (refine d_sRight (hq := hq) (ha := sli_rows hx rfl) (hb := sli_ints rfl) (hx := hx) (hl := hl) (hl2 := hl2) (h0 := ?_) ..)
        | (refine d_Right (hq := hq) (ha := sli_rows hx rfl) (hb := sli_ints rfl) (hx := hx) (hl := hl) (hl2 := hl2) (h0 := ?_) ..)
        | (refine d_eqIntS (ha := sli_ints rfl) (hb' := sli_ints rfl) (hl := by omega) (h0 := ?_) ..)
        | (refine d_eqPrintS (ha := sli_rows hx rfl) (hb' := sli_rows hx rfl) (hx := hx) (hl := by omega) (h0 := ?_) ..)
        | (refine Exists.intro _ (And.intro rfl (And.intro rfl (And.intro (Nat.le_of_ble_eq_true rfl) ?_))))
        | (refine Exists.intro _ (And.intro rfl (And.intro rfl (And.intro rfl (And.intro (Nat.le_of_ble_eq_true rfl) ?_)))))
        | (refine And.intro (Exists.intro _ (And.intro rfl rfl)) ?_)
        | (exact fun hW => absurd hW (by decide +kernel))
        | (intro hW; (try simp only [Bool.not_true, Bool.not_false, Bool.not_eq_true', Bool.not_eq_false', decide_eq_true_eq, decide_eq_false_iff_not, reduceCtorEq, Bool.true_eq_false, Bool.false_eq_true, mk_size, List.size_toArray, ByteArray.size_append, ByteArray.size_extract, List.length_cons, List.length_nil, ba_get, ba_empty, Int.toNat_natCast] at hW))
        | (refine And.intro (?_ : _ → _) (?_ : _ → _))
        | (refine FinR.drop 0 (Nat.zero_le _) (Closed.zero _) rfl ?_)
        | (refine FinR.keep ?_)
        | (refine And.intro (det3_agg rfl) ?_)
        | (refine fL_mk ?_)
        | (refine And.intro (by (try simp only [mk_size, List.size_toArray, ByteArray.size_append, ByteArray.size_extract, List.length_cons, List.length_nil]); omega) ?_)
        | (refine And.intro (by (try simp only [mk_size, List.size_toArray, ByteArray.size_append, ByteArray.size_extract, List.length_cons, List.length_nil, wrap64_eq]); omega) ?_)
        | fail)
      all_goals first | exact h0 | (exfalso; omega) | (exfalso; simp_all; done) | skip
    · have hz : ((1048576 : Int) - (xs.length : Nat) < 0) := by omega
      repeat' ((conv => whnf); first
        | (refine Exists.intro (bQ p 42) (And.intro rfl (And.intro rfl (And.intro (pic_le hq rfl) ?_))); rw [show (bQ p 42).cells = p.map I from rfl, pic_ld hq _ rfl])
        | (refine And.intro rfl ?_)
        | (refine And.intro (by decide +kernel) ?_)
        | (refine And.intro trivial ?_)
        | (refine d_szPrintS (ha := sli_up ha) (hl := hm') (hm := by decide) (h0 := ?_) .. <;> try rw [if_pos hz])
        | (refine Exists.intro _ (And.intro rfl (And.intro rfl (And.intro (Nat.le_of_ble_eq_true rfl) ?_))))
        | (refine Exists.intro _ (And.intro rfl (And.intro rfl (And.intro rfl (And.intro (Nat.le_of_ble_eq_true rfl) ?_)))))
        | (refine And.intro (Exists.intro _ (And.intro rfl rfl)) ?_)
        | (exact fun hW => absurd hW (by decide +kernel))
        | (intro hW; (try simp only [Bool.not_true, Bool.not_false, Bool.not_eq_true', Bool.not_eq_false', decide_eq_true_eq, decide_eq_false_iff_not, reduceCtorEq, Bool.true_eq_false, Bool.false_eq_true, mk_size, List.size_toArray, ByteArray.size_append, ByteArray.size_extract, List.length_cons, List.length_nil, ba_get, ba_empty, Int.toNat_natCast] at hW))
        | (refine And.intro (?_ : _ → _) (?_ : _ → _))
        | (refine FinR.drop 0 (Nat.zero_le _) (Closed.zero _) rfl ?_)
        | (refine FinR.keep ?_)
        | (refine And.intro (det3_agg rfl) ?_)
        | (refine fL_mk ?_)
        | (refine And.intro (by (try simp only [mk_size, List.size_toArray, ByteArray.size_append, ByteArray.size_extract, List.length_cons, List.length_nil]); omega) ?_)
        | (refine And.intro (by (try simp only [mk_size, List.size_toArray, ByteArray.size_append, ByteArray.size_extract, List.length_cons, List.length_nil, wrap64_eq]); omega) ?_)
        | fail)
      all_goals first | exact h0 | (exfalso; omega) | (exfalso; simp_all; done)
  · skip
    repeat' ((conv => whnf); first
      | (refine Exists.intro (bQ p 42) (And.intro rfl (And.intro rfl (And.intro (pic_le hq rfl) ?_))); rw [show (bQ p 42).cells = p.map I from rfl, pic_ld hq _ rfl])
      | (refine And.intro rfl ?_)
      | (refine And.intro (by decide +kernel) ?_)
      | (refine And.intro trivial ?_)
      | (refine Exists.intro _ (And.intro rfl (And.intro rfl (And.intro (Nat.le_of_ble_eq_true rfl) ?_))))
      | (refine Exists.intro _ (And.intro rfl (And.intro rfl (And.intro rfl (And.intro (Nat.le_of_ble_eq_true rfl) ?_)))))
      | (refine And.intro (Exists.intro _ (And.intro rfl rfl)) ?_)
      | (exact fun hW => absurd hW (by decide +kernel))
      | (intro hW; (try simp only [Bool.not_true, Bool.not_false, Bool.not_eq_true', Bool.not_eq_false', decide_eq_true_eq, decide_eq_false_iff_not, reduceCtorEq, Bool.true_eq_false, Bool.false_eq_true, mk_size, List.size_toArray, ByteArray.size_append, ByteArray.size_extract, List.length_cons, List.length_nil, ba_get, ba_empty, Int.toNat_natCast] at hW))
      | (refine And.intro (?_ : _ → _) (?_ : _ → _))
      | (refine FinR.drop 0 (Nat.zero_le _) (Closed.zero _) rfl ?_)
      | (refine FinR.keep ?_)
      | (refine And.intro (det3_agg rfl) ?_)
      | (refine fL_mk ?_)
      | (refine And.intro (by (try simp only [mk_size, List.size_toArray, ByteArray.size_append, ByteArray.size_extract, List.length_cons, List.length_nil]); omega) ?_)
      | (refine And.intro (by (try simp only [mk_size, List.size_toArray, ByteArray.size_append, ByteArray.size_extract, List.length_cons, List.length_nil, wrap64_eq]); omega) ?_)
      | fail)
    all_goals first | exact h0 | (exfalso; omega) | (exfalso; simp_all; done)
theorem c_law_IsRightOrder (a0 : Int) (ha0 : IntKind.i64.has a0) (a1 : Int) (ha1 : IntKind.i64.has a1) (a2 : Int) (ha2 : IntKind.i64.has a2) (a3 : Int) (ha3 : IntKind.i64.has a3) (a4 : Int) (ha4 : IntKind.i64.has a4) (a5 : Int) (ha5 : IntKind.i64.has a5) (a6 : Int) (ha6 : IntKind.i64.has a6) (a7 : Int) (ha7 : IntKind.i64.has a7) (a8 : Int) (ha8 : IntKind.i64.has a8) (a9 : Int) (ha9 : IntKind.i64.has a9) (a10 : Int) (ha10 : IntKind.i64.has a10) (a11 : Int) (ha11 : IntKind.i64.has a11) (a12 : Int) (ha12 : IntKind.i64.has a12) (a13 : Int) (ha13 : IntKind.i64.has a13) (a14 : Int) (ha14 : IntKind.i64.has a14) (a15 : Int) (ha15 : IntKind.i64.has a15) (a16 : Int) (ha16 : IntKind.i64.has a16) (a17 : Int) (ha17 : IntKind.i64.has a17) (a18 : Int) (ha18 : IntKind.i64.has a18) (a19 : Int) (ha19 : IntKind.i64.has a19) (a20 : Int) (ha20 : IntKind.i64.has a20) (a21 : Int) (ha21 : IntKind.i64.has a21) (a22 : Int) (ha22 : IntKind.i64.has a22) (a23 : Int) (ha23 : IntKind.i64.has a23) (a24 : Int) (ha24 : IntKind.i64.has a24) (a25 : Int) (ha25 : IntKind.i64.has a25) (a26 : Int) (ha26 : IntKind.i64.has a26) (a27 : Int) (ha27 : IntKind.i64.has a27) (a28 : Int) (ha28 : IntKind.i64.has a28) (a29 : Int) (ha29 : IntKind.i64.has a29) (a30 : Int) (ha30 : IntKind.i64.has a30) (a31 : Int) (ha31 : IntKind.i64.has a31) (a32 : Int) (ha32 : IntKind.i64.has a32) (a33 : Int) (ha33 : IntKind.i64.has a33) (a34 : Int) (ha34 : IntKind.i64.has a34) (a35 : Int) (ha35 : IntKind.i64.has a35) (v : Value) (xs : List (List Int)) (ha : Sli W0 [] 9 enI (.lit v) xs) (hxx : ∀ x ∈ xs, x.length = 9 ∧ ∀ n ∈ x, IntKind.i64.has n) (hm : xs.length ≤ maxLen) (u : Value) (ys : List (List Int)) (hb : Sli W0 [] 1 enI (.lit u) ys) (hyy : ∀ x ∈ ys, x.length = 1 ∧ ∀ n ∈ x, IntKind.i64.has n) (hm2 : ys.length ≤ maxLen) (K : Cont) (h0 : K (Bo true) []) : ACall Try.prog W0 7 [Pi (a0 :: a1 :: a2 :: a3 :: a4 :: a5 :: a6 :: a7 :: a8 :: a9 :: a10 :: a11 :: a12 :: a13 :: a14 :: a15 :: a16 :: a17 :: a18 :: a19 :: a20 :: a21 :: a22 :: a23 :: a24 :: a25 :: a26 :: a27 :: a28 :: a29 :: a30 :: a31 :: a32 :: a33 :: a34 :: a35 :: []), .lit v, .lit u] [] K :=
  c_law_IsRightOrderQ _ rfl v u xs _ ha (sli_l1 hb fun x h => (hyy x h).1) (fun x h => (hxx x h).1) hm (by rw [List.length_map]; exact hm2) K h0
end Go.Proofs.Ythncpkdhcfaflaa
end
