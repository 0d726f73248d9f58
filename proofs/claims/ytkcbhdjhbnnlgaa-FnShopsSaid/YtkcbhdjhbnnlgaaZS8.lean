import Derived.Test.YtkcbhdjhbnnlgaaZS7
section
/- Contracts: shops drawn from bytes. -/
set_option linter.unusedVariables false
set_option linter.unusedSimpArgs false
set_option maxRecDepth 100000
set_option maxHeartbeats 8000000
namespace Go.Proofs.Ytkcbhdjhbnnlgaa
open Go Go.RowKit Go.Proofs.Ytkcbhdjhbnnlgaa.Abs
variable {W0 : World} {σ : List Blk}
theorem memB_hd {b : Nat} {l : List Nat} : memB b (b :: l) = true := by
  show cond (Nat.beq b b) true (memB b l) = true
  rw [show Nat.beq b b = true from Nat.beq_refl b]; rfl
theorem memB_1 {b k : Nat} (h : b ≠ k) : memB k [b] = false := memB_no fun x hx => by rw [List.mem_singleton.1 hx]; exact h
theorem VarK.refl {F : List Nat} {S : List Blk} : VarK F S S := fun j B hB => ⟨B, hB, rfl, rfl, rfl, fun _ => rfl⟩
theorem VarK.app {F : List Nat} {S T τ : List Blk} (h : VarK F S T) : VarK F S (T ++ τ) := fun j B hB => by
  obtain ⟨B', g1, g2⟩ := h j B hB
  exact ⟨B', getx1 g1, g2⟩
theorem VarK.setN {F : List Nat} {S T : List Blk} {i : Nat} {X : Blk} (h : VarK F S T) (hi : S.length ≤ i) : VarK F S (T.set i X) := fun j B hB => by
  obtain ⟨B', g1, g2⟩ := h j B hB
  exact ⟨B', getn g1 (by have := getElem?_lt hB; omega), g2⟩
theorem VarK.cur2 {F : List Nat} {b n n' : Nat} {v : Value} {S T T' : List Blk} (hb : memB b F = true) (h : VarK F S T) (hc : CurAt b v n T) (hc1 : CurAt b v n' T') (hk : Keeps b T T') : VarK F S T' := fun j B hB => by
  obtain ⟨B', g1, g2, g3, g4, g5⟩ := h j B hB
  obtain ⟨B'', k1, k2, k3, k4, k5⟩ := VarK.cur hb hc hc1 hk j B' g1
  exact ⟨B'', k1, k2.trans g2, k3.trans g3, k4.trans g4, fun e => (k5 e).trans (g5 e)⟩
theorem d_shopC (b n : Nat) (v : Value) (xs : List Int) (hcd : Code W0 v xs) (hc : CurAt b v n σ) (hn : n < 600000000) (K : Cont) (h0 : ∀ c0 c1 c2 c3 c4 c5 c6 c7 c8 c9 c10 c11 c12 c13 R, CurAt b v (n + 400) R → Keeps b σ R → K (Sp c0 c1 c2 c3 c4 c5 c6 c7 c8 c9 c10 c11 c12 c13) R) : ACall Try.prog W0 88 [.ptr b 0 0] σ K := by
  refine by88 (Nat.le_of_ble_eq_true rfl) ?_
  have hbl := hc.lt
  repeat' ((conv => whnf); first
    | (refine And.intro rfl ?_)
    | (refine And.intro (by decide +kernel) ?_)
    | (refine And.intro trivial ?_)
    | (refine Exists.intro _ (And.intro rfl (And.intro rfl (And.intro (Nat.le_of_ble_eq_true rfl) ?_))))
    | (refine Exists.intro _ (And.intro rfl (And.intro rfl (And.intro rfl (And.intro (Nat.le_of_ble_eq_true rfl) ?_)))))
    | (refine And.intro (Exists.intro _ (And.intro rfl rfl)) ?_)
    | (exact fun hW => absurd hW (by decide +kernel))
    | (intro hW; (try simp only [Bool.not_true, Bool.not_false, Bool.not_eq_true', Bool.not_eq_false', decide_eq_true_eq, decide_eq_false_iff_not, reduceCtorEq, Bool.true_eq_false, Bool.false_eq_true, mk_size, List.size_toArray, ByteArray.size_append, ByteArray.size_extract, List.length_cons, List.length_nil, ba_get, ba_empty, Int.toNat_natCast] at hW))
    | (refine And.intro (?_ : _ → _) (?_ : _ → _))
    | (refine FinR.drop 0 (Nat.zero_le _) (Closed.zero _) rfl ?_)
    | (refine FinR.keep ?_)
    | (refine And.intro (det3_agg rfl) ?_)
    | (refine fL_mk ?_)
    | (refine And.intro (by (try simp only [mk_size, List.size_toArray, ByteArray.size_append, ByteArray.size_extract, List.length_cons, List.length_nil]); omega) ?_)
    | (refine And.intro (by (try simp only [mk_size, List.size_toArray, ByteArray.size_append, ByteArray.size_extract, List.length_cons, List.length_nil, wrap64_eq]); omega) ?_)
    | fail)
  have hc := hc.app (τ := [bZ])
  have q : (σ ++ [bZ])[σ.length]? = some bZ := getl
  have hk : Keeps b σ (σ ++ [bZ]) := .app
  repeat' ((conv => whnf); first
    | (refine And.intro rfl ?_)
    | (refine And.intro (by decide +kernel) ?_)
    | (refine And.intro trivial ?_)
    | (refine fS_mk ?_)
    | (refine d_sheetC (hcd := hcd) (hc := hc) (hn := by omega) (h0 := fun a1 a2 a3 a4 a5 a6 R hc1 hk1 => ?_) ..; have q := hk1.2 _ _ (by omega) (q); have hk := Keeps.trans (hk) hk1; have hc := hc1)
    | (refine d_stampC (hcd := hcd) (hc := hc) (hn := by omega) (h0 := fun b1 b2 b3 b4 b5 b6 Q hc1 hk1 => ?_) ..; have q := hk1.2 _ _ (by omega) (q); have hk := Keeps.trans (hk) hk1; have hc := hc1)
    | (refine Exists.intro _ (And.intro rfl (And.intro rfl (And.intro (Nat.le_of_ble_eq_true rfl) ?_))))
    | (refine Exists.intro _ (And.intro rfl (And.intro rfl (And.intro rfl (And.intro (Nat.le_of_ble_eq_true rfl) ?_)))))
    | (refine And.intro (Exists.intro _ (And.intro rfl rfl)) ?_)
    | (exact fun hW => absurd hW (by decide +kernel))
    | (intro hW; (try simp only [Bool.not_true, Bool.not_false, Bool.not_eq_true', Bool.not_eq_false', decide_eq_true_eq, decide_eq_false_iff_not, reduceCtorEq, Bool.true_eq_false, Bool.false_eq_true, mk_size, List.size_toArray, ByteArray.size_append, ByteArray.size_extract, List.length_cons, List.length_nil, ba_get, ba_empty, Int.toNat_natCast] at hW))
    | (refine And.intro (?_ : _ → _) (?_ : _ → _))
    | (refine FinR.drop 0 (Nat.zero_le _) (Closed.zero _) rfl ?_)
    | (refine FinR.keep ?_)
    | (refine And.intro (det3_agg rfl) ?_)
    | (refine fL_mk ?_)
    | (refine And.intro (by (try simp only [mk_size, List.size_toArray, ByteArray.size_append, ByteArray.size_extract, List.length_cons, List.length_nil]); omega) ?_)
    | (refine And.intro (by (try simp only [mk_size, List.size_toArray, ByteArray.size_append, ByteArray.size_extract, List.length_cons, List.length_nil, wrap64_eq]); omega) ?_)
    | fail)
  have hRl := getElem?_lt q
  rcases hb : shB6 a1 a2 a3 a4 a5 a6 && shB6 b1 b2 b3 b4 b5 b6 with _ | _
  · skip
    repeat' ((conv => whnf); first
      | (refine And.intro rfl ?_)
      | (refine And.intro (by decide +kernel) ?_)
      | (refine And.intro trivial ?_)
      | (refine fS_mk ?_)
      | (refine d_sNewShopF (hb := hb) (h0 := ?_) ..)
      | (refine Exists.intro _ (And.intro getl (And.intro rfl (And.intro rfl (And.intro (Nat.le_of_ble_eq_true rfl) ?_)))); rw [set_last])
      | (refine Exists.intro _ (And.intro rfl (And.intro rfl (And.intro (Nat.le_of_ble_eq_true rfl) ?_))))
      | (refine Exists.intro _ (And.intro rfl (And.intro rfl (And.intro rfl (And.intro (Nat.le_of_ble_eq_true rfl) ?_)))))
      | (refine And.intro (Exists.intro _ (And.intro rfl rfl)) ?_)
      | (exact fun hW => absurd hW (by decide +kernel))
      | (intro hW; (try simp only [Bool.not_true, Bool.not_false, Bool.not_eq_true', Bool.not_eq_false', decide_eq_true_eq, decide_eq_false_iff_not, reduceCtorEq, Bool.true_eq_false, Bool.false_eq_true, mk_size, List.size_toArray, ByteArray.size_append, ByteArray.size_extract, List.length_cons, List.length_nil, ba_get, ba_empty, Int.toNat_natCast] at hW))
      | (refine And.intro (?_ : _ → _) (?_ : _ → _))
      | (refine FinR.drop 0 (Nat.zero_le _) (Closed.zero _) rfl ?_)
      | (refine FinR.keep ?_)
      | (refine And.intro (det3_agg rfl) ?_)
      | (refine fL_mk ?_)
      | (refine And.intro (by (try simp only [mk_size, List.size_toArray, ByteArray.size_append, ByteArray.size_extract, List.length_cons, List.length_nil]); omega) ?_)
      | (refine And.intro (by (try simp only [mk_size, List.size_toArray, ByteArray.size_append, ByteArray.size_extract, List.length_cons, List.length_nil, wrap64_eq]); omega) ?_)
      | fail)
    have q3 : (Q ++ [bZ])[Q.length]? = some bZ := getl
    have hc := hc.app (τ := [bZ])
    have q := getx1 (τ := [bZ]) q
    have hk := hk.trans (.app (τ := [bZ]))
    repeat' ((conv => whnf); first
      | (refine And.intro rfl ?_)
      | (refine And.intro (by decide +kernel) ?_)
      | (refine And.intro trivial ?_)
      | (refine fS_mk ?_)
      | (refine d_pick (hm := by decide) (hcd := hcd) (hc := hc) (hn := by omega) (h0 := fun w S hw1 hw2 hc1 hk1 => ?_) ..; have q := hk1.2 _ _ (by omega) (q); have q3 := hk1.2 _ _ (by omega) (q3); have hk := Keeps.trans (hk) hk1; have hc := hc1)
      | (refine Exists.intro _ (And.intro rfl (And.intro rfl (And.intro (Nat.le_of_ble_eq_true rfl) ?_))))
      | (refine Exists.intro _ (And.intro rfl (And.intro rfl (And.intro rfl (And.intro (Nat.le_of_ble_eq_true rfl) ?_)))))
      | (refine And.intro (Exists.intro _ (And.intro rfl rfl)) ?_)
      | (exact fun hW => absurd hW (by decide +kernel))
      | (intro hW; (try simp only [Bool.not_true, Bool.not_false, Bool.not_eq_true', Bool.not_eq_false', decide_eq_true_eq, decide_eq_false_iff_not, reduceCtorEq, Bool.true_eq_false, Bool.false_eq_true, mk_size, List.size_toArray, ByteArray.size_append, ByteArray.size_extract, List.length_cons, List.length_nil, ba_get, ba_empty, Int.toNat_natCast] at hW))
      | (refine And.intro (?_ : _ → _) (?_ : _ → _))
      | (refine FinR.drop 0 (Nat.zero_le _) (Closed.zero _) rfl ?_)
      | (refine FinR.keep ?_)
      | (refine And.intro (det3_agg rfl) ?_)
      | (refine fL_mk ?_)
      | (refine And.intro (by (try simp only [mk_size, List.size_toArray, ByteArray.size_append, ByteArray.size_extract, List.length_cons, List.length_nil]); omega) ?_)
      | (refine And.intro (by (try simp only [mk_size, List.size_toArray, ByteArray.size_append, ByteArray.size_extract, List.length_cons, List.length_nil, wrap64_eq]); omega) ?_)
      | fail)
    refine LoopR.unroll 1 ?_
    repeat' ((conv => whnf); first
      | (refine And.intro rfl ?_)
      | (refine And.intro (by decide +kernel) ?_)
      | (refine And.intro trivial ?_)
      | (refine Exists.intro _ (And.intro rfl (And.intro rfl (And.intro (Nat.le_of_ble_eq_true rfl) ?_))))
      | (refine Exists.intro _ (And.intro rfl (And.intro rfl (And.intro rfl (And.intro (Nat.le_of_ble_eq_true rfl) ?_)))))
      | (refine And.intro (Exists.intro _ (And.intro rfl rfl)) ?_)
      | (exact fun hW => absurd hW (by decide +kernel))
      | (intro hW; (try simp only [Bool.not_true, Bool.not_false, Bool.not_eq_true', Bool.not_eq_false', decide_eq_true_eq, decide_eq_false_iff_not, reduceCtorEq, Bool.true_eq_false, Bool.false_eq_true, mk_size, List.size_toArray, ByteArray.size_append, ByteArray.size_extract, List.length_cons, List.length_nil, ba_get, ba_empty, Int.toNat_natCast] at hW))
      | (refine And.intro (?_ : _ → _) (?_ : _ → _))
      | (refine FinR.drop 0 (Nat.zero_le _) (Closed.zero _) rfl ?_)
      | (refine FinR.keep ?_)
      | (refine And.intro (det3_agg rfl) ?_)
      | (refine fL_mk ?_)
      | (refine And.intro (by (try simp only [mk_size, List.size_toArray, ByteArray.size_append, ByteArray.size_extract, List.length_cons, List.length_nil]); omega) ?_)
      | (refine And.intro (by (try simp only [mk_size, List.size_toArray, ByteArray.size_append, ByteArray.size_extract, List.length_cons, List.length_nil, wrap64_eq]); omega) ?_)
      | fail)
    all_goals
      repeat' ((conv => whnf); first
        | (refine And.intro rfl ?_)
        | (refine And.intro (by decide +kernel) ?_)
        | (refine And.intro trivial ?_)
        | (refine fS_mk ?_)
        | (refine d_pick (m := 6) (hm := by decide) (hcd := hcd) (hc := hc) (hn := by omega) (h0 := fun x S hx1 hx2 hc1 hk1 => ?_) ..; have q := hk1.2 _ _ (by omega) (q); have q3 := hk1.2 _ _ (by omega) (q3); have hk := Keeps.trans (hk) hk1; have hc := hc1; obtain rfl | rfl | rfl | rfl | rfl | rfl : x = 0 ∨ x = 1 ∨ x = 2 ∨ x = 3 ∨ x = 4 ∨ x = 5 := by omega)
        | (refine d_pick (m := 48) (hm := by decide) (hcd := hcd) (hc := hc) (hn := by omega) (h0 := fun w S hw1 hw2 hc1 hk1 => ?_) ..; have q := hk1.2 _ _ (by omega) (q); have q3 := hk1.2 _ _ (by omega) (q3); have hk := Keeps.trans (hk) hk1; have hc := hc1)
        | (refine d_among (y0 := -1) (ys := [1000, 1001]) (hL := getl) (hys := by decide) (hbl := by have := (hc).lt; omega) (hcd := hcd) (hc := CurAt.app (hc)) (hn := by omega) (h0 := fun w S hw hc1 hk1 => ?_) ..; have q := hk1.2 _ _ (by omega) (getx1 (q)); have q3 := hk1.2 _ _ (by omega) (getx1 (q3)); have hk := Keeps.trans (hk) hk1.snoc; have hc := hc1)
        | (refine d_among (y0 := -1) (ys := [64]) (hL := getl) (hys := by decide) (hbl := by have := (hc).lt; omega) (hcd := hcd) (hc := CurAt.app (hc)) (hn := by omega) (h0 := fun w S hw hc1 hk1 => ?_) ..; have q := hk1.2 _ _ (by omega) (getx1 (q)); have q3 := hk1.2 _ _ (by omega) (getx1 (q3)); have hk := Keeps.trans (hk) hk1.snoc; have hc := hc1)
        | (refine And.intro ⟨_, q3, rfl⟩ ?_)
        | (refine Exists.intro _ (And.intro (q3) (And.intro rfl (And.intro rfl (And.intro (Nat.le_of_ble_eq_true rfl) ?_)))))
        | (refine Exists.intro _ (And.intro (get_set (q3)) (And.intro rfl (And.intro (Nat.le_of_ble_eq_true rfl) ?_))))
        | (refine Exists.intro _ (And.intro (q3) (And.intro rfl (And.intro (Nat.le_of_ble_eq_true rfl) ?_))))
        | (refine Exists.intro _ (And.intro (getn (q) (by omega)) (And.intro rfl (And.intro rfl (And.intro (Nat.le_of_ble_eq_true rfl) ?_)))))
        | (refine Exists.intro _ (And.intro (q) (And.intro rfl (And.intro rfl (And.intro (Nat.le_of_ble_eq_true rfl) ?_)))))
        | (refine Exists.intro _ (And.intro (get_set (getn (q) (by omega))) (And.intro rfl (And.intro (Nat.le_of_ble_eq_true rfl) ?_))))
        | (refine Exists.intro _ (And.intro (get_set (q)) (And.intro rfl (And.intro (Nat.le_of_ble_eq_true rfl) ?_))))
        | (refine Exists.intro _ (And.intro rfl (And.intro rfl (And.intro (Nat.le_of_ble_eq_true rfl) ?_))))
        | (refine Exists.intro _ (And.intro rfl (And.intro rfl (And.intro rfl (And.intro (Nat.le_of_ble_eq_true rfl) ?_)))))
        | (refine And.intro (Exists.intro _ (And.intro rfl rfl)) ?_)
        | (exact fun hW => absurd hW (by decide +kernel))
        | (intro hW; (try simp only [Bool.not_true, Bool.not_false, Bool.not_eq_true', Bool.not_eq_false', decide_eq_true_eq, decide_eq_false_iff_not, reduceCtorEq, Bool.true_eq_false, Bool.false_eq_true, mk_size, List.size_toArray, ByteArray.size_append, ByteArray.size_extract, List.length_cons, List.length_nil, ba_get, ba_empty, Int.toNat_natCast] at hW))
        | (refine And.intro (?_ : _ → _) (?_ : _ → _))
        | (refine FinR.drop 0 (Nat.zero_le _) (Closed.zero _) rfl ?_)
        | (refine FinR.keep ?_)
        | (refine And.intro (det3_agg rfl) ?_)
        | (refine fL_mk ?_)
        | (refine And.intro (by (try simp only [mk_size, List.size_toArray, ByteArray.size_append, ByteArray.size_extract, List.length_cons, List.length_nil]); omega) ?_)
        | (refine And.intro (by (try simp only [mk_size, List.size_toArray, ByteArray.size_append, ByteArray.size_extract, List.length_cons, List.length_nil, wrap64_eq]); omega) ?_)
        | fail)
    all_goals (refine h0 _ _ _ _ _ _ _ _ _ _ _ _ _ _ _ ?_ ?_)
    all_goals repeat' (first | exact hc.mono (by omega) | exact hk | refine CurAt.set ?_ (by omega) | refine Keeps.setO ?_ (by omega))
  · rw [Bool.and_eq_true] at hb
    obtain ⟨g, hg, rfl, rfl, rfl, rfl, rfl, rfl⟩ := shN_of hb.1
    obtain ⟨h, hh, rfl, rfl, rfl, rfl, rfl, rfl⟩ := shN_of hb.2
    have hb' := (Bool.and_eq_true _ _).mpr hb
    repeat' ((conv => whnf); first
      | (refine And.intro rfl ?_)
      | (refine And.intro (by decide +kernel) ?_)
      | (refine And.intro trivial ?_)
      | (refine fS_mk ?_)
      | (refine d_sNewShopT (hb := hb') (h0 := ?_) ..)
      | (refine Exists.intro _ (And.intro getl (And.intro rfl (And.intro rfl (And.intro (Nat.le_of_ble_eq_true rfl) ?_)))); rw [set_last])
      | (refine Exists.intro _ (And.intro rfl (And.intro rfl (And.intro (Nat.le_of_ble_eq_true rfl) ?_))))
      | (refine Exists.intro _ (And.intro rfl (And.intro rfl (And.intro rfl (And.intro (Nat.le_of_ble_eq_true rfl) ?_)))))
      | (refine And.intro (Exists.intro _ (And.intro rfl rfl)) ?_)
      | (exact fun hW => absurd hW (by decide +kernel))
      | (intro hW; (try simp only [Bool.not_true, Bool.not_false, Bool.not_eq_true', Bool.not_eq_false', decide_eq_true_eq, decide_eq_false_iff_not, reduceCtorEq, Bool.true_eq_false, Bool.false_eq_true, mk_size, List.size_toArray, ByteArray.size_append, ByteArray.size_extract, List.length_cons, List.length_nil, ba_get, ba_empty, Int.toNat_natCast] at hW))
      | (refine And.intro (?_ : _ → _) (?_ : _ → _))
      | (refine FinR.drop 0 (Nat.zero_le _) (Closed.zero _) rfl ?_)
      | (refine FinR.keep ?_)
      | (refine And.intro (det3_agg rfl) ?_)
      | (refine fL_mk ?_)
      | (refine And.intro (by (try simp only [mk_size, List.size_toArray, ByteArray.size_append, ByteArray.size_extract, List.length_cons, List.length_nil]); omega) ?_)
      | (refine And.intro (by (try simp only [mk_size, List.size_toArray, ByteArray.size_append, ByteArray.size_extract, List.length_cons, List.length_nil, wrap64_eq]); omega) ?_)
      | fail)
    have q3 : (Q ++ [bS ⟨g, h, 0, 0⟩])[Q.length]? = some (bS ⟨g, h, 0, 0⟩) := getl
    have hc := hc.app (τ := [bS ⟨g, h, 0, 0⟩])
    have q := getx1 (τ := [bS ⟨g, h, 0, 0⟩]) q
    have hk := hk.trans (.app (τ := [bS ⟨g, h, 0, 0⟩]))
    repeat' ((conv => whnf); first
      | (refine And.intro rfl ?_)
      | (refine And.intro (by decide +kernel) ?_)
      | (refine And.intro trivial ?_)
      | (refine fS_mk ?_)
      | (refine d_pick (m := 5) (hm := by decide) (hcd := hcd) (hc := hc) (hn := by omega) (h0 := fun z S hz1 hz2 hc1 hk1 => ?_) ..; have q := hk1.2 _ _ (by omega) (q); have q3 := hk1.2 _ _ (by omega) (q3); have hk := Keeps.trans (hk) hk1; have hc := hc1)
      | (refine Exists.intro _ (And.intro rfl (And.intro rfl (And.intro (Nat.le_of_ble_eq_true rfl) ?_))))
      | (refine Exists.intro _ (And.intro rfl (And.intro rfl (And.intro rfl (And.intro (Nat.le_of_ble_eq_true rfl) ?_)))))
      | (refine And.intro (Exists.intro _ (And.intro rfl rfl)) ?_)
      | (exact fun hW => absurd hW (by decide +kernel))
      | (intro hW; (try simp only [Bool.not_true, Bool.not_false, Bool.not_eq_true', Bool.not_eq_false', decide_eq_true_eq, decide_eq_false_iff_not, reduceCtorEq, Bool.true_eq_false, Bool.false_eq_true, mk_size, List.size_toArray, ByteArray.size_append, ByteArray.size_extract, List.length_cons, List.length_nil, ba_get, ba_empty, Int.toNat_natCast] at hW))
      | (refine And.intro (?_ : _ → _) (?_ : _ → _))
      | (refine FinR.drop 0 (Nat.zero_le _) (Closed.zero _) rfl ?_)
      | (refine FinR.keep ?_)
      | (refine And.intro (det3_agg rfl) ?_)
      | (refine fL_mk ?_)
      | (refine And.intro (by (try simp only [mk_size, List.size_toArray, ByteArray.size_append, ByteArray.size_extract, List.length_cons, List.length_nil]); omega) ?_)
      | (refine And.intro (by (try simp only [mk_size, List.size_toArray, ByteArray.size_append, ByteArray.size_extract, List.length_cons, List.length_nil, wrap64_eq]); omega) ?_)
      | fail)
    obtain ⟨z, rfl⟩ : ∃ k : Nat, z = k := ⟨z.toNat, by omega⟩
    have hz5 : z ≤ 4 := by omega
    clear hz1 hz2 hc1 hk1
    refine LoopR.live (fun y : Nat × ShopN × List Blk => [(0, .ptr b 0 0), (2, .ptr σ.length 0 0), (3, .ptr Q.length 0 0), (4, Bo true), (5, I y.1)]) (fun y => y.2.2) (fun y => y.1 ≤ z ∧ y.2.1.ok ∧ CurAt b v (n + 200 + 20 * (z - y.1)) y.2.2 ∧ Keeps b σ y.2.2 ∧ y.2.2[σ.length]? = some bZ ∧ y.2.2[Q.length]? = some (bS y.2.1)) (fun y => y.1) (z, ⟨g, h, 0, 0⟩, S) ⟨rfl, rfl, rfl, rfl, rfl, trivial⟩ (.keep rfl) ⟨Nat.le_refl _, ⟨hg, hh, (show (0 : Int) ≤ 0 ∧ (0 : Int) ≤ 1000 from by decide), (show (0 : Int) ≤ 0 ∧ (0 : Int) ≤ 1000 from by decide)⟩, hc.mono (by omega), hk, q, q3⟩ ?_
    clear hc hk q q3
    rintro ⟨y, s, T⟩ ⟨hy, hs, hc, hk, q, q3⟩
    replace hy : y ≤ z := hy
    replace hs : s.ok := hs
    replace hc : CurAt b v (n + 200 + 20 * (z - y)) T := hc
    replace hk : Keeps b σ T := hk
    replace q : T[σ.length]? = some bZ := q
    replace q3 : T[Q.length]? = some (bS s) := q3
    obtain ⟨hs1, hs2, hs3, hs4⟩ := hs
    by_cases hy0 : 0 < y
    · skip
      repeat' ((conv => whnf); first
        | (refine And.intro rfl ?_)
        | (refine And.intro (by decide +kernel) ?_)
        | (refine And.intro trivial ?_)
        | (refine fS_mk ?_)
        | (refine And.intro (memB_1 (by omega)) ?_)
        | (refine Exists.intro _ (And.intro (q3) (And.intro rfl (And.intro (Nat.le_of_ble_eq_true rfl) ?_))))
        | (refine d_job12 (hcd := hcd) (hc := hc) (hn := by omega) (h0 := fun k a b' T' hc1 hk1 => varC_k (VarK.cur memB_hd hc hc1 hk1) fun hv => ?_) ..; have q := hk1.2 _ _ (by omega) q; have q3 := hk1.2 _ _ (by omega) q3; have hk := hk.trans hk1; have hc := hc1; rcases hj : jobO s.n s.m s.p s.q k a b' with _ | ⟨n', m', p', q'⟩)
        | (refine Exists.intro _ (And.intro (fun τ _ => callW_fn (d_l12DoT (hn := hs1) (hm := hs2) (hp := hs3) (hq := hs4) (hj := hj) (h0 := And.intro rfl rfl) ..)) ?_))
        | (refine Exists.intro _ (And.intro (fun τ _ => callW_fn (d_l12DoN (hn := hs1) (hm := hs2) (hp := hs3) (hq := hs4) (hj := hj) (h0 := And.intro rfl rfl) ..)) ?_))
        | (refine Exists.intro _ (And.intro rfl (And.intro rfl (And.intro (Nat.le_of_ble_eq_true rfl) ?_))))
        | (refine Exists.intro _ (And.intro rfl (And.intro rfl (And.intro rfl (And.intro (Nat.le_of_ble_eq_true rfl) ?_)))))
        | (refine And.intro (Exists.intro _ (And.intro rfl rfl)) ?_)
        | (exact fun hW => absurd hW (by decide +kernel))
        | (intro hW; (try simp only [Bool.not_true, Bool.not_false, Bool.not_eq_true', Bool.not_eq_false', decide_eq_true_eq, decide_eq_false_iff_not, reduceCtorEq, Bool.true_eq_false, Bool.false_eq_true, mk_size, List.size_toArray, ByteArray.size_append, ByteArray.size_extract, List.length_cons, List.length_nil, ba_get, ba_empty, Int.toNat_natCast] at hW))
        | (refine And.intro (?_ : _ → _) (?_ : _ → _))
        | (refine FinR.drop 0 (Nat.zero_le _) (Closed.zero _) rfl ?_)
        | (refine FinR.keep ?_)
        | (refine And.intro (det3_agg rfl) ?_)
        | (refine fL_mk ?_)
        | (refine And.intro (by (try simp only [mk_size, List.size_toArray, ByteArray.size_append, ByteArray.size_extract, List.length_cons, List.length_nil]); omega) ?_)
        | (refine And.intro (by (try simp only [mk_size, List.size_toArray, ByteArray.size_append, ByteArray.size_extract, List.length_cons, List.length_nil, wrap64_eq]); omega) ?_)
        | fail)
      all_goals first | (exfalso; omega) | skip
      conv => whnf
      refine And.intro ?_ ?_
      all_goals
        repeat' ((conv => whnf); first
          | (refine And.intro rfl ?_)
          | (refine And.intro (by decide +kernel) ?_)
          | (refine And.intro trivial ?_)
          | (refine fS_mk ?_)
          | (refine And.intro (memB_1 (by omega)) ?_)
          | (refine Exists.intro _ (And.intro (q3) (And.intro rfl (And.intro (Nat.le_of_ble_eq_true rfl) ?_))))
          | (refine d_job12 (hcd := hcd) (hc := hc) (hn := by omega) (h0 := fun k a b' T' hc1 hk1 => varC_k (VarK.cur memB_hd hc hc1 hk1) fun hv => ?_) ..; have q := hk1.2 _ _ (by omega) q; have q3 := hk1.2 _ _ (by omega) q3; have hk := hk.trans hk1; have hc := hc1; rcases hj : jobO s.n s.m s.p s.q k a b' with _ | ⟨n', m', p', q'⟩)
          | (refine Exists.intro _ (And.intro (fun τ _ => callW_fn (d_l12DoT (hn := hs1) (hm := hs2) (hp := hs3) (hq := hs4) (hj := hj) (h0 := And.intro rfl rfl) ..)) ?_))
          | (refine Exists.intro _ (And.intro (fun τ _ => callW_fn (d_l12DoN (hn := hs1) (hm := hs2) (hp := hs3) (hq := hs4) (hj := hj) (h0 := And.intro rfl rfl) ..)) ?_))
          | (refine Exists.intro _ (And.intro rfl (And.intro rfl (And.intro (Nat.le_of_ble_eq_true rfl) ?_))))
          | (refine Exists.intro _ (And.intro rfl (And.intro rfl (And.intro rfl (And.intro (Nat.le_of_ble_eq_true rfl) ?_)))))
          | (refine And.intro (Exists.intro _ (And.intro rfl rfl)) ?_)
          | (exact fun hW => absurd hW (by decide +kernel))
          | (intro hW; (try simp only [Bool.not_true, Bool.not_false, Bool.not_eq_true', Bool.not_eq_false', decide_eq_true_eq, decide_eq_false_iff_not, reduceCtorEq, Bool.true_eq_false, Bool.false_eq_true, mk_size, List.size_toArray, ByteArray.size_append, ByteArray.size_extract, List.length_cons, List.length_nil, ba_get, ba_empty, Int.toNat_natCast] at hW))
          | (refine And.intro (?_ : _ → _) (?_ : _ → _))
          | (refine FinR.drop 0 (Nat.zero_le _) (Closed.zero _) rfl ?_)
          | (refine FinR.keep ?_)
          | (refine And.intro (det3_agg rfl) ?_)
          | (refine fL_mk ?_)
          | (refine And.intro (by (try simp only [mk_size, List.size_toArray, ByteArray.size_append, ByteArray.size_extract, List.length_cons, List.length_nil]); omega) ?_)
          | (refine And.intro (by (try simp only [mk_size, List.size_toArray, ByteArray.size_append, ByteArray.size_extract, List.length_cons, List.length_nil, wrap64_eq]); omega) ?_)
          | fail)
      all_goals first
        | (refine varC_k (hv.app (τ := [bZ])) fun hv => ?_
           have l6 : T.length ≤ T'.length := hk1.1
           have l7 : Q.length < T.length := getElem?_lt ‹T[Q.length]? = some (bS s)›
           have q6 : (T' ++ [bZ])[T'.length]? = some bZ := getl
           have hc := hc.app (τ := [bZ])
           have q := getx1 (τ := [bZ]) q
           have q3 := getx1 (τ := [bZ]) q3
           have hk := hk.trans (.app (τ := [bZ]))
           generalize T'.length = i6 at l6 q6 ⊢)
        | (refine varC_k (VarK.app (τ := [bZ]) VarK.refl) fun hv => ?_
           have l7 : Q.length < T.length := getElem?_lt q3
           have q6 : (T ++ [bZ])[T.length]? = some bZ := getl
           have hc := hc.app (τ := [bZ])
           have q := getx1 (τ := [bZ]) q
           have q3 := getx1 (τ := [bZ]) q3
           have hk := hk.trans (.app (τ := [bZ]))
           have l6 : T.length ≤ T.length := Nat.le_refl _
           have nq : T.length ≠ Q.length := (by omega))
      all_goals
        repeat' ((conv => whnf); first
          | (refine And.intro rfl ?_)
          | (refine And.intro (by decide +kernel) ?_)
          | (refine And.intro trivial ?_)
          | (refine Exists.intro _ (And.intro q6 (And.intro rfl (And.intro rfl (And.intro (Nat.le_of_ble_eq_true rfl) (fS_mk (varC_k (hv.setN (by omega)) fun hv => ?_)))))))
          | (refine fS_mk ?_)
          | (refine Exists.intro _ (And.intro (get_set q6) (And.intro rfl (And.intro (Nat.le_of_ble_eq_true rfl) ?_))))
          | (refine Exists.intro _ (And.intro (getn q3 (by omega)) (And.intro rfl (And.intro rfl (And.intro (Nat.le_of_ble_eq_true rfl) ?_)))))
          | (refine Exists.intro _ (And.intro (getn q3 nq) (And.intro rfl (And.intro rfl (And.intro (Nat.le_of_ble_eq_true rfl) ?_)))))
          | (refine d_job12 (hcd := hcd) (hc := hc) (hn := by omega) (h0 := fun k a b' T' hc1 hk1 => varC_k (VarK.cur2 memB_hd hv hc hc1 hk1) fun hv => ?_) ..; have q := hk1.2 _ _ (by omega) q; have q3 := hk1.2 _ _ (by omega) q3; have q6 := hk1.2 _ _ (by omega) q6; have hk := hk.trans hk1; have hc := hc1; rcases hj : jobO s.n s.m s.p s.q k a b' with _ | ⟨n', m', p', q'⟩)
          | (refine Exists.intro _ (And.intro (fun τ _ => callW_fn (d_l12DoT (hn := hs1) (hm := hs2) (hp := hs3) (hq := hs4) (hj := hj) (h0 := And.intro rfl rfl) ..)) ?_))
          | (refine Exists.intro _ (And.intro (fun τ _ => callW_fn (d_l12DoN (hn := hs1) (hm := hs2) (hp := hs3) (hq := hs4) (hj := hj) (h0 := And.intro rfl rfl) ..)) ?_))
          | (refine Exists.intro _ (And.intro (callW_fn (d_l12DoT (hn := hs1) (hm := hs2) (hp := hs3) (hq := hs4) (hj := hj) (h0 := And.intro rfl rfl) ..)) ?_))
          | (refine Exists.intro _ (And.intro (callW_fn (d_l12DoN (hn := hs1) (hm := hs2) (hp := hs3) (hq := hs4) (hj := hj) (h0 := And.intro rfl rfl) ..)) ?_))
          | (refine Exists.intro _ (And.intro rfl (And.intro rfl (And.intro (Nat.le_of_ble_eq_true rfl) ?_))))
          | (refine Exists.intro _ (And.intro rfl (And.intro rfl (And.intro rfl (And.intro (Nat.le_of_ble_eq_true rfl) ?_)))))
          | (refine And.intro (Exists.intro _ (And.intro rfl rfl)) ?_)
          | (exact fun hW => absurd hW (by decide +kernel))
          | (intro hW; (try simp only [Bool.not_true, Bool.not_false, Bool.not_eq_true', Bool.not_eq_false', decide_eq_true_eq, decide_eq_false_iff_not, reduceCtorEq, Bool.true_eq_false, Bool.false_eq_true, mk_size, List.size_toArray, ByteArray.size_append, ByteArray.size_extract, List.length_cons, List.length_nil, ba_get, ba_empty, Int.toNat_natCast] at hW))
          | (refine And.intro (?_ : _ → _) (?_ : _ → _))
          | (refine FinR.drop 0 (Nat.zero_le _) (Closed.zero _) rfl ?_)
          | (refine FinR.keep ?_)
          | (refine And.intro (det3_agg rfl) ?_)
          | (refine fL_mk ?_)
          | (refine And.intro (by (try simp only [mk_size, List.size_toArray, ByteArray.size_append, ByteArray.size_extract, List.length_cons, List.length_nil]); omega) ?_)
          | (refine And.intro (by (try simp only [mk_size, List.size_toArray, ByteArray.size_append, ByteArray.size_extract, List.length_cons, List.length_nil, wrap64_eq]); omega) ?_)
          | fail)
      all_goals
        have nb : T.length ≠ b := by omega
        have no : T.length ≠ σ.length := by omega
        have nq : T.length ≠ Q.length := by omega
        have lo : σ.length ≤ T.length := by omega
      all_goals first
        | exact Again.go (y - 1, ⟨n', m', p', q'⟩, _) ⟨rfl, rfl, rfl, rfl, slI' (wpred y (by omega) hy0), trivial⟩ (.keep rfl) ⟨by show _ ≤ z; omega, jobO_ok hs1 hs2 hs3.1 hs4.1 hj, ((hc.set (by omega)).set (by omega)).mono (by show _ ≤ n + 200 + 20 * (z - (y - 1)); omega), (hk.setO (by omega)).setO (by omega), getn (getn q (by omega)) (by omega), get_set (getn q3 (by omega))⟩ (by show _ < y; omega)
        | exact Again.go (y - 1, s, _) ⟨rfl, rfl, rfl, rfl, slI' (wpred y (by omega) hy0), trivial⟩ (.keep rfl) ⟨by show _ ≤ z; omega, ⟨hs1, hs2, hs3, hs4⟩, (hc.set (by omega)).mono (by show _ ≤ n + 200 + 20 * (z - (y - 1)); omega), hk.setO (by omega), getn q (by omega), getn q3 (by omega)⟩ (by show _ < y; omega)
        | exact Again.go (y - 1, ⟨n', m', p', q'⟩, _) ⟨rfl, rfl, rfl, rfl, slI' (wpred y (by omega) hy0), trivial⟩ (.keep rfl) ⟨by show _ ≤ z; omega, jobO_ok hs1 hs2 hs3.1 hs4.1 hj, ((hc.set nb).set (by omega)).mono (by show _ ≤ n + 200 + 20 * (z - (y - 1)); omega), (hk.setO lo).setO (by omega), getn (getn q no) (by omega), get_set (getn q3 nq)⟩ (by show _ < y; omega)
        | exact Again.go (y - 1, s, _) ⟨rfl, rfl, rfl, rfl, slI' (wpred y (by omega) hy0), trivial⟩ (.keep rfl) ⟨by show _ ≤ z; omega, ⟨hs1, hs2, hs3, hs4⟩, (hc.set nb).mono (by show _ ≤ n + 200 + 20 * (z - (y - 1)); omega), hk.setO lo, getn q no, getn q3 nq⟩ (by show _ < y; omega)
        | skip
    · obtain rfl : y = 0 := by omega
      repeat' ((conv => whnf); first
        | (refine And.intro rfl ?_)
        | (refine And.intro (by decide +kernel) ?_)
        | (refine And.intro trivial ?_)
        | (refine fS_mk ?_)
        | (refine d_pick (m := 6) (hm := by decide) (hcd := hcd) (hc := hc) (hn := by omega) (h0 := fun x S hx1 hx2 hc1 hk1 => ?_) ..; have q := hk1.2 _ _ (by omega) (q); have q3 := hk1.2 _ _ (by omega) (q3); have hk := Keeps.trans (hk) hk1; have hc := hc1; obtain rfl | rfl | rfl | rfl | rfl | rfl : x = 0 ∨ x = 1 ∨ x = 2 ∨ x = 3 ∨ x = 4 ∨ x = 5 := by omega)
        | (refine d_pick (m := 48) (hm := by decide) (hcd := hcd) (hc := hc) (hn := by omega) (h0 := fun w S hw1 hw2 hc1 hk1 => ?_) ..; have q := hk1.2 _ _ (by omega) (q); have q3 := hk1.2 _ _ (by omega) (q3); have hk := Keeps.trans (hk) hk1; have hc := hc1)
        | (refine d_among (y0 := -1) (ys := [1000, 1001]) (hL := getl) (hys := by decide) (hbl := by have := (hc).lt; omega) (hcd := hcd) (hc := CurAt.app (hc)) (hn := by omega) (h0 := fun w S hw hc1 hk1 => ?_) ..; have q := hk1.2 _ _ (by omega) (getx1 (q)); have q3 := hk1.2 _ _ (by omega) (getx1 (q3)); have hk := Keeps.trans (hk) hk1.snoc; have hc := hc1)
        | (refine d_among (y0 := -1) (ys := [64]) (hL := getl) (hys := by decide) (hbl := by have := (hc).lt; omega) (hcd := hcd) (hc := CurAt.app (hc)) (hn := by omega) (h0 := fun w S hw hc1 hk1 => ?_) ..; have q := hk1.2 _ _ (by omega) (getx1 (q)); have q3 := hk1.2 _ _ (by omega) (getx1 (q3)); have hk := Keeps.trans (hk) hk1.snoc; have hc := hc1)
        | (refine And.intro ⟨_, q3, rfl⟩ ?_)
        | (refine Exists.intro _ (And.intro (q3) (And.intro rfl (And.intro rfl (And.intro (Nat.le_of_ble_eq_true rfl) ?_)))))
        | (refine Exists.intro _ (And.intro (get_set (q3)) (And.intro rfl (And.intro (Nat.le_of_ble_eq_true rfl) ?_))))
        | (refine Exists.intro _ (And.intro (q3) (And.intro rfl (And.intro (Nat.le_of_ble_eq_true rfl) ?_))))
        | (refine Exists.intro _ (And.intro (getn (q) (by omega)) (And.intro rfl (And.intro rfl (And.intro (Nat.le_of_ble_eq_true rfl) ?_)))))
        | (refine Exists.intro _ (And.intro (q) (And.intro rfl (And.intro rfl (And.intro (Nat.le_of_ble_eq_true rfl) ?_)))))
        | (refine Exists.intro _ (And.intro (get_set (getn (q) (by omega))) (And.intro rfl (And.intro (Nat.le_of_ble_eq_true rfl) ?_))))
        | (refine Exists.intro _ (And.intro (get_set (q)) (And.intro rfl (And.intro (Nat.le_of_ble_eq_true rfl) ?_))))
        | (refine Exists.intro _ (And.intro rfl (And.intro rfl (And.intro (Nat.le_of_ble_eq_true rfl) ?_))))
        | (refine Exists.intro _ (And.intro rfl (And.intro rfl (And.intro rfl (And.intro (Nat.le_of_ble_eq_true rfl) ?_)))))
        | (refine And.intro (Exists.intro _ (And.intro rfl rfl)) ?_)
        | (exact fun hW => absurd hW (by decide +kernel))
        | (intro hW; (try simp only [Bool.not_true, Bool.not_false, Bool.not_eq_true', Bool.not_eq_false', decide_eq_true_eq, decide_eq_false_iff_not, reduceCtorEq, Bool.true_eq_false, Bool.false_eq_true, mk_size, List.size_toArray, ByteArray.size_append, ByteArray.size_extract, List.length_cons, List.length_nil, ba_get, ba_empty, Int.toNat_natCast] at hW))
        | (refine And.intro (?_ : _ → _) (?_ : _ → _))
        | (refine FinR.drop 0 (Nat.zero_le _) (Closed.zero _) rfl ?_)
        | (refine FinR.keep ?_)
        | (refine And.intro (det3_agg rfl) ?_)
        | (refine fL_mk ?_)
        | (refine And.intro (by (try simp only [mk_size, List.size_toArray, ByteArray.size_append, ByteArray.size_extract, List.length_cons, List.length_nil]); omega) ?_)
        | (refine And.intro (by (try simp only [mk_size, List.size_toArray, ByteArray.size_append, ByteArray.size_extract, List.length_cons, List.length_nil, wrap64_eq]); omega) ?_)
        | fail)
      all_goals first | (exfalso; omega) | skip
      all_goals (refine h0 _ _ _ _ _ _ _ _ _ _ _ _ _ _ _ ?_ ?_)
      all_goals repeat' (first | exact hc.mono (by omega) | exact hk | refine CurAt.set ?_ (by omega) | refine Keeps.setO ?_ (by omega))
end Go.Proofs.Ytkcbhdjhbnnlgaa
end

section
/- Contracts: what is drawn for shops; a code cut. -/
set_option linter.unusedVariables false
set_option linter.unusedSimpArgs false
set_option maxRecDepth 100000
set_option maxHeartbeats 4000000
namespace Go.Proofs.Ytkcbhdjhbnnlgaa
open Go Go.RowKit Go.Proofs.Ytkcbhdjhbnnlgaa.Abs
variable {W0 : World} {σ : List Blk}
/-- bytes in own memory -/
abbrev byK (ys : List Int) (r : Nat) : Blk := ⟨ys.map fun y => AV.lit (.int .u8 y), r, 5, 1, true, true⟩
theorem sli_bytes {ys : List Int} {b r cap : Nat} (hb : σ[b]? = some (byK ys r)) : Sli W0 σ 1 enB (.sl b r 0 ys.length cap) ys := by
  refine .own b r 0 ys.length cap _ ys hb rfl rfl fun i x hi j v hj => ?_
  have hj0 : j = 0 := by have := getElem?_lt hj; simpa using this
  subst hj0
  simp at hj; subst hj
  show (ys.map fun y => AV.lit (.int .u8 y))[0 + i * 1 + 0]? = _
  rw [show 0 + i * 1 + 0 = i by omega, List.getElem?_map, hi]; rfl
theorem srcB {ad : Addr} {xs : List Int} {n m : Nat} {X : Addr} (hx : ∀ i x, xs[i]? = some x → ∀ j v, (enB x)[j]? = some v → W0.cell? ((ad.add (i * 1)).add j) = some v ∧ v.oneCell' = true) (hb : ad.block < W0.heap.size) (hm : m = xs.length - n) (hX : X = ad.add (n * 1) ∨ xs.length ≤ n ∧ X.block = ad.block) {Q : List Value → Prop} (hq : Q ((xs.drop n).map (Value.int .u8))) :
    ∃ cs : List Value, cs.length = m * 1 ∧ (∀ (j : Nat) (v : Value), cs[j]? = some v → W0.cell? (X.add j) = some v ∧ v.oneCell' = true) ∧ X.block < W0.heap.size ∧ Q cs := by
  refine ⟨_, by simp [hm], fun j v hj => ?_, ?_, hq⟩
  · rw [List.getElem?_map, Option.map_eq_some_iff] at hj
    obtain ⟨x, hj, rfl⟩ := hj
    rw [List.getElem?_drop] at hj
    have h := hx (n + j) x hj 0 (.int .u8 x) rfl
    rcases hX with rfl | ⟨hl, _⟩
    · refine ⟨?_, h.2⟩
      rw [← h.1, add_add, add_add]
      congr 2; omega
    · exfalso
      have := getElem?_lt hj; omega
  · rcases hX with rfl | ⟨_, h⟩
    · have hb' : (ad.add (n * 1)).block = ad.block := by unfold Addr.add; split <;> rfl
      rw [hb']; exact hb
    · rw [h]; exact hb
theorem wrapu8 (n : Int) : 0 ≤ IntKind.u8.wrap n ∧ IntKind.u8.wrap n < 256 := by
  show 0 ≤ n % 256 ∧ n % 256 < 256
  omega
theorem ifX {ad : Addr} {cap n len t : Nat} (hn : t = n) (hl : len ≤ cap) : (if cap = t then ad else ad.add (t * 1)) = ad.add (n * 1) ∨ len ≤ n ∧ (if cap = t then ad else ad.add (t * 1)).block = ad.block := by
  subst hn
  by_cases h : cap = t
  · rw [if_pos h]; exact .inr ⟨by omega, rfl⟩
  · rw [if_neg h]; exact .inl rfl
theorem vcK {K : Cont} {len : Nat} (h0 : ∀ ys cap, (∀ y ∈ ys, 0 ≤ y ∧ y < 256) → ys.length ≤ len + 1 → K (.sl 0 2 0 ys.length cap) [byK ys 2]) (l : List Int) (n : Int) (hl : ∀ y ∈ l, 0 ≤ y ∧ y < 256) (hln : l.length ≤ len) (a : Nat) (cap : Nat) (cs : List AV) (r : Nat) (ha : a = l.length + 1) (hr : r = 2) (hc : cs = (l.map fun y => AV.lit (.int .u8 y)) ++ [.lit (.int .u8 (IntKind.u8.wrap n))]) : K (.sl 0 r 0 a cap) [⟨cs, r, 5, 1, true, true⟩] := by
  subst ha; subst hr; subst hc
  have h := h0 (l ++ [IntKind.u8.wrap n]) cap (fun y hy => by
    rcases List.mem_append.1 hy with h | h
    · exact hl y h
    · rw [List.mem_singleton.1 h]; exact wrapu8 n) (by simp; omega)
  unfold byK at h
  rw [List.length_append, List.map_append] at h
  exact h
theorem c_vCut (v : Value) (xs : List Int) (hcd : Code W0 v xs) (n : Nat) (hn : n ≤ 1000) (K : Cont) (h0 : ∀ ys cap, (∀ y ∈ ys, 0 ≤ y ∧ y < 256) → ys.length ≤ xs.length + 1 → K (.sl 0 2 0 ys.length cap) [byK ys 2]) : ACall Try.prog W0 31 [.lit v, I n] [] K := by
  refine by31 (Nat.le_of_ble_eq_true rfl) ?_
  obtain ⟨hs, hr, hl⟩ := hcd
  cases hs with
  | nil =>
    repeat' ((conv => whnf); first
      | (refine And.intro rfl ?_)
      | (refine And.intro (by decide +kernel) ?_)
      | (refine And.intro trivial ?_)
      | (refine Exists.intro _ (And.intro rfl (And.intro rfl (And.intro rfl (And.intro rfl (And.intro rfl (And.intro rfl (And.intro (by decide) (And.intro (by first | (simp [rep]; done) | (simp [rep]; omega)) (And.intro (by first | (simp [rep]; done) | (simp [rep]; omega)) (And.intro (by unfold maxLen; omega) (And.intro (by omega) (fun cap' hcap1 hcap2 => ?_)))))))))))))
      | (refine Exists.intro _ (And.intro rfl (And.intro rfl (And.intro (Nat.le_of_ble_eq_true rfl) ?_))))
      | (refine Exists.intro _ (And.intro rfl (And.intro rfl (And.intro rfl (And.intro (Nat.le_of_ble_eq_true rfl) ?_)))))
      | (refine And.intro (Exists.intro _ (And.intro rfl rfl)) ?_)
      | (exact fun hW => absurd hW (by decide +kernel))
      | (intro hW; (try simp only [Bool.not_true, Bool.not_false, Bool.not_eq_true', Bool.not_eq_false', decide_eq_true_eq, decide_eq_false_iff_not, reduceCtorEq, Bool.true_eq_false, Bool.false_eq_true, mk_size, List.size_toArray, ByteArray.size_append, ByteArray.size_extract, List.length_cons, List.length_nil, ba_get, ba_empty, Int.toNat_natCast] at hW))
      | (refine And.intro (?_ : _ → _) (?_ : _ → _))
      | (refine FinR.drop 0 (Nat.zero_le _) (Closed.zero _) rfl ?_)
      | (refine FinR.keep ?_)
      | (refine And.intro (det3_agg rfl) ?_)
      | (refine fL_mk ?_)
      | (refine And.intro (by (try simp only [mk_size, List.size_toArray, ByteArray.size_append, ByteArray.size_extract, List.length_cons, List.length_nil]); omega) ?_)
      | (refine And.intro (by (try simp only [mk_size, List.size_toArray, ByteArray.size_append, ByteArray.size_extract, List.length_cons, List.length_nil, wrap64_eq]); omega) ?_)
      | fail)
    all_goals first | (exfalso; omega) | skip
    all_goals exact vcK h0 [] 0 (by intro x hx; cases hx) (Nat.zero_le _) _ _ _ _ rfl rfl (by first | (simp [rep]; done) | (have hn0 : n = 0 := (by omega); subst hn0; simp [rep]))
  | inn ad m cap xs hm hmc hcm hb hxx =>
    subst hm
    by_cases hnl : (n : Int) > (xs.length : Nat)
    · skip
      repeat' ((conv => whnf); first
        | (refine And.intro rfl ?_)
        | (refine And.intro (by decide +kernel) ?_)
        | (refine And.intro trivial ?_)
        | (refine srcB (n := xs.length) hxx hb (by omega) (ifX (by omega) hmc) ?_)
        | (refine Exists.intro _ (And.intro rfl (And.intro rfl (And.intro rfl (And.intro rfl (And.intro rfl (And.intro rfl (And.intro (by decide) (And.intro (by first | (simp [rep]; done) | (simp [rep]; omega)) (And.intro (by first | (simp [rep]; done) | (simp [rep]; omega)) (And.intro (by unfold maxLen; omega) (And.intro (by omega) (fun cap' hcap1 hcap2 => ?_)))))))))))))
        | (refine Exists.intro _ (And.intro rfl (And.intro rfl (And.intro (Nat.le_of_ble_eq_true rfl) ?_))))
        | (refine Exists.intro _ (And.intro rfl (And.intro rfl (And.intro rfl (And.intro (Nat.le_of_ble_eq_true rfl) ?_)))))
        | (refine And.intro (Exists.intro _ (And.intro rfl rfl)) ?_)
        | (exact fun hW => absurd hW (by decide +kernel))
        | (intro hW; (try simp only [Bool.not_true, Bool.not_false, Bool.not_eq_true', Bool.not_eq_false', decide_eq_true_eq, decide_eq_false_iff_not, reduceCtorEq, Bool.true_eq_false, Bool.false_eq_true, mk_size, List.size_toArray, ByteArray.size_append, ByteArray.size_extract, List.length_cons, List.length_nil, ba_get, ba_empty, Int.toNat_natCast] at hW))
        | (refine And.intro (?_ : _ → _) (?_ : _ → _))
        | (refine FinR.drop 0 (Nat.zero_le _) (Closed.zero _) rfl ?_)
        | (refine FinR.keep ?_)
        | (refine And.intro (det3_agg rfl) ?_)
        | (refine fL_mk ?_)
        | (refine And.intro (by (try simp only [mk_size, List.size_toArray, ByteArray.size_append, ByteArray.size_extract, List.length_cons, List.length_nil]); omega) ?_)
        | (refine And.intro (by (try simp only [mk_size, List.size_toArray, ByteArray.size_append, ByteArray.size_extract, List.length_cons, List.length_nil, wrap64_eq]); omega) ?_)
        | fail)
      all_goals first | (exfalso; omega) | skip
      all_goals exact vcK h0 (xs.drop xs.length) xs.length (fun y hy => hr y (List.mem_of_mem_drop hy)) (by simp) _ _ _ _ (by first | (simp [rep]; done) | (simp [rep]; omega)) rfl (by first | (simp [rep]; done) | (simp [rep, Function.comp_def]; done) | (simp [rep, Function.comp_def]; omega))
    · skip
      repeat' ((conv => whnf); first
        | (refine And.intro rfl ?_)
        | (refine And.intro (by decide +kernel) ?_)
        | (refine And.intro trivial ?_)
        | (refine srcB (n := n) hxx hb (by omega) (ifX (by omega) hmc) ?_)
        | (refine Exists.intro _ (And.intro rfl (And.intro rfl (And.intro rfl (And.intro rfl (And.intro rfl (And.intro rfl (And.intro (by decide) (And.intro (by first | (simp [rep]; done) | (simp [rep]; omega)) (And.intro (by first | (simp [rep]; done) | (simp [rep]; omega)) (And.intro (by unfold maxLen; omega) (And.intro (by omega) (fun cap' hcap1 hcap2 => ?_)))))))))))))
        | (refine Exists.intro _ (And.intro rfl (And.intro rfl (And.intro (Nat.le_of_ble_eq_true rfl) ?_))))
        | (refine Exists.intro _ (And.intro rfl (And.intro rfl (And.intro rfl (And.intro (Nat.le_of_ble_eq_true rfl) ?_)))))
        | (refine And.intro (Exists.intro _ (And.intro rfl rfl)) ?_)
        | (exact fun hW => absurd hW (by decide +kernel))
        | (intro hW; (try simp only [Bool.not_true, Bool.not_false, Bool.not_eq_true', Bool.not_eq_false', decide_eq_true_eq, decide_eq_false_iff_not, reduceCtorEq, Bool.true_eq_false, Bool.false_eq_true, mk_size, List.size_toArray, ByteArray.size_append, ByteArray.size_extract, List.length_cons, List.length_nil, ba_get, ba_empty, Int.toNat_natCast] at hW))
        | (refine And.intro (?_ : _ → _) (?_ : _ → _))
        | (refine FinR.drop 0 (Nat.zero_le _) (Closed.zero _) rfl ?_)
        | (refine FinR.keep ?_)
        | (refine And.intro (det3_agg rfl) ?_)
        | (refine fL_mk ?_)
        | (refine And.intro (by (try simp only [mk_size, List.size_toArray, ByteArray.size_append, ByteArray.size_extract, List.length_cons, List.length_nil]); omega) ?_)
        | (refine And.intro (by (try simp only [mk_size, List.size_toArray, ByteArray.size_append, ByteArray.size_extract, List.length_cons, List.length_nil, wrap64_eq]); omega) ?_)
        | fail)
      all_goals first | (exfalso; omega) | skip
      all_goals exact vcK h0 (xs.drop n) n (fun y hy => hr y (List.mem_of_mem_drop hy)) (by simp) _ _ _ _ (by first | (simp [rep]; done) | (simp [rep]; omega)) rfl (by first | (simp [rep]; done) | (simp [rep, Function.comp_def]; done) | (simp [rep, Function.comp_def]; omega))
theorem lift_Code {g : FuncId} {a : AV} {xs : List Int} {ι : Type} (r : ι → AV) (β : ι → List Blk) (hok : callOK Try.prog g = true) (hs : Sli W0 σ 1 enB a xs) (hr : ∀ x ∈ xs, 0 ≤ x ∧ x < 256) (hl : xs.length ≤ 1048576)
    (h : ∀ (W1 : World) (v : Value), Code W1 v xs → ∀ K : Cont, (∀ i, K (r i) (β i)) → ACall Try.prog W1 g [.lit v] [] K) (K : Cont) (h0 : ∀ i, K (sh3 σ.length (r i)) (σ ++ shB σ.length (β i))) : ACall Try.prog W0 g [a] σ K :=
  lift_S1 r β hok hs (fun W1 a' h' K hK => by
    obtain ⟨v, rfl⟩ := sli_lit h'
    exact h W1 v ⟨h', hr, hl⟩ K hK) K h0
theorem c_DrawNewShop (v : Value) (xs : List Int) (hcd : Code W0 v xs) (K : Cont) (h0 : ∀ a1 a2 a3 a4 a5 a6 b1 b2 b3 b4 b5 b6, K (.tup [Sh a1 a2 a3 a4 a5 a6, Sh b1 b2 b3 b4 b5 b6]) []) : ACall Try.prog W0 27 [.lit v] [] K := by
  refine by27 (Nat.le_of_ble_eq_true rfl) ?_
  obtain ⟨o, m, cap, hv, -, -, -, -⟩ := sli_form hcd.sli
  cases hv
  have hc : CurAt 2 (.slice o m cap) 0 [shC 0 0 0 0 0 0, shC 0 0 0 0 0 0, CurB (.slice o m cap) 0 0] := ⟨0, 0, Nat.le_refl _, rfl⟩
  repeat' ((conv => whnf); first
    | (refine And.intro rfl ?_)
    | (refine And.intro (by decide +kernel) ?_)
    | (refine And.intro trivial ?_)
    | (refine fS_mk ?_)
    | (refine d_sheetC (hcd := hcd) (hc := hc) (hn := by omega) (h0 := fun a1 a2 a3 a4 a5 a6 R hc1 hk1 => ?_) ..; have q0 := hk1.2 0 _ (show (0 : Nat) ≠ 2 by decide) rfl; have q1 := hk1.2 1 _ (show (1 : Nat) ≠ 2 by decide) rfl; have hc := hc1)
    | (have hz9 := q0; refine d_stampC (hcd := hcd) (hc := hc) (hn := by omega) (h0 := fun b1 b2 b3 b4 b5 b6 R hc1 hk1 => ?_) ..; have q0 := hk1.2 _ _ (show (0 : Nat) ≠ 2 by decide) q0; have q1 := hk1.2 _ _ (show (1 : Nat) ≠ 2 by decide) q1; have hc := hc1)
    | (refine Exists.intro _ (And.intro (q0) (And.intro rfl (And.intro rfl (And.intro (Nat.le_of_ble_eq_true rfl) ?_)))))
    | (refine Exists.intro _ (And.intro (getn (q1) (show (0 : Nat) ≠ 1 by decide)) (And.intro rfl (And.intro rfl (And.intro (Nat.le_of_ble_eq_true rfl) ?_)))))
    | (refine Exists.intro _ (And.intro (getn (get_set (q0)) (show (1 : Nat) ≠ 0 by decide)) (And.intro rfl (And.intro (Nat.le_of_ble_eq_true rfl) ?_))))
    | (refine Exists.intro _ (And.intro (get_set (getn (q1) (show (0 : Nat) ≠ 1 by decide))) (And.intro rfl (And.intro (Nat.le_of_ble_eq_true rfl) ?_))))
    | (refine Exists.intro _ (And.intro rfl (And.intro rfl (And.intro (Nat.le_of_ble_eq_true rfl) ?_))))
    | (refine Exists.intro _ (And.intro rfl (And.intro rfl (And.intro rfl (And.intro (Nat.le_of_ble_eq_true rfl) ?_)))))
    | (refine And.intro (Exists.intro _ (And.intro rfl rfl)) ?_)
    | (exact fun hW => absurd hW (by decide +kernel))
    | (intro hW; (try simp only [Bool.not_true, Bool.not_false, Bool.not_eq_true', Bool.not_eq_false', decide_eq_true_eq, decide_eq_false_iff_not, reduceCtorEq, Bool.true_eq_false, Bool.false_eq_true, mk_size, List.size_toArray, ByteArray.size_append, ByteArray.size_extract, List.length_cons, List.length_nil, ba_get, ba_empty, Int.toNat_natCast] at hW))
    | (refine And.intro (?_ : _ → _) (?_ : _ → _))
    | (refine FinR.drop 0 (Nat.zero_le _) (Closed.zero _) rfl ?_)
    | (refine FinR.keep ?_)
    | (refine And.intro (det3_agg rfl) ?_)
    | (refine fL_mk ?_)
    | (refine And.intro (by (try simp only [mk_size, List.size_toArray, ByteArray.size_append, ByteArray.size_extract, List.length_cons, List.length_nil]); omega) ?_)
    | (refine And.intro (by (try simp only [mk_size, List.size_toArray, ByteArray.size_append, ByteArray.size_extract, List.length_cons, List.length_nil, wrap64_eq]); omega) ?_)
    | fail)
  all_goals exact h0 _ _ _ _ _ _ _ _ _ _ _ _
theorem d_DrawNewShop (v : Value) (xs : List Int) (hcd : Code W0 v xs) (K : Cont) (h0 : ∀ a1 a2 a3 a4 a5 a6 b1 b2 b3 b4 b5 b6, K (.tup [Sh a1 a2 a3 a4 a5 a6, Sh b1 b2 b3 b4 b5 b6]) σ) : ACall Try.prog W0 27 [.lit v] σ K := by
  refine ACall.frame (K0 := fun w σ' => ∃ a1 a2 a3 a4 a5 a6 b1 b2 b3 b4 b5 b6, w = .tup [Sh a1 a2 a3 a4 a5 a6, Sh b1 b2 b3 b4 b5 b6] ∧ σ' = []) rfl (fun W1 hb => c_DrawNewShop v xs (hcd.below hb) _ fun a1 a2 a3 a4 a5 a6 b1 b2 b3 b4 b5 b6 => ⟨a1, a2, a3, a4, a5, a6, b1, b2, b3, b4, b5, b6, rfl, rfl⟩) ?_
  rintro w σ' ⟨a1, a2, a3, a4, a5, a6, b1, b2, b3, b4, b5, b6, rfl, rfl⟩
  show K _ (σ ++ [])
  rw [List.append_nil]; exact h0 _ _ _ _ _ _ _ _ _ _ _ _
theorem c_DrawDoJob (v : Value) (xs : List Int) (hcd : Code W0 v xs) (K : Cont) (h0 : ∀ c0 c1 c2 c3 c4 c5 c6 c7 c8 c9 c10 c11 c12 c13 k a b, K (.tup [Sp c0 c1 c2 c3 c4 c5 c6 c7 c8 c9 c10 c11 c12 c13, Jb k a b]) []) : ACall Try.prog W0 30 [.lit v] [] K := by
  refine by30 (Nat.le_of_ble_eq_true rfl) ?_
  obtain ⟨o, m, cap, hv, -, -, -, -⟩ := sli_form hcd.sli
  cases hv
  have hc : CurAt 2 (.slice o m cap) 0 [bZ, jbC 0 0 0, CurB (.slice o m cap) 0 0] := ⟨0, 0, Nat.le_refl _, rfl⟩
  repeat' ((conv => whnf); first
    | (refine And.intro rfl ?_)
    | (refine And.intro (by decide +kernel) ?_)
    | (refine And.intro trivial ?_)
    | (refine fS_mk ?_)
    | (refine d_shopC (hcd := hcd) (hc := hc) (hn := by omega) (h0 := fun c0 c1 c2 c3 c4 c5 c6 c7 c8 c9 c10 c11 c12 c13 R hc1 hk1 => ?_) ..; have q0 := hk1.2 0 _ (show (0 : Nat) ≠ 2 by decide) rfl; have q1 := hk1.2 1 _ (show (1 : Nat) ≠ 2 by decide) rfl; have hc := hc1)
    | (have hz9 := q0; refine d_job12 (hcd := hcd) (hc := hc) (hn := by omega) (h0 := fun k a b R hc1 hk1 => ?_) ..; have q0 := hk1.2 _ _ (show (0 : Nat) ≠ 2 by decide) q0; have q1 := hk1.2 _ _ (show (1 : Nat) ≠ 2 by decide) q1; have hc := hc1)
    | (refine Exists.intro _ (And.intro (q0) (And.intro rfl (And.intro rfl (And.intro (Nat.le_of_ble_eq_true rfl) ?_)))))
    | (refine Exists.intro _ (And.intro (getn (q1) (show (0 : Nat) ≠ 1 by decide)) (And.intro rfl (And.intro rfl (And.intro (Nat.le_of_ble_eq_true rfl) ?_)))))
    | (refine Exists.intro _ (And.intro (getn (get_set (q0)) (show (1 : Nat) ≠ 0 by decide)) (And.intro rfl (And.intro (Nat.le_of_ble_eq_true rfl) ?_))))
    | (refine Exists.intro _ (And.intro (get_set (getn (q1) (show (0 : Nat) ≠ 1 by decide))) (And.intro rfl (And.intro (Nat.le_of_ble_eq_true rfl) ?_))))
    | (refine Exists.intro _ (And.intro rfl (And.intro rfl (And.intro (Nat.le_of_ble_eq_true rfl) ?_))))
    | (refine Exists.intro _ (And.intro rfl (And.intro rfl (And.intro rfl (And.intro (Nat.le_of_ble_eq_true rfl) ?_)))))
    | (refine And.intro (Exists.intro _ (And.intro rfl rfl)) ?_)
    | (exact fun hW => absurd hW (by decide +kernel))
    | (intro hW; (try simp only [Bool.not_true, Bool.not_false, Bool.not_eq_true', Bool.not_eq_false', decide_eq_true_eq, decide_eq_false_iff_not, reduceCtorEq, Bool.true_eq_false, Bool.false_eq_true, mk_size, List.size_toArray, ByteArray.size_append, ByteArray.size_extract, List.length_cons, List.length_nil, ba_get, ba_empty, Int.toNat_natCast] at hW))
    | (refine And.intro (?_ : _ → _) (?_ : _ → _))
    | (refine FinR.drop 0 (Nat.zero_le _) (Closed.zero _) rfl ?_)
    | (refine FinR.keep ?_)
    | (refine And.intro (det3_agg rfl) ?_)
    | (refine fL_mk ?_)
    | (refine And.intro (by (try simp only [mk_size, List.size_toArray, ByteArray.size_append, ByteArray.size_extract, List.length_cons, List.length_nil]); omega) ?_)
    | (refine And.intro (by (try simp only [mk_size, List.size_toArray, ByteArray.size_append, ByteArray.size_extract, List.length_cons, List.length_nil, wrap64_eq]); omega) ?_)
    | fail)
  all_goals exact h0 _ _ _ _ _ _ _ _ _ _ _ _ _ _ _ _ _
/-- a list of jobs in own memory -/
abbrev jbK (ys : List (List Int)) (r : Nat) : Blk := ⟨jc ys, r, 52, 3, true, true⟩
abbrev spC (c0 c1 c2 c3 c4 c5 c6 c7 c8 c9 c10 c11 c12 c13 : Int) : Blk := ⟨[I c0, I c1, I c2, I c3, I c4, I c5, I c6, I c7, I c8, I c9, I c10, I c11, I c12, I c13], 0, 48, 0, false, false⟩
theorem jb_round {R : List Blk} {b : Nat} {B : Blk} (qb : R[b]? = some B) {l : List (List Int)} {x : List Int} {cs : List AV} {w : Nat} (hc : cs = jc l ++ x.map I) (hw : w = l.length + 1) : (R.set b ⟨cs, w, 52, 3, true, true⟩)[b]? = some (jbK (l ++ [x]) (l ++ [x]).length) := by
  rw [get_set qb, hc, hw, ← jc_snoc, List.length_append]; rfl
theorem c_DrawDoJobs (v : Value) (xs : List Int) (hcd : Code W0 v xs) (K : Cont) (h0 : ∀ c0 c1 c2 c3 c4 c5 c6 c7 c8 c9 c10 c11 c12 c13 b ys cap S, S[b]? = some (jbK ys ys.length) → (∀ x ∈ ys, x.length = 3) → ys.length ≤ 10 → K (.tup [Sp c0 c1 c2 c3 c4 c5 c6 c7 c8 c9 c10 c11 c12 c13, .sl b ys.length 0 ys.length cap]) S) : ACall Try.prog W0 34 [.lit v] [] K := by
  refine by34 (Nat.le_of_ble_eq_true rfl) ?_
  obtain ⟨o, m, cap, hv, -, -, -, -⟩ := sli_form hcd.sli
  cases hv
  have hc : CurAt 1 (.slice o m cap) 0 [bZ, CurB (.slice o m cap) 0 0] := ⟨0, 0, Nat.le_refl _, rfl⟩
  repeat' ((conv => whnf); first
    | (refine And.intro rfl ?_)
    | (refine And.intro (by decide +kernel) ?_)
    | (refine And.intro trivial ?_)
    | (refine fS_mk ?_)
    | (refine d_shopC (hcd := hcd) (hc := hc) (hn := by omega) (h0 := fun c0 c1 c2 c3 c4 c5 c6 c7 c8 c9 c10 c11 c12 c13 R hc1 hk1 => ?_) ..; have q0 := hk1.2 0 _ (show (0 : Nat) ≠ 1 by decide) rfl; have hc := hc1)
    | (refine Exists.intro _ (And.intro rfl (And.intro rfl (And.intro (Nat.le_of_ble_eq_true rfl) ?_))))
    | (refine Exists.intro _ (And.intro rfl (And.intro rfl (And.intro rfl (And.intro (Nat.le_of_ble_eq_true rfl) ?_)))))
    | (refine And.intro (Exists.intro _ (And.intro rfl rfl)) ?_)
    | (exact fun hW => absurd hW (by decide +kernel))
    | (intro hW; (try simp only [Bool.not_true, Bool.not_false, Bool.not_eq_true', Bool.not_eq_false', decide_eq_true_eq, decide_eq_false_iff_not, reduceCtorEq, Bool.true_eq_false, Bool.false_eq_true, mk_size, List.size_toArray, ByteArray.size_append, ByteArray.size_extract, List.length_cons, List.length_nil, ba_get, ba_empty, Int.toNat_natCast] at hW))
    | (refine And.intro (?_ : _ → _) (?_ : _ → _))
    | (refine FinR.drop 0 (Nat.zero_le _) (Closed.zero _) rfl ?_)
    | (refine FinR.keep ?_)
    | (refine And.intro (det3_agg rfl) ?_)
    | (refine fL_mk ?_)
    | (refine And.intro (by (try simp only [mk_size, List.size_toArray, ByteArray.size_append, ByteArray.size_extract, List.length_cons, List.length_nil]); omega) ?_)
    | (refine And.intro (by (try simp only [mk_size, List.size_toArray, ByteArray.size_append, ByteArray.size_extract, List.length_cons, List.length_nil, wrap64_eq]); omega) ?_)
    | fail)
  repeat' ((conv => whnf); first
    | (refine And.intro rfl ?_)
    | (refine And.intro (by decide +kernel) ?_)
    | (refine And.intro trivial ?_)
    | (refine fS_mk ?_)
    | (refine Exists.intro _ (And.intro getl (And.intro rfl (And.intro rfl (And.intro (Nat.le_of_ble_eq_true rfl) ?_)))); rw [set_last])
    | (refine Exists.intro _ (And.intro rfl (And.intro rfl (And.intro (Nat.le_of_ble_eq_true rfl) ?_))))
    | (refine Exists.intro _ (And.intro rfl (And.intro rfl (And.intro rfl (And.intro (Nat.le_of_ble_eq_true rfl) ?_)))))
    | (refine And.intro (Exists.intro _ (And.intro rfl rfl)) ?_)
    | (exact fun hW => absurd hW (by decide +kernel))
    | (intro hW; (try simp only [Bool.not_true, Bool.not_false, Bool.not_eq_true', Bool.not_eq_false', decide_eq_true_eq, decide_eq_false_iff_not, reduceCtorEq, Bool.true_eq_false, Bool.false_eq_true, mk_size, List.size_toArray, ByteArray.size_append, ByteArray.size_extract, List.length_cons, List.length_nil, ba_get, ba_empty, Int.toNat_natCast] at hW))
    | (refine And.intro (?_ : _ → _) (?_ : _ → _))
    | (refine FinR.drop 0 (Nat.zero_le _) (Closed.zero _) rfl ?_)
    | (refine FinR.keep ?_)
    | (refine And.intro (det3_agg rfl) ?_)
    | (refine fL_mk ?_)
    | (refine And.intro (by (try simp only [mk_size, List.size_toArray, ByteArray.size_append, ByteArray.size_extract, List.length_cons, List.length_nil]); omega) ?_)
    | (refine And.intro (by (try simp only [mk_size, List.size_toArray, ByteArray.size_append, ByteArray.size_extract, List.length_cons, List.length_nil, wrap64_eq]); omega) ?_)
    | fail)
  have hRl := hc.lt
  have eL : (R ++ [jbK [] 0]).length = R.length + 1 := by rw [List.length_append]; rfl
  have qj : ((R ++ [jbK [] 0]) ++ [spC c0 c1 c2 c3 c4 c5 c6 c7 c8 c9 c10 c11 c12 c13])[R.length]? = some (jbK [] 0) := getx1 getl
  have q5 : ((R ++ [jbK [] 0]) ++ [spC c0 c1 c2 c3 c4 c5 c6 c7 c8 c9 c10 c11 c12 c13])[(R ++ [jbK [] 0]).length]? = some (spC c0 c1 c2 c3 c4 c5 c6 c7 c8 c9 c10 c11 c12 c13) := getl
  have q0 := getx1 (τ := [spC c0 c1 c2 c3 c4 c5 c6 c7 c8 c9 c10 c11 c12 c13]) (getx1 (τ := [jbK [] 0]) q0)
  have hc := (hc.app (τ := [jbK [] 0])).app (τ := [spC c0 c1 c2 c3 c4 c5 c6 c7 c8 c9 c10 c11 c12 c13])
  have nj1 : R.length ≠ 1 := by omega
  have nj5 : R.length ≠ (R ++ [jbK [] 0]).length := by omega
  have n51 : (R ++ [jbK [] 0]).length ≠ 1 := by omega
  have nj0 : R.length ≠ 0 := by omega
  clear hc1 hk1
  repeat' ((conv => whnf); first
    | (refine And.intro rfl ?_)
    | (refine And.intro (by decide +kernel) ?_)
    | (refine And.intro trivial ?_)
    | (refine fS_mk ?_)
    | (refine d_pick (m := 6) (hcd := hcd) (hc := hc) (hn := by omega) (hm := by decide) (h0 := fun z T hz1 hz2 hc1 hk1 => ?_) ..; have q0 := hk1.2 _ _ (by decide) q0; have qj := hk1.2 _ _ nj1 qj; have q5 := hk1.2 _ _ n51 q5; have hc := hc1)
    | (refine Exists.intro _ (And.intro rfl (And.intro rfl (And.intro (Nat.le_of_ble_eq_true rfl) ?_))))
    | (refine Exists.intro _ (And.intro rfl (And.intro rfl (And.intro rfl (And.intro (Nat.le_of_ble_eq_true rfl) ?_)))))
    | (refine And.intro (Exists.intro _ (And.intro rfl rfl)) ?_)
    | (exact fun hW => absurd hW (by decide +kernel))
    | (intro hW; (try simp only [Bool.not_true, Bool.not_false, Bool.not_eq_true', Bool.not_eq_false', decide_eq_true_eq, decide_eq_false_iff_not, reduceCtorEq, Bool.true_eq_false, Bool.false_eq_true, mk_size, List.size_toArray, ByteArray.size_append, ByteArray.size_extract, List.length_cons, List.length_nil, ba_get, ba_empty, Int.toNat_natCast] at hW))
    | (refine And.intro (?_ : _ → _) (?_ : _ → _))
    | (refine FinR.drop 0 (Nat.zero_le _) (Closed.zero _) rfl ?_)
    | (refine FinR.keep ?_)
    | (refine And.intro (det3_agg rfl) ?_)
    | (refine fL_mk ?_)
    | (refine And.intro (by (try simp only [mk_size, List.size_toArray, ByteArray.size_append, ByteArray.size_extract, List.length_cons, List.length_nil]); omega) ?_)
    | (refine And.intro (by (try simp only [mk_size, List.size_toArray, ByteArray.size_append, ByteArray.size_extract, List.length_cons, List.length_nil, wrap64_eq]); omega) ?_)
    | fail)
  obtain ⟨z, rfl⟩ : ∃ k : Nat, z = k := ⟨z.toNat, by omega⟩
  have hz5 : z ≤ 5 := by omega
  clear hz1 hz2 hc1 hk1
  refine LoopR.live (fun y : Nat × List (List Int) × Nat × List Blk => [(2, .ptr 0 0 0), (4, .ptr 1 0 0), (5, .ptr (R ++ [jbK [] 0]).length 0 0), (6, .sl R.length y.2.1.length 0 y.2.1.length y.2.2.1), (7, I y.1)]) (fun y => y.2.2.2) (fun y => y.1 ≤ z ∧ (∀ x ∈ y.2.1, x.length = 3) ∧ y.2.1.length ≤ z - y.1 ∧ CurAt 1 (.slice o m cap) (0 + 400 + 2 + 20 * (z - y.1)) y.2.2.2 ∧ y.2.2.2[0]? = some bZ ∧ y.2.2.2[R.length]? = some (jbK y.2.1 y.2.1.length) ∧ y.2.2.2[(R ++ [jbK [] 0]).length]? = some (spC c0 c1 c2 c3 c4 c5 c6 c7 c8 c9 c10 c11 c12 c13)) (fun y => y.1) (z, [], _, T) ⟨rfl, rfl, rfl, rfl, rfl, trivial⟩ (.keep rfl) ⟨Nat.le_refl _, (fun x hx => by cases hx), Nat.zero_le _, hc.mono (by omega), q0, qj, q5⟩ ?_
  clear hc q0 qj q5
  rintro ⟨y, ys, cp, T⟩ ⟨hy, hy3, hyl, hc, q0, qj, q5⟩
  replace hy : y ≤ z := hy
  replace hy3 : ∀ x ∈ ys, x.length = 3 := hy3
  replace hyl : ys.length ≤ z - y := hyl
  replace hc : CurAt 1 (.slice o m cap) (0 + 400 + 2 + 20 * (z - y)) T := hc
  replace q0 : T[0]? = some bZ := q0
  replace qj : T[R.length]? = some (jbK ys ys.length) := qj
  replace q5 : T[(R ++ [jbK [] 0]).length]? = some (spC c0 c1 c2 c3 c4 c5 c6 c7 c8 c9 c10 c11 c12 c13) := q5
  have hml : ys.length * 3 = (jc ys).length := (jc_len (s := 3) hy3).symm
  by_cases hy0 : 0 < y
  · skip
    repeat' ((conv => whnf); first
      | (refine And.intro rfl ?_)
      | (refine And.intro (by decide +kernel) ?_)
      | (refine And.intro trivial ?_)
      | (refine fS_mk ?_)
      | (refine d_job12 (hcd := hcd) (hc := hc) (hn := by omega) (h0 := fun k a b S hc1 hk1 => ?_) ..; have q0 := hk1.2 _ _ (by decide) q0; have qj := hk1.2 _ _ nj1 qj; have q5 := hk1.2 _ _ n51 q5; have hc := hc1)
      | (refine Exists.intro _ (And.intro qj (And.intro rfl (And.intro rfl (And.intro rfl (And.intro rfl (And.intro rfl (And.intro (by decide) (And.intro hml (And.intro rfl (And.intro (show ys.length + 1 ≤ maxLen by unfold maxLen; omega) (And.intro (show (ys.length + 1) * 24 ≤ 140737488355328 by omega) (fun cap' hcap1 hcap2 => ?_)))))))))))))
      | (refine Exists.intro _ (And.intro rfl (And.intro rfl (And.intro (Nat.le_of_ble_eq_true rfl) ?_))))
      | (refine Exists.intro _ (And.intro rfl (And.intro rfl (And.intro rfl (And.intro (Nat.le_of_ble_eq_true rfl) ?_)))))
      | (refine And.intro (Exists.intro _ (And.intro rfl rfl)) ?_)
      | (exact fun hW => absurd hW (by decide +kernel))
      | (intro hW; (try simp only [Bool.not_true, Bool.not_false, Bool.not_eq_true', Bool.not_eq_false', decide_eq_true_eq, decide_eq_false_iff_not, reduceCtorEq, Bool.true_eq_false, Bool.false_eq_true, mk_size, List.size_toArray, ByteArray.size_append, ByteArray.size_extract, List.length_cons, List.length_nil, ba_get, ba_empty, Int.toNat_natCast] at hW))
      | (refine And.intro (?_ : _ → _) (?_ : _ → _))
      | (refine FinR.drop 0 (Nat.zero_le _) (Closed.zero _) rfl ?_)
      | (refine FinR.keep ?_)
      | (refine And.intro (det3_agg rfl) ?_)
      | (refine fL_mk ?_)
      | (refine And.intro (by (try simp only [mk_size, List.size_toArray, ByteArray.size_append, ByteArray.size_extract, List.length_cons, List.length_nil]); omega) ?_)
      | (refine And.intro (by (try simp only [mk_size, List.size_toArray, ByteArray.size_append, ByteArray.size_extract, List.length_cons, List.length_nil, wrap64_eq]); omega) ?_)
      | fail)
    all_goals first | (exfalso; omega) | skip
    all_goals exact Again.go (y - 1, ys ++ [[k, a, b]], cap', _) ⟨rfl, rfl, rfl, (by show AV.sl _ _ _ _ _ = AV.sl _ _ _ _ _; rw [List.length_append]; rfl), slI' (wpred y (by omega) hy0), trivial⟩ (.keep rfl) ⟨by show _ ≤ z; omega, (fun x hx => by
      rcases List.mem_append.1 hx with h | h
      · exact hy3 x h
      · rw [List.mem_singleton.1 h]; rfl), (by show (ys ++ [[k, a, b]]).length ≤ z - (y - 1); rw [List.length_append]; show ys.length + 1 ≤ _; omega), (hc.set nj1).mono (by show _ ≤ 0 + 400 + 2 + 20 * (z - (y - 1)); omega), getn q0 nj0, jb_round qj rfl rfl, getn q5 nj5⟩ (by show _ < y; omega)
  · obtain rfl : y = 0 := by omega
    repeat' ((conv => whnf); first
      | (refine And.intro rfl ?_)
      | (refine And.intro (by decide +kernel) ?_)
      | (refine And.intro trivial ?_)
      | (refine fS_mk ?_)
      | (refine Exists.intro _ (And.intro q5 (And.intro rfl (And.intro (Nat.le_of_ble_eq_true rfl) ?_))))
      | (refine Exists.intro _ (And.intro q0 (And.intro rfl (And.intro rfl (And.intro (Nat.le_of_ble_eq_true rfl) ?_)))))
      | (refine Exists.intro _ (And.intro (get_set q0) (And.intro rfl (And.intro (Nat.le_of_ble_eq_true rfl) ?_))))
      | (refine Exists.intro _ (And.intro rfl (And.intro rfl (And.intro (Nat.le_of_ble_eq_true rfl) ?_))))
      | (refine Exists.intro _ (And.intro rfl (And.intro rfl (And.intro rfl (And.intro (Nat.le_of_ble_eq_true rfl) ?_)))))
      | (refine And.intro (Exists.intro _ (And.intro rfl rfl)) ?_)
      | (exact fun hW => absurd hW (by decide +kernel))
      | (intro hW; (try simp only [Bool.not_true, Bool.not_false, Bool.not_eq_true', Bool.not_eq_false', decide_eq_true_eq, decide_eq_false_iff_not, reduceCtorEq, Bool.true_eq_false, Bool.false_eq_true, mk_size, List.size_toArray, ByteArray.size_append, ByteArray.size_extract, List.length_cons, List.length_nil, ba_get, ba_empty, Int.toNat_natCast] at hW))
      | (refine And.intro (?_ : _ → _) (?_ : _ → _))
      | (refine FinR.drop 0 (Nat.zero_le _) (Closed.zero _) rfl ?_)
      | (refine FinR.keep ?_)
      | (refine And.intro (det3_agg rfl) ?_)
      | (refine fL_mk ?_)
      | (refine And.intro (by (try simp only [mk_size, List.size_toArray, ByteArray.size_append, ByteArray.size_extract, List.length_cons, List.length_nil]); omega) ?_)
      | (refine And.intro (by (try simp only [mk_size, List.size_toArray, ByteArray.size_append, ByteArray.size_extract, List.length_cons, List.length_nil, wrap64_eq]); omega) ?_)
      | fail)
    all_goals first | (exfalso; omega) | skip
    all_goals exact h0 _ _ _ _ _ _ _ _ _ _ _ _ _ _ _ ys _ _ (getn qj (Ne.symm nj0)) hy3 (by omega)
end Go.Proofs.Ytkcbhdjhbnnlgaa
end

section
/- Contracts: drawn shops and jobs beside any blocks. -/
set_option linter.unusedVariables false
set_option linter.unusedSimpArgs false
set_option maxRecDepth 100000
set_option maxHeartbeats 4000000
namespace Go.Proofs.Ytkcbhdjhbnnlgaa
open Go Go.RowKit Go.Proofs.Ytkcbhdjhbnnlgaa.Abs
variable {W0 : World} {σ : List Blk}
theorem rels_lit {ι ι' : Abs.Loc} {S S' : List Blk} {cs : List AV} {vs : List Value} (hl : ∀ c ∈ cs, ∃ u, c = .lit u) (h : Rels (crel ι S) cs vs) : Rels (crel ι' S') cs vs := h.mono' fun a ha b hab => by
  obtain ⟨u, rfl⟩ := hl a ha
  exact hab
/-- of all new blocks one is kept -/
theorem only1 {P : Program} {g : FuncId} {args : List AV} {K0 K : Cont} (h : ACall P W0 g args [] K0) (hk : ∀ v S, K0 v S → ∃ (b : Nat) (B : Blk) (v' : AV), S[b]? = some B ∧ (∀ c ∈ B.cells, ∃ u, c = .lit u) ∧ (∀ (ι : Abs.Loc) q x, ι[b]? = some q → rel3 ι S v x → rel3 [q] [B] v' x) ∧ K v' [B]) : ACall P W0 g args [] K := by
  refine ⟨h.ok, fun ι w vs hh hr => (h.run ι w vs hh hr).mono fun e w' ⟨v, ι', S, av, he, hk0, h3, h4, h5⟩ => ?_⟩
  obtain ⟨b, B, v', hB, hl, hrel, hK⟩ := hk _ _ hk0
  have hblt : b < ι'.length := by rw [h3.len]; exact getElem?_lt hB
  have hq : ι'[b]? = some ι'[b] := List.getElem?_eq_getElem hblt
  generalize ι'[b] = q at hq
  have h0 : ∀ {i : Nat} {x y : Nat × Nat}, [x][i]? = some y → i = 0 ∧ y = x := by
    intro i x y h
    cases i with
    | zero => simp at h; exact ⟨rfl, h.symm⟩
    | succ i => simp at h
  have h0B : ∀ {i : Nat} {x y : Blk}, [x][i]? = some y → i = 0 ∧ y = x := by
    intro i x y h
    cases i with
    | zero => simp at h; exact ⟨rfl, h.symm⟩
    | succ i => simp at h
  refine ⟨v, [q], [B], v', he, hK, ⟨h3.below, rfl, fun i j c t t' hi hj => by rw [(h0 hi).1, (h0 hj).1], fun i c t hi => ?_, fun i B' c t hi hj => ?_⟩, ⟨Nat.zero_le _, fun i C C' hi => by simp at hi, fun i C C' hi => by simp at hi⟩, hrel ι' q v hq h5⟩
  · have hqe := (h0 hi).2
    subst hqe
    exact h3.dom b c t hq
  · obtain ⟨hi0, rfl⟩ := h0B hi
    have hqe := (h0 hj).2
    subst hqe
    obtain ⟨vs', rest, k1, k2, k3, k4⟩ := h3.blk b _ c t hB hq
    exact ⟨vs', rest, k1, k2, rels_lit hl k3, k4⟩
theorem slRel.one {ι : Abs.Loc} {S : List Blk} {b ver off len cap : Nat} {x : Value} {B : Blk} {q : Nat × Nat} (hB : S[b]? = some B) (hq : ι[b]? = some q) (h : slRel ι S b ver off len cap x) : slRel [q] [B] 0 ver off len cap x := by
  obtain ⟨B', h1, h2, h3, h4⟩ := h
  rw [hB] at h1; cases h1
  refine ⟨B, rfl, h2, h3, fun e => ?_⟩
  obtain ⟨c, t, k1, k2⟩ := h4 e
  rw [hq] at k1; cases k1
  exact ⟨c, t, rfl, k2⟩
theorem rel2_lits {ι ι' : Abs.Loc} {S S' : List Blk} {cs : List AV} {x : Value} (hl : ∀ c ∈ cs, ∃ u, c = .lit u) (h : rel2 ι S (.agg cs) x) : rel2 ι' S' (.agg cs) x := by
  obtain ⟨l, h1, h2⟩ := h
  exact ⟨l, h1, rels_lit hl h2⟩
theorem jc_lits (l : List (List Int)) : ∀ c ∈ jc l, ∃ u, c = AV.lit u := by
  intro c hc
  unfold jc at hc
  obtain ⟨y, hy, hcy⟩ := List.mem_flatten.1 hc
  obtain ⟨x, _, rfl⟩ := List.mem_map.1 hy
  obtain ⟨z, _, rfl⟩ := List.mem_map.1 hcy
  exact ⟨_, rfl⟩
theorem sp_lits (c0 c1 c2 c3 c4 c5 c6 c7 c8 c9 c10 c11 c12 c13 : Int) : ∀ c ∈ [I c0, I c1, I c2, I c3, I c4, I c5, I c6, I c7, I c8, I c9, I c10, I c11, I c12, I c13], ∃ u, c = AV.lit u := by
  intro c hc
  have h : ∃ z : Int, c = I z := by
    have h2 : c ∈ [c0, c1, c2, c3, c4, c5, c6, c7, c8, c9, c10, c11, c12, c13].map I := hc
    obtain ⟨z, _, rfl⟩ := List.mem_map.1 h2
    exact ⟨z, rfl⟩
  obtain ⟨z, rfl⟩ := h
  exact ⟨_, rfl⟩
theorem c_DrawDoJobs1 (v : Value) (xs : List Int) (hcd : Code W0 v xs) (K : Cont) (h0 : ∀ c0 c1 c2 c3 c4 c5 c6 c7 c8 c9 c10 c11 c12 c13 ys cap, (∀ x ∈ ys, x.length = 3) → ys.length ≤ 10 → K (.tup [Sp c0 c1 c2 c3 c4 c5 c6 c7 c8 c9 c10 c11 c12 c13, .sl 0 ys.length 0 ys.length cap]) [jbK ys ys.length]) : ACall Try.prog W0 34 [.lit v] [] K := by
  refine only1 (c_DrawDoJobs v xs hcd (fun v S => ∃ c0 c1 c2 c3 c4 c5 c6 c7 c8 c9 c10 c11 c12 c13 b ys cap, S[b]? = some (jbK ys ys.length) ∧ (∀ x ∈ ys, x.length = 3) ∧ ys.length ≤ 10 ∧ v = .tup [Sp c0 c1 c2 c3 c4 c5 c6 c7 c8 c9 c10 c11 c12 c13, .sl b ys.length 0 ys.length cap]) fun c0 c1 c2 c3 c4 c5 c6 c7 c8 c9 c10 c11 c12 c13 b ys cap S h1 h2 h3 => ⟨c0, c1, c2, c3, c4, c5, c6, c7, c8, c9, c10, c11, c12, c13, b, ys, cap, h1, h2, h3, rfl⟩) ?_
  rintro v S ⟨c0, c1, c2, c3, c4, c5, c6, c7, c8, c9, c10, c11, c12, c13, b, ys, cap, h1, h2, h3, rfl⟩
  refine ⟨b, _, _, h1, jc_lits ys, fun ι q x hq hr => ?_, h0 c0 c1 c2 c3 c4 c5 c6 c7 c8 c9 c10 c11 c12 c13 ys cap h2 h3⟩
  obtain ⟨l, rfl, hl⟩ := hr
  obtain ⟨x1, l', rfl, r1, hl⟩ := Rels.uncons hl
  obtain ⟨x2, l'', rfl, r2, hl⟩ := Rels.uncons hl
  obtain rfl := hl.nil_inv
  exact ⟨_, rfl, Rels.cons (rel2_lits (sp_lits _ _ _ _ _ _ _ _ _ _ _ _ _ _) r1) (Rels.cons (slRel.one h1 hq r2) Rels.nil)⟩
structure DJ1 where
  (c0 c1 c2 c3 c4 c5 c6 c7 c8 c9 c10 c11 c12 c13 k a b : Int)
structure DJ2 where
  (c0 c1 c2 c3 c4 c5 c6 c7 c8 c9 c10 c11 c12 c13 : Int)
  ys : List (List Int)
  cap : Nat
  h3 : ∀ x ∈ ys, x.length = 3
  hl : ys.length ≤ 10
theorem d_DrawDoJob (a : AV) (xs : List Int) (hs : Sli W0 σ 1 enB a xs) (hr : ∀ x ∈ xs, 0 ≤ x ∧ x < 256) (hl : xs.length ≤ 1048576) (K : Cont) (h0 : ∀ c0 c1 c2 c3 c4 c5 c6 c7 c8 c9 c10 c11 c12 c13 k a b, K (.tup [Sp c0 c1 c2 c3 c4 c5 c6 c7 c8 c9 c10 c11 c12 c13, Jb k a b]) σ) : ACall Try.prog W0 30 [a] σ K :=
  lift_Code (ι := DJ1) (fun i => .tup [Sp i.c0 i.c1 i.c2 i.c3 i.c4 i.c5 i.c6 i.c7 i.c8 i.c9 i.c10 i.c11 i.c12 i.c13, Jb i.k i.a i.b]) (fun _ => []) (by kernel_rfl) hs hr hl
    (fun W1 v hcd K hK => c_DrawDoJob v xs hcd K fun c0 c1 c2 c3 c4 c5 c6 c7 c8 c9 c10 c11 c12 c13 k a b => hK ⟨c0, c1, c2, c3, c4, c5, c6, c7, c8, c9, c10, c11, c12, c13, k, a, b⟩) K (fun i => by
      rw [shB_nil]; exact h0 _ _ _ _ _ _ _ _ _ _ _ _ _ _ _ _ _)
theorem d_DrawDoJobs (a : AV) (xs : List Int) (hs : Sli W0 σ 1 enB a xs) (hr : ∀ x ∈ xs, 0 ≤ x ∧ x < 256) (hl : xs.length ≤ 1048576) (K : Cont) (h0 : ∀ c0 c1 c2 c3 c4 c5 c6 c7 c8 c9 c10 c11 c12 c13 ys cap, (∀ x ∈ ys, x.length = 3) → ys.length ≤ 10 → K (.tup [Sp c0 c1 c2 c3 c4 c5 c6 c7 c8 c9 c10 c11 c12 c13, .sl (σ.length + 0) ys.length 0 ys.length cap]) (σ ++ [jbK ys ys.length])) : ACall Try.prog W0 34 [a] σ K :=
  lift_Code (ι := DJ2) (fun i => .tup [Sp i.c0 i.c1 i.c2 i.c3 i.c4 i.c5 i.c6 i.c7 i.c8 i.c9 i.c10 i.c11 i.c12 i.c13, .sl 0 i.ys.length 0 i.ys.length i.cap]) (fun i => [jbK i.ys i.ys.length]) (by kernel_rfl) hs hr hl
    (fun W1 v hcd K hK => c_DrawDoJobs1 v xs hcd K fun c0 c1 c2 c3 c4 c5 c6 c7 c8 c9 c10 c11 c12 c13 ys cap h3 hl => hK ⟨c0, c1, c2, c3, c4, c5, c6, c7, c8, c9, c10, c11, c12, c13, ys, cap, h3, hl⟩) K (fun i => by
      rw [show shB σ.length [jbK i.ys i.ys.length] = [jbK i.ys i.ys.length] by simp [shB, jc_sh]]
      exact h0 _ _ _ _ _ _ _ _ _ _ _ _ _ _ i.ys i.cap i.h3 i.hl)
theorem by_sh (k : Nat) (ys : List Int) : (ys.map fun y => AV.lit (.int .u8 y)).map (sh1 k) = ys.map fun y => AV.lit (.int .u8 y) := by rw [List.map_map]; rfl
theorem d_vCut (v : Value) (xs : List Int) (hcd : Code W0 v xs) (n : Int) (hn : 0 ≤ n ∧ n ≤ 1000) (K : Cont) (h0 : ∀ ys cap, (∀ y ∈ ys, 0 ≤ y ∧ y < 256) → ys.length ≤ xs.length + 1 → K (.sl (σ.length + 0) 2 0 ys.length cap) (σ ++ [byK ys 2])) : ACall Try.prog W0 31 [.lit v, I n] σ K := by
  obtain ⟨k, rfl⟩ : ∃ k : Nat, n = k := ⟨n.toNat, by omega⟩
  refine ACall.frame (K0 := fun w σ' => ∃ ys cap, (∀ y ∈ ys, 0 ≤ y ∧ y < 256) ∧ ys.length ≤ xs.length + 1 ∧ w = .sl 0 2 0 ys.length cap ∧ σ' = [byK ys 2]) rfl (fun W1 hb => c_vCut v xs (hcd.below hb) k (by omega) _ fun ys cap h1 h2 => ⟨ys, cap, h1, h2, rfl, rfl⟩) ?_
  rintro w σ' ⟨ys, cap, h1, h2, rfl, rfl⟩
  rw [show shB σ.length [byK ys 2] = [byK ys 2] from by
    show [({ byK ys 2 with cells := (ys.map fun y => AV.lit (.int .u8 y)).map (sh1 σ.length) } : Blk)] = _
    rw [by_sh]]
  exact h0 ys cap h1 h2
theorem c_vBig (v : Value) (xs : List Int) (hs : Sli W0 [] 1 enB (.lit v) xs) (K : Cont) (h0 : K (Bo (decide (65536 < (xs.length : Int)))) []) : ACall Try.prog W0 26 [.lit v] [] K := by
  refine by26 (Nat.le_of_ble_eq_true rfl) ?_
  obtain ⟨o, m, cap, hv, hm, -, -, -⟩ := sli_form hs
  cases hv; subst hm
  repeat' ((conv => whnf); first
    | (refine And.intro rfl ?_)
    | (refine And.intro (by decide +kernel) ?_)
    | (refine And.intro trivial ?_)
    | (refine Exists.intro _ (And.intro rfl (And.intro rfl (And.intro (Nat.le_of_ble_eq_true rfl) ?_))))
    | (refine Exists.intro _ (And.intro rfl (And.intro rfl (And.intro rfl (And.intro (Nat.le_of_ble_eq_true rfl) ?_)))))
    | (refine And.intro (Exists.intro _ (And.intro rfl rfl)) ?_)
    | (exact fun hW => absurd hW (by decide +kernel))
    | (intro hW; (try simp only [Bool.not_true, Bool.not_false, Bool.not_eq_true', Bool.not_eq_false', decide_eq_true_eq, decide_eq_false_iff_not, reduceCtorEq, Bool.true_eq_false, Bool.false_eq_true, mk_size, List.size_toArray, ByteArray.size_append, ByteArray.size_extract, List.length_cons, List.length_nil, ba_get, ba_empty, Int.toNat_natCast] at hW))
    | (refine And.intro (?_ : _ → _) (?_ : _ → _))
    | (refine FinR.drop 0 (Nat.zero_le _) (Closed.zero _) rfl ?_)
    | (refine FinR.keep ?_)
    | (refine And.intro (det3_agg rfl) ?_)
    | (refine fL_mk ?_)
    | (refine And.intro (by (try simp only [mk_size, List.size_toArray, ByteArray.size_append, ByteArray.size_extract, List.length_cons, List.length_nil]); omega) ?_)
    | (refine And.intro (by (try simp only [mk_size, List.size_toArray, ByteArray.size_append, ByteArray.size_extract, List.length_cons, List.length_nil, wrap64_eq]); omega) ?_)
    | fail)
  all_goals exact h0
end Go.Proofs.Ytkcbhdjhbnnlgaa
end

section
/- Contracts: CommonCells of the program, and its law. -/
set_option linter.unusedVariables false
set_option linter.unusedSimpArgs false
namespace Go.Proofs.Ytkcbhdjhbnnlgaa
open Go Go.RowKit Go.Proofs.Ytkcbhdjhbnnlgaa.Abs
variable {W0 : World} {σ : List Blk}
theorem c_setOfT (a b c d e f : Nat) (h : R64 a b c d e f) (K : Cont) (h0 : K (.tup [U (setN a b c d e f : Nat), Bo true]) []) : ACall Try.prog W0 74 [Sh a b c d e f] [] K := by
  refine c_setOf _ _ _ _ _ _ K ?_
  have e1 := shB6_nat a b c d e f h
  obtain ⟨ha, hb, hc, hd, he, hf⟩ := h
  rw [setR, e1, if_pos rfl, setI_nat a b c d e f ha hb hc hd he hf]
  exact h0
theorem d_setOfT (a b c d e f : Nat) (h : R64 a b c d e f) (K : Cont) (h0 : K (.tup [U (setN a b c d e f : Nat), Bo true]) σ) : ACall Try.prog W0 74 [Sh a b c d e f] σ K :=
  ACall.lift rfl (fun _ => rfl) (fun W1 K _ hK => c_setOfT a b c d e f h K hK) h0
theorem c_twoSetsT (a b c d e f a' b' c' d' e' f' : Nat) (h : R64 a b c d e f) (h' : R64 a' b' c' d' e' f') (K : Cont) (h0 : K (.tup [U (setN a b c d e f : Nat), U (setN a' b' c' d' e' f' : Nat), Bo true]) []) : ACall Try.prog W0 87 [Sh a b c d e f, Sh a' b' c' d' e' f'] [] K := by
  refine by87 (Nat.le_of_ble_eq_true rfl) ?_
  repeat' ((conv => whnf); first
    | (refine And.intro rfl ?_)
    | (refine And.intro (by decide +kernel) ?_)
    | (refine And.intro trivial ?_)
    | (refine d_setOfT (h := h) (h0 := ?_) ..)
    | (refine Exists.intro _ (And.intro (fun τ => callW_fn (d_setOfT (h := h) (h0 := And.intro rfl rfl) ..)) ?_))
    | (refine Exists.intro _ (And.intro (callW_fn (d_setOfT (h := h) (h0 := And.intro rfl rfl) ..)) (And.intro trivial ?_)))
    | (refine Exists.intro _ (And.intro (callW_fn (d_setOfT (h := h) (h0 := And.intro rfl rfl) ..)) ?_))
    | (refine Exists.intro _ (And.intro (fun τ _ => callW_fn (d_setOfT (h := h) (h0 := And.intro rfl rfl) ..)) ?_))
    | (refine d_setOfT (h := h') (h0 := ?_) ..)
    | (refine Exists.intro _ (And.intro (fun τ => callW_fn (d_setOfT (h := h') (h0 := And.intro rfl rfl) ..)) ?_))
    | (refine Exists.intro _ (And.intro (callW_fn (d_setOfT (h := h') (h0 := And.intro rfl rfl) ..)) (And.intro trivial ?_)))
    | (refine Exists.intro _ (And.intro (callW_fn (d_setOfT (h := h') (h0 := And.intro rfl rfl) ..)) ?_))
    | (refine Exists.intro _ (And.intro (fun τ _ => callW_fn (d_setOfT (h := h') (h0 := And.intro rfl rfl) ..)) ?_))
    | (refine Exists.intro _ (And.intro rfl (And.intro rfl (And.intro (Nat.le_of_ble_eq_true rfl) ?_))))
    | (refine Exists.intro _ (And.intro rfl (And.intro rfl (And.intro rfl (And.intro (Nat.le_of_ble_eq_true rfl) ?_)))))
    | (refine And.intro (Exists.intro _ (And.intro rfl rfl)) ?_)
    | (exact fun hW => absurd hW (by decide +kernel))
    | (intro hW; (try simp only [Bool.not_true, Bool.not_false, Bool.not_eq_true', Bool.not_eq_false', decide_eq_true_eq, decide_eq_false_iff_not, reduceCtorEq, Bool.true_eq_false, Bool.false_eq_true, mk_size, List.size_toArray, ByteArray.size_append, ByteArray.size_extract, List.length_cons, List.length_nil, ba_get, ba_empty, Int.toNat_natCast] at hW))
    | (refine And.intro (?_ : _ → _) (?_ : _ → _))
    | (refine FinR.drop 0 (Nat.zero_le _) (Closed.zero _) rfl ?_)
    | (refine FinR.keep ?_)
    | (refine And.intro (det3_agg rfl) ?_)
    | (refine fL_mk ?_)
    | (refine And.intro (by (try simp only [mk_size, List.size_toArray, ByteArray.size_append, ByteArray.size_extract, List.length_cons, List.length_nil]); omega) ?_)
    | (refine And.intro (by (try simp only [mk_size, List.size_toArray, ByteArray.size_append, ByteArray.size_extract, List.length_cons, List.length_nil, wrap64_eq]); omega) ?_)
    | fail)
  all_goals exact h0
theorem d_twoSetsT (a b c d e f a' b' c' d' e' f' : Nat) (h : R64 a b c d e f) (h' : R64 a' b' c' d' e' f') (K : Cont) (h0 : K (.tup [U (setN a b c d e f : Nat), U (setN a' b' c' d' e' f' : Nat), Bo true]) σ) : ACall Try.prog W0 87 [Sh a b c d e f, Sh a' b' c' d' e' f'] σ K :=
  ACall.lift rfl (fun _ => rfl) (fun W1 K _ hK => c_twoSetsT a b c d e f a' b' c' d' e' f' h h' K hK) h0
theorem c_sizeN (x : Nat) (hx : x < 18446744073709551616) (K : Cont) (h0 : K (I (ones 64 x : Nat)) []) : ACall Try.prog W0 86 [U x] [] K := by
  refine c_size _ K ?_
  rw [pcI_ones x hx]
  exact h0
theorem d_sizeN (x : Nat) (hx : x < 18446744073709551616) (K : Cont) (h0 : K (I (ones 64 x : Nat)) σ) : ACall Try.prog W0 86 [U x] σ K :=
  ACall.lift rfl (fun _ => rfl) (fun W1 K _ hK => c_sizeN x hx K hK) h0
theorem c_CommonT (a b c d e f a' b' c' d' e' f' : Nat) (p q : Int) (h : R64 a b c d e f) (h' : R64 a' b' c' d' e' f') (hb : shopB a b c d e f a' b' c' d' e' f' p q = true) (K : Cont) (h0 : K (.tup [I (ones 64 (setN (a &&& a') (b &&& b') (c &&& c') (d &&& d') (e &&& e') (f &&& f')) : Nat), Bo true]) []) : ACall Try.prog W0 37 [Sp a b c d e f a' b' c' d' e' f' p q] [] K := by
  refine by37 (Nat.le_of_ble_eq_true rfl) ?_
  have l1 := setN_lt a b c d e f h.1 h.2.1 h.2.2.1 h.2.2.2.1 h.2.2.2.2.1 h.2.2.2.2.2
  have l2 := setN_lt a' b' c' d' e' f' h'.1 h'.2.1 h'.2.2.1 h'.2.2.2.1 h'.2.2.2.2.1 h'.2.2.2.2.2
  have e1 : bAnd .u64 (setN a b c d e f : Nat) (setN a' b' c' d' e' f' : Nat) = ((setN (a &&& a') (b &&& b') (c &&& c') (d &&& d') (e &&& e') (f &&& f') : Nat) : Int) := by
    rw [bAnd_u64 _ _ (by omega) (by omega), and_setN _ _ _ _ _ _ _ _ _ _ _ _ h.1 h.2.1 h.2.2.1 h.2.2.2.1 h.2.2.2.2.1 h'.1 h'.2.1 h'.2.2.1 h'.2.2.2.1 h'.2.2.2.2.1]
  have l3 := R64_and (a' := a') (b' := b') (c' := c') (d' := d') (e' := e') (f' := f') h
  have l4 := setN_lt _ _ _ _ _ _ l3.1 l3.2.1 l3.2.2.1 l3.2.2.2.1 l3.2.2.2.2.1 l3.2.2.2.2.2
  repeat' ((conv => whnf); first
    | (refine And.intro rfl ?_)
    | (refine And.intro (by decide +kernel) ?_)
    | (refine And.intro trivial ?_)
    | (refine d_IsShop (h0 := ?_) ..)
    | (refine Exists.intro _ (And.intro (fun τ => callW_fn (d_IsShop (h0 := And.intro rfl rfl) ..)) ?_))
    | (refine Exists.intro _ (And.intro (callW_fn (d_IsShop (h0 := And.intro rfl rfl) ..)) (And.intro trivial ?_)))
    | (refine Exists.intro _ (And.intro (callW_fn (d_IsShop (h0 := And.intro rfl rfl) ..)) ?_))
    | (refine Exists.intro _ (And.intro (fun τ _ => callW_fn (d_IsShop (h0 := And.intro rfl rfl) ..)) ?_))
    | (refine d_twoSetsT (h := h) (h' := h') (h0 := ?_) ..)
    | (refine Exists.intro _ (And.intro (fun τ => callW_fn (d_twoSetsT (h := h) (h' := h') (h0 := And.intro rfl rfl) ..)) ?_))
    | (refine Exists.intro _ (And.intro (callW_fn (d_twoSetsT (h := h) (h' := h') (h0 := And.intro rfl rfl) ..)) (And.intro trivial ?_)))
    | (refine Exists.intro _ (And.intro (callW_fn (d_twoSetsT (h := h) (h' := h') (h0 := And.intro rfl rfl) ..)) ?_))
    | (refine Exists.intro _ (And.intro (fun τ _ => callW_fn (d_twoSetsT (h := h) (h' := h') (h0 := And.intro rfl rfl) ..)) ?_))
    | (rw [e1]; refine d_sizeN (h0 := ?_) (hx := by omega) ..)
    | (refine Exists.intro _ (And.intro rfl (And.intro rfl (And.intro (Nat.le_of_ble_eq_true rfl) ?_))))
    | (refine Exists.intro _ (And.intro rfl (And.intro rfl (And.intro rfl (And.intro (Nat.le_of_ble_eq_true rfl) ?_)))))
    | (refine And.intro (Exists.intro _ (And.intro rfl rfl)) ?_)
    | (exact fun hW => absurd hW (by decide +kernel))
    | (intro hW; (try simp only [Bool.not_true, Bool.not_false, Bool.not_eq_true', Bool.not_eq_false', decide_eq_true_eq, decide_eq_false_iff_not, reduceCtorEq, Bool.true_eq_false, Bool.false_eq_true, mk_size, List.size_toArray, ByteArray.size_append, ByteArray.size_extract, List.length_cons, List.length_nil, ba_get, ba_empty, Int.toNat_natCast] at hW))
    | (refine And.intro (?_ : _ → _) (?_ : _ → _))
    | (refine FinR.drop 0 (Nat.zero_le _) (Closed.zero _) rfl ?_)
    | (refine FinR.keep ?_)
    | (refine And.intro (det3_agg rfl) ?_)
    | (refine fL_mk ?_)
    | (refine And.intro (by (try simp only [mk_size, List.size_toArray, ByteArray.size_append, ByteArray.size_extract, List.length_cons, List.length_nil]); omega) ?_)
    | (refine And.intro (by (try simp only [mk_size, List.size_toArray, ByteArray.size_append, ByteArray.size_extract, List.length_cons, List.length_nil, wrap64_eq]); omega) ?_)
    | fail)
  all_goals first | (with_reducible exact h0) | (exfalso; simp_all; done) | exact h0
theorem d_CommonT (a b c d e f a' b' c' d' e' f' : Nat) (p q : Int) (h : R64 a b c d e f) (h' : R64 a' b' c' d' e' f') (hb : shopB a b c d e f a' b' c' d' e' f' p q = true) (K : Cont) (h0 : K (.tup [I (ones 64 (setN (a &&& a') (b &&& b') (c &&& c') (d &&& d') (e &&& e') (f &&& f')) : Nat), Bo true]) σ) : ACall Try.prog W0 37 [Sp a b c d e f a' b' c' d' e' f' p q] σ K :=
  ACall.lift rfl (fun _ => rfl) (fun W1 K _ hK => c_CommonT a b c d e f a' b' c' d' e' f' p q h h' hb K hK) h0
theorem c_CommonF (a b c d e f a' b' c' d' e' f' p q : Int) (hb : shopB a b c d e f a' b' c' d' e' f' p q = false) (K : Cont) (h0 : K (.tup [I 0, Bo false]) []) : ACall Try.prog W0 37 [Sp a b c d e f a' b' c' d' e' f' p q] [] K := by
  refine by37 (Nat.le_of_ble_eq_true rfl) ?_
  repeat' ((conv => whnf); first
    | (refine And.intro rfl ?_)
    | (refine And.intro (by decide +kernel) ?_)
    | (refine And.intro trivial ?_)
    | (refine d_IsShop (h0 := ?_) ..)
    | (refine Exists.intro _ (And.intro (fun τ => callW_fn (d_IsShop (h0 := And.intro rfl rfl) ..)) ?_))
    | (refine Exists.intro _ (And.intro (callW_fn (d_IsShop (h0 := And.intro rfl rfl) ..)) (And.intro trivial ?_)))
    | (refine Exists.intro _ (And.intro (callW_fn (d_IsShop (h0 := And.intro rfl rfl) ..)) ?_))
    | (refine Exists.intro _ (And.intro (fun τ _ => callW_fn (d_IsShop (h0 := And.intro rfl rfl) ..)) ?_))
    | (exfalso; simp_all; done)
    | (refine Exists.intro _ (And.intro rfl (And.intro rfl (And.intro (Nat.le_of_ble_eq_true rfl) ?_))))
    | (refine Exists.intro _ (And.intro rfl (And.intro rfl (And.intro rfl (And.intro (Nat.le_of_ble_eq_true rfl) ?_)))))
    | (refine And.intro (Exists.intro _ (And.intro rfl rfl)) ?_)
    | (exact fun hW => absurd hW (by decide +kernel))
    | (intro hW; (try simp only [Bool.not_true, Bool.not_false, Bool.not_eq_true', Bool.not_eq_false', decide_eq_true_eq, decide_eq_false_iff_not, reduceCtorEq, Bool.true_eq_false, Bool.false_eq_true, mk_size, List.size_toArray, ByteArray.size_append, ByteArray.size_extract, List.length_cons, List.length_nil, ba_get, ba_empty, Int.toNat_natCast] at hW))
    | (refine And.intro (?_ : _ → _) (?_ : _ → _))
    | (refine FinR.drop 0 (Nat.zero_le _) (Closed.zero _) rfl ?_)
    | (refine FinR.keep ?_)
    | (refine And.intro (det3_agg rfl) ?_)
    | (refine fL_mk ?_)
    | (refine And.intro (by (try simp only [mk_size, List.size_toArray, ByteArray.size_append, ByteArray.size_extract, List.length_cons, List.length_nil]); omega) ?_)
    | (refine And.intro (by (try simp only [mk_size, List.size_toArray, ByteArray.size_append, ByteArray.size_extract, List.length_cons, List.length_nil, wrap64_eq]); omega) ?_)
    | fail)
  all_goals first | (with_reducible exact h0) | (exfalso; simp_all; done) | exact h0
theorem d_CommonF (a b c d e f a' b' c' d' e' f' p q : Int) (hb : shopB a b c d e f a' b' c' d' e' f' p q = false) (K : Cont) (h0 : K (.tup [I 0, Bo false]) σ) : ACall Try.prog W0 37 [Sp a b c d e f a' b' c' d' e' f' p q] σ K :=
  ACall.lift rfl (fun _ => rfl) (fun W1 K _ hK => c_CommonF a b c d e f a' b' c' d' e' f' p q hb K hK) h0
end Go.Proofs.Ytkcbhdjhbnnlgaa
end

section
/- Arithmetic: presses of sets twice, back again; sizes of shifted sets. -/
set_option linter.unusedVariables false
set_option linter.unusedSimpArgs false
set_option maxRecDepth 100000
namespace Go.Proofs.Ytkcbhdjhbnnlgaa
open Go Go.RowKit Go.Proofs.Ytkcbhdjhbnnlgaa.Abs
theorem xor_twice (n p : Nat) : (n ^^^ p) ^^^ p = n := by rw [Nat.xor_assoc, Nat.xor_self, Nat.xor_zero]
end Go.Proofs.Ytkcbhdjhbnnlgaa
end

section
/- Jobs: what doing them twice makes; contracts of both sides in one. -/
set_option linter.unusedVariables false
set_option linter.unusedSimpArgs false
set_option maxRecDepth 100000
set_option maxHeartbeats 4000000
namespace Go.Proofs.Ytkcbhdjhbnnlgaa
open Go Go.RowKit Go.Proofs.Ytkcbhdjhbnnlgaa.Abs
variable {W0 : World} {σ : List Blk}
theorem or_twice (n p : Nat) : (n ||| p) ||| p = n ||| p := by rw [Nat.or_assoc, Nat.or_self]
theorem and_twice (n p : Nat) : (n &&& p) &&& p = n &&& p := by rw [Nat.and_assoc, Nat.and_self]
/-- the guard of a job does not depend on the sheets -/
theorem jobM_some {n m n' m' : Nat} {k a b e : Int} (h : jobM n m k a b = some (n', m', e)) (u v : Nat) : ∃ u' v', jobM u v k a b = some (u', v', e) := by
  unfold jobM at h ⊢
  (repeat' split at h) <;> first | (exfalso; simp at h; done) | skip
  all_goals (simp only [Option.some.injEq, Prod.mk.injEq] at h; obtain ⟨-, -, rfl⟩ := h; simp_all)
theorem jobM_again {n m n' m' n'' m'' : Nat} {k a b e e' : Int} (h1 : jobM n m k a b = some (n', m', e)) (h2 : jobM n' m' k a b = some (n'', m'', e')) :
    (k = 1 ∧ n'' = n ∧ m'' = m ∧ e = 1 ∧ e' = 1) ∨ (k = 6 ∧ n'' = n ∧ m'' = m ∧ e = 0 ∧ e' = 0) ∨ (k = 7 ∧ n'' = n ∧ m'' = m ∧ e = 0 ∧ e' = 0) ∨ (k = 2 ∧ n'' = n' ∧ e = 1 ∧ e' = 1) ∨ (k = 3 ∧ n'' = n' ∧ e = 1 ∧ e' = 1) ∨ (k = 4 ∧ e = 0 ∧ e' = 0) ∨ (k = 5 ∧ e = 0 ∧ e' = 0) := by
  unfold jobM at h1 h2
  by_cases k1 : k = 1
  · subst k1
    simp only [if_true] at h1 h2
    split at h1
    · rename_i hc
      rw [if_pos hc] at h2
      simp only [Option.some.injEq, Prod.mk.injEq] at h1 h2
      obtain ⟨rfl, rfl, rfl⟩ := h1
      obtain ⟨rfl, rfl, rfl⟩ := h2
      exact .inl ⟨rfl, xor_twice _ _, rfl, rfl, rfl⟩
    · cases h1
  rw [if_neg k1] at h1 h2
  by_cases k2 : k = 2
  · subst k2
    rw [if_pos rfl] at h1 h2
    split at h1
    · rename_i hc
      rw [if_pos hc] at h2
      simp only [Option.some.injEq, Prod.mk.injEq] at h1 h2
      obtain ⟨rfl, rfl, rfl⟩ := h1
      obtain ⟨rfl, rfl, rfl⟩ := h2
      exact .inr (.inr (.inr (.inl ⟨rfl, or_twice _ _, rfl, rfl⟩)))
    · cases h1
  rw [if_neg k2] at h1 h2
  by_cases k3 : k = 3
  · subst k3
    rw [if_pos rfl] at h1 h2
    split at h1
    · rename_i hc
      rw [if_pos hc] at h2
      simp only [Option.some.injEq, Prod.mk.injEq] at h1 h2
      obtain ⟨rfl, rfl, rfl⟩ := h1
      obtain ⟨rfl, rfl, rfl⟩ := h2
      exact .inr (.inr (.inr (.inr (.inl ⟨rfl, and_twice _ _, rfl, rfl⟩))))
    · cases h1
  rw [if_neg k3] at h1 h2
  by_cases k4 : k = 4
  · subst k4
    rw [if_pos rfl] at h1 h2
    split at h1
    · rename_i hc
      rw [if_pos hc] at h2
      simp only [Option.some.injEq, Prod.mk.injEq] at h1 h2
      obtain ⟨-, -, rfl⟩ := h1
      obtain ⟨-, -, rfl⟩ := h2
      exact .inr (.inr (.inr (.inr (.inr (.inl ⟨rfl, rfl, rfl⟩)))))
    · cases h1
  rw [if_neg k4] at h1 h2
  by_cases k5 : k = 5
  · subst k5
    rw [if_pos rfl] at h1 h2
    split at h1
    · rename_i hc
      rw [if_pos hc] at h2
      simp only [Option.some.injEq, Prod.mk.injEq] at h1 h2
      obtain ⟨-, -, rfl⟩ := h1
      obtain ⟨-, -, rfl⟩ := h2
      exact .inr (.inr (.inr (.inr (.inr (.inr ⟨rfl, rfl, rfl⟩)))))
    · cases h1
  rw [if_neg k5] at h1 h2
  by_cases k6 : k = 6
  · subst k6
    rw [if_pos rfl] at h1 h2
    split at h1
    · rename_i hc
      rw [if_pos hc] at h2
      simp only [Option.some.injEq, Prod.mk.injEq] at h1 h2
      obtain ⟨rfl, rfl, rfl⟩ := h1
      obtain ⟨rfl, rfl, rfl⟩ := h2
      exact .inr (.inl ⟨rfl, rfl, xor_twice _ _, rfl, rfl⟩)
    · cases h1
  rw [if_neg k6] at h1 h2
  by_cases k7 : k = 7
  · subst k7
    rw [if_pos rfl] at h1 h2
    split at h1
    · rename_i hc
      rw [if_pos hc] at h2
      simp only [Option.some.injEq, Prod.mk.injEq] at h1 h2
      obtain ⟨rfl, rfl, rfl⟩ := h1
      obtain ⟨rfl, rfl, rfl⟩ := h2
      exact .inr (.inr (.inl ⟨rfl, rfl, rfl, rfl, rfl⟩))
    · cases h1
  rw [if_neg k7] at h1
  cases h1
theorem jobO_inv {n m n' m' : Nat} {p q p' q' k a b : Int} (h : jobO n m p q k a b = some (n', m', p', q')) : ∃ e, jobM n m k a b = some (n', m', e) ∧ p' = p + e ∧ q' = q + 1 ∧ p + e ≤ 1000 ∧ q + 1 ≤ 1000 := by
  unfold jobO at h
  split at h
  · rename_i n1 m1 e he
    split at h
    · rename_i hb
      simp only [Option.some.injEq, Prod.mk.injEq] at h
      obtain ⟨rfl, rfl, rfl, rfl⟩ := h
      exact ⟨e, he, rfl, rfl, hb.1, hb.2⟩
    · cases h
  · cases h
theorem jobO_stop {n m n' m' : Nat} {p q p' q' k a b : Int} (hn : n < 2 ^ 36) (hm : m < 2 ^ 36) (hp : p' ≤ 1000) (hq : q' ≤ 1000) (h : jobO n m p q k a b = some (n', m', p', q')) (h2 : jobO n' m' p' q' k a b = none) : q' = 1000 ∨ p' = 1000 := by
  obtain ⟨e, he, rfl, rfl, _, _⟩ := jobO_inv h
  obtain ⟨u, v, huv⟩ := jobM_some he n' m'
  have he2 := (jobM_lt hn hm he).2.2
  by_cases hb : p + e + e ≤ 1000 ∧ q + 1 + 1 ≤ 1000
  · rw [jobO_some huv hb] at h2; cases h2
  · omega
theorem jobO_again {n m n' m' n'' m'' : Nat} {p q p' q' p'' q'' k a b : Int} (h : jobO n m p q k a b = some (n', m', p', q')) (h2 : jobO n' m' p' q' k a b = some (n'', m'', p'', q'')) :
    (k = 1 ∧ n'' = n ∧ m'' = m) ∨ (k = 6 ∧ n'' = n ∧ m'' = m ∧ p'' = p) ∨ (k = 7 ∧ n'' = n ∧ m'' = m ∧ p'' = p) ∨ (k = 2 ∧ n'' = n' ∧ p' = p + 1) ∨ (k = 3 ∧ n'' = n' ∧ p' = p + 1) ∨ (k = 4 ∧ p'' = p) ∨ (k = 5 ∧ p'' = p) := by
  obtain ⟨e, he, rfl, rfl, _, _⟩ := jobO_inv h
  obtain ⟨e', he', rfl, rfl, _, _⟩ := jobO_inv h2
  rcases jobM_again he he' with h | h | h | h | h | h | h
  · exact .inl ⟨h.1, h.2.1, h.2.2.1⟩
  · exact .inr (.inl ⟨h.1, h.2.1, h.2.2.1, by omega⟩)
  · exact .inr (.inr (.inl ⟨h.1, h.2.1, h.2.2.1, by omega⟩))
  · exact .inr (.inr (.inr (.inl ⟨h.1, h.2.1, by omega⟩)))
  · exact .inr (.inr (.inr (.inr (.inl ⟨h.1, h.2.1, by omega⟩))))
  · exact .inr (.inr (.inr (.inr (.inr (.inl ⟨h.1, by omega⟩)))))
  · exact .inr (.inr (.inr (.inr (.inr (.inr ⟨h.1, by omega⟩)))))
theorem runJ_ok : ∀ (l : List (List Int)) (s : ShopN), s.ok → (runJ l s).1.ok
  | [], s, h => h
  | x :: l, s, h => by
    unfold runJ
    split
    · rename_i n' m' p' q' hj
      have h' := jobO_ok h.1 h.2.1 h.2.2.1.1 h.2.2.2.1 hj
      exact runJ_ok l _ h'
    · exact h
theorem shop_of {a b c d e f a' b' c' d' e' f' p q : Int} (h : shopB a b c d e f a' b' c' d' e' f' p q = true) : shB6 a b c d e f = true ∧ shB6 a' b' c' d' e' f' = true ∧ (0 ≤ p ∧ p ≤ 1000) ∧ (0 ≤ q ∧ q ≤ 1000) := by
  unfold shopB inB at h
  simp only [Bool.and_eq_true, decide_eq_true_eq] at h
  exact ⟨h.1.1.1, h.1.1.2, h.1.2, h.2⟩
theorem shop_true (n m : Nat) {p q : Int} (hp : 0 ≤ p ∧ p ≤ 1000) (hq : 0 ≤ q ∧ q ≤ 1000) : shopB (rowN n 0 : Nat) (rowN n 1 : Nat) (rowN n 2 : Nat) (rowN n 3 : Nat) (rowN n 4 : Nat) (rowN n 5 : Nat) (rowN m 0 : Nat) (rowN m 1 : Nat) (rowN m 2 : Nat) (rowN m 3 : Nat) (rowN m 4 : Nat) (rowN m 5 : Nat) p q = true := by
  rw [shopB_N]; unfold inB
  simp only [Bool.and_eq_true, decide_eq_true_eq]
  exact ⟨hp, hq⟩
/-- several jobs, by both sides -/
theorem jobsU (c0 c1 c2 c3 c4 c5 c6 c7 c8 c9 c10 c11 c12 c13 : Int) (ys : List (List Int)) (hy : ∀ x ∈ ys, x.length = 3) (hl : ys.length ≤ 1048576) : ∃ (e0 e1 e2 e3 e4 e5 e6 e7 e8 e9 e10 e11 e12 e13 many : Int) (th : Bool), (th = true → shopB e0 e1 e2 e3 e4 e5 e6 e7 e8 e9 e10 e11 e12 e13 = true) ∧
    (∀ (W : World) (σ : List Blk) (a : AV) (K : Cont), Sli W σ 3 enI a ys → K (.tup [Sp e0 e1 e2 e3 e4 e5 e6 e7 e8 e9 e10 e11 e12 e13, I many, Bo th]) σ → ACall Try.prog W 36 [Sp c0 c1 c2 c3 c4 c5 c6 c7 c8 c9 c10 c11 c12 c13, a] σ K) ∧
    (∀ (W : World) (σ : List Blk) (a : AV) (K : Cont), Sli W σ 3 enI a ys → K (.tup [Sp e0 e1 e2 e3 e4 e5 e6 e7 e8 e9 e10 e11 e12 e13, I many, Bo th]) σ → ACall Try.prog W 35 [Sp c0 c1 c2 c3 c4 c5 c6 c7 c8 c9 c10 c11 c12 c13, a] σ K) := by
  cases hb : shopB c0 c1 c2 c3 c4 c5 c6 c7 c8 c9 c10 c11 c12 c13 with
  | false => exact ⟨0, 0, 0, 0, 0, 0, 0, 0, 0, 0, 0, 0, 0, 0, 0, false, (fun h => by cases h), fun W σ a K hs h0 => d_sDoJobsF _ _ _ _ _ _ _ _ _ _ _ _ _ _ hb a ys hs K h0, fun W σ a K hs h0 => d_DoJobsF _ _ _ _ _ _ _ _ _ _ _ _ _ _ hb a ys hs K h0⟩
  | true =>
    obtain ⟨n, m, hn, hm, e, hp, hq⟩ := shop_N hb
    have hs : (⟨n, m, c12, c13⟩ : ShopN).ok := ⟨hn, hm, hp, hq⟩
    have hr := runJ_ok ys _ hs
    rw [e]
    exact ⟨_, _, _, _, _, _, _, _, _, _, _, _, _, _, _, true, fun _ => shop_true _ _ hr.2.2.1 hr.2.2.2, fun W σ a K hsl h0 => d_sDoJobs _ hs a ys hsl hy hl K h0, fun W σ a K hsl h0 => d_DoJobs _ hs a ys hsl hy hl K h0⟩
/-- a new shop, by both sides -/
theorem newU (a b c d e f a' b' c' d' e' f' : Int) : ∃ (e0 e1 e2 e3 e4 e5 e6 e7 e8 e9 e10 e11 e12 e13 : Int) (th : Bool),
    (∀ (W : World) (σ : List Blk) (K : Cont), K (.tup [Sp e0 e1 e2 e3 e4 e5 e6 e7 e8 e9 e10 e11 e12 e13, Bo th]) σ → ACall Try.prog W 29 [Sh a b c d e f, Sh a' b' c' d' e' f'] σ K) ∧
    (∀ (W : World) (σ : List Blk) (K : Cont), K (.tup [Sp e0 e1 e2 e3 e4 e5 e6 e7 e8 e9 e10 e11 e12 e13, Bo th]) σ → ACall Try.prog W 28 [Sh a b c d e f, Sh a' b' c' d' e' f'] σ K) := by
  cases hb : shB6 a b c d e f && shB6 a' b' c' d' e' f' with
  | false => exact ⟨_, _, _, _, _, _, _, _, _, _, _, _, _, _, _, fun W σ K h0 => d_sNewShopF _ _ _ _ _ _ _ _ _ _ _ _ hb K h0, fun W σ K h0 => d_NewShopF _ _ _ _ _ _ _ _ _ _ _ _ hb K h0⟩
  | true => exact ⟨_, _, _, _, _, _, _, _, _, _, _, _, _, _, _, fun W σ K h0 => d_sNewShopT _ _ _ _ _ _ _ _ _ _ _ _ hb K h0, fun W σ K h0 => d_NewShopT _ _ _ _ _ _ _ _ _ _ _ _ hb K h0⟩
theorem r64_N (n : Nat) : R64 (rowN n 0) (rowN n 1) (rowN n 2) (rowN n 3) (rowN n 4) (rowN n 5) := ⟨rowN_lt _ _, rowN_lt _ _, rowN_lt _ _, rowN_lt _ _, rowN_lt _ _, rowN_lt _ _⟩
/-- common cells, by both sides -/
theorem commonU (c0 c1 c2 c3 c4 c5 c6 c7 c8 c9 c10 c11 c12 c13 : Int) : ∃ (many : Int),
    (∀ (W : World) (σ : List Blk) (K : Cont), K (.tup [I many, Bo (shopB c0 c1 c2 c3 c4 c5 c6 c7 c8 c9 c10 c11 c12 c13)]) σ → ACall Try.prog W 38 [Sp c0 c1 c2 c3 c4 c5 c6 c7 c8 c9 c10 c11 c12 c13] σ K) ∧
    (∀ (W : World) (σ : List Blk) (K : Cont), K (.tup [I many, Bo (shopB c0 c1 c2 c3 c4 c5 c6 c7 c8 c9 c10 c11 c12 c13)]) σ → ACall Try.prog W 37 [Sp c0 c1 c2 c3 c4 c5 c6 c7 c8 c9 c10 c11 c12 c13] σ K) := by
  cases hb : shopB c0 c1 c2 c3 c4 c5 c6 c7 c8 c9 c10 c11 c12 c13 with
  | false => exact ⟨_, fun W σ K h0 => d_sCommonF _ _ _ _ _ _ _ _ _ _ _ _ _ _ hb K h0, fun W σ K h0 => d_CommonF _ _ _ _ _ _ _ _ _ _ _ _ _ _ hb K h0⟩
  | true =>
    obtain ⟨n, m, hn, hm, e, hp, hq⟩ := shop_N hb
    rw [e]
    exact ⟨_, fun W σ K h0 => d_sCommonT _ _ _ _ _ _ _ _ _ _ _ _ _ _ (r64_N n) (r64_N m) (shop_true n m hp hq) K h0, fun W σ K h0 => d_CommonT _ _ _ _ _ _ _ _ _ _ _ _ _ _ (r64_N n) (r64_N m) (shop_true n m hp hq) K h0⟩
end Go.Proofs.Ytkcbhdjhbnnlgaa
end

section
/- Contracts: the law of shops. -/
set_option linter.unusedVariables false
set_option linter.unusedSimpArgs false
set_option maxRecDepth 100000
set_option maxHeartbeats 8000000
namespace Go.Proofs.Ytkcbhdjhbnnlgaa
open Go Go.RowKit Go.Proofs.Ytkcbhdjhbnnlgaa.Abs
variable {W0 : World} {σ : List Blk}
theorem kBt {K : Cont} {σ : List Blk} {x : Bool} (h : K (Bo true) σ) (e : x = true) : K (Bo x) σ := by rw [e]; exact h
theorem c_law_Shops1 (v : Value) (xs : List Int) (hcd : Code W0 v xs) (hz : ¬ (65536 < (xs.length : Int))) (K : Cont) (h0 : K (Bo true) []) : ACall Try.prog W0 4 [.lit v] [] K := by
  refine by4 (Nat.le_of_ble_eq_true rfl) ?_
  repeat' ((conv => whnf); first
    | (refine And.intro rfl ?_)
    | (refine And.intro (by decide +kernel) ?_)
    | (refine And.intro trivial ?_)
    | (refine c_vBig (hs := hcd.sli) (h0 := ?_) ..; rw [decide_eq_false hz])
    | (refine Exists.intro _ (And.intro rfl (And.intro rfl (And.intro (Nat.le_of_ble_eq_true rfl) ?_))))
    | (refine Exists.intro _ (And.intro rfl (And.intro rfl (And.intro rfl (And.intro (Nat.le_of_ble_eq_true rfl) ?_)))))
    | (refine And.intro (Exists.intro _ (And.intro rfl rfl)) ?_)
    | (exact fun hW => absurd hW (by decide +kernel))
    | (intro hW; (try simp only [Bool.not_true, Bool.not_false, Bool.not_eq_true', Bool.not_eq_false', decide_eq_true_eq, decide_eq_false_iff_not, reduceCtorEq, Bool.true_eq_false, Bool.false_eq_true, mk_size, List.size_toArray, ByteArray.size_append, ByteArray.size_extract, List.length_cons, List.length_nil, ba_get, ba_empty, Int.toNat_natCast] at hW))
    | (refine And.intro (?_ : _ → _) (?_ : _ → _))
    | (refine FinR.drop 0 (Nat.zero_le _) (Closed.zero _) rfl ?_)
    | (refine FinR.keep ?_)
    | (refine And.intro (det3_agg rfl) ?_)
    | (refine fL_mk ?_)
    | (refine And.intro (by (try simp only [mk_size, List.size_toArray, ByteArray.size_append, ByteArray.size_extract, List.length_cons, List.length_nil]); omega) ?_)
    | (refine And.intro (by (try simp only [mk_size, List.size_toArray, ByteArray.size_append, ByteArray.size_extract, List.length_cons, List.length_nil, wrap64_eq]); omega) ?_)
    | fail)
  all_goals (try (exfalso; simp_all; done))
  refine d_DrawNewShop (hcd := hcd) (h0 := fun a1 a2 a3 a4 a5 a6 b1 b2 b3 b4 b5 b6 => ?_) ..
  obtain ⟨n0, n1, n2, n3, n4, n5, n6, n7, n8, n9, n10, n11, n12, n13, nth, hs1, hs2⟩ := newU a1 a2 a3 a4 a5 a6 b1 b2 b3 b4 b5 b6
  repeat' ((conv => whnf); first
    | (refine And.intro rfl ?_)
    | (refine And.intro (by decide +kernel) ?_)
    | (refine And.intro trivial ?_)
    | (refine fS_mk ?_)
    | (refine hs1 _ _ _ ?_)
    | (refine hs2 _ _ _ ?_)
    | (refine d_vCut (hcd := hcd) (hn := by decide) (h0 := fun zs cap hzs hzl => ?_) ..)
    | (refine d_DrawDoJob (hs := sli_bytes rfl) (hr := hzs) (hl := by omega) (h0 := fun c0 c1 c2 c3 c4 c5 c6 c7 c8 c9 c10 c11 c12 c13 k a b => ?_) ..)
    | (refine Exists.intro _ (And.intro rfl (And.intro rfl (And.intro (Nat.le_of_ble_eq_true rfl) ?_))))
    | (refine Exists.intro _ (And.intro rfl (And.intro rfl (And.intro rfl (And.intro (Nat.le_of_ble_eq_true rfl) ?_)))))
    | (refine And.intro (Exists.intro _ (And.intro rfl rfl)) ?_)
    | (exact fun hW => absurd hW (by decide +kernel))
    | (intro hW; (try simp only [Bool.not_true, Bool.not_false, Bool.not_eq_true', Bool.not_eq_false', decide_eq_true_eq, decide_eq_false_iff_not, reduceCtorEq, Bool.true_eq_false, Bool.false_eq_true, mk_size, List.size_toArray, ByteArray.size_append, ByteArray.size_extract, List.length_cons, List.length_nil, ba_get, ba_empty, Int.toNat_natCast] at hW))
    | (refine And.intro (?_ : _ → _) (?_ : _ → _))
    | (refine FinR.drop 0 (Nat.zero_le _) (Closed.zero _) rfl ?_)
    | (refine FinR.keep ?_)
    | (refine And.intro (det3_agg rfl) ?_)
    | (refine fL_mk ?_)
    | (refine And.intro (by (try simp only [mk_size, List.size_toArray, ByteArray.size_append, ByteArray.size_extract, List.length_cons, List.length_nil]); omega) ?_)
    | (refine And.intro (by (try simp only [mk_size, List.size_toArray, ByteArray.size_append, ByteArray.size_extract, List.length_cons, List.length_nil, wrap64_eq]); omega) ?_)
    | fail)
  clear hs1 hs2
  obtain ⟨cm, hc1, hc2⟩ := commonU c0 c1 c2 c3 c4 c5 c6 c7 c8 c9 c10 c11 c12 c13
  rcases hb : shopB c0 c1 c2 c3 c4 c5 c6 c7 c8 c9 c10 c11 c12 c13 with _ | _
  · skip
    repeat' ((conv => whnf); first
      | (refine And.intro rfl ?_)
      | (refine And.intro (by decide +kernel) ?_)
      | (refine And.intro trivial ?_)
      | (refine fS_mk ?_)
      | (refine d_vCut (hcd := hcd) (hn := by decide) (h0 := fun zs cap hzs hzl => ?_) ..)
      | (refine d_DrawDoJobs (hs := sli_bytes rfl) (hr := hzs) (hl := by omega) (h0 := fun u0 u1 u2 u3 u4 u5 u6 u7 u8 u9 u10 u11 u12 u13 ys cap hy hyl => ?_) ..; obtain ⟨e0, e1, e2, e3, e4, e5, e6, e7, e8, e9, e10, e11, e12, e13, many, th, hth, hj1, hj2⟩ := jobsU u0 u1 u2 u3 u4 u5 u6 u7 u8 u9 u10 u11 u12 u13 ys hy (by omega))
      | (refine hj1 _ _ _ _ (sli_rows hy rfl) ?_)
      | (refine hj2 _ _ _ _ (sli_rows hy rfl) ?_)
      | (refine hc1 _ _ _ ?_)
      | (refine hc2 _ _ _ ?_)
      | (refine d_DoJobF (hb := hb) (h0 := ?_) ..)
      | (refine d_sDoJobF (hb := hb) (h0 := ?_) ..)
      | (refine d_IsShop  (h0 := ?_) ..; rw [hb])
      | (refine Exists.intro _ (And.intro (callW_fn (d_IsShop  (h0 := And.intro rfl rfl) ..)) (And.intro trivial ?_)); rw [hb])
      | (refine Exists.intro _ (And.intro (callW_fn (d_IsShop  (h0 := And.intro rfl rfl) ..)) ?_); rw [hb])
      | (refine d_IsShop  (h0 := ?_) ..; rw [hth (by assumption)])
      | (refine Exists.intro _ (And.intro (callW_fn (d_IsShop  (h0 := And.intro rfl rfl) ..)) (And.intro trivial ?_)); rw [hth (by assumption)])
      | (refine Exists.intro _ (And.intro (callW_fn (d_IsShop  (h0 := And.intro rfl rfl) ..)) ?_); rw [hth (by assumption)])
      | (refine d_IsShop  (h0 := ?_) ..; rw [hbt])
      | (refine Exists.intro _ (And.intro (callW_fn (d_IsShop  (h0 := And.intro rfl rfl) ..)) (And.intro trivial ?_)); rw [hbt])
      | (refine Exists.intro _ (And.intro (callW_fn (d_IsShop  (h0 := And.intro rfl rfl) ..)) ?_); rw [hbt])
      | (refine d_sIsShop  (h0 := ?_) ..; rw [hb])
      | (refine Exists.intro _ (And.intro (callW_fn (d_sIsShop  (h0 := And.intro rfl rfl) ..)) (And.intro trivial ?_)); rw [hb])
      | (refine Exists.intro _ (And.intro (callW_fn (d_sIsShop  (h0 := And.intro rfl rfl) ..)) ?_); rw [hb])
      | (refine Exists.intro _ (And.intro rfl (And.intro rfl (And.intro (Nat.le_of_ble_eq_true rfl) ?_))))
      | (refine Exists.intro _ (And.intro rfl (And.intro rfl (And.intro rfl (And.intro (Nat.le_of_ble_eq_true rfl) ?_)))))
      | (refine And.intro (Exists.intro _ (And.intro rfl rfl)) ?_)
      | (exact fun hW => absurd hW (by decide +kernel))
      | (intro hW; (try simp only [Bool.not_true, Bool.not_false, Bool.not_eq_true', Bool.not_eq_false', decide_eq_true_eq, decide_eq_false_iff_not, reduceCtorEq, Bool.true_eq_false, Bool.false_eq_true, mk_size, List.size_toArray, ByteArray.size_append, ByteArray.size_extract, List.length_cons, List.length_nil, ba_get, ba_empty, Int.toNat_natCast] at hW))
      | (refine And.intro (?_ : _ → _) (?_ : _ → _))
      | (refine FinR.drop 0 (Nat.zero_le _) (Closed.zero _) rfl ?_)
      | (refine FinR.keep ?_)
      | (refine And.intro (det3_agg rfl) ?_)
      | (refine fL_mk ?_)
      | (refine And.intro (by (try simp only [mk_size, List.size_toArray, ByteArray.size_append, ByteArray.size_extract, List.length_cons, List.length_nil]); omega) ?_)
      | (refine And.intro (by (try simp only [mk_size, List.size_toArray, ByteArray.size_append, ByteArray.size_extract, List.length_cons, List.length_nil, wrap64_eq]); omega) ?_)
      | fail)
    all_goals first | exact h0 | (exfalso; simp_all; done) | (refine kBt h0 ?_; simp_all; done) | skip
  · obtain ⟨h1, h2, hp, hq⟩ := shop_of hb
    obtain ⟨n, hn, rfl, rfl, rfl, rfl, rfl, rfl⟩ := shN_of h1
    obtain ⟨m, hm, rfl, rfl, rfl, rfl, rfl, rfl⟩ := shN_of h2
    clear h1 h2
    rcases hj : jobO n m c12 c13 k a b with _ | ⟨n', m', p', q'⟩
    · skip
      repeat' ((conv => whnf); first
        | (refine And.intro rfl ?_)
        | (refine And.intro (by decide +kernel) ?_)
        | (refine And.intro trivial ?_)
        | (refine fS_mk ?_)
        | (refine d_vCut (hcd := hcd) (hn := by decide) (h0 := fun zs cap hzs hzl => ?_) ..)
        | (refine d_DrawDoJobs (hs := sli_bytes rfl) (hr := hzs) (hl := by omega) (h0 := fun u0 u1 u2 u3 u4 u5 u6 u7 u8 u9 u10 u11 u12 u13 ys cap hy hyl => ?_) ..; obtain ⟨e0, e1, e2, e3, e4, e5, e6, e7, e8, e9, e10, e11, e12, e13, many, th, hth, hj1, hj2⟩ := jobsU u0 u1 u2 u3 u4 u5 u6 u7 u8 u9 u10 u11 u12 u13 ys hy (by omega))
        | (refine hj1 _ _ _ _ (sli_rows hy rfl) ?_)
        | (refine hj2 _ _ _ _ (sli_rows hy rfl) ?_)
        | (refine hc1 _ _ _ ?_)
        | (refine hc2 _ _ _ ?_)
        | (refine d_DoJobN (hn := hn) (hm := hm) (hp := hp) (hq := hq) (hj := hj) (h0 := ?_) ..)
        | (refine d_sDoJobN (hn := hn) (hm := hm) (hp := hp) (hq := hq) (hj := hj) (h0 := ?_) ..)
        | (refine d_IsShop  (h0 := ?_) ..; rw [hb])
        | (refine Exists.intro _ (And.intro (callW_fn (d_IsShop  (h0 := And.intro rfl rfl) ..)) (And.intro trivial ?_)); rw [hb])
        | (refine Exists.intro _ (And.intro (callW_fn (d_IsShop  (h0 := And.intro rfl rfl) ..)) ?_); rw [hb])
        | (refine d_IsShop  (h0 := ?_) ..; rw [hth (by assumption)])
        | (refine Exists.intro _ (And.intro (callW_fn (d_IsShop  (h0 := And.intro rfl rfl) ..)) (And.intro trivial ?_)); rw [hth (by assumption)])
        | (refine Exists.intro _ (And.intro (callW_fn (d_IsShop  (h0 := And.intro rfl rfl) ..)) ?_); rw [hth (by assumption)])
        | (refine d_IsShop  (h0 := ?_) ..; rw [hbt])
        | (refine Exists.intro _ (And.intro (callW_fn (d_IsShop  (h0 := And.intro rfl rfl) ..)) (And.intro trivial ?_)); rw [hbt])
        | (refine Exists.intro _ (And.intro (callW_fn (d_IsShop  (h0 := And.intro rfl rfl) ..)) ?_); rw [hbt])
        | (refine d_sIsShop  (h0 := ?_) ..; rw [hb])
        | (refine Exists.intro _ (And.intro (callW_fn (d_sIsShop  (h0 := And.intro rfl rfl) ..)) (And.intro trivial ?_)); rw [hb])
        | (refine Exists.intro _ (And.intro (callW_fn (d_sIsShop  (h0 := And.intro rfl rfl) ..)) ?_); rw [hb])
        | (refine Exists.intro _ (And.intro rfl (And.intro rfl (And.intro (Nat.le_of_ble_eq_true rfl) ?_))))
        | (refine Exists.intro _ (And.intro rfl (And.intro rfl (And.intro rfl (And.intro (Nat.le_of_ble_eq_true rfl) ?_)))))
        | (refine And.intro (Exists.intro _ (And.intro rfl rfl)) ?_)
        | (exact fun hW => absurd hW (by decide +kernel))
        | (intro hW; (try simp only [Bool.not_true, Bool.not_false, Bool.not_eq_true', Bool.not_eq_false', decide_eq_true_eq, decide_eq_false_iff_not, reduceCtorEq, Bool.true_eq_false, Bool.false_eq_true, mk_size, List.size_toArray, ByteArray.size_append, ByteArray.size_extract, List.length_cons, List.length_nil, ba_get, ba_empty, Int.toNat_natCast] at hW))
        | (refine And.intro (?_ : _ → _) (?_ : _ → _))
        | (refine FinR.drop 0 (Nat.zero_le _) (Closed.zero _) rfl ?_)
        | (refine FinR.keep ?_)
        | (refine And.intro (det3_agg rfl) ?_)
        | (refine fL_mk ?_)
        | (refine And.intro (by (try simp only [mk_size, List.size_toArray, ByteArray.size_append, ByteArray.size_extract, List.length_cons, List.length_nil]); omega) ?_)
        | (refine And.intro (by (try simp only [mk_size, List.size_toArray, ByteArray.size_append, ByteArray.size_extract, List.length_cons, List.length_nil, wrap64_eq]); omega) ?_)
        | fail)
      all_goals first | exact h0 | (exfalso; simp_all; done) | (refine kBt h0 ?_; simp_all; done) | skip
    · obtain ⟨hn', hm', hp', hq'⟩ := jobO_ok hn hm hp.1 hq.1 hj
      have hst := jobO_stop hn hm hp'.2 hq'.2 hj
      have hag := fun n'' m'' p'' q'' => jobO_again (n'' := n'') (m'' := m'') (p'' := p'') (q'' := q'') hj
      have hbt := shop_true n' m' hp' hq'
      have hqe : q' = IntKind.i64.wrap (c13 + 1) := by
        obtain ⟨e, he, hpe, hqe, h6, h7⟩ := jobO_inv hj
        rw [wrap_i64 _ (by omega) (by omega)]; exact hqe
      subst hqe
      rcases hj9 : jobO n' m' p' (IntKind.i64.wrap (c13 + 1)) k a b with _ | ⟨n'', m'', p'', q''⟩
      · have hst := hst hj9
        repeat' ((conv => whnf); first
          | (refine And.intro rfl ?_)
          | (refine And.intro (by decide +kernel) ?_)
          | (refine And.intro trivial ?_)
          | (refine fS_mk ?_)
          | (refine d_vCut (hcd := hcd) (hn := by decide) (h0 := fun zs cap hzs hzl => ?_) ..)
          | (refine d_DrawDoJobs (hs := sli_bytes rfl) (hr := hzs) (hl := by omega) (h0 := fun u0 u1 u2 u3 u4 u5 u6 u7 u8 u9 u10 u11 u12 u13 ys cap hy hyl => ?_) ..; obtain ⟨e0, e1, e2, e3, e4, e5, e6, e7, e8, e9, e10, e11, e12, e13, many, th, hth, hj1, hj2⟩ := jobsU u0 u1 u2 u3 u4 u5 u6 u7 u8 u9 u10 u11 u12 u13 ys hy (by omega))
          | (refine hj1 _ _ _ _ (sli_rows hy rfl) ?_)
          | (refine hj2 _ _ _ _ (sli_rows hy rfl) ?_)
          | (refine hc1 _ _ _ ?_)
          | (refine hc2 _ _ _ ?_)
          | (refine d_DoJobT (hn := hn) (hm := hm) (hp := hp) (hq := hq) (hj := hj) (h0 := ?_) ..)
          | (refine d_sDoJobT (hn := hn) (hm := hm) (hp := hp) (hq := hq) (hj := hj) (h0 := ?_) ..)
          | (refine d_DoJobN (hn := hn') (hm := hm') (hp := hp') (hq := hq') (hj := hj9) (h0 := ?_) ..)
          | (refine d_sDoJobN (hn := hn') (hm := hm') (hp := hp') (hq := hq') (hj := hj9) (h0 := ?_) ..)
          | (refine d_IsShop  (h0 := ?_) ..; rw [hb])
          | (refine Exists.intro _ (And.intro (callW_fn (d_IsShop  (h0 := And.intro rfl rfl) ..)) (And.intro trivial ?_)); rw [hb])
          | (refine Exists.intro _ (And.intro (callW_fn (d_IsShop  (h0 := And.intro rfl rfl) ..)) ?_); rw [hb])
          | (refine d_IsShop  (h0 := ?_) ..; rw [hth (by assumption)])
          | (refine Exists.intro _ (And.intro (callW_fn (d_IsShop  (h0 := And.intro rfl rfl) ..)) (And.intro trivial ?_)); rw [hth (by assumption)])
          | (refine Exists.intro _ (And.intro (callW_fn (d_IsShop  (h0 := And.intro rfl rfl) ..)) ?_); rw [hth (by assumption)])
          | (refine d_IsShop  (h0 := ?_) ..; rw [hbt])
          | (refine Exists.intro _ (And.intro (callW_fn (d_IsShop  (h0 := And.intro rfl rfl) ..)) (And.intro trivial ?_)); rw [hbt])
          | (refine Exists.intro _ (And.intro (callW_fn (d_IsShop  (h0 := And.intro rfl rfl) ..)) ?_); rw [hbt])
          | (refine d_sIsShop  (h0 := ?_) ..; rw [hb])
          | (refine Exists.intro _ (And.intro (callW_fn (d_sIsShop  (h0 := And.intro rfl rfl) ..)) (And.intro trivial ?_)); rw [hb])
          | (refine Exists.intro _ (And.intro (callW_fn (d_sIsShop  (h0 := And.intro rfl rfl) ..)) ?_); rw [hb])
          | (refine Exists.intro _ (And.intro rfl (And.intro rfl (And.intro (Nat.le_of_ble_eq_true rfl) ?_))))
          | (refine Exists.intro _ (And.intro rfl (And.intro rfl (And.intro rfl (And.intro (Nat.le_of_ble_eq_true rfl) ?_)))))
          | (refine And.intro (Exists.intro _ (And.intro rfl rfl)) ?_)
          | (exact fun hW => absurd hW (by decide +kernel))
          | (intro hW; (try simp only [Bool.not_true, Bool.not_false, Bool.not_eq_true', Bool.not_eq_false', decide_eq_true_eq, decide_eq_false_iff_not, reduceCtorEq, Bool.true_eq_false, Bool.false_eq_true, mk_size, List.size_toArray, ByteArray.size_append, ByteArray.size_extract, List.length_cons, List.length_nil, ba_get, ba_empty, Int.toNat_natCast] at hW))
          | (refine And.intro (?_ : _ → _) (?_ : _ → _))
          | (refine FinR.drop 0 (Nat.zero_le _) (Closed.zero _) rfl ?_)
          | (refine FinR.keep ?_)
          | (refine And.intro (det3_agg rfl) ?_)
          | (refine fL_mk ?_)
          | (refine And.intro (by (try simp only [mk_size, List.size_toArray, ByteArray.size_append, ByteArray.size_extract, List.length_cons, List.length_nil]); omega) ?_)
          | (refine And.intro (by (try simp only [mk_size, List.size_toArray, ByteArray.size_append, ByteArray.size_extract, List.length_cons, List.length_nil, wrap64_eq]); omega) ?_)
          | fail)
        all_goals first | exact h0 | (exfalso; simp_all; done) | (refine kBt h0 ?_; simp_all; done) | skip
      · have hag := hag _ _ _ _ hj9
        clear hst
        repeat' ((conv => whnf); first
          | (refine And.intro rfl ?_)
          | (refine And.intro (by decide +kernel) ?_)
          | (refine And.intro trivial ?_)
          | (refine fS_mk ?_)
          | (refine d_vCut (hcd := hcd) (hn := by decide) (h0 := fun zs cap hzs hzl => ?_) ..)
          | (refine d_DrawDoJobs (hs := sli_bytes rfl) (hr := hzs) (hl := by omega) (h0 := fun u0 u1 u2 u3 u4 u5 u6 u7 u8 u9 u10 u11 u12 u13 ys cap hy hyl => ?_) ..; obtain ⟨e0, e1, e2, e3, e4, e5, e6, e7, e8, e9, e10, e11, e12, e13, many, th, hth, hj1, hj2⟩ := jobsU u0 u1 u2 u3 u4 u5 u6 u7 u8 u9 u10 u11 u12 u13 ys hy (by omega))
          | (refine hj1 _ _ _ _ (sli_rows hy rfl) ?_)
          | (refine hj2 _ _ _ _ (sli_rows hy rfl) ?_)
          | (refine hc1 _ _ _ ?_)
          | (refine hc2 _ _ _ ?_)
          | (refine d_DoJobT (hn := hn) (hm := hm) (hp := hp) (hq := hq) (hj := hj) (h0 := ?_) ..)
          | (refine d_sDoJobT (hn := hn) (hm := hm) (hp := hp) (hq := hq) (hj := hj) (h0 := ?_) ..)
          | (refine d_IsShop  (h0 := ?_) ..; rw [hb])
          | (refine Exists.intro _ (And.intro (callW_fn (d_IsShop  (h0 := And.intro rfl rfl) ..)) (And.intro trivial ?_)); rw [hb])
          | (refine Exists.intro _ (And.intro (callW_fn (d_IsShop  (h0 := And.intro rfl rfl) ..)) ?_); rw [hb])
          | (refine d_IsShop  (h0 := ?_) ..; rw [hth (by assumption)])
          | (refine Exists.intro _ (And.intro (callW_fn (d_IsShop  (h0 := And.intro rfl rfl) ..)) (And.intro trivial ?_)); rw [hth (by assumption)])
          | (refine Exists.intro _ (And.intro (callW_fn (d_IsShop  (h0 := And.intro rfl rfl) ..)) ?_); rw [hth (by assumption)])
          | (refine d_IsShop  (h0 := ?_) ..; rw [hbt])
          | (refine Exists.intro _ (And.intro (callW_fn (d_IsShop  (h0 := And.intro rfl rfl) ..)) (And.intro trivial ?_)); rw [hbt])
          | (refine Exists.intro _ (And.intro (callW_fn (d_IsShop  (h0 := And.intro rfl rfl) ..)) ?_); rw [hbt])
          | (refine d_sIsShop  (h0 := ?_) ..; rw [hb])
          | (refine Exists.intro _ (And.intro (callW_fn (d_sIsShop  (h0 := And.intro rfl rfl) ..)) (And.intro trivial ?_)); rw [hb])
          | (refine Exists.intro _ (And.intro (callW_fn (d_sIsShop  (h0 := And.intro rfl rfl) ..)) ?_); rw [hb])
          | (refine Exists.intro _ (And.intro rfl (And.intro rfl (And.intro (Nat.le_of_ble_eq_true rfl) ?_))))
          | (refine Exists.intro _ (And.intro rfl (And.intro rfl (And.intro rfl (And.intro (Nat.le_of_ble_eq_true rfl) ?_)))))
          | (refine And.intro (Exists.intro _ (And.intro rfl rfl)) ?_)
          | (exact fun hW => absurd hW (by decide +kernel))
          | (intro hW; (try simp only [Bool.not_true, Bool.not_false, Bool.not_eq_true', Bool.not_eq_false', decide_eq_true_eq, decide_eq_false_iff_not, reduceCtorEq, Bool.true_eq_false, Bool.false_eq_true, mk_size, List.size_toArray, ByteArray.size_append, ByteArray.size_extract, List.length_cons, List.length_nil, ba_get, ba_empty, Int.toNat_natCast] at hW))
          | (refine And.intro (?_ : _ → _) (?_ : _ → _))
          | (refine FinR.drop 0 (Nat.zero_le _) (Closed.zero _) rfl ?_)
          | (refine FinR.keep ?_)
          | (refine And.intro (det3_agg rfl) ?_)
          | (refine fL_mk ?_)
          | (refine And.intro (by (try simp only [mk_size, List.size_toArray, ByteArray.size_append, ByteArray.size_extract, List.length_cons, List.length_nil]); omega) ?_)
          | (refine And.intro (by (try simp only [mk_size, List.size_toArray, ByteArray.size_append, ByteArray.size_extract, List.length_cons, List.length_nil, wrap64_eq]); omega) ?_)
          | fail)
        all_goals (try (exfalso; simp_all; done))
        all_goals
          refine d_DoJobT (hn := hn') (hm := hm') (hp := hp') (hq := hq') (hj := hj9) (h0 := ?_) ..
          rcases hag with ⟨rfl, rfl, rfl⟩ | ⟨rfl, rfl, rfl, rfl⟩ | ⟨rfl, rfl, rfl, rfl⟩ | ⟨rfl, rfl, hpe⟩ | ⟨rfl, rfl, hpe⟩ | ⟨rfl, rfl⟩ | ⟨rfl, rfl⟩
          all_goals (try (have hpe2 := hpe; obtain rfl : p' = IntKind.i64.wrap (c12 + 1) := by rw [wrap_i64 _ (by omega) (by omega)]; exact hpe))
          all_goals
            repeat' ((conv => whnf); first
              | (refine And.intro rfl ?_)
              | (refine And.intro (by decide +kernel) ?_)
              | (refine And.intro trivial ?_)
              | (refine fS_mk ?_)
              | (refine Exists.intro _ (And.intro rfl (And.intro rfl (And.intro (Nat.le_of_ble_eq_true rfl) ?_))))
              | (refine Exists.intro _ (And.intro rfl (And.intro rfl (And.intro rfl (And.intro (Nat.le_of_ble_eq_true rfl) ?_)))))
              | (refine And.intro (Exists.intro _ (And.intro rfl rfl)) ?_)
              | (exact fun hW => absurd hW (by decide +kernel))
              | (intro hW; (try simp only [Bool.not_true, Bool.not_false, Bool.not_eq_true', Bool.not_eq_false', decide_eq_true_eq, decide_eq_false_iff_not, reduceCtorEq, Bool.true_eq_false, Bool.false_eq_true, mk_size, List.size_toArray, ByteArray.size_append, ByteArray.size_extract, List.length_cons, List.length_nil, ba_get, ba_empty, Int.toNat_natCast] at hW))
              | (refine And.intro (?_ : _ → _) (?_ : _ → _))
              | (refine FinR.drop 0 (Nat.zero_le _) (Closed.zero _) rfl ?_)
              | (refine FinR.keep ?_)
              | (refine And.intro (det3_agg rfl) ?_)
              | (refine fL_mk ?_)
              | (refine And.intro (by (try simp only [mk_size, List.size_toArray, ByteArray.size_append, ByteArray.size_extract, List.length_cons, List.length_nil]); omega) ?_)
              | (refine And.intro (by (try simp only [mk_size, List.size_toArray, ByteArray.size_append, ByteArray.size_extract, List.length_cons, List.length_nil, wrap64_eq]); omega) ?_)
              | fail)
        all_goals first | exact h0 | (exfalso; simp_all; done) | (refine kBt h0 ?_; simp_all; done) | skip
theorem c_law_Shops (v : Value) (xs : List Int) (sv : Sli W0 [] 1 enB (.lit v) xs) (hv : ∀ x ∈ xs, 0 ≤ x ∧ x < 256) (mv : xs.length ≤ maxLen) (K : Cont) (h0 : K (Bo true) []) : ACall Try.prog W0 4 [.lit v] [] K := by
  by_cases hz : 65536 < (xs.length : Int)
  · refine by4 (Nat.le_of_ble_eq_true rfl) ?_
    repeat' ((conv => whnf); first
      | (refine And.intro rfl ?_)
      | (refine And.intro (by decide +kernel) ?_)
      | (refine And.intro trivial ?_)
      | (refine c_vBig (hs := sv) (h0 := ?_) ..; rw [decide_eq_true hz])
      | (refine Exists.intro _ (And.intro rfl (And.intro rfl (And.intro (Nat.le_of_ble_eq_true rfl) ?_))))
      | (refine Exists.intro _ (And.intro rfl (And.intro rfl (And.intro rfl (And.intro (Nat.le_of_ble_eq_true rfl) ?_)))))
      | (refine And.intro (Exists.intro _ (And.intro rfl rfl)) ?_)
      | (exact fun hW => absurd hW (by decide +kernel))
      | (intro hW; (try simp only [Bool.not_true, Bool.not_false, Bool.not_eq_true', Bool.not_eq_false', decide_eq_true_eq, decide_eq_false_iff_not, reduceCtorEq, Bool.true_eq_false, Bool.false_eq_true, mk_size, List.size_toArray, ByteArray.size_append, ByteArray.size_extract, List.length_cons, List.length_nil, ba_get, ba_empty, Int.toNat_natCast] at hW))
      | (refine And.intro (?_ : _ → _) (?_ : _ → _))
      | (refine FinR.drop 0 (Nat.zero_le _) (Closed.zero _) rfl ?_)
      | (refine FinR.keep ?_)
      | (refine And.intro (det3_agg rfl) ?_)
      | (refine fL_mk ?_)
      | (refine And.intro (by (try simp only [mk_size, List.size_toArray, ByteArray.size_append, ByteArray.size_extract, List.length_cons, List.length_nil]); omega) ?_)
      | (refine And.intro (by (try simp only [mk_size, List.size_toArray, ByteArray.size_append, ByteArray.size_extract, List.length_cons, List.length_nil, wrap64_eq]); omega) ?_)
      | fail)
    all_goals first | exact h0 | (exfalso; simp_all; done)
  · exact c_law_Shops1 v xs ⟨sv, hv, by omega⟩ hz K h0
end Go.Proofs.Ytkcbhdjhbnnlgaa
end
