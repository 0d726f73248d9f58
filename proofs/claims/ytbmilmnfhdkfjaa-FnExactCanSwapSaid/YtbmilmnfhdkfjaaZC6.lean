import Derived.Test.YtbmilmnfhdkfjaaZC5
section
/- Contracts: the law CanSwap. -/
set_option linter.unusedVariables false
set_option linter.unusedSimpArgs false
set_option maxRecDepth 100000
set_option maxHeartbeats 4000000
namespace Go.Proofs.Ytbmilmnfhdkfjaa
open Go Go.RowKit Go.Proofs.Ytbmilmnfhdkfjaa.Abs
variable {W0 : World} {σ : List Blk}
def swL (ys : List (List Int)) (k : Nat) : List (List Int) := (ys.set k (ys.getD (k + 1) [])).set (k + 1) (ys.getD k [])
theorem swL_len (ys : List (List Int)) (k : Nat) : (swL ys k).length = ys.length := by unfold swL; rw [List.length_set, List.length_set]
theorem swL_eq {ys : List (List Int)} {k : Nat} {r0 r1 : List Int} (h0 : ys[k]? = some r0) (h1 : ys[k + 1]? = some r1) : swL ys k = (ys.set k r1).set (k + 1) r0 := by
  unfold swL; rw [List.getD_eq_getElem?_getD, List.getD_eq_getElem?_getD, h0, h1]; rfl
theorem swL_mem {ys : List (List Int)} {k : Nat} (hk : k + 2 ≤ ys.length) {x : List Int} (h : x ∈ swL ys k) : x ∈ ys := by
  have e0 : ys[k]? = some ys[k] := List.getElem?_eq_getElem (by omega)
  have e1 : ys[k + 1]? = some ys[k + 1] := List.getElem?_eq_getElem (by omega)
  rw [swL_eq e0 e1] at h
  rcases List.mem_or_eq_of_mem_set h with h | rfl
  · rcases List.mem_or_eq_of_mem_set h with h | rfl
    · exact h
    · exact List.getElem_mem _
  · exact List.getElem_mem _
theorem swL_fs {xs ys : List (List Int)} {k : Nat} {u v : Nat × Nat} (hk : k + 2 ≤ ys.length) (hu : (fsOf xs ys)[k]? = some u) (hv : (fsOf xs ys)[k + 1]? = some v) : fsOf xs (swL ys k) = ((fsOf xs ys).set k v).set (k + 1) u := by
  have e0 : ys[k]? = some ys[k] := List.getElem?_eq_getElem (by omega)
  have e1 : ys[k + 1]? = some ys[k + 1] := List.getElem?_eq_getElem (by omega)
  rw [swL_eq e0 e1]
  unfold fsOf at hu hv ⊢
  rw [List.getElem?_map, e0] at hu
  rw [List.getElem?_map, e1] at hv
  rw [List.map_set, List.map_set, ← Option.some.inj hu, ← Option.some.inj hv]
def canR (a b c d e f : Int) (xs ys : List (List Int)) (k : Int) : AV := if planB a b c d e f xs ys = true ∧ 0 ≤ k ∧ k + 2 ≤ ys.length then .tup [Bo (decide (efL xs ys = efL xs (swL ys k.toNat))), Bo true] else .tup [Bo false, Bo false]
theorem canR_form (a b c d e f : Int) (xs ys : List (List Int)) (k : Int) : ∃ p q, canR a b c d e f xs ys k = .tup [Bo p, Bo q] := by
  unfold canR; split
  · exact ⟨_, _, rfl⟩
  · exact ⟨_, _, rfl⟩
theorem canR_sh (j : Nat) (a b c d e f : Int) (xs ys : List (List Int)) (k : Int) : sh3 j (canR a b c d e f xs ys k) = canR a b c d e f xs ys k := by unfold canR; split <;> rfl
theorem c_CanSwap (a b c d e f : Int) (v1 v2 : Value) (xs ys : List (List Int)) (h1 : Sli W0 [] 6 enI (.lit v1) xs) (h2 : Sli W0 [] 4 enI (.lit v2) ys) (hx : ∀ x ∈ xs, x.length = 6) (hy : ∀ x ∈ ys, x.length = 4) (k : Int) (K : Cont) (h0 : K (canR a b c d e f xs ys k) []) : ACall Try.prog W0 35 [PlA a b c d e f (.lit v1) (.lit v2), I k] [] K := by
  by_cases hg : planB a b c d e f xs ys = true ∧ 0 ≤ k ∧ k + 2 ≤ ys.length
  · rw [canR, if_pos hg] at h0
    obtain ⟨hg, hk0, hk2⟩ := hg
    obtain ⟨m, rfl⟩ := Int.eq_ofNat_of_zero_le hk0
    rw [show ((m : Nat) : Int).toNat = m from rfl] at h0
    have hm2 : m + 2 ≤ ys.length := by omega
    have hfl := fsOf_len xs ys
    have hu : (fsOf xs ys)[m]? = some (fsOf xs ys)[m] := List.getElem?_eq_getElem (by omega)
    have hv : (fsOf xs ys)[m + 1]? = some (fsOf xs ys)[m + 1] := List.getElem?_eq_getElem (by omega)
    obtain ⟨_, hx4, hy40, hxa, hya⟩ := planB_iff.1 hg
    have hy' : ∀ x ∈ swL ys m, x.length = 4 := fun x h => hy x (swL_mem hm2 h)
    have hya' : (swL ys m).all (stOk xs.length) = true := List.all_eq_true.2 fun x h => List.all_eq_true.1 hya x (swL_mem hm2 h)
    rw [same_eq (m := 0) (m' := 0) xs ys xs (swL ys m) hx hy hx hy' hxa hya hxa hya'] at h0
    exact c_SwapT a b c d e f v1 v2 xs ys m (fsOf xs (swL ys m)) _ _ hu hv (swL_fs hm2 hu hv) h1 h2 hx hy hg hm2 K h0
  · rw [canR, if_neg hg] at h0
    refine by35 (Nat.le_of_ble_eq_true rfl) ?_
    obtain ⟨o2, n2, cap2, hv2, hn2, hc2, hm2, hf2⟩ := sli_form h2
    cases hv2
    subst hn2
    cases hp : planB a b c d e f xs ys with
    | false =>
      repeat' ((conv => whnf); first
        | (refine And.intro rfl ?_)
        | (refine And.intro (by decide +kernel) ?_)
        | (refine And.intro trivial ?_)
        | (refine d_planOfF (h1 := sli_up h1) (h2 := sli_up h2) (hx := hx) (hy := hy) (hg := hp) (h0 := ?_) ..)
        | (refine Exists.intro _ (And.intro rfl (And.intro rfl (And.intro (Nat.le_of_ble_eq_true rfl) ?_))))
        | (refine Exists.intro _ (And.intro rfl (And.intro rfl (And.intro rfl (And.intro (Nat.le_of_ble_eq_true rfl) ?_)))))
        | (refine And.intro (Exists.intro _ (And.intro rfl rfl)) ?_)
        | (exact fun hW => absurd hW (by decide +kernel))
        | (intro hW; (try simp only [Bool.not_true, Bool.not_false, Bool.not_eq_true', Bool.not_eq_false', decide_eq_true_eq, decide_eq_false_iff_not, reduceCtorEq, Bool.true_eq_false, Bool.false_eq_true, mk_size, List.size_toArray, ByteArray.size_append, ByteArray.size_extract, List.length_cons, List.length_nil, ba_get, ba_empty, Int.toNat_natCast] at hW))
        | (refine And.intro (?_ : _ → _) (?_ : _ → _))
        | (refine FinR.drop 0 (Nat.zero_le _) (Closed.zero _) rfl ?_)
        | (refine FinR.keep ?_)
        | (refine And.intro (det3_agg rfl) ?_)
        | (refine fL_mk ?_)
        | (refine And.intro (by (try simp only [mk_size, List.size_toArray, ByteArray.size_append, ByteArray.size_extract, List.length_cons, List.length_nil]); omega) ?_)
        | (refine And.intro (by (try simp only [mk_size, List.size_toArray, ByteArray.size_append, ByteArray.size_extract, List.length_cons, List.length_nil, wrap64_eq]); omega) ?_)
        | fail)
      all_goals first | exact h0 | (exfalso; omega) | (exfalso; simp_all; done)
    | true =>
      obtain ⟨_, hx4, hy40, hxa, hya⟩ := planB_iff.1 hp
      have ew2 : IntKind.i64.wrap ((ys.length : Nat) - 2 : Int) = (ys.length : Nat) - 2 := wrap_i64 _ (by omega) (by omega)
      have hk : ¬ (0 ≤ k ∧ k + 2 ≤ ys.length) := fun h => hg ⟨hp, h⟩
      repeat' ((conv => whnf); first
        | (rw [ew2])
        | (refine And.intro rfl ?_)
        | (refine And.intro (by decide +kernel) ?_)
        | (refine And.intro trivial ?_)
        | (refine fS_mk ?_)
        | (refine d_planOfS (h1 := sli_up h1) (h2 := sli_up h2) (hx := hx) (hy := hy) (hg := hp) (h0 := fun S p hpp hkk hl => ?_) ..; have k0 := hkk 0 _ rfl)
        | (refine And.intro ⟨_, k0, rfl⟩ ?_)
        | (refine Exists.intro _ (And.intro k0 (And.intro rfl (And.intro (Nat.le_of_ble_eq_true rfl) ?_))))
        | (refine Exists.intro _ (And.intro rfl (And.intro rfl (And.intro (Nat.le_of_ble_eq_true rfl) ?_))))
        | (refine Exists.intro _ (And.intro rfl (And.intro rfl (And.intro rfl (And.intro (Nat.le_of_ble_eq_true rfl) ?_)))))
        | (refine And.intro (Exists.intro _ (And.intro rfl rfl)) ?_)
        | (exact fun hW => absurd hW (by decide +kernel))
        | (intro hW; (try simp only [Bool.not_true, Bool.not_false, Bool.not_eq_true', Bool.not_eq_false', decide_eq_true_eq, decide_eq_false_iff_not, reduceCtorEq, Bool.true_eq_false, Bool.false_eq_true, mk_size, List.size_toArray, ByteArray.size_append, ByteArray.size_extract, List.length_cons, List.length_nil, ba_get, ba_empty, Int.toNat_natCast] at hW))
        | (refine And.intro (?_ : _ → _) (?_ : _ → _))
        | (refine FinR.drop 0 (Nat.zero_le _) (Closed.zero _) rfl ?_)
        | (refine FinR.keep ?_)
        | (refine And.intro (det3_agg rfl) ?_)
        | (refine fL_mk ?_)
        | (refine And.intro (by (try simp only [mk_size, List.size_toArray, ByteArray.size_append, ByteArray.size_extract, List.length_cons, List.length_nil]); omega) ?_)
        | (refine And.intro (by (try simp only [mk_size, List.size_toArray, ByteArray.size_append, ByteArray.size_extract, List.length_cons, List.length_nil, wrap64_eq]); omega) ?_)
        | fail)
      all_goals first | exact h0 | (exfalso; omega) | (exfalso; simp_all; omega) | skip
theorem c_sSwapT (a b c d e f : Int) (o1 : Addr) (m1 c1 : Nat) (o2 : Addr) (m2 c2 : Nat) (xs ys : List (List Int)) (h1 : Sli W0 [] 6 enI (.lit (.slice (some o1) m1 c1)) xs) (h2 : Sli W0 [] 4 enI (.lit (.slice (some o2) m2 c2)) ys) (hx : ∀ x ∈ xs, x.length = 6) (hy : ∀ x ∈ ys, x.length = 4) (hl : xs.length ≤ 1048576) (hl2 : ys.length ≤ 1048576) (k : Nat) (hg : planB a b c d e f xs ys = true) (hk : k + 2 ≤ ys.length) (K : Cont) (h0 : K (.tup [Bo (decide (efL xs ys = efL xs (swL ys k))), Bo true]) []) : ACall Try.prog W0 34 [PlA a b c d e f (.lit (.slice (some o1) m1 c1)) (.lit (.slice (some o2) m2 c2)), I k] [] K := by
  refine by34 (Nat.le_of_ble_eq_true rfl) ?_
  obtain ⟨_, hx4, hy40, hxa, hya⟩ := planB_iff.1 hg
  obtain ⟨o2', n2, cap2, hv2, hn2, hc2, hm2, hf2⟩ := sli_form h2
  cases hv2
  subst hn2
  obtain ⟨x0, x1, x2, x3, hr0⟩ := row4x hy (show k < ys.length by omega)
  obtain ⟨y0, y1, y2, y3, hr1⟩ := row4x hy (show k + 1 < ys.length by omega)
  obtain ⟨ad, e, hb, hxx⟩ := hf2 _ _ hr0
  cases e
  have hld0 := fun C h => ldIn (W0 := W0) (s := 4) (enc := enI) hb hxx hr0 rfl (C := C) h
  have hld1 := fun C h => ldIn (W0 := W0) (s := 4) (enc := enI) hb hxx hr1 rfl (C := C) h
  have ew : IntKind.i64.wrap ((k : Nat) + 1 : Int) = ((k + 1 : Nat) : Int) := wsucc' k (by omega)
  have ew2 : IntKind.i64.wrap ((ys.length : Nat) - 2 : Int) = (ys.length : Nat) - 2 := wrap_i64 _ (by omega) (by omega)
  have hin : inB k 0 ((ys.length : Nat) - 2 : Int) = true := by simp [inB]; omega
  have hy' : ∀ x ∈ swL ys k, x.length = 4 := fun x h => hy x (swL_mem hk h)
  have hya' : (swL ys k).all (stOk xs.length) = true := List.all_eq_true.2 fun x h => List.all_eq_true.1 hya x (swL_mem hk h)
  have hsl := swL_len ys k
  have hsw := swL_eq hr0 hr1
  have hq : (efL xs ys).length = 36 := effN_len _ _ (Nat.le_refl _)
  have hq' : (efL xs (swL ys k)).length = 36 := effN_len _ _ (Nat.le_refl _)
  have hc := fun (W : World) (σ : List Blk) K h => d_l11Effects (W0 := W) (σ := σ) (s1 := .lit (.slice (some o1) m1 c1)) (s2 := .lit (.slice (some o2) ys.length c2)) (xs := xs) (ys := ys) (K := K) (h0 := h) (a := a) (b := b) (c := c) (d := d) (e := e) (f := f) (hx := hx) (hy := hy) (hxa := hxa) (hya := hya) (hl2 := hl2)
  have hc' := fun (σ : List Blk) (s1 s2 : AV) q1 q2 K h => d_l11Effects (W0 := W0) (σ := σ) (s1 := s1) (s2 := s2) (xs := xs) (ys := swL ys k) (K := K) (h0 := h) (a := a) (b := b) (c := c) (d := d) (e := e) (f := f) (h1 := q1) (h2 := q2) (hx := hx) (hy := hy') (hxa := hxa) (hya := hya') (hl2 := by omega)
  generalize efL xs ys = q at h0 hq hc
  generalize efL xs (swL ys k) = q' at h0 hq' hc'
  rw [hsw] at hc' hsl hy'
  have hl41 : ∀ x ∈ ys.set k [y0, y1, y2, y3], x.length = 4 := fun x h => by
    rcases List.mem_or_eq_of_mem_set h with h | rfl
    · exact hy x h
    · rfl
  have hr1' : (ys.set k [y0, y1, y2, y3])[k + 1]? = some [y0, y1, y2, y3] := by rw [List.getElem?_set_ne (by omega)]; exact hr1
  have ho0 : 0 + ((k : Nat) : Int).toNat * 4 = k * 4 := by rw [Int.toNat_natCast]; omega
  have ho1 : 0 + ((k + 1 : Nat) : Int).toNat * 4 = (k + 1) * 4 := by rw [Int.toNat_natCast]; omega
  repeat' ((conv => whnf); first
    | (rw [ew])
    | (rw [ew2])
    | (refine And.intro rfl ?_)
    | (refine And.intro (by decide +kernel) ?_)
    | (refine And.intro trivial ?_)
    | (refine fS_mk ?_)
    | (refine d_l11Plan (h1 := sli_up h1) (h2 := sli_up h2) (hx := hx) (hy := hy) (hl := hl) (hl2 := hl2) (h0 := ?_) ..; rw [hg])
    | (refine d_l1In (h0 := ?_) ..)
    | (refine Exists.intro _ (And.intro (fun τ => callW_fn (d_l1In (h0 := And.intro rfl rfl) ..)) ?_))
    | (refine Exists.intro _ (And.intro (callW_fn (d_l1In (h0 := And.intro rfl rfl) ..)) (And.intro trivial ?_)))
    | (refine Exists.intro _ (And.intro (callW_fn (d_l1In (h0 := And.intro rfl rfl) ..)) ?_))
    | (refine Exists.intro _ (And.intro (fun τ _ => callW_fn (d_l1In (h0 := And.intro rfl rfl) ..)) ?_))
    | (refine d_l11Own (h1 := sli_up h1) (h2 := sli_up h2) (h3 := sli_up h2) (n1 := lit_nn) (n2 := lit_nn) (n3 := lit_nn) (hx := hx) (hz := hy) (hl := by omega) (hl2 := by omega) (h0 := fun S b1 w1 z1 b2 w2 z2 e1 e2 g1 g2 hkk => ?_) ..; have k0 := hkk 0 _ rfl; have l1 := getElem?_lt e1; have l2 := getElem?_lt e2; simp only [List.length_cons, List.length_nil] at g1 g2; have hb12 := ne_of_64 e1 e2)
    | (refine And.intro ⟨_, getl, rfl⟩ ?_)
    | (refine And.intro ⟨_, get_ne getl (by omega), rfl⟩ ?_)
    | (refine And.intro ⟨_, getx1 e2, rfl⟩ ?_)
    | (refine And.intro ⟨_, get_set (getx1 e2), rfl⟩ ?_)
    | (refine And.intro ⟨_, getx1 k0, rfl⟩ ?_)
    | (refine And.intro ⟨_, get_ne (getx1 k0) (show b2 ≠ 0 by omega), rfl⟩ ?_)
    | (refine hld1 _ ?_)
    | (refine hld0 _ ?_)
    | (refine st_rowB [y0, y1, y2, y3] (getx1 e2) hy hr0 rfl ho0 ?_)
    | (refine st_rowB [x0, x1, x2, x3] (get_set (getx1 e2)) hl41 hr1' rfl ho1 ?_)
    | (refine Exists.intro _ (And.intro (fun τ => callW_fn (hc _ _ _ (And.intro rfl rfl) (sli_up h1) (sli_up h2))) ?_))
    | (refine Exists.intro _ (And.intro (fun τ => callW_fn (hc' _ _ _ (sli_box (sli_rows hx (get_ne (get_ne (getx1 e1) hb12.symm) hb12.symm))) (sli_box (sli_rowsE hy' (get_set (get_set (getx1 e2))) rfl hsl.symm)) _ (And.intro rfl rfl))) ?_))
    | (rw [litsA_pic, litsA_pic])
    | (rw [eqC36b hq hq'])
    | (refine Exists.intro _ (And.intro getl (And.intro rfl (And.intro rfl (And.intro (Nat.le_of_ble_eq_true rfl) ?_)))); rw [set_last])
    | (refine Exists.intro _ (And.intro getl (And.intro rfl (And.intro (Nat.le_of_ble_eq_true rfl) ?_))))
    | (refine Exists.intro _ (And.intro (get_ne getl (by omega)) (And.intro rfl (And.intro (Nat.le_of_ble_eq_true rfl) ?_))))
    | (refine Exists.intro _ (And.intro (get_ne (get_ne getl (by omega)) (by omega)) (And.intro rfl (And.intro (Nat.le_of_ble_eq_true rfl) ?_))))
    | (refine Exists.intro _ (And.intro (getx1 k0) (And.intro rfl (And.intro (Nat.le_of_ble_eq_true rfl) ?_))))
    | (refine Exists.intro _ (And.intro (get_ne (getx1 k0) (show b2 ≠ 0 by omega)) (And.intro rfl (And.intro (Nat.le_of_ble_eq_true rfl) ?_))))
    | (refine Exists.intro _ (And.intro (get_ne (get_ne (getx1 k0) (show b2 ≠ 0 by omega)) (show b2 ≠ 0 by omega)) (And.intro rfl (And.intro (Nat.le_of_ble_eq_true rfl) ?_))))
    | (refine Exists.intro _ (And.intro rfl (And.intro rfl (And.intro (Nat.le_of_ble_eq_true rfl) ?_))))
    | (refine Exists.intro _ (And.intro rfl (And.intro rfl (And.intro rfl (And.intro (Nat.le_of_ble_eq_true rfl) ?_)))))
    | (refine And.intro (Exists.intro _ (And.intro rfl rfl)) ?_)
    | (exact fun hW => absurd hW (by decide +kernel))
    | (intro hW; (try simp only [Bool.not_true, Bool.not_false, Bool.not_eq_true', Bool.not_eq_false', decide_eq_true_eq, decide_eq_false_iff_not, reduceCtorEq, Bool.true_eq_false, Bool.false_eq_true, mk_size, List.size_toArray, ByteArray.size_append, ByteArray.size_extract, List.length_cons, List.length_nil, ba_get, ba_empty, Int.toNat_natCast] at hW))
    | (refine And.intro (?_ : _ → _) (?_ : _ → _))
    | (refine FinR.drop 0 (Nat.zero_le _) (Closed.zero _) rfl ?_)
    | (refine FinR.keep ?_)
    | (refine And.intro (det3_agg rfl) ?_)
    | (refine fL_mk ?_)
    | (refine And.intro (by (try simp only [mk_size, List.size_toArray, ByteArray.size_append, ByteArray.size_extract, List.length_cons, List.length_nil]); omega) ?_)
    | (refine And.intro (by (try simp only [mk_size, List.size_toArray, ByteArray.size_append, ByteArray.size_extract, List.length_cons, List.length_nil, wrap64_eq]); omega) ?_)
    | fail)
  all_goals first | (exfalso; omega) | (exfalso; simp_all; done) | exact h0 | skip
theorem c_sCanSwap (a b c d e f : Int) (o1 : Addr) (m1 c1 : Nat) (o2 : Addr) (m2 c2 : Nat) (xs ys : List (List Int)) (h1 : Sli W0 [] 6 enI (.lit (.slice (some o1) m1 c1)) xs) (h2 : Sli W0 [] 4 enI (.lit (.slice (some o2) m2 c2)) ys) (hx : ∀ x ∈ xs, x.length = 6) (hy : ∀ x ∈ ys, x.length = 4) (hl : xs.length ≤ 1048576) (hl2 : ys.length ≤ 1048576) (k : Int) (K : Cont) (h0 : K (canR a b c d e f xs ys k) []) : ACall Try.prog W0 34 [PlA a b c d e f (.lit (.slice (some o1) m1 c1)) (.lit (.slice (some o2) m2 c2)), I k] [] K := by
  by_cases hg : planB a b c d e f xs ys = true ∧ 0 ≤ k ∧ k + 2 ≤ ys.length
  · rw [canR, if_pos hg] at h0
    obtain ⟨hg, hk0, hk2⟩ := hg
    obtain ⟨m, rfl⟩ := Int.eq_ofNat_of_zero_le hk0
    rw [show ((m : Nat) : Int).toNat = m from rfl] at h0
    exact c_sSwapT a b c d e f o1 m1 c1 o2 m2 c2 xs ys h1 h2 hx hy hl hl2 m hg (by omega) K h0
  · rw [canR, if_neg hg] at h0
    refine by34 (Nat.le_of_ble_eq_true rfl) ?_
    have hn2 : m2 = ys.length := by cases h2 with | inn ad n cap xs hn hc hm hb hxx => exact hn
    subst hn2
    have ew2 : IntKind.i64.wrap ((ys.length : Nat) - 2 : Int) = (ys.length : Nat) - 2 := wrap_i64 _ (by omega) (by omega)
    cases hp : planB a b c d e f xs ys with
    | false =>
      repeat' ((conv => whnf); first
        | (refine And.intro rfl ?_)
        | (refine And.intro (by decide +kernel) ?_)
        | (refine And.intro trivial ?_)
        | (refine d_l11Plan (h1 := sli_up h1) (h2 := sli_up h2) (hx := hx) (hy := hy) (hl := hl) (hl2 := hl2) (h0 := ?_) ..; rw [hp])
        | (refine Exists.intro _ (And.intro rfl (And.intro rfl (And.intro (Nat.le_of_ble_eq_true rfl) ?_))))
        | (refine Exists.intro _ (And.intro rfl (And.intro rfl (And.intro rfl (And.intro (Nat.le_of_ble_eq_true rfl) ?_)))))
        | (refine And.intro (Exists.intro _ (And.intro rfl rfl)) ?_)
        | (exact fun hW => absurd hW (by decide +kernel))
        | (intro hW; (try simp only [Bool.not_true, Bool.not_false, Bool.not_eq_true', Bool.not_eq_false', decide_eq_true_eq, decide_eq_false_iff_not, reduceCtorEq, Bool.true_eq_false, Bool.false_eq_true, mk_size, List.size_toArray, ByteArray.size_append, ByteArray.size_extract, List.length_cons, List.length_nil, ba_get, ba_empty, Int.toNat_natCast] at hW))
        | (refine And.intro (?_ : _ → _) (?_ : _ → _))
        | (refine FinR.drop 0 (Nat.zero_le _) (Closed.zero _) rfl ?_)
        | (refine FinR.keep ?_)
        | (refine And.intro (det3_agg rfl) ?_)
        | (refine fL_mk ?_)
        | (refine And.intro (by (try simp only [mk_size, List.size_toArray, ByteArray.size_append, ByteArray.size_extract, List.length_cons, List.length_nil]); omega) ?_)
        | (refine And.intro (by (try simp only [mk_size, List.size_toArray, ByteArray.size_append, ByteArray.size_extract, List.length_cons, List.length_nil, wrap64_eq]); omega) ?_)
        | fail)
      all_goals first | exact h0 | (exfalso; omega) | (exfalso; simp_all; done)
    | true =>
      have hk : ¬ (0 ≤ k ∧ k + 2 ≤ ys.length) := fun h => hg ⟨hp, h⟩
      have hin : inB k 0 ((ys.length : Nat) - 2 : Int) = false := by rw [Bool.eq_false_iff]; intro h; simp [inB] at h; omega
      repeat' ((conv => whnf); first
        | (rw [ew2])
        | (refine And.intro rfl ?_)
        | (refine And.intro (by decide +kernel) ?_)
        | (refine And.intro trivial ?_)
        | (refine d_l11Plan (h1 := sli_up h1) (h2 := sli_up h2) (hx := hx) (hy := hy) (hl := hl) (hl2 := hl2) (h0 := ?_) ..; rw [hp])
        | (refine d_l1In (h0 := ?_) ..)
        | (refine Exists.intro _ (And.intro (fun τ => callW_fn (d_l1In (h0 := And.intro rfl rfl) ..)) ?_))
        | (refine Exists.intro _ (And.intro (callW_fn (d_l1In (h0 := And.intro rfl rfl) ..)) (And.intro trivial ?_)))
        | (refine Exists.intro _ (And.intro (callW_fn (d_l1In (h0 := And.intro rfl rfl) ..)) ?_))
        | (refine Exists.intro _ (And.intro (fun τ _ => callW_fn (d_l1In (h0 := And.intro rfl rfl) ..)) ?_))
        | (refine Exists.intro _ (And.intro rfl (And.intro rfl (And.intro (Nat.le_of_ble_eq_true rfl) ?_))))
        | (refine Exists.intro _ (And.intro rfl (And.intro rfl (And.intro rfl (And.intro (Nat.le_of_ble_eq_true rfl) ?_)))))
        | (refine And.intro (Exists.intro _ (And.intro rfl rfl)) ?_)
        | (exact fun hW => absurd hW (by decide +kernel))
        | (intro hW; (try simp only [Bool.not_true, Bool.not_false, Bool.not_eq_true', Bool.not_eq_false', decide_eq_true_eq, decide_eq_false_iff_not, reduceCtorEq, Bool.true_eq_false, Bool.false_eq_true, mk_size, List.size_toArray, ByteArray.size_append, ByteArray.size_extract, List.length_cons, List.length_nil, ba_get, ba_empty, Int.toNat_natCast] at hW))
        | (refine And.intro (?_ : _ → _) (?_ : _ → _))
        | (refine FinR.drop 0 (Nat.zero_le _) (Closed.zero _) rfl ?_)
        | (refine FinR.keep ?_)
        | (refine And.intro (det3_agg rfl) ?_)
        | (refine fL_mk ?_)
        | (refine And.intro (by (try simp only [mk_size, List.size_toArray, ByteArray.size_append, ByteArray.size_extract, List.length_cons, List.length_nil]); omega) ?_)
        | (refine And.intro (by (try simp only [mk_size, List.size_toArray, ByteArray.size_append, ByteArray.size_extract, List.length_cons, List.length_nil, wrap64_eq]); omega) ?_)
        | fail)
      all_goals first | exact h0 | (exfalso; omega) | (exfalso; simp_all; done)
theorem d_sCanSwap (a b c d e f : Int) (s1 s2 : AV) (xs ys : List (List Int)) (h1 : Sli W0 σ 6 enI s1 xs) (h2 : Sli W0 σ 4 enI s2 ys) (n1 : s1 ≠ nilA) (n2 : s2 ≠ nilA) (hx : ∀ x ∈ xs, x.length = 6) (hy : ∀ x ∈ ys, x.length = 4) (hl : xs.length ≤ 1048576) (hl2 : ys.length ≤ 1048576) (k : Int) (K : Cont) (h0 : K (canR a b c d e f xs ys k) σ) : ACall Try.prog W0 34 [PlA a b c d e f s1 s2, I k] σ K :=
  lift_PlN (rest := [I k]) (ι := Unit) (fun _ => canR a b c d e f xs ys k) (fun _ => []) (by kernel_rfl) rfl h1 h2 n1 n2 (fun W1 o1 m1 c1 o2 m2 c2 q1 q2 K hK => c_sCanSwap a b c d e f o1 m1 c1 o2 m2 c2 xs ys q1 q2 hx hy hl hl2 k K (hK ())) K (fun _ => by
    rw [show shB σ.length [] = [] from rfl, List.append_nil, canR_sh]; exact h0)
theorem d_CanSwap (a b c d e f : Int) (s1 s2 : AV) (xs ys : List (List Int)) (h1 : Sli W0 σ 6 enI s1 xs) (h2 : Sli W0 σ 4 enI s2 ys) (hx : ∀ x ∈ xs, x.length = 6) (hy : ∀ x ∈ ys, x.length = 4) (k : Int) (K : Cont) (h0 : K (canR a b c d e f xs ys k) σ) : ACall Try.prog W0 35 [PlA a b c d e f s1 s2, I k] σ K :=
  lift_Pl (rest := [I k]) (ι := Unit) (fun _ => canR a b c d e f xs ys k) (fun _ => []) (by kernel_rfl) rfl h1 h2 (fun W1 v1 v2 q1 q2 K hK => c_CanSwap a b c d e f v1 v2 xs ys q1 q2 hx hy k K (hK ())) K (fun _ => by
    rw [show shB σ.length [] = [] from rfl, List.append_nil, canR_sh]; exact h0)
theorem c_law_CanSwapQ (a b c d e f : Int) (v1 v2 : Value) (xs ys : List (List Int)) (h1 : Sli W0 [] 6 enI (.lit v1) xs) (h2 : Sli W0 [] 4 enI (.lit v2) ys) (hx : ∀ x ∈ xs, x.length = 6) (hy : ∀ x ∈ ys, x.length = 4) (hm : xs.length ≤ maxLen) (hm2 : ys.length ≤ maxLen) (k : Int) (K : Cont) (h0 : K (Bo true) []) : ACall Try.prog W0 9 [PlA a b c d e f (.lit v1) (.lit v2), I k] [] K := by
  have hm' : xs.length ≤ 9223372036854775807 := hm
  have hm2' : ys.length ≤ 9223372036854775807 := hm2
  refine by9 (Nat.le_of_ble_eq_true rfl) ?_
  by_cases hz : (1048576 : Int) - xs.length - ys.length < 0
  · skip
    repeat' ((conv => whnf); first
      | (refine And.intro rfl ?_)
      | (refine And.intro (by decide +kernel) ?_)
      | (refine And.intro trivial ?_)
      | (refine d_szPlan (h1 := sli_up h1) (h2 := sli_up h2) (hl := hm') (hl2 := hm2') (hm := by decide) (h0 := fun h => ?_) (h00 := fun h => ?_) ..)
      | (refine Exists.intro _ (And.intro rfl (And.intro rfl (And.intro (Nat.le_of_ble_eq_true rfl) ?_))))
      | (refine Exists.intro _ (And.intro rfl (And.intro rfl (And.intro rfl (And.intro (Nat.le_of_ble_eq_true rfl) ?_)))))
      | (refine And.intro (Exists.intro _ (And.intro rfl rfl)) ?_)
      | (exact fun hW => absurd hW (by decide +kernel))
      | (intro hW; (try simp only [Bool.not_true, Bool.not_false, Bool.not_eq_true', Bool.not_eq_false', decide_eq_true_eq, decide_eq_false_iff_not, reduceCtorEq, Bool.true_eq_false, Bool.false_eq_true, mk_size, List.size_toArray, ByteArray.size_append, ByteArray.size_extract, List.length_cons, List.length_nil, ba_get, ba_empty, Int.toNat_natCast] at hW))
      | (refine And.intro (?_ : _ → _) (?_ : _ → _))
      | (refine FinR.drop 0 (Nat.zero_le _) (Closed.zero _) rfl ?_)
      | (refine FinR.keep ?_)
      | (refine And.intro (det3_agg rfl) ?_)
      | (refine fL_mk ?_)
      | (refine And.intro (by (try simp only [mk_size, List.size_toArray, ByteArray.size_append, ByteArray.size_extract, List.length_cons, List.length_nil]); omega) ?_)
      | (refine And.intro (by (try simp only [mk_size, List.size_toArray, ByteArray.size_append, ByteArray.size_extract, List.length_cons, List.length_nil, wrap64_eq]); omega) ?_)
      | fail)
    all_goals first | exact h0 | (exfalso; omega) | (exfalso; simp_all; done)
  · have hl : xs.length ≤ 1048576 := by omega
    have hl2 : ys.length ≤ 1048576 := by omega
    obtain ⟨p, q, hat⟩ := canR_form a b c d e f xs ys k
    repeat' ((conv => whnf); first
      | (refine And.intro rfl ?_)
      | (refine And.intro (by decide +kernel) ?_)
      | (refine And.intro trivial ?_)
      | (refine d_szPlan (h1 := sli_up h1) (h2 := sli_up h2) (hl := hm') (hl2 := hm2') (hm := by decide) (h0 := fun h => ?_) (h00 := fun h => absurd h hz) ..)
      | (refine d_toPlan (h1 := sli_up h1) (h2 := sli_up h2) (hx := hx) (hy := hy) (hl := hl) (hl2 := hl2) (h0 := fun A B C => ?_) ..)
      | (refine d_sCanSwap (h1 := sli_rows hx rfl) (h2 := sli_rows hy rfl) (n1 := sl_nn) (n2 := sl_nn) (hx := hx) (hy := hy) (hl := hl) (hl2 := hl2) (h0 := ?_) ..; rw [hat])
      | (refine d_CanSwap (h1 := sli_rows hx rfl) (h2 := sli_rows hy rfl) (hx := hx) (hy := hy) (h0 := ?_) ..; rw [hat])
      | (refine Exists.intro _ (And.intro (callW_fn (d_eqPlan (h1 := sli_rows hx rfl) (h2 := sli_rows hy rfl) (g1 := sli_rows hx rfl) (g2 := sli_rows hy rfl) (hx := hx) (hy := hy) (hl := hl) (hl2 := hl2) (h0 := And.intro rfl rfl) ..)) ?_))
      | (refine Exists.intro _ (And.intro rfl (And.intro rfl (And.intro (Nat.le_of_ble_eq_true rfl) ?_))))
      | (refine Exists.intro _ (And.intro rfl (And.intro rfl (And.intro rfl (And.intro (Nat.le_of_ble_eq_true rfl) ?_)))))
      | (refine And.intro (Exists.intro _ (And.intro rfl rfl)) ?_)
      | (exact fun hW => absurd hW (by decide +kernel))
      | (intro hW; (try simp only [Bool.not_true, Bool.not_false, Bool.not_eq_true', Bool.not_eq_false', decide_eq_true_eq, decide_eq_false_iff_not, reduceCtorEq, Bool.true_eq_false, Bool.false_eq_true, mk_size, List.size_toArray, ByteArray.size_append, ByteArray.size_extract, List.length_cons, List.length_nil, ba_get, ba_empty, Int.toNat_natCast] at hW))
      | (refine And.intro (?_ : _ → _) (?_ : _ → _))
      | (refine FinR.drop 0 (Nat.zero_le _) (Closed.zero _) rfl ?_)
      | (refine FinR.keep ?_)
      | (refine And.intro (det3_agg rfl) ?_)
      | (refine fL_mk ?_)
      | (refine And.intro (by (try simp only [mk_size, List.size_toArray, ByteArray.size_append, ByteArray.size_extract, List.length_cons, List.length_nil]); omega) ?_)
      | (refine And.intro (by (try simp only [mk_size, List.size_toArray, ByteArray.size_append, ByteArray.size_extract, List.length_cons, List.length_nil, wrap64_eq]); omega) ?_)
      | fail)
    all_goals first | exact h0 | (exfalso; omega) | (exfalso; simp_all; done) | skip
theorem c_law_CanSwap (a0 : Int) (ha0 : IntKind.i64.has a0) (a1 : Int) (ha1 : IntKind.i64.has a1) (a2 : Int) (ha2 : IntKind.i64.has a2) (a3 : Int) (ha3 : IntKind.i64.has a3) (a4 : Int) (ha4 : IntKind.i64.has a4) (a5 : Int) (ha5 : IntKind.i64.has a5) (v : Value) (xs : List (List Int)) (sv : Sli W0 [] 6 enI (.lit v) xs) (hv : ∀ x ∈ xs, x.length = 6 ∧ ∀ n ∈ x, IntKind.i64.has n) (mv : xs.length ≤ maxLen) (u : Value) (ys : List (List Int)) (su : Sli W0 [] 4 enI (.lit u) ys) (hu : ∀ x ∈ ys, x.length = 4 ∧ ∀ n ∈ x, IntKind.i64.has n) (mu : ys.length ≤ maxLen) (k : Int) (hk : IntKind.i64.has k) (K : Cont) (h0 : K (Bo true) []) : ACall Try.prog W0 9 [PlA a0 a1 a2 a3 a4 a5 (.lit v) (.lit u), I k] [] K :=
  c_law_CanSwapQ a0 a1 a2 a3 a4 a5 v u xs ys sv su (fun x h => (hv x h).1) (fun x h => (hu x h).1) mv mu k K h0
end Go.Proofs.Ytbmilmnfhdkfjaa
end
