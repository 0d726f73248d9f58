import Derived.Test.YtbmilmnfhdkfjaaZE4
section
/- Contracts: plans by sets: the program's planOf. -/
set_option linter.unusedVariables false
set_option linter.unusedSimpArgs false
set_option maxRecDepth 100000
set_option maxHeartbeats 4000000
namespace Go.Proofs.Ytbmilmnfhdkfjaa
open Go Go.RowKit Go.Proofs.Ytbmilmnfhdkfjaa.Abs
variable {W0 : World} {σ : List Blk}
abbrev nilP : AV := .lit (.pointer none)
structure PX where
  i : Nat
  σ : List Blk
theorem c_planOfG (a b c d e f : Int) (v1 v2 : Value) (xs ys : List (List Int)) (h1 : Sli W0 [] 6 enI (.lit v1) xs) (h2 : Sli W0 [] 4 enI (.lit v2) ys) (hx : ∀ x ∈ xs, x.length = 6) (hy : ∀ x ∈ ys, x.length = 4) (hs : shB6 a b c d e f = true) (hx4 : xs.length ≤ 4) (hy40 : ys.length ≤ 40) (K : Cont)
    (h0 : planB a b c d e f xs ys = true → ∀ σ', PlanSt σ' 2 (stN [a, b, c, d, e, f]) (fsOf xs ys) → K (.tup [.ptr 2 0 0, Bo true]) σ') (h00 : planB a b c d e f xs ys = false → K (.tup [nilP, Bo false]) []) : ACall Try.prog W0 56 [PlA a b c d e f (.lit v1) (.lit v2)] [] K := by
  obtain ⟨n, hn, rfl, rfl, rfl, rfl, rfl, rfl, hst⟩ := st_parts hs
  rw [hst] at h0
  refine by56 (Nat.le_of_ble_eq_true rfl) ?_
  obtain ⟨o1, n1, cap1, hv1, hn1, hc1, hm1, hf1⟩ := sli_form h1
  obtain ⟨o2, n2, cap2, hv2, hn2, hc2, hm2, hf2⟩ := sli_form h2
  cases hv1; cases hv2
  subst hn1; subst hn2
  repeat' ((conv => whnf); first
    | (refine And.intro rfl ?_)
    | (refine And.intro (by decide +kernel) ?_)
    | (refine And.intro trivial ?_)
    | (refine d_setOfN (n := n) (hn := hn) (h0 := ?_) ..)
    | (refine Exists.intro _ (And.intro rfl (And.intro rfl (And.intro (Nat.le_of_ble_eq_true rfl) ?_))))
    | (refine Exists.intro _ (And.intro rfl (And.intro rfl (And.intro rfl (And.intro (Nat.le_of_ble_eq_true rfl) ?_)))))
    | (refine And.intro (Exists.intro _ (And.intro rfl rfl)) ?_)
    | (exact fun hW => absurd hW (by decide +kernel))
    | (intro hW; (try simp only [Bool.not_true, Bool.not_false, Bool.not_eq_true', Bool.not_eq_false', decide_eq_true_eq, decide_eq_false_iff_not, reduceCtorEq, Bool.true_eq_false, Bool.false_eq_true, mk_size, List.size_toArray, ByteArray.size_append, ByteArray.size_extract, List.length_cons, List.length_nil, ba_get, ba_empty, Int.toNat_natCast] at hW))
    | (refine And.intro (?_ : _ → _) (?_ : _ → _))
    | (refine FinR.drop 0 (Nat.zero_le _) (Closed.zero _) rfl ?_)
    | (refine FinR.keep ?_)
    | (refine And.intro (det3_agg rfl) ?_)
    | (refine fL_mk ?_)
    | (refine And.intro (by (try simp only [mk_size, List.size_toArray, ByteArray.size_append, ByteArray.size_extract, List.length_cons, List.length_nil]); omega) ?_)
    | (refine And.intro (by (try simp only [mk_size, List.size_toArray, ByteArray.size_append, ByteArray.size_extract, List.length_cons, List.length_nil, wrap64_eq]); omega) ?_)
    | fail)
  all_goals first | (exfalso; omega) | (exfalso; simp_all; done) | skip
  refine LoopR.live (fun y : Nat × Nat => [(1, .ptr 0 0 0), (4, U n), (6, .sl 1 ((xs.take y.1).map stN).length 0 ((xs.take y.1).map stN).length y.2), (38, .lit (.slice o1 xs.length cap1)), (39, I xs.length), (40, I y.1)]) (fun y => [plBx (rowN n 0 : Nat) (rowN n 1 : Nat) (rowN n 2 : Nat) (rowN n 3 : Nat) (rowN n 4 : Nat) (rowN n 5 : Nat) (.lit (.slice o1 xs.length cap1)) (.lit (.slice o2 ys.length cap2)) 35, stB ((xs.take y.1).map stN)]) (fun y => y.1 ≤ xs.length ∧ (xs.take y.1).all shRow = true) (fun y => xs.length - y.1) (0, 0) ⟨rfl, rfl, rfl, rfl, rfl, rfl, trivial⟩ (.keep rfl) ⟨Nat.zero_le _, rfl⟩ ?_
  rintro ⟨i, cp⟩ ⟨hi, hxa⟩
  dsimp only at hi hxa
  have hml : ((xs.take i).map stN).length = i := by rw [List.length_map, List.length_take, Nat.min_eq_left hi]
  by_cases hlt : i < xs.length
  · obtain ⟨c0, c1, c2, c3, c4, c5, hxi⟩ := row6x hx hlt
    obtain ⟨ad, rfl, hb, hxx⟩ := hf1 i _ hxi
    have hld := fun C h => ldIn (W0 := W0) (s := 6) (enc := enI) hb hxx (k := i) hxi rfl (C := C) h
    cases hrr : shRow [c0, c1, c2, c3, c4, c5] with
    | false =>
      have hr : shB6 c0 c1 c2 c3 c4 c5 = false := hrr
      have h0 := h00 (by simp [planB, all_badG hxi hrr])
      repeat' ((conv => whnf); first
        | (refine And.intro rfl ?_)
        | (refine And.intro (by decide +kernel) ?_)
        | (refine And.intro trivial ?_)
        | (refine hld _ ?_)
        | (refine d_setOfF (hb := hr) (h0 := ?_) ..)
        | (refine Exists.intro _ (And.intro rfl (And.intro rfl (And.intro (Nat.le_of_ble_eq_true rfl) ?_))))
        | (refine Exists.intro _ (And.intro rfl (And.intro rfl (And.intro rfl (And.intro (Nat.le_of_ble_eq_true rfl) ?_)))))
        | (refine And.intro (Exists.intro _ (And.intro rfl rfl)) ?_)
        | (exact fun hW => absurd hW (by decide +kernel))
        | (intro hW; (try simp only [Bool.not_true, Bool.not_false, Bool.not_eq_true', Bool.not_eq_false', decide_eq_true_eq, decide_eq_false_iff_not, reduceCtorEq, Bool.true_eq_false, Bool.false_eq_true, mk_size, List.size_toArray, ByteArray.size_append, ByteArray.size_extract, List.length_cons, List.length_nil, ba_get, ba_empty, Int.toNat_natCast] at hW))
        | (refine And.intro (?_ : _ → _) (?_ : _ → _))
        | (refine FinR.drop 0 (Nat.zero_le _) (Closed.zero _) rfl ?_)
        | (refine FinR.keep ?_)
        | (refine And.intro (det3_agg rfl) ?_)
        | (refine fL_mk ?_)
        | (refine And.intro (by (try simp only [mk_size, List.size_toArray, ByteArray.size_append, ByteArray.size_extract, List.length_cons, List.length_nil]); omega) ?_)
        | (refine And.intro (by (try simp only [mk_size, List.size_toArray, ByteArray.size_append, ByteArray.size_extract, List.length_cons, List.length_nil, wrap64_eq]); omega) ?_)
        | fail)
      all_goals first | (exfalso; omega) | (exfalso; simp_all; done) | exact h0
    | true =>
      have hr : shB6 c0 c1 c2 c3 c4 c5 = true := hrr
      obtain ⟨m, hm, rfl, rfl, rfl, rfl, rfl, rfl, hsm⟩ := st_parts hr
      have hsn : (xs.take (i + 1)).map stN = (xs.take i).map stN ++ [m] := by rw [take_snoc hxi, List.map_append, List.map_cons, hsm]; rfl
      repeat' ((conv => whnf); first
        | (refine And.intro rfl ?_)
        | (refine And.intro (by decide +kernel) ?_)
        | (refine And.intro trivial ?_)
        | (refine hld _ ?_)
        | (refine d_setOfN (n := m) (hn := hm) (h0 := ?_) ..)
        | (refine Exists.intro _ (And.intro rfl (And.intro rfl (And.intro rfl (And.intro rfl (And.intro rfl (And.intro rfl (And.intro (by decide) (And.intro (by simp [List.length_map]) (And.intro rfl (And.intro (by (try dsimp only); unfold maxLen; omega) (And.intro (by (try dsimp only); omega) (fun cap' hcap1 hcap2 => ?_)))))))))))))
        | (refine Exists.intro _ (And.intro rfl (And.intro rfl (And.intro (Nat.le_of_ble_eq_true rfl) ?_))))
        | (refine Exists.intro _ (And.intro rfl (And.intro rfl (And.intro rfl (And.intro (Nat.le_of_ble_eq_true rfl) ?_)))))
        | (refine And.intro (Exists.intro _ (And.intro rfl rfl)) ?_)
        | (exact fun hW => absurd hW (by decide +kernel))
        | (intro hW; (try simp only [Bool.not_true, Bool.not_false, Bool.not_eq_true', Bool.not_eq_false', decide_eq_true_eq, decide_eq_false_iff_not, reduceCtorEq, Bool.true_eq_false, Bool.false_eq_true, mk_size, List.size_toArray, ByteArray.size_append, ByteArray.size_extract, List.length_cons, List.length_nil, ba_get, ba_empty, Int.toNat_natCast] at hW))
        | (refine And.intro (?_ : _ → _) (?_ : _ → _))
        | (refine FinR.drop 0 (Nat.zero_le _) (Closed.zero _) rfl ?_)
        | (refine FinR.keep ?_)
        | (refine And.intro (det3_agg rfl) ?_)
        | (refine fL_mk ?_)
        | (refine And.intro (by (try simp only [mk_size, List.size_toArray, ByteArray.size_append, ByteArray.size_extract, List.length_cons, List.length_nil]); omega) ?_)
        | (refine And.intro (by (try simp only [mk_size, List.size_toArray, ByteArray.size_append, ByteArray.size_extract, List.length_cons, List.length_nil, wrap64_eq]); omega) ?_)
        | fail)
      all_goals first | (exfalso; omega) | (exfalso; simp_all; done) | skip
      refine Again.go (i + 1, _) ⟨rfl, rfl, (by show AV.sl _ _ _ _ _ = AV.sl _ _ _ _ _; rw [hsn, List.length_append]; rfl), rfl, rfl, slI' (wsucc' i (by omega)), trivial⟩ (.drop 2 (Nat.zero_le _) ?_ (closCons rfl (closCons (List.all_eq_true.2 fun v hv => by obtain ⟨w, _, rfl⟩ := List.mem_map.1 hv; rfl) (closNil 2))) rfl) ⟨by dsimp only; omega, by dsimp only; rw [all_takeG hxi, hxa, hrr]; rfl⟩ (by dsimp only; omega)
      dsimp only [stB]
      rw [hsn, List.length_append, List.map_append]; rfl
  · obtain rfl : i = xs.length := by omega
    rw [List.take_length] at hml hxa ⊢
    repeat' ((conv => whnf); first
      | (refine And.intro rfl ?_)
      | (refine And.intro (by decide +kernel) ?_)
      | (refine And.intro trivial ?_)
      | (refine Exists.intro _ (And.intro rfl (And.intro rfl (And.intro (Nat.le_of_ble_eq_true rfl) ?_))))
      | (refine Exists.intro _ (And.intro rfl (And.intro rfl (And.intro rfl (And.intro (Nat.le_of_ble_eq_true rfl) ?_)))))
      | (refine And.intro (Exists.intro _ (And.intro rfl rfl)) ?_)
      | (exact fun hW => absurd hW (by decide +kernel))
      | (intro hW; (try simp only [Bool.not_true, Bool.not_false, Bool.not_eq_true', Bool.not_eq_false', decide_eq_true_eq, decide_eq_false_iff_not, reduceCtorEq, Bool.true_eq_false, Bool.false_eq_true, mk_size, List.size_toArray, ByteArray.size_append, ByteArray.size_extract, List.length_cons, List.length_nil, ba_get, ba_empty, Int.toNat_natCast] at hW))
      | (refine And.intro (?_ : _ → _) (?_ : _ → _))
      | (refine FinR.drop 0 (Nat.zero_le _) (Closed.zero _) rfl ?_)
      | (refine FinR.keep ?_)
      | (refine And.intro (det3_agg rfl) ?_)
      | (refine fL_mk ?_)
      | (refine And.intro (by (try simp only [mk_size, List.size_toArray, ByteArray.size_append, ByteArray.size_extract, List.length_cons, List.length_nil]); omega) ?_)
      | (refine And.intro (by (try simp only [mk_size, List.size_toArray, ByteArray.size_append, ByteArray.size_extract, List.length_cons, List.length_nil, wrap64_eq]); omega) ?_)
      | fail)
    all_goals first | (exfalso; omega) | skip
    refine LoopR.live (fun y : PX => [(6, .sl 1 (xs.map stN).length 0 (xs.map stN).length cp), (11, .ptr 2 0 0), (60, .lit (.slice o2 ys.length cap2)), (61, I ys.length), (62, I y.i)]) (fun y => y.σ) (fun y => y.i ≤ ys.length ∧ y.σ[1]? = some (stB (xs.map stN)) ∧ PlanSt y.σ 2 n ((fsOf xs ys).take y.i) ∧ (ys.take y.i).all (stOk xs.length) = true) (fun y => ys.length - y.i) ⟨0, _⟩ ⟨rfl, rfl, rfl, rfl, rfl, trivial⟩ (.keep rfl) ⟨Nat.zero_le _, rfl, ⟨nilA, rfl, .nil⟩, rfl⟩ ?_
    rintro ⟨j, σ⟩ ⟨hj, h1, hps, hya⟩
    dsimp only at hj h1 hps hya
    by_cases hlt2 : j < ys.length
    · obtain ⟨k, s, x, y, hyj⟩ := row4x hy hlt2
      obtain ⟨ad, rfl, hb, hxx⟩ := hf2 j _ hyj
      have hld := fun C h => ldIn (W0 := W0) (s := 4) (enc := enI) hb hxx (k := j) hyj rfl (C := C) h
      have hmm : (xs.map stN).length ≤ 1048576 := by omega
      cases hok : stOk xs.length [k, s, x, y] with
      | false =>
        have h0 := h00 (by simp [planB, all_badG hyj hok])
        rw [← hml] at hok
        repeat' ((conv => whnf); first
          | (refine Exists.intro _ (And.intro getl (And.intro rfl (And.intro rfl (And.intro (Nat.le_of_ble_eq_true rfl) ?_)))); rw [set_last])
          | (refine And.intro rfl ?_)
          | (refine And.intro (by decide +kernel) ?_)
          | (refine And.intro trivial ?_)
          | (refine fS_mk ?_)
          | (refine hld _ ?_)
          | (refine d_isStep (m := (xs.map stN).length) (hm := hmm) (h0 := ?_) ..)
          | (refine Exists.intro _ (And.intro (fun τ => callW_fn (d_isStep (m := (xs.map stN).length) (hm := hmm) (h0 := And.intro rfl rfl) ..)) ?_))
          | (refine Exists.intro _ (And.intro (callW_fn (d_isStep (m := (xs.map stN).length) (hm := hmm) (h0 := And.intro rfl rfl) ..)) (And.intro trivial ?_)))
          | (refine Exists.intro _ (And.intro (callW_fn (d_isStep (m := (xs.map stN).length) (hm := hmm) (h0 := And.intro rfl rfl) ..)) ?_))
          | (refine Exists.intro _ (And.intro (fun τ _ => callW_fn (d_isStep (m := (xs.map stN).length) (hm := hmm) (h0 := And.intro rfl rfl) ..)) ?_))
          | (refine Exists.intro _ (And.intro getl (And.intro rfl (And.intro (Nat.le_of_ble_eq_true rfl) ?_))))
          | (refine Exists.intro _ (And.intro (getx1 getl) (And.intro rfl (And.intro (Nat.le_of_ble_eq_true rfl) ?_))))
          | (refine Exists.intro _ (And.intro (getx1 (getx1 getl)) (And.intro rfl (And.intro (Nat.le_of_ble_eq_true rfl) ?_))))
          | (refine Exists.intro _ (And.intro (getx1 h1) (And.intro rfl (And.intro (Nat.le_of_ble_eq_true rfl) ?_))))
          | (refine Exists.intro _ (And.intro (getx1 (getx1 h1)) (And.intro rfl (And.intro (Nat.le_of_ble_eq_true rfl) ?_))))
          | (refine Exists.intro _ (And.intro (getx1 (getx1 (getx1 h1))) (And.intro rfl (And.intro (Nat.le_of_ble_eq_true rfl) ?_))))
          | (refine And.intro ⟨_, getl, rfl⟩ ?_)
          | (refine And.intro ⟨_, (getx1 getl), rfl⟩ ?_)
          | (refine And.intro ⟨_, (getx1 (getx1 getl)), rfl⟩ ?_)
          | (refine And.intro ⟨_, (getx1 h1), rfl⟩ ?_)
          | (refine And.intro ⟨_, (getx1 (getx1 h1)), rfl⟩ ?_)
          | (refine And.intro ⟨_, (getx1 (getx1 (getx1 h1))), rfl⟩ ?_)
          | (refine Exists.intro _ (And.intro rfl (And.intro rfl (And.intro (Nat.le_of_ble_eq_true rfl) ?_))))
          | (refine Exists.intro _ (And.intro rfl (And.intro rfl (And.intro rfl (And.intro (Nat.le_of_ble_eq_true rfl) ?_)))))
          | (refine And.intro (Exists.intro _ (And.intro rfl rfl)) ?_)
          | (exact fun hW => absurd hW (by decide +kernel))
          | (intro hW; (try simp only [Bool.not_true, Bool.not_false, Bool.not_eq_true', Bool.not_eq_false', decide_eq_true_eq, decide_eq_false_iff_not, reduceCtorEq, Bool.true_eq_false, Bool.false_eq_true, mk_size, List.size_toArray, ByteArray.size_append, ByteArray.size_extract, List.length_cons, List.length_nil, ba_get, ba_empty, Int.toNat_natCast] at hW))
          | (refine And.intro (?_ : _ → _) (?_ : _ → _))
          | (refine FinR.drop 0 (Nat.zero_le _) (Closed.zero _) rfl ?_)
          | (refine FinR.keep ?_)
          | (refine And.intro (det3_agg rfl) ?_)
          | (refine fL_mk ?_)
          | (refine And.intro (by (try simp only [mk_size, List.size_toArray, ByteArray.size_append, ByteArray.size_extract, List.length_cons, List.length_nil]); omega) ?_)
          | (refine And.intro (by (try simp only [mk_size, List.size_toArray, ByteArray.size_append, ByteArray.size_extract, List.length_cons, List.length_nil, wrap64_eq]); omega) ?_)
          | fail)
        all_goals first | (exfalso; omega) | (exfalso; simp_all; done) | exact h0 | (exfalso; rw [hok] at hW; cases hW; done)
      | true =>
        have hnx : (ys.take (j + 1)).all (stOk xs.length) = true := by rw [all_takeG hyj, hya, hok]; rfl
        have hok2 := hok
        rw [stOk_eq] at hok2
        simp only [Bool.and_eq_true] at hok2
        obtain ⟨⟨hk, hsx⟩, hce⟩ := hok2
        have hk3 := (inB_iff _ _ _).1 hk
        have hs3 := (inB_iff _ _ _).1 hsx
        obtain ⟨u, v, rfl, rfl, hu, hv⟩ : ∃ u v : Nat, x = u ∧ y = v ∧ u < 6 ∧ v < 6 := by
          have := cellB_iff.1 hce
          exact ⟨x.toNat, y.toNat, by omega, by omega, by omega, by omega⟩
        have hxs := xget (xs := xs) (k := s) (by omega)
        have hq : shRow (xs.getD s.toNat []) = true := List.all_eq_true.1 hxa _ (List.mem_of_getElem? hxs)
        have hq6 := hx _ (List.mem_of_getElem? hxs)
        obtain ⟨m, hm, hsm⟩ : ∃ m : Nat, m < 2 ^ 36 ∧ stN (xs.getD s.toNat []) = m := by
          match hz : xs.getD s.toNat [], hq6, hq with
          | [c0, c1, c2, c3, c4, c5], _, hq =>
            obtain ⟨m, hm, _, _, _, _, _, _, hsm⟩ := st_parts hq
            exact ⟨m, hm, hsm⟩
        have hsg : (xs.map stN)[s.toNat]? = some m := by rw [List.getElem?_map, hxs, Option.map_some, hsm]
        have hfs : (fsOf xs ys).take (j + 1) = (fsOf xs ys).take j ++ [(k.toNat, prN m u v)] := by
          refine take_snoc ?_
          rw [fsOf, List.getElem?_map, hyj]
          show some (k.toNat, prN (stN (xs.getD s.toNat [])) u v) = _
          rw [hsm]
        have hpr : ∀ {W : World} {σ : List Blk} (K : Cont), K (U (prN m u v : Nat)) σ → ACall Try.prog W 89 [U m, I (v * 6 + u : Nat)] σ K := by
          intro W σ K hK
          refine d_pressed m (v * 6 + u) hm (by omega) K ?_
          rw [show (v * 6 + u) % 6 = u by omega, show (v * 6 + u) / 6 = v by omega]
          exact hK
        have hget := stB_get hsg (off := 0 + s.toNat * 1) (by omega)
        have hgle : 0 + s.toNat * 1 + 1 ≤ ((xs.map stN).map (fun n : Nat => U n)).length := by rw [List.length_map, List.length_map]; omega
        rw [← hml] at hok hs3
        obtain ⟨st, h2, hst2⟩ := hps.ex
        have hps0 : ∀ k', k.toNat = k' → 1 ≤ k' ∧ k' ≤ 3 := by intro k' e; omega
        obtain ⟨k', rfl, hk1, hk2⟩ : ∃ k' : Nat, k = k' ∧ 1 ≤ k' ∧ k' ≤ 3 := ⟨k.toNat, by omega, by omega, by omega⟩
        rw [Int.toNat_natCast] at hfs
        generalize (fsOf xs ys).take j = fs at hst2 hps hfs
        clear hps0
        cases hst2 with
        | nil =>
          obtain rfl | rfl | rfl : k' = 1 ∨ k' = 2 ∨ k' = 3 := by omega
          · skip
            repeat' ((conv => whnf); first
              | (refine And.intro rfl (Exists.intro (stB (xs.map stN)) (And.intro (getx1 h1) (And.intro rfl (And.intro hgle ?_)))); rw [show (stB (xs.map stN)).cells = (xs.map stN).map (fun n : Nat => U n) from rfl, hget])
              | (refine Exists.intro _ (And.intro getl (And.intro rfl (And.intro rfl (And.intro (Nat.le_of_ble_eq_true rfl) ?_)))); rw [set_last])
              | (refine And.intro rfl ?_)
              | (refine And.intro (by decide +kernel) ?_)
              | (refine And.intro trivial ?_)
              | (refine fS_mk ?_)
              | (refine hld _ ?_)
              | (refine d_isStep (m := (xs.map stN).length) (hm := hmm) (h0 := ?_) ..)
              | (refine Exists.intro _ (And.intro (fun τ => callW_fn (d_isStep (m := (xs.map stN).length) (hm := hmm) (h0 := And.intro rfl rfl) ..)) ?_))
              | (refine Exists.intro _ (And.intro (callW_fn (d_isStep (m := (xs.map stN).length) (hm := hmm) (h0 := And.intro rfl rfl) ..)) (And.intro trivial ?_)))
              | (refine Exists.intro _ (And.intro (callW_fn (d_isStep (m := (xs.map stN).length) (hm := hmm) (h0 := And.intro rfl rfl) ..)) ?_))
              | (refine Exists.intro _ (And.intro (fun τ _ => callW_fn (d_isStep (m := (xs.map stN).length) (hm := hmm) (h0 := And.intro rfl rfl) ..)) ?_))
              | (refine Exists.intro _ (And.intro (fun τ => callW_fn (d_number (hx := by omega) (hy := by omega) (h0 := And.intro rfl rfl) ..)) ?_))
              | (refine Exists.intro _ (And.intro (fun τ => callW_fn (hpr _ (And.intro rfl rfl))) ?_))
              | (refine Exists.intro _ (And.intro getl (And.intro rfl (And.intro (Nat.le_of_ble_eq_true rfl) ?_))))
              | (refine Exists.intro _ (And.intro (getx1 getl) (And.intro rfl (And.intro (Nat.le_of_ble_eq_true rfl) ?_))))
              | (refine Exists.intro _ (And.intro (getx1 (getx1 getl)) (And.intro rfl (And.intro (Nat.le_of_ble_eq_true rfl) ?_))))
              | (refine Exists.intro _ (And.intro (getx1 h1) (And.intro rfl (And.intro (Nat.le_of_ble_eq_true rfl) ?_))))
              | (refine Exists.intro _ (And.intro (getx1 (getx1 h1)) (And.intro rfl (And.intro (Nat.le_of_ble_eq_true rfl) ?_))))
              | (refine Exists.intro _ (And.intro (getx1 (getx1 (getx1 h1))) (And.intro rfl (And.intro (Nat.le_of_ble_eq_true rfl) ?_))))
              | (refine Exists.intro _ (And.intro (getx1 h2) (And.intro rfl (And.intro (Nat.le_of_ble_eq_true rfl) ?_))))
              | (refine Exists.intro _ (And.intro (getx1 (getx1 h2)) (And.intro rfl (And.intro (Nat.le_of_ble_eq_true rfl) ?_))))
              | (refine Exists.intro _ (And.intro (getx1 (getx1 (getx1 h2))) (And.intro rfl (And.intro (Nat.le_of_ble_eq_true rfl) ?_))))
              | (refine And.intro ⟨_, getl, rfl⟩ ?_)
              | (refine And.intro ⟨_, (getx1 getl), rfl⟩ ?_)
              | (refine And.intro ⟨_, (getx1 (getx1 getl)), rfl⟩ ?_)
              | (refine And.intro ⟨_, (getx1 h1), rfl⟩ ?_)
              | (refine And.intro ⟨_, (getx1 (getx1 h1)), rfl⟩ ?_)
              | (refine And.intro ⟨_, (getx1 (getx1 (getx1 h1))), rfl⟩ ?_)
              | (refine And.intro ⟨_, (getx1 h2), rfl⟩ ?_)
              | (refine And.intro ⟨_, (getx1 (getx1 h2)), rfl⟩ ?_)
              | (refine And.intro ⟨_, (getx1 (getx1 (getx1 h2))), rfl⟩ ?_)
              | (refine And.intro ⟨_, (getx1 (getx1 (getx1 (getx1 h2)))), rfl⟩ ?_)
              | (refine Exists.intro _ (And.intro (getx1 (getx1 (getx1 (getx1 h2)))) (And.intro rfl (And.intro rfl (And.intro (Nat.le_of_ble_eq_true rfl) ?_)))))
              | (refine Exists.intro _ (And.intro rfl (And.intro rfl (And.intro (Nat.le_of_ble_eq_true rfl) ?_))))
              | (refine Exists.intro _ (And.intro rfl (And.intro rfl (And.intro rfl (And.intro (Nat.le_of_ble_eq_true rfl) ?_)))))
              | (refine And.intro (Exists.intro _ (And.intro rfl rfl)) ?_)
              | (exact fun hW => absurd hW (by decide +kernel))
              | (intro hW; (try simp only [Bool.not_true, Bool.not_false, Bool.not_eq_true', Bool.not_eq_false', decide_eq_true_eq, decide_eq_false_iff_not, reduceCtorEq, Bool.true_eq_false, Bool.false_eq_true, mk_size, List.size_toArray, ByteArray.size_append, ByteArray.size_extract, List.length_cons, List.length_nil, ba_get, ba_empty, Int.toNat_natCast] at hW))
              | (refine And.intro (?_ : _ → _) (?_ : _ → _))
              | (refine FinR.drop 0 (Nat.zero_le _) (Closed.zero _) rfl ?_)
              | (refine FinR.keep ?_)
              | (refine And.intro (det3_agg rfl) ?_)
              | (refine fL_mk ?_)
              | (refine And.intro (by (try simp only [mk_size, List.size_toArray, ByteArray.size_append, ByteArray.size_extract, List.length_cons, List.length_nil]); omega) ?_)
              | (refine And.intro (by (try simp only [mk_size, List.size_toArray, ByteArray.size_append, ByteArray.size_extract, List.length_cons, List.length_nil, wrap64_eq]); omega) ?_)
              | fail)
            all_goals first | (exfalso; omega) | (exfalso; simp_all; done) | (exfalso; rw [hok] at hW; cases hW; done) | skip
            refine Again.go ⟨j + 1, _⟩ ⟨rfl, rfl, rfl, rfl, slI' (wsucc' j (by omega)), trivial⟩ (.keep rfl) ⟨by dsimp only; omega, get_ne (getx1 (getx1 (getx1 (getx1 h1)))) (by decide), ?_, hnx⟩ (by dsimp only; omega)
            dsimp only
            rw [hfs]
            exact plan_step0 (m := prN m u v) (k := 1) (s := nilA) h2
          · skip
            repeat' ((conv => whnf); first
              | (refine And.intro rfl (Exists.intro (stB (xs.map stN)) (And.intro (getx1 h1) (And.intro rfl (And.intro hgle ?_)))); rw [show (stB (xs.map stN)).cells = (xs.map stN).map (fun n : Nat => U n) from rfl, hget])
              | (refine Exists.intro _ (And.intro getl (And.intro rfl (And.intro rfl (And.intro (Nat.le_of_ble_eq_true rfl) ?_)))); rw [set_last])
              | (refine And.intro rfl ?_)
              | (refine And.intro (by decide +kernel) ?_)
              | (refine And.intro trivial ?_)
              | (refine fS_mk ?_)
              | (refine hld _ ?_)
              | (refine d_isStep (m := (xs.map stN).length) (hm := hmm) (h0 := ?_) ..)
              | (refine Exists.intro _ (And.intro (fun τ => callW_fn (d_isStep (m := (xs.map stN).length) (hm := hmm) (h0 := And.intro rfl rfl) ..)) ?_))
              | (refine Exists.intro _ (And.intro (callW_fn (d_isStep (m := (xs.map stN).length) (hm := hmm) (h0 := And.intro rfl rfl) ..)) (And.intro trivial ?_)))
              | (refine Exists.intro _ (And.intro (callW_fn (d_isStep (m := (xs.map stN).length) (hm := hmm) (h0 := And.intro rfl rfl) ..)) ?_))
              | (refine Exists.intro _ (And.intro (fun τ _ => callW_fn (d_isStep (m := (xs.map stN).length) (hm := hmm) (h0 := And.intro rfl rfl) ..)) ?_))
              | (refine Exists.intro _ (And.intro (fun τ => callW_fn (d_number (hx := by omega) (hy := by omega) (h0 := And.intro rfl rfl) ..)) ?_))
              | (refine Exists.intro _ (And.intro (fun τ => callW_fn (hpr _ (And.intro rfl rfl))) ?_))
              | (refine Exists.intro _ (And.intro getl (And.intro rfl (And.intro (Nat.le_of_ble_eq_true rfl) ?_))))
              | (refine Exists.intro _ (And.intro (getx1 getl) (And.intro rfl (And.intro (Nat.le_of_ble_eq_true rfl) ?_))))
              | (refine Exists.intro _ (And.intro (getx1 (getx1 getl)) (And.intro rfl (And.intro (Nat.le_of_ble_eq_true rfl) ?_))))
              | (refine Exists.intro _ (And.intro (getx1 h1) (And.intro rfl (And.intro (Nat.le_of_ble_eq_true rfl) ?_))))
              | (refine Exists.intro _ (And.intro (getx1 (getx1 h1)) (And.intro rfl (And.intro (Nat.le_of_ble_eq_true rfl) ?_))))
              | (refine Exists.intro _ (And.intro (getx1 (getx1 (getx1 h1))) (And.intro rfl (And.intro (Nat.le_of_ble_eq_true rfl) ?_))))
              | (refine Exists.intro _ (And.intro (getx1 h2) (And.intro rfl (And.intro (Nat.le_of_ble_eq_true rfl) ?_))))
              | (refine Exists.intro _ (And.intro (getx1 (getx1 h2)) (And.intro rfl (And.intro (Nat.le_of_ble_eq_true rfl) ?_))))
              | (refine Exists.intro _ (And.intro (getx1 (getx1 (getx1 h2))) (And.intro rfl (And.intro (Nat.le_of_ble_eq_true rfl) ?_))))
              | (refine And.intro ⟨_, getl, rfl⟩ ?_)
              | (refine And.intro ⟨_, (getx1 getl), rfl⟩ ?_)
              | (refine And.intro ⟨_, (getx1 (getx1 getl)), rfl⟩ ?_)
              | (refine And.intro ⟨_, (getx1 h1), rfl⟩ ?_)
              | (refine And.intro ⟨_, (getx1 (getx1 h1)), rfl⟩ ?_)
              | (refine And.intro ⟨_, (getx1 (getx1 (getx1 h1))), rfl⟩ ?_)
              | (refine And.intro ⟨_, (getx1 h2), rfl⟩ ?_)
              | (refine And.intro ⟨_, (getx1 (getx1 h2)), rfl⟩ ?_)
              | (refine And.intro ⟨_, (getx1 (getx1 (getx1 h2))), rfl⟩ ?_)
              | (refine And.intro ⟨_, (getx1 (getx1 (getx1 (getx1 h2)))), rfl⟩ ?_)
              | (refine Exists.intro _ (And.intro (getx1 (getx1 (getx1 (getx1 h2)))) (And.intro rfl (And.intro rfl (And.intro (Nat.le_of_ble_eq_true rfl) ?_)))))
              | (refine Exists.intro _ (And.intro rfl (And.intro rfl (And.intro (Nat.le_of_ble_eq_true rfl) ?_))))
              | (refine Exists.intro _ (And.intro rfl (And.intro rfl (And.intro rfl (And.intro (Nat.le_of_ble_eq_true rfl) ?_)))))
              | (refine And.intro (Exists.intro _ (And.intro rfl rfl)) ?_)
              | (exact fun hW => absurd hW (by decide +kernel))
              | (intro hW; (try simp only [Bool.not_true, Bool.not_false, Bool.not_eq_true', Bool.not_eq_false', decide_eq_true_eq, decide_eq_false_iff_not, reduceCtorEq, Bool.true_eq_false, Bool.false_eq_true, mk_size, List.size_toArray, ByteArray.size_append, ByteArray.size_extract, List.length_cons, List.length_nil, ba_get, ba_empty, Int.toNat_natCast] at hW))
              | (refine And.intro (?_ : _ → _) (?_ : _ → _))
              | (refine FinR.drop 0 (Nat.zero_le _) (Closed.zero _) rfl ?_)
              | (refine FinR.keep ?_)
              | (refine And.intro (det3_agg rfl) ?_)
              | (refine fL_mk ?_)
              | (refine And.intro (by (try simp only [mk_size, List.size_toArray, ByteArray.size_append, ByteArray.size_extract, List.length_cons, List.length_nil]); omega) ?_)
              | (refine And.intro (by (try simp only [mk_size, List.size_toArray, ByteArray.size_append, ByteArray.size_extract, List.length_cons, List.length_nil, wrap64_eq]); omega) ?_)
              | fail)
            all_goals first | (exfalso; omega) | (exfalso; simp_all; done) | (exfalso; rw [hok] at hW; cases hW; done) | skip
            refine Again.go ⟨j + 1, _⟩ ⟨rfl, rfl, rfl, rfl, slI' (wsucc' j (by omega)), trivial⟩ (.keep rfl) ⟨by dsimp only; omega, get_ne (getx1 (getx1 (getx1 (getx1 h1)))) (by decide), ?_, hnx⟩ (by dsimp only; omega)
            dsimp only
            rw [hfs]
            exact plan_step0 (m := prN m u v) (k := 2) (s := nilA) h2
          · skip
            repeat' ((conv => whnf); first
              | (refine And.intro rfl (Exists.intro (stB (xs.map stN)) (And.intro (getx1 h1) (And.intro rfl (And.intro hgle ?_)))); rw [show (stB (xs.map stN)).cells = (xs.map stN).map (fun n : Nat => U n) from rfl, hget])
              | (refine Exists.intro _ (And.intro getl (And.intro rfl (And.intro rfl (And.intro (Nat.le_of_ble_eq_true rfl) ?_)))); rw [set_last])
              | (refine And.intro rfl ?_)
              | (refine And.intro (by decide +kernel) ?_)
              | (refine And.intro trivial ?_)
              | (refine fS_mk ?_)
              | (refine hld _ ?_)
              | (refine d_isStep (m := (xs.map stN).length) (hm := hmm) (h0 := ?_) ..)
              | (refine Exists.intro _ (And.intro (fun τ => callW_fn (d_isStep (m := (xs.map stN).length) (hm := hmm) (h0 := And.intro rfl rfl) ..)) ?_))
              | (refine Exists.intro _ (And.intro (callW_fn (d_isStep (m := (xs.map stN).length) (hm := hmm) (h0 := And.intro rfl rfl) ..)) (And.intro trivial ?_)))
              | (refine Exists.intro _ (And.intro (callW_fn (d_isStep (m := (xs.map stN).length) (hm := hmm) (h0 := And.intro rfl rfl) ..)) ?_))
              | (refine Exists.intro _ (And.intro (fun τ _ => callW_fn (d_isStep (m := (xs.map stN).length) (hm := hmm) (h0 := And.intro rfl rfl) ..)) ?_))
              | (refine Exists.intro _ (And.intro (fun τ => callW_fn (d_number (hx := by omega) (hy := by omega) (h0 := And.intro rfl rfl) ..)) ?_))
              | (refine Exists.intro _ (And.intro (fun τ => callW_fn (hpr _ (And.intro rfl rfl))) ?_))
              | (refine Exists.intro _ (And.intro getl (And.intro rfl (And.intro (Nat.le_of_ble_eq_true rfl) ?_))))
              | (refine Exists.intro _ (And.intro (getx1 getl) (And.intro rfl (And.intro (Nat.le_of_ble_eq_true rfl) ?_))))
              | (refine Exists.intro _ (And.intro (getx1 (getx1 getl)) (And.intro rfl (And.intro (Nat.le_of_ble_eq_true rfl) ?_))))
              | (refine Exists.intro _ (And.intro (getx1 h1) (And.intro rfl (And.intro (Nat.le_of_ble_eq_true rfl) ?_))))
              | (refine Exists.intro _ (And.intro (getx1 (getx1 h1)) (And.intro rfl (And.intro (Nat.le_of_ble_eq_true rfl) ?_))))
              | (refine Exists.intro _ (And.intro (getx1 (getx1 (getx1 h1))) (And.intro rfl (And.intro (Nat.le_of_ble_eq_true rfl) ?_))))
              | (refine Exists.intro _ (And.intro (getx1 h2) (And.intro rfl (And.intro (Nat.le_of_ble_eq_true rfl) ?_))))
              | (refine Exists.intro _ (And.intro (getx1 (getx1 h2)) (And.intro rfl (And.intro (Nat.le_of_ble_eq_true rfl) ?_))))
              | (refine Exists.intro _ (And.intro (getx1 (getx1 (getx1 h2))) (And.intro rfl (And.intro (Nat.le_of_ble_eq_true rfl) ?_))))
              | (refine And.intro ⟨_, getl, rfl⟩ ?_)
              | (refine And.intro ⟨_, (getx1 getl), rfl⟩ ?_)
              | (refine And.intro ⟨_, (getx1 (getx1 getl)), rfl⟩ ?_)
              | (refine And.intro ⟨_, (getx1 h1), rfl⟩ ?_)
              | (refine And.intro ⟨_, (getx1 (getx1 h1)), rfl⟩ ?_)
              | (refine And.intro ⟨_, (getx1 (getx1 (getx1 h1))), rfl⟩ ?_)
              | (refine And.intro ⟨_, (getx1 h2), rfl⟩ ?_)
              | (refine And.intro ⟨_, (getx1 (getx1 h2)), rfl⟩ ?_)
              | (refine And.intro ⟨_, (getx1 (getx1 (getx1 h2))), rfl⟩ ?_)
              | (refine And.intro ⟨_, (getx1 (getx1 (getx1 (getx1 h2)))), rfl⟩ ?_)
              | (refine Exists.intro _ (And.intro (getx1 (getx1 (getx1 (getx1 h2)))) (And.intro rfl (And.intro rfl (And.intro (Nat.le_of_ble_eq_true rfl) ?_)))))
              | (refine Exists.intro _ (And.intro rfl (And.intro rfl (And.intro (Nat.le_of_ble_eq_true rfl) ?_))))
              | (refine Exists.intro _ (And.intro rfl (And.intro rfl (And.intro rfl (And.intro (Nat.le_of_ble_eq_true rfl) ?_)))))
              | (refine And.intro (Exists.intro _ (And.intro rfl rfl)) ?_)
              | (exact fun hW => absurd hW (by decide +kernel))
              | (intro hW; (try simp only [Bool.not_true, Bool.not_false, Bool.not_eq_true', Bool.not_eq_false', decide_eq_true_eq, decide_eq_false_iff_not, reduceCtorEq, Bool.true_eq_false, Bool.false_eq_true, mk_size, List.size_toArray, ByteArray.size_append, ByteArray.size_extract, List.length_cons, List.length_nil, ba_get, ba_empty, Int.toNat_natCast] at hW))
              | (refine And.intro (?_ : _ → _) (?_ : _ → _))
              | (refine FinR.drop 0 (Nat.zero_le _) (Closed.zero _) rfl ?_)
              | (refine FinR.keep ?_)
              | (refine And.intro (det3_agg rfl) ?_)
              | (refine fL_mk ?_)
              | (refine And.intro (by (try simp only [mk_size, List.size_toArray, ByteArray.size_append, ByteArray.size_extract, List.length_cons, List.length_nil]); omega) ?_)
              | (refine And.intro (by (try simp only [mk_size, List.size_toArray, ByteArray.size_append, ByteArray.size_extract, List.length_cons, List.length_nil, wrap64_eq]); omega) ?_)
              | fail)
            all_goals first | (exfalso; omega) | (exfalso; simp_all; done) | (exfalso; rw [hok] at hW; cases hW; done) | skip
            refine Again.go ⟨j + 1, _⟩ ⟨rfl, rfl, rfl, rfl, slI' (wsucc' j (by omega)), trivial⟩ (.keep rfl) ⟨by dsimp only; omega, get_ne (getx1 (getx1 (getx1 (getx1 h1)))) (by decide), ?_, hnx⟩ (by dsimp only; omega)
            dsimp only
            rw [hfs]
            exact plan_step0 (m := prN m u v) (k := 3) (s := nilA) h2
        | own r ver cap cs fs hr hl hc =>
          have hr2 : r ≠ 2 := ne_e hr h2 (show (101 : Nat) ≠ 87 by decide)
          have hr1 : r ≠ 1 := ne_e hr h1 (show (101 : Nat) ≠ 82 by decide)
          have hfl : fs.length ≤ 40 := by
            have := congrArg List.length hfs
            rw [List.length_append, List.length_take] at this
            have e : ([((k' : Nat), prN m u v)] : List (Nat × Nat)).length = 1 := rfl
            rw [fsOf, List.length_map] at this
            omega
          obtain rfl | rfl | rfl : k' = 1 ∨ k' = 2 ∨ k' = 3 := by omega
          · skip
            repeat' ((conv => whnf); first
              | (refine And.intro rfl (Exists.intro (stB (xs.map stN)) (And.intro (getx1 h1) (And.intro rfl (And.intro hgle ?_)))); rw [show (stB (xs.map stN)).cells = (xs.map stN).map (fun n : Nat => U n) from rfl, hget])
              | (refine Exists.intro _ (And.intro getl (And.intro rfl (And.intro rfl (And.intro (Nat.le_of_ble_eq_true rfl) ?_)))); rw [set_last])
              | (refine Exists.intro _ (And.intro (getx1 (getx1 (getx1 hr))) (And.intro rfl (And.intro rfl (And.intro rfl (And.intro rfl (And.intro rfl (And.intro (by decide) (And.intro (by rw [Nat.mul_one]; exact hl.symm) (And.intro rfl (And.intro (by unfold maxLen; omega) (And.intro (by omega) (fun cap' hcap1 hcap2 => ?_)))))))))))))
              | (refine And.intro rfl ?_)
              | (refine And.intro (by decide +kernel) ?_)
              | (refine And.intro trivial ?_)
              | (refine fS_mk ?_)
              | (refine hld _ ?_)
              | (refine d_isStep (m := (xs.map stN).length) (hm := hmm) (h0 := ?_) ..)
              | (refine Exists.intro _ (And.intro (fun τ => callW_fn (d_isStep (m := (xs.map stN).length) (hm := hmm) (h0 := And.intro rfl rfl) ..)) ?_))
              | (refine Exists.intro _ (And.intro (callW_fn (d_isStep (m := (xs.map stN).length) (hm := hmm) (h0 := And.intro rfl rfl) ..)) (And.intro trivial ?_)))
              | (refine Exists.intro _ (And.intro (callW_fn (d_isStep (m := (xs.map stN).length) (hm := hmm) (h0 := And.intro rfl rfl) ..)) ?_))
              | (refine Exists.intro _ (And.intro (fun τ _ => callW_fn (d_isStep (m := (xs.map stN).length) (hm := hmm) (h0 := And.intro rfl rfl) ..)) ?_))
              | (refine Exists.intro _ (And.intro (fun τ => callW_fn (d_number (hx := by omega) (hy := by omega) (h0 := And.intro rfl rfl) ..)) ?_))
              | (refine Exists.intro _ (And.intro (fun τ => callW_fn (hpr _ (And.intro rfl rfl))) ?_))
              | (refine Exists.intro _ (And.intro getl (And.intro rfl (And.intro (Nat.le_of_ble_eq_true rfl) ?_))))
              | (refine Exists.intro _ (And.intro (getx1 getl) (And.intro rfl (And.intro (Nat.le_of_ble_eq_true rfl) ?_))))
              | (refine Exists.intro _ (And.intro (getx1 (getx1 getl)) (And.intro rfl (And.intro (Nat.le_of_ble_eq_true rfl) ?_))))
              | (refine Exists.intro _ (And.intro (getx1 h1) (And.intro rfl (And.intro (Nat.le_of_ble_eq_true rfl) ?_))))
              | (refine Exists.intro _ (And.intro (getx1 (getx1 h1)) (And.intro rfl (And.intro (Nat.le_of_ble_eq_true rfl) ?_))))
              | (refine Exists.intro _ (And.intro (getx1 (getx1 (getx1 h1))) (And.intro rfl (And.intro (Nat.le_of_ble_eq_true rfl) ?_))))
              | (refine Exists.intro _ (And.intro (getx1 h2) (And.intro rfl (And.intro (Nat.le_of_ble_eq_true rfl) ?_))))
              | (refine Exists.intro _ (And.intro (getx1 (getx1 h2)) (And.intro rfl (And.intro (Nat.le_of_ble_eq_true rfl) ?_))))
              | (refine Exists.intro _ (And.intro (getx1 (getx1 (getx1 h2))) (And.intro rfl (And.intro (Nat.le_of_ble_eq_true rfl) ?_))))
              | (refine And.intro ⟨_, getl, rfl⟩ ?_)
              | (refine And.intro ⟨_, (getx1 getl), rfl⟩ ?_)
              | (refine And.intro ⟨_, (getx1 (getx1 getl)), rfl⟩ ?_)
              | (refine And.intro ⟨_, (getx1 h1), rfl⟩ ?_)
              | (refine And.intro ⟨_, (getx1 (getx1 h1)), rfl⟩ ?_)
              | (refine And.intro ⟨_, (getx1 (getx1 (getx1 h1))), rfl⟩ ?_)
              | (refine And.intro ⟨_, (getx1 h2), rfl⟩ ?_)
              | (refine And.intro ⟨_, (getx1 (getx1 h2)), rfl⟩ ?_)
              | (refine And.intro ⟨_, (getx1 (getx1 (getx1 h2))), rfl⟩ ?_)
              | (refine And.intro ⟨_, (get_ne (getx1 (getx1 (getx1 h2))) hr2), rfl⟩ ?_)
              | (refine Exists.intro _ (And.intro (get_ne (getx1 (getx1 (getx1 h2))) hr2) (And.intro rfl (And.intro rfl (And.intro (Nat.le_of_ble_eq_true rfl) ?_)))))
              | (refine Exists.intro _ (And.intro rfl (And.intro rfl (And.intro (Nat.le_of_ble_eq_true rfl) ?_))))
              | (refine Exists.intro _ (And.intro rfl (And.intro rfl (And.intro rfl (And.intro (Nat.le_of_ble_eq_true rfl) ?_)))))
              | (refine And.intro (Exists.intro _ (And.intro rfl rfl)) ?_)
              | (exact fun hW => absurd hW (by decide +kernel))
              | (intro hW; (try simp only [Bool.not_true, Bool.not_false, Bool.not_eq_true', Bool.not_eq_false', decide_eq_true_eq, decide_eq_false_iff_not, reduceCtorEq, Bool.true_eq_false, Bool.false_eq_true, mk_size, List.size_toArray, ByteArray.size_append, ByteArray.size_extract, List.length_cons, List.length_nil, ba_get, ba_empty, Int.toNat_natCast] at hW))
              | (refine And.intro (?_ : _ → _) (?_ : _ → _))
              | (refine FinR.drop 0 (Nat.zero_le _) (Closed.zero _) rfl ?_)
              | (refine FinR.keep ?_)
              | (refine And.intro (det3_agg rfl) ?_)
              | (refine fL_mk ?_)
              | (refine And.intro (by (try simp only [mk_size, List.size_toArray, ByteArray.size_append, ByteArray.size_extract, List.length_cons, List.length_nil]); omega) ?_)
              | (refine And.intro (by (try simp only [mk_size, List.size_toArray, ByteArray.size_append, ByteArray.size_extract, List.length_cons, List.length_nil, wrap64_eq]); omega) ?_)
              | fail)
            all_goals first | (exfalso; omega) | (exfalso; simp_all; done) | (exfalso; rw [hok] at hW; cases hW; done) | skip
            refine Again.go ⟨j + 1, _⟩ ⟨rfl, rfl, rfl, rfl, slI' (wsucc' j (by omega)), trivial⟩ (.keep rfl) ⟨by dsimp only; omega, get_ne (get_ne (getx1 (getx1 (getx1 h1))) hr1) (by decide), ?_, hnx⟩ (by dsimp only; omega)
            dsimp only
            rw [hfs]
            exact plan_stepS (m := prN m u v) (k := 1) h2 hr hl hc
          · skip
            repeat' ((conv => whnf); first
              | (refine And.intro rfl (Exists.intro (stB (xs.map stN)) (And.intro (getx1 h1) (And.intro rfl (And.intro hgle ?_)))); rw [show (stB (xs.map stN)).cells = (xs.map stN).map (fun n : Nat => U n) from rfl, hget])
              | (refine Exists.intro _ (And.intro getl (And.intro rfl (And.intro rfl (And.intro (Nat.le_of_ble_eq_true rfl) ?_)))); rw [set_last])
              | (refine Exists.intro _ (And.intro (getx1 (getx1 (getx1 hr))) (And.intro rfl (And.intro rfl (And.intro rfl (And.intro rfl (And.intro rfl (And.intro (by decide) (And.intro (by rw [Nat.mul_one]; exact hl.symm) (And.intro rfl (And.intro (by unfold maxLen; omega) (And.intro (by omega) (fun cap' hcap1 hcap2 => ?_)))))))))))))
              | (refine And.intro rfl ?_)
              | (refine And.intro (by decide +kernel) ?_)
              | (refine And.intro trivial ?_)
              | (refine fS_mk ?_)
              | (refine hld _ ?_)
              | (refine d_isStep (m := (xs.map stN).length) (hm := hmm) (h0 := ?_) ..)
              | (refine Exists.intro _ (And.intro (fun τ => callW_fn (d_isStep (m := (xs.map stN).length) (hm := hmm) (h0 := And.intro rfl rfl) ..)) ?_))
              | (refine Exists.intro _ (And.intro (callW_fn (d_isStep (m := (xs.map stN).length) (hm := hmm) (h0 := And.intro rfl rfl) ..)) (And.intro trivial ?_)))
              | (refine Exists.intro _ (And.intro (callW_fn (d_isStep (m := (xs.map stN).length) (hm := hmm) (h0 := And.intro rfl rfl) ..)) ?_))
              | (refine Exists.intro _ (And.intro (fun τ _ => callW_fn (d_isStep (m := (xs.map stN).length) (hm := hmm) (h0 := And.intro rfl rfl) ..)) ?_))
              | (refine Exists.intro _ (And.intro (fun τ => callW_fn (d_number (hx := by omega) (hy := by omega) (h0 := And.intro rfl rfl) ..)) ?_))
              | (refine Exists.intro _ (And.intro (fun τ => callW_fn (hpr _ (And.intro rfl rfl))) ?_))
              | (refine Exists.intro _ (And.intro getl (And.intro rfl (And.intro (Nat.le_of_ble_eq_true rfl) ?_))))
              | (refine Exists.intro _ (And.intro (getx1 getl) (And.intro rfl (And.intro (Nat.le_of_ble_eq_true rfl) ?_))))
              | (refine Exists.intro _ (And.intro (getx1 (getx1 getl)) (And.intro rfl (And.intro (Nat.le_of_ble_eq_true rfl) ?_))))
              | (refine Exists.intro _ (And.intro (getx1 h1) (And.intro rfl (And.intro (Nat.le_of_ble_eq_true rfl) ?_))))
              | (refine Exists.intro _ (And.intro (getx1 (getx1 h1)) (And.intro rfl (And.intro (Nat.le_of_ble_eq_true rfl) ?_))))
              | (refine Exists.intro _ (And.intro (getx1 (getx1 (getx1 h1))) (And.intro rfl (And.intro (Nat.le_of_ble_eq_true rfl) ?_))))
              | (refine Exists.intro _ (And.intro (getx1 h2) (And.intro rfl (And.intro (Nat.le_of_ble_eq_true rfl) ?_))))
              | (refine Exists.intro _ (And.intro (getx1 (getx1 h2)) (And.intro rfl (And.intro (Nat.le_of_ble_eq_true rfl) ?_))))
              | (refine Exists.intro _ (And.intro (getx1 (getx1 (getx1 h2))) (And.intro rfl (And.intro (Nat.le_of_ble_eq_true rfl) ?_))))
              | (refine And.intro ⟨_, getl, rfl⟩ ?_)
              | (refine And.intro ⟨_, (getx1 getl), rfl⟩ ?_)
              | (refine And.intro ⟨_, (getx1 (getx1 getl)), rfl⟩ ?_)
              | (refine And.intro ⟨_, (getx1 h1), rfl⟩ ?_)
              | (refine And.intro ⟨_, (getx1 (getx1 h1)), rfl⟩ ?_)
              | (refine And.intro ⟨_, (getx1 (getx1 (getx1 h1))), rfl⟩ ?_)
              | (refine And.intro ⟨_, (getx1 h2), rfl⟩ ?_)
              | (refine And.intro ⟨_, (getx1 (getx1 h2)), rfl⟩ ?_)
              | (refine And.intro ⟨_, (getx1 (getx1 (getx1 h2))), rfl⟩ ?_)
              | (refine And.intro ⟨_, (get_ne (getx1 (getx1 (getx1 h2))) hr2), rfl⟩ ?_)
              | (refine Exists.intro _ (And.intro (get_ne (getx1 (getx1 (getx1 h2))) hr2) (And.intro rfl (And.intro rfl (And.intro (Nat.le_of_ble_eq_true rfl) ?_)))))
              | (refine Exists.intro _ (And.intro rfl (And.intro rfl (And.intro (Nat.le_of_ble_eq_true rfl) ?_))))
              | (refine Exists.intro _ (And.intro rfl (And.intro rfl (And.intro rfl (And.intro (Nat.le_of_ble_eq_true rfl) ?_)))))
              | (refine And.intro (Exists.intro _ (And.intro rfl rfl)) ?_)
              | (exact fun hW => absurd hW (by decide +kernel))
              | (intro hW; (try simp only [Bool.not_true, Bool.not_false, Bool.not_eq_true', Bool.not_eq_false', decide_eq_true_eq, decide_eq_false_iff_not, reduceCtorEq, Bool.true_eq_false, Bool.false_eq_true, mk_size, List.size_toArray, ByteArray.size_append, ByteArray.size_extract, List.length_cons, List.length_nil, ba_get, ba_empty, Int.toNat_natCast] at hW))
              | (refine And.intro (?_ : _ → _) (?_ : _ → _))
              | (refine FinR.drop 0 (Nat.zero_le _) (Closed.zero _) rfl ?_)
              | (refine FinR.keep ?_)
              | (refine And.intro (det3_agg rfl) ?_)
              | (refine fL_mk ?_)
              | (refine And.intro (by (try simp only [mk_size, List.size_toArray, ByteArray.size_append, ByteArray.size_extract, List.length_cons, List.length_nil]); omega) ?_)
              | (refine And.intro (by (try simp only [mk_size, List.size_toArray, ByteArray.size_append, ByteArray.size_extract, List.length_cons, List.length_nil, wrap64_eq]); omega) ?_)
              | fail)
            all_goals first | (exfalso; omega) | (exfalso; simp_all; done) | (exfalso; rw [hok] at hW; cases hW; done) | skip
            refine Again.go ⟨j + 1, _⟩ ⟨rfl, rfl, rfl, rfl, slI' (wsucc' j (by omega)), trivial⟩ (.keep rfl) ⟨by dsimp only; omega, get_ne (get_ne (getx1 (getx1 (getx1 h1))) hr1) (by decide), ?_, hnx⟩ (by dsimp only; omega)
            dsimp only
            rw [hfs]
            exact plan_stepS (m := prN m u v) (k := 2) h2 hr hl hc
          · skip
            repeat' ((conv => whnf); first
              | (refine And.intro rfl (Exists.intro (stB (xs.map stN)) (And.intro (getx1 h1) (And.intro rfl (And.intro hgle ?_)))); rw [show (stB (xs.map stN)).cells = (xs.map stN).map (fun n : Nat => U n) from rfl, hget])
              | (refine Exists.intro _ (And.intro getl (And.intro rfl (And.intro rfl (And.intro (Nat.le_of_ble_eq_true rfl) ?_)))); rw [set_last])
              | (refine Exists.intro _ (And.intro (getx1 (getx1 (getx1 hr))) (And.intro rfl (And.intro rfl (And.intro rfl (And.intro rfl (And.intro rfl (And.intro (by decide) (And.intro (by rw [Nat.mul_one]; exact hl.symm) (And.intro rfl (And.intro (by unfold maxLen; omega) (And.intro (by omega) (fun cap' hcap1 hcap2 => ?_)))))))))))))
              | (refine And.intro rfl ?_)
              | (refine And.intro (by decide +kernel) ?_)
              | (refine And.intro trivial ?_)
              | (refine fS_mk ?_)
              | (refine hld _ ?_)
              | (refine d_isStep (m := (xs.map stN).length) (hm := hmm) (h0 := ?_) ..)
              | (refine Exists.intro _ (And.intro (fun τ => callW_fn (d_isStep (m := (xs.map stN).length) (hm := hmm) (h0 := And.intro rfl rfl) ..)) ?_))
              | (refine Exists.intro _ (And.intro (callW_fn (d_isStep (m := (xs.map stN).length) (hm := hmm) (h0 := And.intro rfl rfl) ..)) (And.intro trivial ?_)))
              | (refine Exists.intro _ (And.intro (callW_fn (d_isStep (m := (xs.map stN).length) (hm := hmm) (h0 := And.intro rfl rfl) ..)) ?_))
              | (refine Exists.intro _ (And.intro (fun τ _ => callW_fn (d_isStep (m := (xs.map stN).length) (hm := hmm) (h0 := And.intro rfl rfl) ..)) ?_))
              | (refine Exists.intro _ (And.intro (fun τ => callW_fn (d_number (hx := by omega) (hy := by omega) (h0 := And.intro rfl rfl) ..)) ?_))
              | (refine Exists.intro _ (And.intro (fun τ => callW_fn (hpr _ (And.intro rfl rfl))) ?_))
              | (refine Exists.intro _ (And.intro getl (And.intro rfl (And.intro (Nat.le_of_ble_eq_true rfl) ?_))))
              | (refine Exists.intro _ (And.intro (getx1 getl) (And.intro rfl (And.intro (Nat.le_of_ble_eq_true rfl) ?_))))
              | (refine Exists.intro _ (And.intro (getx1 (getx1 getl)) (And.intro rfl (And.intro (Nat.le_of_ble_eq_true rfl) ?_))))
              | (refine Exists.intro _ (And.intro (getx1 h1) (And.intro rfl (And.intro (Nat.le_of_ble_eq_true rfl) ?_))))
              | (refine Exists.intro _ (And.intro (getx1 (getx1 h1)) (And.intro rfl (And.intro (Nat.le_of_ble_eq_true rfl) ?_))))
              | (refine Exists.intro _ (And.intro (getx1 (getx1 (getx1 h1))) (And.intro rfl (And.intro (Nat.le_of_ble_eq_true rfl) ?_))))
              | (refine Exists.intro _ (And.intro (getx1 h2) (And.intro rfl (And.intro (Nat.le_of_ble_eq_true rfl) ?_))))
              | (refine Exists.intro _ (And.intro (getx1 (getx1 h2)) (And.intro rfl (And.intro (Nat.le_of_ble_eq_true rfl) ?_))))
              | (refine Exists.intro _ (And.intro (getx1 (getx1 (getx1 h2))) (And.intro rfl (And.intro (Nat.le_of_ble_eq_true rfl) ?_))))
              | (refine And.intro ⟨_, getl, rfl⟩ ?_)
              | (refine And.intro ⟨_, (getx1 getl), rfl⟩ ?_)
              | (refine And.intro ⟨_, (getx1 (getx1 getl)), rfl⟩ ?_)
              | (refine And.intro ⟨_, (getx1 h1), rfl⟩ ?_)
              | (refine And.intro ⟨_, (getx1 (getx1 h1)), rfl⟩ ?_)
              | (refine And.intro ⟨_, (getx1 (getx1 (getx1 h1))), rfl⟩ ?_)
              | (refine And.intro ⟨_, (getx1 h2), rfl⟩ ?_)
              | (refine And.intro ⟨_, (getx1 (getx1 h2)), rfl⟩ ?_)
              | (refine And.intro ⟨_, (getx1 (getx1 (getx1 h2))), rfl⟩ ?_)
              | (refine And.intro ⟨_, (get_ne (getx1 (getx1 (getx1 h2))) hr2), rfl⟩ ?_)
              | (refine Exists.intro _ (And.intro (get_ne (getx1 (getx1 (getx1 h2))) hr2) (And.intro rfl (And.intro rfl (And.intro (Nat.le_of_ble_eq_true rfl) ?_)))))
              | (refine Exists.intro _ (And.intro rfl (And.intro rfl (And.intro (Nat.le_of_ble_eq_true rfl) ?_))))
              | (refine Exists.intro _ (And.intro rfl (And.intro rfl (And.intro rfl (And.intro (Nat.le_of_ble_eq_true rfl) ?_)))))
              | (refine And.intro (Exists.intro _ (And.intro rfl rfl)) ?_)
              | (exact fun hW => absurd hW (by decide +kernel))
              | (intro hW; (try simp only [Bool.not_true, Bool.not_false, Bool.not_eq_true', Bool.not_eq_false', decide_eq_true_eq, decide_eq_false_iff_not, reduceCtorEq, Bool.true_eq_false, Bool.false_eq_true, mk_size, List.size_toArray, ByteArray.size_append, ByteArray.size_extract, List.length_cons, List.length_nil, ba_get, ba_empty, Int.toNat_natCast] at hW))
              | (refine And.intro (?_ : _ → _) (?_ : _ → _))
              | (refine FinR.drop 0 (Nat.zero_le _) (Closed.zero _) rfl ?_)
              | (refine FinR.keep ?_)
              | (refine And.intro (det3_agg rfl) ?_)
              | (refine fL_mk ?_)
              | (refine And.intro (by (try simp only [mk_size, List.size_toArray, ByteArray.size_append, ByteArray.size_extract, List.length_cons, List.length_nil]); omega) ?_)
              | (refine And.intro (by (try simp only [mk_size, List.size_toArray, ByteArray.size_append, ByteArray.size_extract, List.length_cons, List.length_nil, wrap64_eq]); omega) ?_)
              | fail)
            all_goals first | (exfalso; omega) | (exfalso; simp_all; done) | (exfalso; rw [hok] at hW; cases hW; done) | skip
            refine Again.go ⟨j + 1, _⟩ ⟨rfl, rfl, rfl, rfl, slI' (wsucc' j (by omega)), trivial⟩ (.keep rfl) ⟨by dsimp only; omega, get_ne (get_ne (getx1 (getx1 (getx1 h1))) hr1) (by decide), ?_, hnx⟩ (by dsimp only; omega)
            dsimp only
            rw [hfs]
            exact plan_stepS (m := prN m u v) (k := 3) h2 hr hl hc
    · obtain rfl : j = ys.length := by omega
      have e : (fsOf xs ys).take ys.length = fsOf xs ys := List.take_of_length_le (by rw [fsOf, List.length_map]; exact Nat.le_refl _)
      rw [e] at hps
      rw [List.take_length] at hya
      have h00 := h0 (planB_iff.2 ⟨hs, hx4, hy40, hxa, hya⟩) σ hps
      repeat' ((conv => whnf); first
        | (refine And.intro rfl ?_)
        | (refine And.intro (by decide +kernel) ?_)
        | (refine And.intro trivial ?_)
        | (refine Exists.intro _ (And.intro rfl (And.intro rfl (And.intro (Nat.le_of_ble_eq_true rfl) ?_))))
        | (refine Exists.intro _ (And.intro rfl (And.intro rfl (And.intro rfl (And.intro (Nat.le_of_ble_eq_true rfl) ?_)))))
        | (refine And.intro (Exists.intro _ (And.intro rfl rfl)) ?_)
        | (exact fun hW => absurd hW (by decide +kernel))
        | (intro hW; (try simp only [Bool.not_true, Bool.not_false, Bool.not_eq_true', Bool.not_eq_false', decide_eq_true_eq, decide_eq_false_iff_not, reduceCtorEq, Bool.true_eq_false, Bool.false_eq_true, mk_size, List.size_toArray, ByteArray.size_append, ByteArray.size_extract, List.length_cons, List.length_nil, ba_get, ba_empty, Int.toNat_natCast] at hW))
        | (refine And.intro (?_ : _ → _) (?_ : _ → _))
        | (refine FinR.drop 0 (Nat.zero_le _) (Closed.zero _) rfl ?_)
        | (refine FinR.keep ?_)
        | (refine And.intro (det3_agg rfl) ?_)
        | (refine fL_mk ?_)
        | (refine And.intro (by (try simp only [mk_size, List.size_toArray, ByteArray.size_append, ByteArray.size_extract, List.length_cons, List.length_nil]); omega) ?_)
        | (refine And.intro (by (try simp only [mk_size, List.size_toArray, ByteArray.size_append, ByteArray.size_extract, List.length_cons, List.length_nil, wrap64_eq]); omega) ?_)
        | fail)
      all_goals first | (exfalso; omega) | exact h00
end Go.Proofs.Ytbmilmnfhdkfjaa
end

section
/- Contracts: the program's planOf; IsPlan; plans that the laws make and compare. -/
set_option linter.unusedVariables false
set_option linter.unusedSimpArgs false
set_option maxRecDepth 100000
set_option maxHeartbeats 4000000
namespace Go.Proofs.Ytbmilmnfhdkfjaa
open Go Go.RowKit Go.Proofs.Ytbmilmnfhdkfjaa.Abs
variable {W0 : World} {σ : List Blk}
theorem c_planOf (a b c d e f : Int) (v1 v2 : Value) (xs ys : List (List Int)) (h1 : Sli W0 [] 6 enI (.lit v1) xs) (h2 : Sli W0 [] 4 enI (.lit v2) ys) (hx : ∀ x ∈ xs, x.length = 6) (hy : ∀ x ∈ ys, x.length = 4) (K : Cont)
    (h0 : planB a b c d e f xs ys = true → ∀ σ', PlanSt σ' 2 (stN [a, b, c, d, e, f]) (fsOf xs ys) → K (.tup [.ptr 2 0 0, Bo true]) σ') (h00 : planB a b c d e f xs ys = false → K (.tup [nilP, Bo false]) []) : ACall Try.prog W0 56 [PlA a b c d e f (.lit v1) (.lit v2)] [] K := by
  by_cases hg : shB6 a b c d e f = true ∧ xs.length ≤ 4 ∧ ys.length ≤ 40
  · exact c_planOfG a b c d e f v1 v2 xs ys h1 h2 hx hy hg.1 hg.2.1 hg.2.2 K h0 h00
  · have hpf : planB a b c d e f xs ys = false := by
      rw [Bool.eq_false_iff]; intro h
      have := planB_iff.1 h
      exact hg ⟨this.1, this.2.1, this.2.2.1⟩
    have hnp := h00 hpf
    refine by56 (Nat.le_of_ble_eq_true rfl) ?_
    obtain ⟨o1, n1, cap1, hv1, hn1, hc1, hm1, hf1⟩ := sli_form h1
    obtain ⟨o2, n2, cap2, hv2, hn2, hc2, hm2, hf2⟩ := sli_form h2
    cases hv1; cases hv2
    subst hn1; subst hn2
    cases hs : shB6 a b c d e f with
    | true =>
      obtain ⟨n, hn, rfl, rfl, rfl, rfl, rfl, rfl, hst⟩ := st_parts hs
      have hg2 : 4 < xs.length ∨ 40 < ys.length := by
        by_cases h4 : xs.length ≤ 4
        · right
          by_cases h5 : ys.length ≤ 40
          · exact absurd ⟨hs, h4, h5⟩ hg
          · omega
        · left; omega
      repeat' ((conv => whnf); first
        | (refine And.intro rfl ?_)
        | (refine And.intro (by decide +kernel) ?_)
        | (refine And.intro trivial ?_)
        | (refine d_setOfN (n := n) (hn := hn) (h0 := ?_) ..)
        | (refine Exists.intro _ (And.intro rfl (And.intro rfl (And.intro (Nat.le_of_ble_eq_true rfl) ?_))))
        | (refine Exists.intro _ (And.intro rfl (And.intro rfl (And.intro rfl (And.intro (Nat.le_of_ble_eq_true rfl) ?_)))))
        | (refine And.intro (Exists.intro _ (And.intro rfl rfl)) ?_)
        | (exact fun hW => absurd hW (by decide +kernel))
        | (intro hW; (try simp only [Bool.not_true, Bool.not_false, Bool.not_eq_true', Bool.not_eq_false', decide_eq_true_eq, decide_eq_false_iff_not, reduceCtorEq, Bool.true_eq_false, Bool.false_eq_true, mk_size, List.size_toArray, ByteArray.size_append, ByteArray.size_extract, List.length_cons, List.length_nil, ba_get, ba_empty, Int.toNat_natCast] at hW))
        | (refine And.intro (?_ : _ → _) (?_ : _ → _))
        | (refine FinR.drop 0 (Nat.zero_le _) (Closed.zero _) rfl ?_)
        | (refine FinR.keep ?_)
        | (refine And.intro (det3_agg rfl) ?_)
        | (refine fL_mk ?_)
        | (refine And.intro (by (try simp only [mk_size, List.size_toArray, ByteArray.size_append, ByteArray.size_extract, List.length_cons, List.length_nil]); omega) ?_)
        | (refine And.intro (by (try simp only [mk_size, List.size_toArray, ByteArray.size_append, ByteArray.size_extract, List.length_cons, List.length_nil, wrap64_eq]); omega) ?_)
        | fail)
      all_goals first | (exfalso; omega) | (exfalso; simp_all; done) | exact hnp
    | false =>
      repeat' ((conv => whnf); first
        | (refine And.intro rfl ?_)
        | (refine And.intro (by decide +kernel) ?_)
        | (refine And.intro trivial ?_)
        | (refine d_setOfF (hb := hs) (h0 := ?_) ..)
        | (refine Exists.intro _ (And.intro rfl (And.intro rfl (And.intro (Nat.le_of_ble_eq_true rfl) ?_))))
        | (refine Exists.intro _ (And.intro rfl (And.intro rfl (And.intro rfl (And.intro (Nat.le_of_ble_eq_true rfl) ?_)))))
        | (refine And.intro (Exists.intro _ (And.intro rfl rfl)) ?_)
        | (exact fun hW => absurd hW (by decide +kernel))
        | (intro hW; (try simp only [Bool.not_true, Bool.not_false, Bool.not_eq_true', Bool.not_eq_false', decide_eq_true_eq, decide_eq_false_iff_not, reduceCtorEq, Bool.true_eq_false, Bool.false_eq_true, mk_size, List.size_toArray, ByteArray.size_append, ByteArray.size_extract, List.length_cons, List.length_nil, ba_get, ba_empty, Int.toNat_natCast] at hW))
        | (refine And.intro (?_ : _ → _) (?_ : _ → _))
        | (refine FinR.drop 0 (Nat.zero_le _) (Closed.zero _) rfl ?_)
        | (refine FinR.keep ?_)
        | (refine And.intro (det3_agg rfl) ?_)
        | (refine fL_mk ?_)
        | (refine And.intro (by (try simp only [mk_size, List.size_toArray, ByteArray.size_append, ByteArray.size_extract, List.length_cons, List.length_nil]); omega) ?_)
        | (refine And.intro (by (try simp only [mk_size, List.size_toArray, ByteArray.size_append, ByteArray.size_extract, List.length_cons, List.length_nil, wrap64_eq]); omega) ?_)
        | fail)
      all_goals first | (exfalso; omega) | (exfalso; simp_all; done) | exact hnp
/-! plans moved -/
theorem StepsSt.sh {σ τ : List Blk} {s : AV} {fs : List (Nat × Nat)} (h : StepsSt τ s fs) : StepsSt (σ ++ shB σ.length τ) (sh1 σ.length s) fs := by
  cases h with
  | nil => exact .nil
  | own r ver cap cs fs hr hl hc =>
    refine .own (σ.length + r) ver cap (cs.map (sh1 σ.length)) fs (get_sh hr) (by rw [List.length_map]; exact hl) fun j k m hj => ?_
    obtain ⟨a, b, q1, q2, q3⟩ := hc j k m hj
    refine ⟨σ.length + a, σ.length + b, by rw [List.getElem?_map, q1]; rfl, ?_, get_sh q3⟩
    have := get_sh (σ := σ) q2
    rw [this]
    show some (⟨[sh1 σ.length (doA k)], _, _, _, _, _⟩ : Blk) = _
    have e : sh1 σ.length (doA k) = doA k := by unfold doA; split <;> rfl
    rw [e]
theorem PlanSt.sh {σ τ : List Blk} {p n : Nat} {fs : List (Nat × Nat)} (h : PlanSt τ p n fs) : PlanSt (σ ++ shB σ.length τ) (σ.length + p) n fs := by
  obtain ⟨s, h1, h2⟩ := h.ex
  exact ⟨sh1 σ.length s, get_sh h1, h2.sh⟩
theorem StepsSt.add {σ τ : List Blk} {s : AV} {fs : List (Nat × Nat)} (h : StepsSt σ s fs) : StepsSt (σ ++ τ) s fs := by
  cases h with
  | nil => exact .nil
  | own r ver cap cs fs hr hl hc =>
    exact .own r ver cap cs fs (getx1 hr) hl fun j k m hj => let ⟨a, b, q1, q2, q3⟩ := hc j k m hj; ⟨a, b, q1, getx1 q2, getx1 q3⟩
theorem PlanSt.add {σ τ : List Blk} {p n : Nat} {fs : List (Nat × Nat)} (h : PlanSt σ p n fs) : PlanSt (σ ++ τ) p n fs := by
  obtain ⟨s, h1, h2⟩ := h.ex
  exact ⟨s, getx1 h1, h2.add⟩
theorem d_planOf (a b c d e f : Int) (s1 s2 : AV) (xs ys : List (List Int)) (h1 : Sli W0 σ 6 enI s1 xs) (h2 : Sli W0 σ 4 enI s2 ys) (hx : ∀ x ∈ xs, x.length = 6) (hy : ∀ x ∈ ys, x.length = 4) (K : Cont)
    (h0 : planB a b c d e f xs ys = true → ∀ τ, PlanSt (σ ++ τ) (σ.length + 2) (stN [a, b, c, d, e, f]) (fsOf xs ys) → K (.tup [.ptr (σ.length + 2) 0 0, Bo true]) (σ ++ τ)) (h00 : planB a b c d e f xs ys = false → K (.tup [nilP, Bo false]) σ) : ACall Try.prog W0 56 [PlA a b c d e f s1 s2] σ K := by
  cases hg : planB a b c d e f xs ys with
  | true =>
    exact lift_Pl (rest := []) (ι := { τ : List Blk // PlanSt τ 2 (stN [a, b, c, d, e, f]) (fsOf xs ys) }) (fun _ => .tup [.ptr 2 0 0, Bo true]) (fun τ => τ.1) (by kernel_rfl) rfl h1 h2
      (fun W1 v1 v2 q1 q2 K hK => c_planOf a b c d e f v1 v2 xs ys q1 q2 hx hy K (fun _ σ' hp => hK ⟨σ', hp⟩) (fun hf => by rw [hg] at hf; cases hf)) K (fun τ => h0 hg _ τ.2.sh)
  | false =>
    exact lift_Pl (rest := []) (ι := Unit) (fun _ => .tup [nilP, Bo false]) (fun τ => []) (by kernel_rfl) rfl h1 h2
      (fun W1 v1 v2 q1 q2 K hK => c_planOf a b c d e f v1 v2 xs ys q1 q2 hx hy K (fun hf => by rw [hg] at hf; cases hf) (fun _ => hK ())) K (fun τ => by
        rw [show shB σ.length [] = [] from rfl, List.append_nil]; exact h00 hg)
theorem d_l11Plan (a b c d e f : Int) (s1 s2 : AV) (xs ys : List (List Int)) (h1 : Sli W0 σ 6 enI s1 xs) (h2 : Sli W0 σ 4 enI s2 ys) (hx : ∀ x ∈ xs, x.length = 6) (hy : ∀ x ∈ ys, x.length = 4) (hl : xs.length ≤ 1048576) (hl2 : ys.length ≤ 1048576) (K : Cont) (h0 : K (Bo (planB a b c d e f xs ys)) σ) : ACall Try.prog W0 52 [PlA a b c d e f s1 s2] σ K :=
  lift_Pl (rest := []) (ι := Unit) (fun _ => Bo (planB a b c d e f xs ys)) (fun τ => []) (by kernel_rfl) rfl h1 h2 (fun W1 v1 v2 q1 q2 K hK => c_l11Plan a b c d e f v1 v2 xs ys q1 q2 hx hy hl hl2 K (hK ())) K (fun _ => by
    rw [show shB σ.length [] = [] from rfl, List.append_nil]; exact h0)
/-! the laws' plans -/
abbrev shSB (xs : List (List Int)) : Blk := ⟨jc xs, 0, 31, 6, true, true⟩
abbrev stSB (ys : List (List Int)) : Blk := ⟨jc ys, 0, 54, 4, true, true⟩
theorem c_toPlan (a b c d e f : Int) (v1 v2 : Value) (xs ys : List (List Int)) (h1 : Sli W0 [] 6 enI (.lit v1) xs) (h2 : Sli W0 [] 4 enI (.lit v2) ys) (hx : ∀ x ∈ xs, x.length = 6) (hy : ∀ x ∈ ys, x.length = 4) (hl : xs.length ≤ 1048576) (hl2 : ys.length ≤ 1048576) (K : Cont)
    (h0 : ∀ τ, τ.length = 3 → K (PlA a b c d e f (.sl 3 0 0 xs.length xs.length) (.sl 4 0 0 ys.length ys.length)) (τ ++ [shSB xs, stSB ys])) : ACall Try.prog W0 17 [PlA a b c d e f (.lit v1) (.lit v2)] [] K := by
  refine by17 (Nat.le_of_ble_eq_true rfl) ?_
  repeat' ((conv => whnf); first
    | (refine And.intro rfl ?_)
    | (refine And.intro (by decide +kernel) ?_)
    | (refine And.intro trivial ?_)
    | (refine d_toSheet (h0 := ?_) ..)
    | (refine Exists.intro _ (And.intro (fun τ => callW_fn (d_toSheet (h0 := And.intro rfl rfl) ..)) ?_))
    | (refine Exists.intro _ (And.intro (callW_fn (d_toSheet (h0 := And.intro rfl rfl) ..)) (And.intro trivial ?_)))
    | (refine Exists.intro _ (And.intro (callW_fn (d_toSheet (h0 := And.intro rfl rfl) ..)) ?_))
    | (refine Exists.intro _ (And.intro (fun τ _ => callW_fn (d_toSheet (h0 := And.intro rfl rfl) ..)) ?_))
    | (refine d_toSheetS (hs := sli_up h1) (hx := hx) (hl := hl) (h0 := ?_) ..)
    | (refine d_toStepS (hs := sli_up h2) (hx := hy) (hl := hl2) (h0 := ?_) ..)
    | (refine Exists.intro _ (And.intro rfl (And.intro rfl (And.intro (Nat.le_of_ble_eq_true rfl) ?_))))
    | (refine Exists.intro _ (And.intro rfl (And.intro rfl (And.intro rfl (And.intro (Nat.le_of_ble_eq_true rfl) ?_)))))
    | (refine And.intro (Exists.intro _ (And.intro rfl rfl)) ?_)
    | (exact fun hW => absurd hW (by decide +kernel))
    | (intro hW; (try simp only [Bool.not_true, Bool.not_false, Bool.not_eq_true', Bool.not_eq_false', decide_eq_true_eq, decide_eq_false_iff_not, reduceCtorEq, Bool.true_eq_false, Bool.false_eq_true, mk_size, List.size_toArray, ByteArray.size_append, ByteArray.size_extract, List.length_cons, List.length_nil, ba_get, ba_empty, Int.toNat_natCast] at hW))
    | (refine And.intro (?_ : _ → _) (?_ : _ → _))
    | (refine FinR.drop 0 (Nat.zero_le _) (Closed.zero _) rfl ?_)
    | (refine FinR.keep ?_)
    | (refine And.intro (det3_agg rfl) ?_)
    | (refine fL_mk ?_)
    | (refine And.intro (by (try simp only [mk_size, List.size_toArray, ByteArray.size_append, ByteArray.size_extract, List.length_cons, List.length_nil]); omega) ?_)
    | (refine And.intro (by (try simp only [mk_size, List.size_toArray, ByteArray.size_append, ByteArray.size_extract, List.length_cons, List.length_nil, wrap64_eq]); omega) ?_)
    | fail)
  all_goals exact h0 [_, _, _] rfl
theorem len3 {τ : List Blk} (h : τ.length = 3) : ∃ A B C, τ = [A, B, C] := by
  match τ, h with
  | [A, B, C], _ => exact ⟨A, B, C, rfl⟩
/-- a plan that a law made: new, its slices behind three blocks -/
theorem d_toPlan (a b c d e f : Int) (s1 s2 : AV) (xs ys : List (List Int)) (h1 : Sli W0 σ 6 enI s1 xs) (h2 : Sli W0 σ 4 enI s2 ys) (hx : ∀ x ∈ xs, x.length = 6) (hy : ∀ x ∈ ys, x.length = 4) (hl : xs.length ≤ 1048576) (hl2 : ys.length ≤ 1048576) (K : Cont)
    (h0 : ∀ A B C, K (PlA a b c d e f (.sl (σ.length + 3) 0 0 xs.length xs.length) (.sl (σ.length + 4) 0 0 ys.length ys.length)) (σ ++ [A, B, C, shSB xs, stSB ys])) : ACall Try.prog W0 17 [PlA a b c d e f s1 s2] σ K :=
  lift_Pl (rest := []) (ι := { τ : List Blk // τ.length = 3 }) (fun _ => PlA a b c d e f (.sl 3 0 0 xs.length xs.length) (.sl 4 0 0 ys.length ys.length)) (fun τ => τ.1 ++ [shSB xs, stSB ys]) (by kernel_rfl) rfl h1 h2
    (fun W1 v1 v2 q1 q2 K hK => c_toPlan a b c d e f v1 v2 xs ys q1 q2 hx hy hl hl2 K (fun τ hτ => hK ⟨τ, hτ⟩)) K (fun τ => by
      obtain ⟨τ, hτ⟩ := τ
      obtain ⟨A, B, C, rfl⟩ := len3 hτ
      show K _ (σ ++ [_, _, _, (⟨(jc xs).map (sh1 σ.length), _, _, _, _, _⟩ : Blk), (⟨(jc ys).map (sh1 σ.length), _, _, _, _, _⟩ : Blk)])
      rw [jc_sh, jc_sh]
      exact h0 _ _ _)
theorem c_szPlan (a b c d e f : Int) (v1 v2 : Value) (xs ys : List (List Int)) (m : Int) (h1 : Sli W0 [] 6 enI (.lit v1) xs) (h2 : Sli W0 [] 4 enI (.lit v2) ys) (hl : xs.length ≤ 9223372036854775807) (hl2 : ys.length ≤ 9223372036854775807) (hm : 0 ≤ m ∧ m ≤ 1048576) (K : Cont) (h0 : 0 ≤ m - xs.length - ys.length → K (I (m - xs.length - ys.length)) []) (h00 : m - xs.length - ys.length < 0 → K (I (-1)) []) : ACall Try.prog W0 15 [PlA a b c d e f (.lit v1) (.lit v2), I m] [] K := by
  refine by15 (Nat.le_of_ble_eq_true rfl) ?_
  by_cases hz : m - (xs.length : Nat) < 0
  · have hn := h00 (by omega)
    repeat' ((conv => whnf); first
      | (refine And.intro rfl ?_)
      | (refine And.intro (by decide +kernel) ?_)
      | (refine And.intro trivial ?_)
      | (refine d_szSheetS (ha := sli_up h1) (hl := hl) (hm := hm) (h0 := ?_) ..; rw [if_pos hz])
      | (refine Exists.intro _ (And.intro rfl (And.intro rfl (And.intro (Nat.le_of_ble_eq_true rfl) ?_))))
      | (refine Exists.intro _ (And.intro rfl (And.intro rfl (And.intro rfl (And.intro (Nat.le_of_ble_eq_true rfl) ?_)))))
      | (refine And.intro (Exists.intro _ (And.intro rfl rfl)) ?_)
      | (exact fun hW => absurd hW (by decide +kernel))
      | (intro hW; (try simp only [Bool.not_true, Bool.not_false, Bool.not_eq_true', Bool.not_eq_false', decide_eq_true_eq, decide_eq_false_iff_not, reduceCtorEq, Bool.true_eq_false, Bool.false_eq_true, mk_size, List.size_toArray, ByteArray.size_append, ByteArray.size_extract, List.length_cons, List.length_nil, ba_get, ba_empty, Int.toNat_natCast] at hW))
      | (refine And.intro (?_ : _ → _) (?_ : _ → _))
      | (refine FinR.drop 0 (Nat.zero_le _) (Closed.zero _) rfl ?_)
      | (refine FinR.keep ?_)
      | (refine And.intro (det3_agg rfl) ?_)
      | (refine fL_mk ?_)
      | (refine And.intro (by (try simp only [mk_size, List.size_toArray, ByteArray.size_append, ByteArray.size_extract, List.length_cons, List.length_nil]); omega) ?_)
      | (refine And.intro (by (try simp only [mk_size, List.size_toArray, ByteArray.size_append, ByteArray.size_extract, List.length_cons, List.length_nil, wrap64_eq]); omega) ?_)
      | fail)
    all_goals first | exact hn | (exfalso; omega)
  · by_cases hz2 : m - (xs.length : Nat) - (ys.length : Nat) < 0
    · have hn := h00 hz2
      repeat' ((conv => whnf); first
        | (refine And.intro rfl ?_)
        | (refine And.intro (by decide +kernel) ?_)
        | (refine And.intro trivial ?_)
        | (refine d_szSheetS (ha := sli_up h1) (hl := hl) (hm := hm) (h0 := ?_) ..; rw [if_neg hz])
        | (refine d_szStepS (ha := sli_up h2) (hl := hl2) (hm := by omega) (h0 := ?_) ..; rw [if_pos hz2])
        | (refine Exists.intro _ (And.intro rfl (And.intro rfl (And.intro (Nat.le_of_ble_eq_true rfl) ?_))))
        | (refine Exists.intro _ (And.intro rfl (And.intro rfl (And.intro rfl (And.intro (Nat.le_of_ble_eq_true rfl) ?_)))))
        | (refine And.intro (Exists.intro _ (And.intro rfl rfl)) ?_)
        | (exact fun hW => absurd hW (by decide +kernel))
        | (intro hW; (try simp only [Bool.not_true, Bool.not_false, Bool.not_eq_true', Bool.not_eq_false', decide_eq_true_eq, decide_eq_false_iff_not, reduceCtorEq, Bool.true_eq_false, Bool.false_eq_true, mk_size, List.size_toArray, ByteArray.size_append, ByteArray.size_extract, List.length_cons, List.length_nil, ba_get, ba_empty, Int.toNat_natCast] at hW))
        | (refine And.intro (?_ : _ → _) (?_ : _ → _))
        | (refine FinR.drop 0 (Nat.zero_le _) (Closed.zero _) rfl ?_)
        | (refine FinR.keep ?_)
        | (refine And.intro (det3_agg rfl) ?_)
        | (refine fL_mk ?_)
        | (refine And.intro (by (try simp only [mk_size, List.size_toArray, ByteArray.size_append, ByteArray.size_extract, List.length_cons, List.length_nil]); omega) ?_)
        | (refine And.intro (by (try simp only [mk_size, List.size_toArray, ByteArray.size_append, ByteArray.size_extract, List.length_cons, List.length_nil, wrap64_eq]); omega) ?_)
        | fail)
      all_goals first | exact hn | (exfalso; omega)
    · have hn := h0 (by omega)
      repeat' ((conv => whnf); first
        | (refine And.intro rfl ?_)
        | (refine And.intro (by decide +kernel) ?_)
        | (refine And.intro trivial ?_)
        | (refine d_szSheetS (ha := sli_up h1) (hl := hl) (hm := hm) (h0 := ?_) ..; rw [if_neg hz])
        | (refine d_szStepS (ha := sli_up h2) (hl := hl2) (hm := by omega) (h0 := ?_) ..; rw [if_neg hz2])
        | (refine Exists.intro _ (And.intro rfl (And.intro rfl (And.intro (Nat.le_of_ble_eq_true rfl) ?_))))
        | (refine Exists.intro _ (And.intro rfl (And.intro rfl (And.intro rfl (And.intro (Nat.le_of_ble_eq_true rfl) ?_)))))
        | (refine And.intro (Exists.intro _ (And.intro rfl rfl)) ?_)
        | (exact fun hW => absurd hW (by decide +kernel))
        | (intro hW; (try simp only [Bool.not_true, Bool.not_false, Bool.not_eq_true', Bool.not_eq_false', decide_eq_true_eq, decide_eq_false_iff_not, reduceCtorEq, Bool.true_eq_false, Bool.false_eq_true, mk_size, List.size_toArray, ByteArray.size_append, ByteArray.size_extract, List.length_cons, List.length_nil, ba_get, ba_empty, Int.toNat_natCast] at hW))
        | (refine And.intro (?_ : _ → _) (?_ : _ → _))
        | (refine FinR.drop 0 (Nat.zero_le _) (Closed.zero _) rfl ?_)
        | (refine FinR.keep ?_)
        | (refine And.intro (det3_agg rfl) ?_)
        | (refine fL_mk ?_)
        | (refine And.intro (by (try simp only [mk_size, List.size_toArray, ByteArray.size_append, ByteArray.size_extract, List.length_cons, List.length_nil]); omega) ?_)
        | (refine And.intro (by (try simp only [mk_size, List.size_toArray, ByteArray.size_append, ByteArray.size_extract, List.length_cons, List.length_nil, wrap64_eq]); omega) ?_)
        | fail)
      all_goals first | exact hn | (exfalso; omega)
theorem d_szPlan (a b c d e f : Int) (s1 s2 : AV) (xs ys : List (List Int)) (m : Int) (h1 : Sli W0 σ 6 enI s1 xs) (h2 : Sli W0 σ 4 enI s2 ys) (hl : xs.length ≤ 9223372036854775807) (hl2 : ys.length ≤ 9223372036854775807) (hm : 0 ≤ m ∧ m ≤ 1048576) (K : Cont) (h0 : 0 ≤ m - xs.length - ys.length → K (I (m - xs.length - ys.length)) σ) (h00 : m - xs.length - ys.length < 0 → K (I (-1)) σ) : ACall Try.prog W0 15 [PlA a b c d e f s1 s2, I m] σ K := by
  by_cases hz : m - xs.length - ys.length < 0
  · exact lift_Pl (rest := [I m]) (ι := Unit) (fun _ => I (-1)) (fun _ => []) (by kernel_rfl) rfl h1 h2 (fun W1 v1 v2 q1 q2 K hK => c_szPlan a b c d e f v1 v2 xs ys m q1 q2 hl hl2 hm K (fun h => by omega) (fun _ => hK ())) K (fun _ => by
      rw [show shB σ.length [] = [] from rfl, List.append_nil]; exact h00 hz)
  · exact lift_Pl (rest := [I m]) (ι := Unit) (fun _ => I (m - xs.length - ys.length)) (fun _ => []) (by kernel_rfl) rfl h1 h2 (fun W1 v1 v2 q1 q2 K hK => c_szPlan a b c d e f v1 v2 xs ys m q1 q2 hl hl2 hm K (fun _ => hK ()) (fun h => by omega)) K (fun _ => by
      rw [show shB σ.length [] = [] from rfl, List.append_nil]; exact h0 (by omega))
theorem c_eqPlan (a b c d e f : Int) (v1 v2 u1 u2 : Value) (xs ys : List (List Int)) (h1 : Sli W0 [] 6 enI (.lit v1) xs) (h2 : Sli W0 [] 4 enI (.lit v2) ys) (g1 : Sli W0 [] 6 enI (.lit u1) xs) (g2 : Sli W0 [] 4 enI (.lit u2) ys) (hx : ∀ x ∈ xs, x.length = 6) (hy : ∀ x ∈ ys, x.length = 4) (hl : xs.length ≤ 1048576) (hl2 : ys.length ≤ 1048576) (K : Cont) (h0 : K (Bo true) []) : ACall Try.prog W0 19 [PlA a b c d e f (.lit v1) (.lit v2), PlA a b c d e f (.lit u1) (.lit u2)] [] K := by
  refine by19 (Nat.le_of_ble_eq_true rfl) ?_
  repeat' ((conv => whnf); first
    | (refine And.intro rfl ?_)
    | (refine And.intro (by decide +kernel) ?_)
    | (refine And.intro trivial ?_)
    | (refine d_eqSheet (h0 := ?_) ..)
    | (refine Exists.intro _ (And.intro (fun τ => callW_fn (d_eqSheet (h0 := And.intro rfl rfl) ..)) ?_))
    | (refine Exists.intro _ (And.intro (callW_fn (d_eqSheet (h0 := And.intro rfl rfl) ..)) (And.intro trivial ?_)))
    | (refine Exists.intro _ (And.intro (callW_fn (d_eqSheet (h0 := And.intro rfl rfl) ..)) ?_))
    | (refine Exists.intro _ (And.intro (fun τ _ => callW_fn (d_eqSheet (h0 := And.intro rfl rfl) ..)) ?_))
    | (refine d_eqSheetS (ha := sli_up h1) (hb' := sli_up g1) (hx := hx) (hl := hl) (h0 := ?_) ..)
    | (refine d_eqStepS (ha := sli_up h2) (hb' := sli_up g2) (hx := hy) (hl := hl2) (h0 := ?_) ..)
    | (refine Exists.intro _ (And.intro rfl (And.intro rfl (And.intro (Nat.le_of_ble_eq_true rfl) ?_))))
    | (refine Exists.intro _ (And.intro rfl (And.intro rfl (And.intro rfl (And.intro (Nat.le_of_ble_eq_true rfl) ?_)))))
    | (refine And.intro (Exists.intro _ (And.intro rfl rfl)) ?_)
    | (exact fun hW => absurd hW (by decide +kernel))
    | (intro hW; (try simp only [Bool.not_true, Bool.not_false, Bool.not_eq_true', Bool.not_eq_false', decide_eq_true_eq, decide_eq_false_iff_not, reduceCtorEq, Bool.true_eq_false, Bool.false_eq_true, mk_size, List.size_toArray, ByteArray.size_append, ByteArray.size_extract, List.length_cons, List.length_nil, ba_get, ba_empty, Int.toNat_natCast] at hW))
    | (refine And.intro (?_ : _ → _) (?_ : _ → _))
    | (refine FinR.drop 0 (Nat.zero_le _) (Closed.zero _) rfl ?_)
    | (refine FinR.keep ?_)
    | (refine And.intro (det3_agg rfl) ?_)
    | (refine fL_mk ?_)
    | (refine And.intro (by (try simp only [mk_size, List.size_toArray, ByteArray.size_append, ByteArray.size_extract, List.length_cons, List.length_nil]); omega) ?_)
    | (refine And.intro (by (try simp only [mk_size, List.size_toArray, ByteArray.size_append, ByteArray.size_extract, List.length_cons, List.length_nil, wrap64_eq]); omega) ?_)
    | fail)
  all_goals first | exact h0 | (exfalso; simp_all [eq6]; done)
theorem lift_PlPl {g : FuncId} {a b c d e f a' b' c' d' e' f' : Int} {s1 s2 t1 t2 : AV} {xs ys zs ws : List (List Int)} {r : AV} (hok : callOK Try.prog g = true) (hr : ∀ k, sh3 k r = r) (h1 : Sli W0 σ 6 enI s1 xs) (h2 : Sli W0 σ 4 enI s2 ys) (g1 : Sli W0 σ 6 enI t1 zs) (g2 : Sli W0 σ 4 enI t2 ws)
    (h : ∀ (W1 : World) (v1 v2 u1 u2 : Value), Sli W1 [] 6 enI (.lit v1) xs → Sli W1 [] 4 enI (.lit v2) ys → Sli W1 [] 6 enI (.lit u1) zs → Sli W1 [] 4 enI (.lit u2) ws → ∀ K : Cont, K r [] → ACall Try.prog W1 g [PlA a b c d e f (.lit v1) (.lit v2), PlA a' b' c' d' e' f' (.lit u1) (.lit u2)] [] K) (K : Cont) (h0 : K r σ) : ACall Try.prog W0 g [PlA a b c d e f s1 s2, PlA a' b' c' d' e' f' t1 t2] σ K := by
  refine ACall.frameA (K0 := fun v σ' => v = r ∧ σ' = []) hok (fun W1 ι vs hh hrr => ?_) ?_
  · obtain ⟨v1, vs', rfl, hr1, hr2⟩ := Rels.uncons hrr
    obtain ⟨v2, vs'', rfl, hr3, hr4⟩ := Rels.uncons hr2
    obtain rfl := hr4.nil_inv
    obtain ⟨q1, q2, p1, p2, p3⟩ := plA_conc h1 h2 hh hr1
    obtain ⟨w1, w2, o1, o2, o3⟩ := plA_conc g1 g2 hh hr3
    obtain ⟨u1, rfl⟩ := sli_lit p1
    obtain ⟨u2, rfl⟩ := sli_lit p2
    obtain ⟨u3, rfl⟩ := sli_lit o1
    obtain ⟨u4, rfl⟩ := sli_lit o2
    exact ⟨[_, _], Rels.cons p3 (Rels.cons o3 Rels.nil), h W1 _ _ _ _ p1 p2 o1 o2 _ ⟨rfl, rfl⟩⟩
  · rintro v σ' ⟨rfl, rfl⟩
    have e : σ ++ shB σ.length [] = σ := by simp [shB]
    rw [e, hr]; exact h0
theorem d_eqPlan (a b c d e f : Int) (s1 s2 t1 t2 : AV) (xs ys : List (List Int)) (h1 : Sli W0 σ 6 enI s1 xs) (h2 : Sli W0 σ 4 enI s2 ys) (g1 : Sli W0 σ 6 enI t1 xs) (g2 : Sli W0 σ 4 enI t2 ys) (hx : ∀ x ∈ xs, x.length = 6) (hy : ∀ x ∈ ys, x.length = 4) (hl : xs.length ≤ 1048576) (hl2 : ys.length ≤ 1048576) (K : Cont) (h0 : K (Bo true) σ) : ACall Try.prog W0 19 [PlA a b c d e f s1 s2, PlA a b c d e f t1 t2] σ K :=
  lift_PlPl (by kernel_rfl) (fun _ => rfl) h1 h2 g1 g2 (fun W1 v1 v2 u1 u2 q1 q2 q3 q4 K hK => c_eqPlan a b c d e f v1 v2 u1 u2 xs ys q1 q2 q3 q4 hx hy hl hl2 K hK) K h0
end Go.Proofs.Ytbmilmnfhdkfjaa
end

section
/- Contracts: plans that run. -/
set_option linter.unusedVariables false
set_option linter.unusedSimpArgs false
set_option maxRecDepth 100000
set_option maxHeartbeats 4000000
namespace Go.Proofs.Ytbmilmnfhdkfjaa
open Go Go.RowKit Go.Proofs.Ytbmilmnfhdkfjaa.Abs
variable {W0 : World} {σ : List Blk}
/-- a step by sets; many -/
def stepF (k m n : Nat) : Nat := if k = 1 then n ^^^ m else if k = 2 then n ||| m else n &&& (fullN ^^^ m)
def runN (fs : List (Nat × Nat)) (n : Nat) : Nat := fs.foldl (fun n s => stepF s.1 s.2 n) n
def runL : List (Nat × Nat) → Nat → List Nat
  | [], n => [n]
  | s :: fs, n => n :: runL fs (stepF s.1 s.2 n)
theorem stepF_lt {k m n : Nat} (hm : m < 2 ^ 36) (hn : n < 2 ^ 36) : stepF k m n < 2 ^ 36 := by
  unfold stepF
  split
  · exact Nat.xor_lt_two_pow hn hm
  · split
    · exact Nat.or_lt_two_pow hn hm
    · exact Nat.lt_of_le_of_lt Nat.and_le_left hn
/-- steps that are valid -/
def FsOk (fs : List (Nat × Nat)) : Prop := ∀ s ∈ fs, (1 ≤ s.1 ∧ s.1 ≤ 3) ∧ s.2 < 2 ^ 36
theorem FsOk.take {fs : List (Nat × Nat)} (h : FsOk fs) (i : Nat) : FsOk (fs.take i) := fun s hs => h s (List.mem_of_mem_take hs)
theorem runN_lt : ∀ {fs : List (Nat × Nat)} {n : Nat}, FsOk fs → n < 2 ^ 36 → runN fs n < 2 ^ 36
  | [], n, _, hn => hn
  | s :: fs, n, h, hn => runN_lt (fs := fs) (n := stepF s.1 s.2 n) (fun t ht => h t (List.mem_cons_of_mem _ ht)) (stepF_lt (h s List.mem_cons_self).2 hn)
theorem runN_snoc (fs : List (Nat × Nat)) (k m n : Nat) : runN (fs ++ [(k, m)]) n = stepF k m (runN fs n) := by simp [runN]
theorem runL_len : ∀ (fs : List (Nat × Nat)) (n : Nat), (runL fs n).length = fs.length + 1
  | [], _ => rfl
  | s :: fs, n => by rw [runL, List.length_cons, runL_len fs, List.length_cons]
theorem runL_snoc : ∀ (fs : List (Nat × Nat)) (k m n : Nat), runL (fs ++ [(k, m)]) n = runL fs n ++ [stepF k m (runN fs n)]
  | [], k, m, n => rfl
  | s :: fs, k, m, n => by
    rw [List.cons_append, runL, runL_snoc fs, runL]; rfl
theorem runL_get : ∀ (fs : List (Nat × Nat)) (n : Nat) {i : Nat}, i ≤ fs.length → (runL fs n)[i]? = some (runN (fs.take i) n)
  | [], n, i, h => by
    have : i = 0 := by simpa using h
    subst this; rfl
  | s :: fs, n, 0, h => rfl
  | s :: fs, n, i + 1, h => by
    rw [runL, List.getElem?_cons_succ, runL_get fs _ (by simpa using h)]; rfl
theorem fsOf_ok {xs ys : List (List Int)} (hx : ∀ x ∈ xs, x.length = 6) (hy : ∀ x ∈ ys, x.length = 4) (hxa : xs.all shRow = true) (hya : ys.all (stOk xs.length) = true) : FsOk (fsOf xs ys) := by
  intro s hs
  obtain ⟨r, hr, rfl⟩ := List.mem_map.1 hs
  have h4 := hy r hr
  have hok := List.all_eq_true.1 hya r hr
  match r, h4, hok with
  | [k, t, x, y], _, hok =>
    rw [stOk_eq] at hok
    simp only [Bool.and_eq_true] at hok
    obtain ⟨⟨hk, ht⟩, hc⟩ := hok
    have hk3 := (inB_iff _ _ _).1 hk
    have hc6 := cellB_iff.1 hc
    exact ⟨(show 1 ≤ k.toNat ∧ k.toNat ≤ 3 by omega), prN_lt (show x.toNat < 6 by omega) (show y.toNat < 6 by omega)⟩
theorem fsOf_len (xs ys : List (List Int)) : (fsOf xs ys).length = ys.length := by rw [fsOf, List.length_map]
/-! the program -/
theorem d_clo (a b k m y : Nat) (ha : σ[a]? = some (doB k)) (hb : σ[b]? = some (uB m)) (hk : 1 ≤ k ∧ k ≤ 3) (hm : m < 2 ^ 36) (hy : y < 2 ^ 36) (K : Cont) (h0 : K (U (stepF k m y : Nat)) σ) : ACall Try.prog W0 94 [U y, .ptr a 0 0, .ptr b 0 0] σ K := by
  refine by94 (Nat.le_of_ble_eq_true rfl) ?_
  obtain rfl | rfl | rfl : k = 1 ∨ k = 2 ∨ k = 3 := by omega
  · have h0 : K (U (y ^^^ m : Nat)) σ := h0
    repeat' ((conv => whnf); first
      | (refine And.intro rfl ?_)
      | (refine And.intro (by decide +kernel) ?_)
      | (refine And.intro trivial ?_)
      | (refine Exists.intro _ (And.intro ha (And.intro rfl (And.intro (Nat.le_of_ble_eq_true rfl) ?_))))
      | (refine Exists.intro _ (And.intro hb (And.intro rfl (And.intro (Nat.le_of_ble_eq_true rfl) ?_))))
      | (refine d_toggled (hn := hy) (hm := hm) (h0 := ?_) ..)
      | (refine Exists.intro _ (And.intro rfl (And.intro rfl (And.intro (Nat.le_of_ble_eq_true rfl) ?_))))
      | (refine Exists.intro _ (And.intro rfl (And.intro rfl (And.intro rfl (And.intro (Nat.le_of_ble_eq_true rfl) ?_)))))
      | (refine And.intro (Exists.intro _ (And.intro rfl rfl)) ?_)
      | (exact fun hW => absurd hW (by decide +kernel))
      | (intro hW; (try simp only [Bool.not_true, Bool.not_false, Bool.not_eq_true', Bool.not_eq_false', decide_eq_true_eq, decide_eq_false_iff_not, reduceCtorEq, Bool.true_eq_false, Bool.false_eq_true, mk_size, List.size_toArray, ByteArray.size_append, ByteArray.size_extract, List.length_cons, List.length_nil, ba_get, ba_empty, Int.toNat_natCast] at hW))
      | (refine And.intro (?_ : _ → _) (?_ : _ → _))
      | (refine FinR.drop 0 (Nat.zero_le _) (Closed.zero _) rfl ?_)
      | (refine FinR.keep ?_)
      | (refine And.intro (det3_agg rfl) ?_)
      | (refine fL_mk ?_)
      | (refine And.intro (by (try simp only [mk_size, List.size_toArray, ByteArray.size_append, ByteArray.size_extract, List.length_cons, List.length_nil]); omega) ?_)
      | (refine And.intro (by (try simp only [mk_size, List.size_toArray, ByteArray.size_append, ByteArray.size_extract, List.length_cons, List.length_nil, wrap64_eq]); omega) ?_)
      | fail)
    all_goals first | exact h0 | exact FinR.keep h0
  · have h0 : K (U (y ||| m : Nat)) σ := h0
    repeat' ((conv => whnf); first
      | (refine And.intro rfl ?_)
      | (refine And.intro (by decide +kernel) ?_)
      | (refine And.intro trivial ?_)
      | (refine Exists.intro _ (And.intro ha (And.intro rfl (And.intro (Nat.le_of_ble_eq_true rfl) ?_))))
      | (refine Exists.intro _ (And.intro hb (And.intro rfl (And.intro (Nat.le_of_ble_eq_true rfl) ?_))))
      | (refine d_inked (hn := hy) (hm := hm) (h0 := ?_) ..)
      | (refine Exists.intro _ (And.intro rfl (And.intro rfl (And.intro (Nat.le_of_ble_eq_true rfl) ?_))))
      | (refine Exists.intro _ (And.intro rfl (And.intro rfl (And.intro rfl (And.intro (Nat.le_of_ble_eq_true rfl) ?_)))))
      | (refine And.intro (Exists.intro _ (And.intro rfl rfl)) ?_)
      | (exact fun hW => absurd hW (by decide +kernel))
      | (intro hW; (try simp only [Bool.not_true, Bool.not_false, Bool.not_eq_true', Bool.not_eq_false', decide_eq_true_eq, decide_eq_false_iff_not, reduceCtorEq, Bool.true_eq_false, Bool.false_eq_true, mk_size, List.size_toArray, ByteArray.size_append, ByteArray.size_extract, List.length_cons, List.length_nil, ba_get, ba_empty, Int.toNat_natCast] at hW))
      | (refine And.intro (?_ : _ → _) (?_ : _ → _))
      | (refine FinR.drop 0 (Nat.zero_le _) (Closed.zero _) rfl ?_)
      | (refine FinR.keep ?_)
      | (refine And.intro (det3_agg rfl) ?_)
      | (refine fL_mk ?_)
      | (refine And.intro (by (try simp only [mk_size, List.size_toArray, ByteArray.size_append, ByteArray.size_extract, List.length_cons, List.length_nil]); omega) ?_)
      | (refine And.intro (by (try simp only [mk_size, List.size_toArray, ByteArray.size_append, ByteArray.size_extract, List.length_cons, List.length_nil, wrap64_eq]); omega) ?_)
      | fail)
    all_goals first | exact h0 | exact FinR.keep h0
  · have h0 : K (U (y &&& (fullN ^^^ m) : Nat)) σ := h0
    repeat' ((conv => whnf); first
      | (refine And.intro rfl ?_)
      | (refine And.intro (by decide +kernel) ?_)
      | (refine And.intro trivial ?_)
      | (refine Exists.intro _ (And.intro ha (And.intro rfl (And.intro (Nat.le_of_ble_eq_true rfl) ?_))))
      | (refine Exists.intro _ (And.intro hb (And.intro rfl (And.intro (Nat.le_of_ble_eq_true rfl) ?_))))
      | (refine d_wiped (hn := hy) (hm := hm) (h0 := ?_) ..)
      | (refine Exists.intro _ (And.intro rfl (And.intro rfl (And.intro (Nat.le_of_ble_eq_true rfl) ?_))))
      | (refine Exists.intro _ (And.intro rfl (And.intro rfl (And.intro rfl (And.intro (Nat.le_of_ble_eq_true rfl) ?_)))))
      | (refine And.intro (Exists.intro _ (And.intro rfl rfl)) ?_)
      | (exact fun hW => absurd hW (by decide +kernel))
      | (intro hW; (try simp only [Bool.not_true, Bool.not_false, Bool.not_eq_true', Bool.not_eq_false', decide_eq_true_eq, decide_eq_false_iff_not, reduceCtorEq, Bool.true_eq_false, Bool.false_eq_true, mk_size, List.size_toArray, ByteArray.size_append, ByteArray.size_extract, List.length_cons, List.length_nil, ba_get, ba_empty, Int.toNat_natCast] at hW))
      | (refine And.intro (?_ : _ → _) (?_ : _ → _))
      | (refine FinR.drop 0 (Nat.zero_le _) (Closed.zero _) rfl ?_)
      | (refine FinR.keep ?_)
      | (refine And.intro (det3_agg rfl) ?_)
      | (refine fL_mk ?_)
      | (refine And.intro (by (try simp only [mk_size, List.size_toArray, ByteArray.size_append, ByteArray.size_extract, List.length_cons, List.length_nil]); omega) ?_)
      | (refine And.intro (by (try simp only [mk_size, List.size_toArray, ByteArray.size_append, ByteArray.size_extract, List.length_cons, List.length_nil, wrap64_eq]); omega) ?_)
      | fail)
    all_goals first | exact h0 | exact FinR.keep h0
abbrev ruB (l : List Nat) : Blk := ⟨l.map (fun n : Nat => U n), l.length - 1, 82, 1, true, true⟩
theorem d_run (p n x : Nat) (fs : List (Nat × Nat)) (hp : PlanSt σ p n fs) (hf : FsOk fs) (hl : fs.length ≤ 1048576) (hx : x < 2 ^ 36) (K : Cont) (h0 : ∀ cap, K (.sl σ.length fs.length 0 (fs.length + 1) cap) (σ ++ [ruB (runL fs x)])) : ACall Try.prog W0 61 [.ptr p 0 0, U x] σ K := by
  refine by61 (Nat.le_of_ble_eq_true rfl) ?_
  obtain ⟨s, h1, hs⟩ := hp.ex
  cases hs with
  | nil =>
    have h00 := h0 1
    repeat' ((conv => whnf); first
      | (refine And.intro rfl ?_)
      | (refine And.intro (by decide +kernel) ?_)
      | (refine And.intro trivial ?_)
      | (refine fS_mk ?_)
      | (refine And.intro ⟨_, getx1 h1, rfl⟩ ?_)
      | (refine Exists.intro _ (And.intro (getx1 h1) (And.intro rfl (And.intro (Nat.le_of_ble_eq_true rfl) ?_))))
      | (refine Exists.intro _ (And.intro rfl (And.intro rfl (And.intro (Nat.le_of_ble_eq_true rfl) ?_))))
      | (refine Exists.intro _ (And.intro rfl (And.intro rfl (And.intro rfl (And.intro (Nat.le_of_ble_eq_true rfl) ?_)))))
      | (refine And.intro (Exists.intro _ (And.intro rfl rfl)) ?_)
      | (exact fun hW => absurd hW (by decide +kernel))
      | (intro hW; (try simp only [Bool.not_true, Bool.not_false, Bool.not_eq_true', Bool.not_eq_false', decide_eq_true_eq, decide_eq_false_iff_not, reduceCtorEq, Bool.true_eq_false, Bool.false_eq_true, mk_size, List.size_toArray, ByteArray.size_append, ByteArray.size_extract, List.length_cons, List.length_nil, ba_get, ba_empty, Int.toNat_natCast] at hW))
      | (refine And.intro (?_ : _ → _) (?_ : _ → _))
      | (refine FinR.drop 0 (Nat.zero_le _) (Closed.zero _) rfl ?_)
      | (refine FinR.keep ?_)
      | (refine And.intro (det3_agg rfl) ?_)
      | (refine fL_mk ?_)
      | (refine And.intro (by (try simp only [mk_size, List.size_toArray, ByteArray.size_append, ByteArray.size_extract, List.length_cons, List.length_nil]); omega) ?_)
      | (refine And.intro (by (try simp only [mk_size, List.size_toArray, ByteArray.size_append, ByteArray.size_extract, List.length_cons, List.length_nil, wrap64_eq]); omega) ?_)
      | fail)
    refine LoopR.unroll 1 ?_
    repeat' ((conv => whnf); first
      | (refine And.intro rfl ?_)
      | (refine And.intro (by decide +kernel) ?_)
      | (refine And.intro trivial ?_)
      | (refine Exists.intro _ (And.intro rfl (And.intro rfl (And.intro (Nat.le_of_ble_eq_true rfl) ?_))))
      | (refine Exists.intro _ (And.intro rfl (And.intro rfl (And.intro rfl (And.intro (Nat.le_of_ble_eq_true rfl) ?_)))))
      | (refine And.intro (Exists.intro _ (And.intro rfl rfl)) ?_)
      | (exact fun hW => absurd hW (by decide +kernel))
      | (intro hW; (try simp only [Bool.not_true, Bool.not_false, Bool.not_eq_true', Bool.not_eq_false', decide_eq_true_eq, decide_eq_false_iff_not, reduceCtorEq, Bool.true_eq_false, Bool.false_eq_true, mk_size, List.size_toArray, ByteArray.size_append, ByteArray.size_extract, List.length_cons, List.length_nil, ba_get, ba_empty, Int.toNat_natCast] at hW))
      | (refine And.intro (?_ : _ → _) (?_ : _ → _))
      | (refine FinR.drop 0 (Nat.zero_le _) (Closed.zero _) rfl ?_)
      | (refine FinR.keep ?_)
      | (refine And.intro (det3_agg rfl) ?_)
      | (refine fL_mk ?_)
      | (refine And.intro (by (try simp only [mk_size, List.size_toArray, ByteArray.size_append, ByteArray.size_extract, List.length_cons, List.length_nil]); omega) ?_)
      | (refine And.intro (by (try simp only [mk_size, List.size_toArray, ByteArray.size_append, ByteArray.size_extract, List.length_cons, List.length_nil, wrap64_eq]); omega) ?_)
      | fail)
    all_goals first | (exfalso; omega) | exact h00 | exact FinR.keep h00
  | own r ver cap cs fs hr hlc hc =>
    repeat' ((conv => whnf); first
      | (refine And.intro rfl ?_)
      | (refine And.intro (by decide +kernel) ?_)
      | (refine And.intro trivial ?_)
      | (refine fS_mk ?_)
      | (refine And.intro ⟨_, getx1 h1, rfl⟩ ?_)
      | (refine And.intro ⟨_, getx1 hr, rfl⟩ ?_)
      | (refine Exists.intro _ (And.intro (getx1 h1) (And.intro rfl (And.intro (Nat.le_of_ble_eq_true rfl) ?_))))
      | (refine Exists.intro _ (And.intro rfl (And.intro rfl (And.intro (Nat.le_of_ble_eq_true rfl) ?_))))
      | (refine Exists.intro _ (And.intro rfl (And.intro rfl (And.intro rfl (And.intro (Nat.le_of_ble_eq_true rfl) ?_)))))
      | (refine And.intro (Exists.intro _ (And.intro rfl rfl)) ?_)
      | (exact fun hW => absurd hW (by decide +kernel))
      | (intro hW; (try simp only [Bool.not_true, Bool.not_false, Bool.not_eq_true', Bool.not_eq_false', decide_eq_true_eq, decide_eq_false_iff_not, reduceCtorEq, Bool.true_eq_false, Bool.false_eq_true, mk_size, List.size_toArray, ByteArray.size_append, ByteArray.size_extract, List.length_cons, List.length_nil, ba_get, ba_empty, Int.toNat_natCast] at hW))
      | (refine And.intro (?_ : _ → _) (?_ : _ → _))
      | (refine FinR.drop 0 (Nat.zero_le _) (Closed.zero _) rfl ?_)
      | (refine FinR.keep ?_)
      | (refine And.intro (det3_agg rfl) ?_)
      | (refine fL_mk ?_)
      | (refine And.intro (by (try simp only [mk_size, List.size_toArray, ByteArray.size_append, ByteArray.size_extract, List.length_cons, List.length_nil]); omega) ?_)
      | (refine And.intro (by (try simp only [mk_size, List.size_toArray, ByteArray.size_append, ByteArray.size_extract, List.length_cons, List.length_nil, wrap64_eq]); omega) ?_)
      | fail)
    refine LoopR.live (fun y : Nat × Nat => [(1, U (runN (fs.take y.1) x : Nat)), (5, .sl σ.length y.1 0 (y.1 + 1) y.2), (13, .sl r ver 0 fs.length cap), (14, I fs.length), (15, I y.1)]) (fun y => σ ++ [ruB (runL (fs.take y.1) x)]) (fun y => y.1 ≤ fs.length) (fun y => fs.length - y.1) (0, 1) ⟨rfl, rfl, rfl, rfl, rfl, trivial⟩ (.keep rfl) (Nat.zero_le _) ?_
    rintro ⟨i, cp⟩ hi
    dsimp only at hi
    have hrl : (runL (fs.take i) x).length = i + 1 := by rw [runL_len, List.length_take, Nat.min_eq_left hi]
    have hrn : runN (fs.take i) x < 2 ^ 36 := runN_lt (hf.take i) hx
    by_cases hlt : i < fs.length
    · obtain ⟨k, m, hkm⟩ : ∃ k m, fs[i]? = some (k, m) := ⟨fs[i].1, fs[i].2, List.getElem?_eq_getElem hlt⟩
      obtain ⟨a, b, q1, q2, q3⟩ := hc i k m hkm
      have hkk := hf (k, m) (List.mem_of_getElem? hkm)
      have hsn : fs.take (i + 1) = fs.take i ++ [(k, m)] := take_snoc hkm
      have hce : ∀ off, off = i → mkAV false ((cs.drop off).take 1) = cloA a b := fun off ho => by
        subst ho
        rw [List.drop_eq_getElem_cons (getElem?_lt q1), (List.getElem?_eq_some_iff.1 q1).2]; rfl
      have hle : ∀ off, off = i → off + 1 ≤ cs.length := fun off ho => by have := getElem?_lt q1; omega
      have hml : (i + 1) * 1 = ((runL (fs.take i) x).map (fun n : Nat => U n)).length := by rw [List.length_map, hrl]; omega
      have hver : (runL (fs.take i) x).length - 1 = i := by omega
      repeat' ((conv => whnf); first
        | (refine Exists.intro _ (And.intro (getx1 hr) (And.intro rfl (And.intro (hle _ (by rw [Int.toNat_natCast]; omega)) ?_))); rw [hce _ (by rw [Int.toNat_natCast]; omega)])
        | (refine Exists.intro _ (And.intro getl (And.intro hver (And.intro rfl (And.intro rfl (And.intro rfl (And.intro rfl (And.intro (by decide) (And.intro hml (And.intro rfl (And.intro (by dsimp only; unfold maxLen; omega) (And.intro (by dsimp only; omega) (fun cap' hcap1 hcap2 => ?_)))))))))))); rw [set_last])
        | (refine And.intro rfl ?_)
        | (refine And.intro (by decide +kernel) ?_)
        | (refine And.intro trivial ?_)
        | (refine And.intro ⟨_, getx1 hr, rfl⟩ ?_)
        | (refine d_clo (ha := getx1 q2) (hb := getx1 q3) (hk := hkk.1) (hm := hkk.2) (hy := hrn) (h0 := ?_) ..)
        | (refine Exists.intro _ (And.intro rfl (And.intro rfl (And.intro (Nat.le_of_ble_eq_true rfl) ?_))))
        | (refine Exists.intro _ (And.intro rfl (And.intro rfl (And.intro rfl (And.intro (Nat.le_of_ble_eq_true rfl) ?_)))))
        | (refine And.intro (Exists.intro _ (And.intro rfl rfl)) ?_)
        | (exact fun hW => absurd hW (by decide +kernel))
        | (intro hW; (try simp only [Bool.not_true, Bool.not_false, Bool.not_eq_true', Bool.not_eq_false', decide_eq_true_eq, decide_eq_false_iff_not, reduceCtorEq, Bool.true_eq_false, Bool.false_eq_true, mk_size, List.size_toArray, ByteArray.size_append, ByteArray.size_extract, List.length_cons, List.length_nil, ba_get, ba_empty, Int.toNat_natCast] at hW))
        | (refine And.intro (?_ : _ → _) (?_ : _ → _))
        | (refine FinR.drop 0 (Nat.zero_le _) (Closed.zero _) rfl ?_)
        | (refine FinR.keep ?_)
        | (refine And.intro (det3_agg rfl) ?_)
        | (refine fL_mk ?_)
        | (refine And.intro (by (try simp only [mk_size, List.size_toArray, ByteArray.size_append, ByteArray.size_extract, List.length_cons, List.length_nil]); omega) ?_)
        | (refine And.intro (by (try simp only [mk_size, List.size_toArray, ByteArray.size_append, ByteArray.size_extract, List.length_cons, List.length_nil, wrap64_eq]); omega) ?_)
        | fail)
      all_goals first | (exfalso; omega) | skip
      refine Again.go (i + 1, _) ⟨(by show U _ = U _; rw [hsn, runN_snoc]), rfl, rfl, rfl, slI' (wsucc' i (by omega)), trivial⟩ (.keep ?_) (by dsimp only; omega) (by dsimp only; omega)
      dsimp only [ruB]
      rw [hsn, runL_snoc, List.map_append, List.length_append, hrl]; rfl
    · obtain rfl : i = fs.length := by omega
      rw [List.take_length]
      have h00 := h0 cp
      repeat' ((conv => whnf); first
        | (refine And.intro rfl ?_)
        | (refine And.intro (by decide +kernel) ?_)
        | (refine And.intro trivial ?_)
        | (refine Exists.intro _ (And.intro rfl (And.intro rfl (And.intro (Nat.le_of_ble_eq_true rfl) ?_))))
        | (refine Exists.intro _ (And.intro rfl (And.intro rfl (And.intro rfl (And.intro (Nat.le_of_ble_eq_true rfl) ?_)))))
        | (refine And.intro (Exists.intro _ (And.intro rfl rfl)) ?_)
        | (exact fun hW => absurd hW (by decide +kernel))
        | (intro hW; (try simp only [Bool.not_true, Bool.not_false, Bool.not_eq_true', Bool.not_eq_false', decide_eq_true_eq, decide_eq_false_iff_not, reduceCtorEq, Bool.true_eq_false, Bool.false_eq_true, mk_size, List.size_toArray, ByteArray.size_append, ByteArray.size_extract, List.length_cons, List.length_nil, ba_get, ba_empty, Int.toNat_natCast] at hW))
        | (refine And.intro (?_ : _ → _) (?_ : _ → _))
        | (refine FinR.drop 0 (Nat.zero_le _) (Closed.zero _) rfl ?_)
        | (refine FinR.keep ?_)
        | (refine And.intro (det3_agg rfl) ?_)
        | (refine fL_mk ?_)
        | (refine And.intro (by (try simp only [mk_size, List.size_toArray, ByteArray.size_append, ByteArray.size_extract, List.length_cons, List.length_nil]); omega) ?_)
        | (refine And.intro (by (try simp only [mk_size, List.size_toArray, ByteArray.size_append, ByteArray.size_extract, List.length_cons, List.length_nil, wrap64_eq]); omega) ?_)
        | fail)
      all_goals first | (exfalso; omega) | exact h00 | exact FinR.keep h00
end Go.Proofs.Ytbmilmnfhdkfjaa
end

section
/- Contracts: sheets of a plan, by both sides. -/
set_option linter.unusedVariables false
set_option linter.unusedSimpArgs false
set_option maxRecDepth 100000
set_option maxHeartbeats 4000000
namespace Go.Proofs.Ytbmilmnfhdkfjaa
open Go Go.RowKit Go.Proofs.Ytbmilmnfhdkfjaa.Abs
variable {W0 : World} {σ : List Blk}
theorem st_row {r : List Int} (h6 : r.length = 6) (h : shRow r = true) : ∃ n : Nat, n < 2 ^ 36 ∧ r = shR n ∧ stN r = n := by
  match r, h6, h with
  | [a, b, c, d, e, f], _, h =>
    obtain ⟨n, hn, rfl, rfl, rfl, rfl, rfl, rfl, hs⟩ := st_parts h
    exact ⟨n, hn, rfl, hs⟩
theorem c_l11Next (n : Nat) (v1 : Value) (xs : List (List Int)) (h1 : Sli W0 [] 6 enI (.lit v1) xs) (k s : Int) (m u v : Nat) (hm : xs[s.toNat]? = some (shR m)) (hk : 1 ≤ k ∧ k ≤ 3) (hs : 0 ≤ s ∧ s < xs.length) (hu : u < 6) (hv : v < 6) (K : Cont) (h0 : K (ShN (stepF k.toNat (prN m u v) n)) []) : ACall Try.prog W0 96 [ShN n, .lit v1, Ste k s u v] [] K := by
  refine by96 (Nat.le_of_ble_eq_true rfl) ?_
  obtain ⟨o1, n1, cap1, hv1, hn1, hc1, hm1, hf1⟩ := sli_form h1
  cases hv1
  subst hn1
  obtain ⟨ad, rfl, hb, hxx⟩ := hf1 _ _ hm
  have hld := fun C h => ldIn (W0 := W0) (s := 6) (enc := enI) hb hxx hm rfl (C := C) h
  obtain rfl | rfl | rfl : k = 1 ∨ k = 2 ∨ k = 3 := by omega
  · have h0 : K (ShN (n ^^^ prN m u v)) [] := h0
    repeat' ((conv => whnf); first
      | (refine And.intro rfl ?_)
      | (refine And.intro (by decide +kernel) ?_)
      | (refine And.intro trivial ?_)
      | (refine hld _ ?_)
      | (refine d_l2AtN (n := m) (hx := hu) (hy := hv) (h0 := ?_) ..)
      | (refine Exists.intro _ (And.intro (fun τ => callW_fn (d_l2AtN (n := m) (hx := hu) (hy := hv) (h0 := And.intro rfl rfl) ..)) ?_))
      | (refine Exists.intro _ (And.intro (callW_fn (d_l2AtN (n := m) (hx := hu) (hy := hv) (h0 := And.intro rfl rfl) ..)) (And.intro trivial ?_)))
      | (refine Exists.intro _ (And.intro (callW_fn (d_l2AtN (n := m) (hx := hu) (hy := hv) (h0 := And.intro rfl rfl) ..)) ?_))
      | (refine Exists.intro _ (And.intro (fun τ _ => callW_fn (d_l2AtN (n := m) (hx := hu) (hy := hv) (h0 := And.intro rfl rfl) ..)) ?_))
      | (refine d_l2XorN (n := n) (m := prN m u v) (h0 := ?_) ..)
      | (refine Exists.intro _ (And.intro (fun τ => callW_fn (d_l2XorN (n := n) (m := prN m u v) (h0 := And.intro rfl rfl) ..)) ?_))
      | (refine Exists.intro _ (And.intro (callW_fn (d_l2XorN (n := n) (m := prN m u v) (h0 := And.intro rfl rfl) ..)) (And.intro trivial ?_)))
      | (refine Exists.intro _ (And.intro (callW_fn (d_l2XorN (n := n) (m := prN m u v) (h0 := And.intro rfl rfl) ..)) ?_))
      | (refine Exists.intro _ (And.intro (fun τ _ => callW_fn (d_l2XorN (n := n) (m := prN m u v) (h0 := And.intro rfl rfl) ..)) ?_))
      | (refine Exists.intro _ (And.intro rfl (And.intro rfl (And.intro (Nat.le_of_ble_eq_true rfl) ?_))))
      | (refine Exists.intro _ (And.intro rfl (And.intro rfl (And.intro rfl (And.intro (Nat.le_of_ble_eq_true rfl) ?_)))))
      | (refine And.intro (Exists.intro _ (And.intro rfl rfl)) ?_)
      | (exact fun hW => absurd hW (by decide +kernel))
      | (intro hW; (try simp only [Bool.not_true, Bool.not_false, Bool.not_eq_true', Bool.not_eq_false', decide_eq_true_eq, decide_eq_false_iff_not, reduceCtorEq, Bool.true_eq_false, Bool.false_eq_true, mk_size, List.size_toArray, ByteArray.size_append, ByteArray.size_extract, List.length_cons, List.length_nil, ba_get, ba_empty, Int.toNat_natCast] at hW))
      | (refine And.intro (?_ : _ → _) (?_ : _ → _))
      | (refine FinR.drop 0 (Nat.zero_le _) (Closed.zero _) rfl ?_)
      | (refine FinR.keep ?_)
      | (refine And.intro (det3_agg rfl) ?_)
      | (refine fL_mk ?_)
      | (refine And.intro (by (try simp only [mk_size, List.size_toArray, ByteArray.size_append, ByteArray.size_extract, List.length_cons, List.length_nil]); omega) ?_)
      | (refine And.intro (by (try simp only [mk_size, List.size_toArray, ByteArray.size_append, ByteArray.size_extract, List.length_cons, List.length_nil, wrap64_eq]); omega) ?_)
      | fail)
    all_goals exact h0
  · have h0 : K (ShN (n ||| prN m u v)) [] := h0
    repeat' ((conv => whnf); first
      | (refine And.intro rfl ?_)
      | (refine And.intro (by decide +kernel) ?_)
      | (refine And.intro trivial ?_)
      | (refine hld _ ?_)
      | (refine d_l2AtN (n := m) (hx := hu) (hy := hv) (h0 := ?_) ..)
      | (refine Exists.intro _ (And.intro (fun τ => callW_fn (d_l2AtN (n := m) (hx := hu) (hy := hv) (h0 := And.intro rfl rfl) ..)) ?_))
      | (refine Exists.intro _ (And.intro (callW_fn (d_l2AtN (n := m) (hx := hu) (hy := hv) (h0 := And.intro rfl rfl) ..)) (And.intro trivial ?_)))
      | (refine Exists.intro _ (And.intro (callW_fn (d_l2AtN (n := m) (hx := hu) (hy := hv) (h0 := And.intro rfl rfl) ..)) ?_))
      | (refine Exists.intro _ (And.intro (fun τ _ => callW_fn (d_l2AtN (n := m) (hx := hu) (hy := hv) (h0 := And.intro rfl rfl) ..)) ?_))
      | (refine d_l2OrN (n := n) (m := prN m u v) (h0 := ?_) ..)
      | (refine Exists.intro _ (And.intro (fun τ => callW_fn (d_l2OrN (n := n) (m := prN m u v) (h0 := And.intro rfl rfl) ..)) ?_))
      | (refine Exists.intro _ (And.intro (callW_fn (d_l2OrN (n := n) (m := prN m u v) (h0 := And.intro rfl rfl) ..)) (And.intro trivial ?_)))
      | (refine Exists.intro _ (And.intro (callW_fn (d_l2OrN (n := n) (m := prN m u v) (h0 := And.intro rfl rfl) ..)) ?_))
      | (refine Exists.intro _ (And.intro (fun τ _ => callW_fn (d_l2OrN (n := n) (m := prN m u v) (h0 := And.intro rfl rfl) ..)) ?_))
      | (refine Exists.intro _ (And.intro rfl (And.intro rfl (And.intro (Nat.le_of_ble_eq_true rfl) ?_))))
      | (refine Exists.intro _ (And.intro rfl (And.intro rfl (And.intro rfl (And.intro (Nat.le_of_ble_eq_true rfl) ?_)))))
      | (refine And.intro (Exists.intro _ (And.intro rfl rfl)) ?_)
      | (exact fun hW => absurd hW (by decide +kernel))
      | (intro hW; (try simp only [Bool.not_true, Bool.not_false, Bool.not_eq_true', Bool.not_eq_false', decide_eq_true_eq, decide_eq_false_iff_not, reduceCtorEq, Bool.true_eq_false, Bool.false_eq_true, mk_size, List.size_toArray, ByteArray.size_append, ByteArray.size_extract, List.length_cons, List.length_nil, ba_get, ba_empty, Int.toNat_natCast] at hW))
      | (refine And.intro (?_ : _ → _) (?_ : _ → _))
      | (refine FinR.drop 0 (Nat.zero_le _) (Closed.zero _) rfl ?_)
      | (refine FinR.keep ?_)
      | (refine And.intro (det3_agg rfl) ?_)
      | (refine fL_mk ?_)
      | (refine And.intro (by (try simp only [mk_size, List.size_toArray, ByteArray.size_append, ByteArray.size_extract, List.length_cons, List.length_nil]); omega) ?_)
      | (refine And.intro (by (try simp only [mk_size, List.size_toArray, ByteArray.size_append, ByteArray.size_extract, List.length_cons, List.length_nil, wrap64_eq]); omega) ?_)
      | fail)
    all_goals exact h0
  · have h0 : K (ShN (n &&& (fullN ^^^ prN m u v))) [] := h0
    repeat' ((conv => whnf); first
      | (refine And.intro rfl ?_)
      | (refine And.intro (by decide +kernel) ?_)
      | (refine And.intro trivial ?_)
      | (refine hld _ ?_)
      | (refine d_l2AtN (n := m) (hx := hu) (hy := hv) (h0 := ?_) ..)
      | (refine Exists.intro _ (And.intro (fun τ => callW_fn (d_l2AtN (n := m) (hx := hu) (hy := hv) (h0 := And.intro rfl rfl) ..)) ?_))
      | (refine Exists.intro _ (And.intro (callW_fn (d_l2AtN (n := m) (hx := hu) (hy := hv) (h0 := And.intro rfl rfl) ..)) (And.intro trivial ?_)))
      | (refine Exists.intro _ (And.intro (callW_fn (d_l2AtN (n := m) (hx := hu) (hy := hv) (h0 := And.intro rfl rfl) ..)) ?_))
      | (refine Exists.intro _ (And.intro (fun τ _ => callW_fn (d_l2AtN (n := m) (hx := hu) (hy := hv) (h0 := And.intro rfl rfl) ..)) ?_))
      | (refine d_l2NotN (n := prN m u v) (h0 := ?_) ..)
      | (refine Exists.intro _ (And.intro (fun τ => callW_fn (d_l2NotN (n := prN m u v) (h0 := And.intro rfl rfl) ..)) ?_))
      | (refine Exists.intro _ (And.intro (callW_fn (d_l2NotN (n := prN m u v) (h0 := And.intro rfl rfl) ..)) (And.intro trivial ?_)))
      | (refine Exists.intro _ (And.intro (callW_fn (d_l2NotN (n := prN m u v) (h0 := And.intro rfl rfl) ..)) ?_))
      | (refine Exists.intro _ (And.intro (fun τ _ => callW_fn (d_l2NotN (n := prN m u v) (h0 := And.intro rfl rfl) ..)) ?_))
      | (refine d_l2AndM (n := n) (m := fullN ^^^ prN m u v) (h0 := ?_) ..)
      | (refine Exists.intro _ (And.intro (fun τ => callW_fn (d_l2AndM (n := n) (m := fullN ^^^ prN m u v) (h0 := And.intro rfl rfl) ..)) ?_))
      | (refine Exists.intro _ (And.intro (callW_fn (d_l2AndM (n := n) (m := fullN ^^^ prN m u v) (h0 := And.intro rfl rfl) ..)) (And.intro trivial ?_)))
      | (refine Exists.intro _ (And.intro (callW_fn (d_l2AndM (n := n) (m := fullN ^^^ prN m u v) (h0 := And.intro rfl rfl) ..)) ?_))
      | (refine Exists.intro _ (And.intro (fun τ _ => callW_fn (d_l2AndM (n := n) (m := fullN ^^^ prN m u v) (h0 := And.intro rfl rfl) ..)) ?_))
      | (refine Exists.intro _ (And.intro rfl (And.intro rfl (And.intro (Nat.le_of_ble_eq_true rfl) ?_))))
      | (refine Exists.intro _ (And.intro rfl (And.intro rfl (And.intro rfl (And.intro (Nat.le_of_ble_eq_true rfl) ?_)))))
      | (refine And.intro (Exists.intro _ (And.intro rfl rfl)) ?_)
      | (exact fun hW => absurd hW (by decide +kernel))
      | (intro hW; (try simp only [Bool.not_true, Bool.not_false, Bool.not_eq_true', Bool.not_eq_false', decide_eq_true_eq, decide_eq_false_iff_not, reduceCtorEq, Bool.true_eq_false, Bool.false_eq_true, mk_size, List.size_toArray, ByteArray.size_append, ByteArray.size_extract, List.length_cons, List.length_nil, ba_get, ba_empty, Int.toNat_natCast] at hW))
      | (refine And.intro (?_ : _ → _) (?_ : _ → _))
      | (refine FinR.drop 0 (Nat.zero_le _) (Closed.zero _) rfl ?_)
      | (refine FinR.keep ?_)
      | (refine And.intro (det3_agg rfl) ?_)
      | (refine fL_mk ?_)
      | (refine And.intro (by (try simp only [mk_size, List.size_toArray, ByteArray.size_append, ByteArray.size_extract, List.length_cons, List.length_nil]); omega) ?_)
      | (refine And.intro (by (try simp only [mk_size, List.size_toArray, ByteArray.size_append, ByteArray.size_extract, List.length_cons, List.length_nil, wrap64_eq]); omega) ?_)
      | fail)
    all_goals exact h0
theorem lift_PSP {α : Type} {enc : α → List Value} {g : FuncId} {b a c r : AV} {xs : List α} {s : Nat} (hok : callOK Try.prog g = true) (hb : pure3 b = true) (hc : pure3 c = true) (hr : ∀ k, sh3 k r = r) (hs : Sli W0 σ s enc a xs) (h : ∀ (W1 : World) (v : Value), Sli W1 [] s enc (.lit v) xs → ∀ K : Cont, K r [] → ACall Try.prog W1 g [b, .lit v, c] [] K) (K : Cont) (h0 : K r σ) : ACall Try.prog W0 g [b, a, c] σ K := by
  refine ACall.frameA (K0 := fun v σ' => v = r ∧ σ' = []) hok (fun W1 ι vs hh hrr => ?_) ?_
  · obtain ⟨v1, vs', rfl, hr1, hr2⟩ := Rels.uncons hrr
    obtain ⟨v2, vs'', rfl, hr3, hr4⟩ := Rels.uncons hr2
    obtain ⟨v3, vs3, rfl, hr5, hr6⟩ := Rels.uncons hr4
    obtain rfl := hr6.nil_inv
    obtain ⟨a', ha, hs'⟩ := hs.conc hh ⟨v2, hr3⟩
    obtain ⟨u, rfl⟩ := sli_lit hs'
    exact ⟨[b, .lit u, c], Rels.cons (rel3_pure hb hr1) (Rels.cons (ha _ hr3) (Rels.cons (rel3_pure hc hr5) Rels.nil)), h W1 u hs' _ ⟨rfl, rfl⟩⟩
  · rintro v σ' ⟨rfl, rfl⟩
    have e : σ ++ shB σ.length [] = σ := by simp [shB]
    rw [e, hr]; exact h0
theorem d_l11Next (n : Nat) (a : AV) (xs : List (List Int)) (h1 : Sli W0 σ 6 enI a xs) (k s : Int) (m u v : Nat) (hm : xs[s.toNat]? = some (shR m)) (hk : 1 ≤ k ∧ k ≤ 3) (hs : 0 ≤ s ∧ s < xs.length) (hu : u < 6) (hv : v < 6) (K : Cont) (h0 : K (ShN (stepF k.toNat (prN m u v) n)) σ) : ACall Try.prog W0 96 [ShN n, a, Ste k s u v] σ K :=
  lift_PSP (by kernel_rfl) rfl rfl (fun _ => rfl) h1 (fun W1 v1 q K hK => c_l11Next n v1 xs q k s m u v hm hk hs hu hv K hK) K h0
/-- a step of a valid plan by its parts -/
theorem step_parts {xs ys : List (List Int)} (hx : ∀ x ∈ xs, x.length = 6) (hy : ∀ x ∈ ys, x.length = 4) (hxa : xs.all shRow = true) (hya : ys.all (stOk xs.length) = true) {i : Nat} (hi : i < ys.length) :
    ∃ (k s : Int) (m u v : Nat), ys[i]? = some [k, s, (u : Int), (v : Int)] ∧ (1 ≤ k ∧ k ≤ 3) ∧ (0 ≤ s ∧ s < xs.length) ∧ u < 6 ∧ v < 6 ∧ m < 2 ^ 36 ∧ xs[s.toNat]? = some (shR m) ∧ (fsOf xs ys)[i]? = some (k.toNat, prN m u v) := by
  obtain ⟨k, s, x, y, hyi⟩ := row4x hy hi
  have hok := List.all_eq_true.1 hya _ (List.mem_of_getElem? hyi)
  rw [stOk_eq] at hok
  simp only [Bool.and_eq_true] at hok
  obtain ⟨⟨hk, ht⟩, hc⟩ := hok
  have hk3 := (inB_iff _ _ _).1 hk
  have hs3 := (inB_iff _ _ _).1 ht
  obtain ⟨u, v, rfl, rfl, hu, hv⟩ : ∃ u v : Nat, x = u ∧ y = v ∧ u < 6 ∧ v < 6 := by
    have := cellB_iff.1 hc
    exact ⟨x.toNat, y.toNat, by omega, by omega, by omega, by omega⟩
  have hxs := xget (xs := xs) (k := s) (by omega)
  have hmem := List.mem_of_getElem? hxs
  obtain ⟨m, hm, hr, hst⟩ := st_row (hx _ hmem) (List.all_eq_true.1 hxa _ hmem)
  refine ⟨k, s, m, u, v, hyi, hk3, by omega, hu, hv, hm, by rw [hxs, hr], ?_⟩
  rw [fsOf, List.getElem?_map, hyi]
  show some (k.toNat, prN (stN (xs.getD s.toNat [])) u v) = _
  rw [hst]
theorem c_l11At (a b c d e f : Int) (v1 v2 : Value) (xs ys : List (List Int)) (h1 : Sli W0 [] 6 enI (.lit v1) xs) (h2 : Sli W0 [] 4 enI (.lit v2) ys) (hx : ∀ x ∈ xs, x.length = 6) (hy : ∀ x ∈ ys, x.length = 4) (hxa : xs.all shRow = true) (hya : ys.all (stOk xs.length) = true) (hl2 : ys.length ≤ 1048576) (n k : Nat) (hk : k ≤ ys.length) (K : Cont) (h0 : K (ShN (runN ((fsOf xs ys).take k) n)) []) : ACall Try.prog W0 60 [PlA a b c d e f (.lit v1) (.lit v2), ShN n, I k] [] K := by
  refine by60 (Nat.le_of_ble_eq_true rfl) ?_
  obtain ⟨o2, n2, cap2, hv2, hn2, hc2, hm2, hf2⟩ := sli_form h2
  cases hv2
  subst hn2
  repeat' ((conv => whnf); first
    | (refine And.intro rfl ?_)
    | (refine And.intro (by decide +kernel) ?_)
    | (refine And.intro trivial ?_)
    | (refine Exists.intro _ (And.intro rfl (And.intro rfl (And.intro (Nat.le_of_ble_eq_true rfl) ?_))))
    | (refine Exists.intro _ (And.intro rfl (And.intro rfl (And.intro rfl (And.intro (Nat.le_of_ble_eq_true rfl) ?_)))))
    | (refine And.intro (Exists.intro _ (And.intro rfl rfl)) ?_)
    | (exact fun hW => absurd hW (by decide +kernel))
    | (intro hW; (try simp only [Bool.not_true, Bool.not_false, Bool.not_eq_true', Bool.not_eq_false', decide_eq_true_eq, decide_eq_false_iff_not, reduceCtorEq, Bool.true_eq_false, Bool.false_eq_true, mk_size, List.size_toArray, ByteArray.size_append, ByteArray.size_extract, List.length_cons, List.length_nil, ba_get, ba_empty, Int.toNat_natCast] at hW))
    | (refine And.intro (?_ : _ → _) (?_ : _ → _))
    | (refine FinR.drop 0 (Nat.zero_le _) (Closed.zero _) rfl ?_)
    | (refine FinR.keep ?_)
    | (refine And.intro (det3_agg rfl) ?_)
    | (refine fL_mk ?_)
    | (refine And.intro (by (try simp only [mk_size, List.size_toArray, ByteArray.size_append, ByteArray.size_extract, List.length_cons, List.length_nil]); omega) ?_)
    | (refine And.intro (by (try simp only [mk_size, List.size_toArray, ByteArray.size_append, ByteArray.size_extract, List.length_cons, List.length_nil, wrap64_eq]); omega) ?_)
    | fail)
  refine LoopR.live (fun i : Nat => [(2, I k), (3, .ptr 0 0 0), (4, .ptr 1 0 0), (6, .ptr 2 0 0), (7, I i)]) (fun i => [plBx a b c d e f (.lit v1) (.lit (.slice o2 ys.length cap2)) 35, bl (runN ((fsOf xs ys).take i) n), bl 0]) (fun i => i ≤ k) (fun i => k - i) 0 ⟨rfl, rfl, rfl, rfl, rfl, trivial⟩ (.keep rfl) (Nat.zero_le _) ?_
  intro i hi
  by_cases hlt : i < k
  · obtain ⟨k', s, m, u, v, hyi, hk3, hs3, hu, hv, hm, hxs, hfs⟩ := step_parts hx hy hxa hya (show i < ys.length by omega)
    obtain ⟨ad, rfl, hb, hxx⟩ := hf2 _ _ hyi
    have hld := fun C h => ldIn (W0 := W0) (s := 4) (enc := enI) hb hxx hyi rfl (C := C) h
    have hsn : runN ((fsOf xs ys).take (i + 1)) n = stepF k'.toNat (prN m u v) (runN ((fsOf xs ys).take i) n) := by rw [take_snoc hfs, runN_snoc]
    repeat' ((conv => whnf); first
      | (refine And.intro rfl ?_)
      | (refine And.intro (by decide +kernel) ?_)
      | (refine And.intro trivial ?_)
      | (refine hld _ ?_)
      | (refine Exists.intro _ (And.intro (fun τ => callW_fn (d_l11Next (n := runN ((fsOf xs ys).take i) n) (h1 := sli_up h1) (hm := hxs) (hk := hk3) (hs := hs3) (hu := hu) (hv := hv) (h0 := And.intro rfl rfl) ..)) ?_))
      | (refine Exists.intro _ (And.intro rfl (And.intro rfl (And.intro (Nat.le_of_ble_eq_true rfl) ?_))))
      | (refine Exists.intro _ (And.intro rfl (And.intro rfl (And.intro rfl (And.intro (Nat.le_of_ble_eq_true rfl) ?_)))))
      | (refine And.intro (Exists.intro _ (And.intro rfl rfl)) ?_)
      | (exact fun hW => absurd hW (by decide +kernel))
      | (intro hW; (try simp only [Bool.not_true, Bool.not_false, Bool.not_eq_true', Bool.not_eq_false', decide_eq_true_eq, decide_eq_false_iff_not, reduceCtorEq, Bool.true_eq_false, Bool.false_eq_true, mk_size, List.size_toArray, ByteArray.size_append, ByteArray.size_extract, List.length_cons, List.length_nil, ba_get, ba_empty, Int.toNat_natCast] at hW))
      | (refine And.intro (?_ : _ → _) (?_ : _ → _))
      | (refine FinR.drop 0 (Nat.zero_le _) (Closed.zero _) rfl ?_)
      | (refine FinR.keep ?_)
      | (refine And.intro (det3_agg rfl) ?_)
      | (refine fL_mk ?_)
      | (refine And.intro (by (try simp only [mk_size, List.size_toArray, ByteArray.size_append, ByteArray.size_extract, List.length_cons, List.length_nil]); omega) ?_)
      | (refine And.intro (by (try simp only [mk_size, List.size_toArray, ByteArray.size_append, ByteArray.size_extract, List.length_cons, List.length_nil, wrap64_eq]); omega) ?_)
      | fail)
    all_goals first | (exfalso; omega) | skip
    refine Again.go (i + 1) ⟨rfl, rfl, rfl, rfl, slI' (wsucc' i (by omega)), trivial⟩ (.keep ?_) (by omega) (by omega)
    rw [hsn]; rfl
  · obtain rfl : i = k := by omega
    repeat' ((conv => whnf); first
      | (refine And.intro rfl ?_)
      | (refine And.intro (by decide +kernel) ?_)
      | (refine And.intro trivial ?_)
      | (refine Exists.intro _ (And.intro rfl (And.intro rfl (And.intro (Nat.le_of_ble_eq_true rfl) ?_))))
      | (refine Exists.intro _ (And.intro rfl (And.intro rfl (And.intro rfl (And.intro (Nat.le_of_ble_eq_true rfl) ?_)))))
      | (refine And.intro (Exists.intro _ (And.intro rfl rfl)) ?_)
      | (exact fun hW => absurd hW (by decide +kernel))
      | (intro hW; (try simp only [Bool.not_true, Bool.not_false, Bool.not_eq_true', Bool.not_eq_false', decide_eq_true_eq, decide_eq_false_iff_not, reduceCtorEq, Bool.true_eq_false, Bool.false_eq_true, mk_size, List.size_toArray, ByteArray.size_append, ByteArray.size_extract, List.length_cons, List.length_nil, ba_get, ba_empty, Int.toNat_natCast] at hW))
      | (refine And.intro (?_ : _ → _) (?_ : _ → _))
      | (refine FinR.drop 0 (Nat.zero_le _) (Closed.zero _) rfl ?_)
      | (refine FinR.keep ?_)
      | (refine And.intro (det3_agg rfl) ?_)
      | (refine fL_mk ?_)
      | (refine And.intro (by (try simp only [mk_size, List.size_toArray, ByteArray.size_append, ByteArray.size_extract, List.length_cons, List.length_nil]); omega) ?_)
      | (refine And.intro (by (try simp only [mk_size, List.size_toArray, ByteArray.size_append, ByteArray.size_extract, List.length_cons, List.length_nil, wrap64_eq]); omega) ?_)
      | fail)
    all_goals first | (exfalso; omega) | exact h0
theorem d_l11At (a b c d e f : Int) (s1 s2 : AV) (xs ys : List (List Int)) (h1 : Sli W0 σ 6 enI s1 xs) (h2 : Sli W0 σ 4 enI s2 ys) (hx : ∀ x ∈ xs, x.length = 6) (hy : ∀ x ∈ ys, x.length = 4) (hxa : xs.all shRow = true) (hya : ys.all (stOk xs.length) = true) (hl2 : ys.length ≤ 1048576) (n k : Nat) (hk : k ≤ ys.length) (K : Cont) (h0 : K (ShN (runN ((fsOf xs ys).take k) n)) σ) : ACall Try.prog W0 60 [PlA a b c d e f s1 s2, ShN n, I k] σ K :=
  lift_Pl (rest := [ShN n, I k]) (ι := Unit) (fun _ => ShN (runN ((fsOf xs ys).take k) n)) (fun τ => []) (by kernel_rfl) rfl h1 h2 (fun W1 v1 v2 q1 q2 K hK => c_l11At a b c d e f v1 v2 xs ys q1 q2 hx hy hxa hya hl2 n k hk K (hK ())) K (fun _ => by
    rw [show shB σ.length [] = [] from rfl, List.append_nil]; exact h0)
end Go.Proofs.Ytbmilmnfhdkfjaa
end

section
/- Contracts: vain steps, by both sides; plans marked and held. -/
set_option linter.unusedVariables false
set_option linter.unusedSimpArgs false
set_option maxRecDepth 100000
set_option maxHeartbeats 4000000
namespace Go.Proofs.Ytbmilmnfhdkfjaa
open Go Go.RowKit Go.Proofs.Ytbmilmnfhdkfjaa.Abs
variable {W0 : World} {σ : List Blk}
/-! vain steps -/
def vainQ (fs : List (Nat × Nat)) (n i : Nat) : Bool := decide (runN (fs.take (i + 1)) n = runN (fs.take i) n)
abbrev vainL (xs ys : List (List Int)) (n : Nat) : List Int := selN (vainQ (fsOf xs ys) n) ys.length
end Go.Proofs.Ytbmilmnfhdkfjaa
end

section
/- Contracts: the law of vain steps. -/
set_option linter.unusedVariables false
set_option linter.unusedSimpArgs false
set_option maxRecDepth 100000
set_option maxHeartbeats 4000000
namespace Go.Proofs.Ytbmilmnfhdkfjaa
open Go Go.RowKit Go.Proofs.Ytbmilmnfhdkfjaa.Abs
variable {W0 : World} {σ : List Blk}
theorem varC_app {F : List Nat} {R : Prop} {τ : List Blk} : ∀ {σ : List Blk} {k : Nat}, R → varC F σ R k (σ ++ τ)
  | [], _, h => h
  | B :: σ, k, h => by
    show (match memB k F with
      | true => B.ver = B.ver ∧ B.esz = B.esz ∧ B.row = B.row ∧ varC F σ R (k + 1) (σ ++ τ)
      | false => B = B ∧ varC F σ R (k + 1) (σ ++ τ) : Prop)
    cases memB k F with
    | true => exact ⟨rfl, rfl, rfl, varC_app h⟩
    | false => exact ⟨rfl, varC_app h⟩
end Go.Proofs.Ytbmilmnfhdkfjaa
end

section
/- Contracts: the ends and the effects of a plan by sets. -/
set_option linter.unusedVariables false
set_option linter.unusedSimpArgs false
set_option maxRecDepth 100000
set_option maxHeartbeats 4000000
namespace Go.Proofs.Ytbmilmnfhdkfjaa
open Go Go.RowKit Go.Proofs.Ytbmilmnfhdkfjaa.Abs
variable {W0 : World} {σ : List Blk}
theorem set3 {σ : List Blk} {A B C A' : Blk} : (σ ++ [A] ++ [B] ++ [C]).set σ.length A' = σ ++ [A'] ++ [B] ++ [C] := by simp
theorem d_end (p n x : Nat) (fs : List (Nat × Nat)) (hp : PlanSt σ p n fs) (hf : FsOk fs) (hl : fs.length ≤ 1048576) (hx : x < 2 ^ 36) (K : Cont) (h0 : K (U (runN fs x : Nat)) (σ ++ [ruB (runL fs x)])) : ACall Try.prog W0 99 [.ptr p 0 0, U x] σ K := by
  refine by99 (Nat.le_of_ble_eq_true rfl) ?_
  have hver : (ruB (runL fs x)).ver = fs.length := by show (runL fs x).length - 1 = _; rw [runL_len]; rfl
  have hle : ∀ off, off ≤ fs.length → off + 1 ≤ (ruB (runL fs x)).cells.length := fun off ho => by show _ ≤ (List.map _ _).length; rw [List.length_map, runL_len]; omega
  have hget : ∀ off, off = fs.length → mkAV false (((ruB (runL fs x)).cells.drop off).take 1) = U (runN fs x : Nat) := fun off ho => by
    have := runL_get fs x (Nat.le_refl _)
    rw [List.take_length] at this
    exact stB_get this ho
  obtain ⟨s, h1, hs⟩ := hp.ex
  cases hs with
  | nil =>
    repeat' ((conv => whnf); first
      | (refine Exists.intro _ (And.intro getl (And.intro hver (And.intro (hle _ (by simp)) ?_))); rw [hget _ (by simp)])
      | (refine And.intro rfl ?_)
      | (refine And.intro (by decide +kernel) ?_)
      | (refine And.intro trivial ?_)
      | (refine fS_mk ?_)
      | (refine And.intro ⟨_, h1, rfl⟩ ?_)
      | (refine And.intro rfl (Exists.intro _ (And.intro h1 (And.intro rfl (And.intro (Nat.le_of_ble_eq_true rfl) ?_)))))
      | (refine Exists.intro _ (And.intro h1 (And.intro rfl (And.intro (Nat.le_of_ble_eq_true rfl) ?_))))
      | (refine d_run (hp := hp) (hf := hf) (hl := hl) (hx := hx) (h0 := fun cap => varC_app ?_) ..)
      | (refine And.intro ⟨_, getl, hver⟩ ?_)
      | (refine Exists.intro _ (And.intro rfl (And.intro rfl (And.intro (Nat.le_of_ble_eq_true rfl) ?_))))
      | (refine Exists.intro _ (And.intro rfl (And.intro rfl (And.intro rfl (And.intro (Nat.le_of_ble_eq_true rfl) ?_)))))
      | (refine And.intro (Exists.intro _ (And.intro rfl rfl)) ?_)
      | (exact fun hW => absurd hW (by decide +kernel))
      | (intro hW; (try simp only [Bool.not_true, Bool.not_false, Bool.not_eq_true', Bool.not_eq_false', decide_eq_true_eq, decide_eq_false_iff_not, reduceCtorEq, Bool.true_eq_false, Bool.false_eq_true, mk_size, List.size_toArray, ByteArray.size_append, ByteArray.size_extract, List.length_cons, List.length_nil, ba_get, ba_empty, Int.toNat_natCast] at hW))
      | (refine And.intro (?_ : _ → _) (?_ : _ → _))
      | (refine FinR.drop 0 (Nat.zero_le _) (Closed.zero _) rfl ?_)
      | (refine FinR.keep ?_)
      | (refine And.intro (det3_agg rfl) ?_)
      | (refine fL_mk ?_)
      | (refine And.intro (by (try simp only [mk_size, List.size_toArray, ByteArray.size_append, ByteArray.size_extract, List.length_cons, List.length_nil]); omega) ?_)
      | (refine And.intro (by (try simp only [mk_size, List.size_toArray, ByteArray.size_append, ByteArray.size_extract, List.length_cons, List.length_nil, wrap64_eq]); omega) ?_)
      | fail)
    all_goals first | exact h0 | exact FinR.keep h0 | (exfalso; omega) | skip
  | own r ver cap cs fs hr hlc hc =>
    repeat' ((conv => whnf); first
      | (refine Exists.intro _ (And.intro getl (And.intro hver (And.intro (hle _ (by rw [Int.toNat_natCast]; omega)) ?_))); rw [hget _ (by rw [Int.toNat_natCast]; omega)])
      | (refine And.intro rfl ?_)
      | (refine And.intro (by decide +kernel) ?_)
      | (refine And.intro trivial ?_)
      | (refine fS_mk ?_)
      | (refine And.intro ⟨_, h1, rfl⟩ ?_)
      | (refine And.intro rfl (Exists.intro _ (And.intro h1 (And.intro rfl (And.intro (Nat.le_of_ble_eq_true rfl) ?_)))))
      | (refine Exists.intro _ (And.intro h1 (And.intro rfl (And.intro (Nat.le_of_ble_eq_true rfl) ?_))))
      | (refine And.intro ⟨_, hr, rfl⟩ ?_)
      | (refine d_run (hp := hp) (hf := hf) (hl := hl) (hx := hx) (h0 := fun cap => varC_app ?_) ..)
      | (refine And.intro ⟨_, getl, hver⟩ ?_)
      | (refine Exists.intro _ (And.intro rfl (And.intro rfl (And.intro (Nat.le_of_ble_eq_true rfl) ?_))))
      | (refine Exists.intro _ (And.intro rfl (And.intro rfl (And.intro rfl (And.intro (Nat.le_of_ble_eq_true rfl) ?_)))))
      | (refine And.intro (Exists.intro _ (And.intro rfl rfl)) ?_)
      | (exact fun hW => absurd hW (by decide +kernel))
      | (intro hW; (try simp only [Bool.not_true, Bool.not_false, Bool.not_eq_true', Bool.not_eq_false', decide_eq_true_eq, decide_eq_false_iff_not, reduceCtorEq, Bool.true_eq_false, Bool.false_eq_true, mk_size, List.size_toArray, ByteArray.size_append, ByteArray.size_extract, List.length_cons, List.length_nil, ba_get, ba_empty, Int.toNat_natCast] at hW))
      | (refine And.intro (?_ : _ → _) (?_ : _ → _))
      | (refine FinR.drop 0 (Nat.zero_le _) (Closed.zero _) rfl ?_)
      | (refine FinR.keep ?_)
      | (refine And.intro (det3_agg rfl) ?_)
      | (refine fL_mk ?_)
      | (refine And.intro (by (try simp only [mk_size, List.size_toArray, ByteArray.size_append, ByteArray.size_extract, List.length_cons, List.length_nil]); omega) ?_)
      | (refine And.intro (by (try simp only [mk_size, List.size_toArray, ByteArray.size_append, ByteArray.size_extract, List.length_cons, List.length_nil, wrap64_eq]); omega) ?_)
      | fail)
    all_goals first | exact h0 | exact FinR.keep h0 | (exfalso; omega) | skip
theorem d_effects (p n : Nat) (fs : List (Nat × Nat)) (hp : PlanSt σ p n fs) (hf : FsOk fs) (hl : fs.length ≤ 1048576) (K : Cont) (h0 : ∀ A B C, K (.agg [U (runN fs 0 : Nat), U (runN fs fullN : Nat)]) (σ ++ [A] ++ [B] ++ [C])) : ACall Try.prog W0 65 [.ptr p 0 0] σ K := by
  refine by65 (Nat.le_of_ble_eq_true rfl) ?_
  repeat' ((conv => whnf); first
    | (refine And.intro rfl ?_)
    | (refine And.intro (by decide +kernel) ?_)
    | (refine And.intro trivial ?_)
    | (refine fS_mk ?_)
    | (refine d_end (x := fullN) (hp := (hp.add).add) (hf := hf) (hl := hl) (hx := by decide) (h0 := ?_) ..)
    | (refine d_end (x := 0) (hp := hp.add) (hf := hf) (hl := hl) (hx := by decide) (h0 := ?_) ..)
    | (refine Exists.intro _ (And.intro (getx1 (getx1 getl)) (And.intro rfl (And.intro rfl (And.intro (Nat.le_of_ble_eq_true rfl) ?_)))); rw [set3])
    | (refine Exists.intro _ (And.intro (getx1 (getx1 getl)) (And.intro rfl (And.intro (Nat.le_of_ble_eq_true rfl) ?_))))
    | (refine Exists.intro _ (And.intro rfl (And.intro rfl (And.intro (Nat.le_of_ble_eq_true rfl) ?_))))
    | (refine Exists.intro _ (And.intro rfl (And.intro rfl (And.intro rfl (And.intro (Nat.le_of_ble_eq_true rfl) ?_)))))
    | (refine And.intro (Exists.intro _ (And.intro rfl rfl)) ?_)
    | (exact fun hW => absurd hW (by decide +kernel))
    | (intro hW; (try simp only [Bool.not_true, Bool.not_false, Bool.not_eq_true', Bool.not_eq_false', decide_eq_true_eq, decide_eq_false_iff_not, reduceCtorEq, Bool.true_eq_false, Bool.false_eq_true, mk_size, List.size_toArray, ByteArray.size_append, ByteArray.size_extract, List.length_cons, List.length_nil, ba_get, ba_empty, Int.toNat_natCast] at hW))
    | (refine And.intro (?_ : _ → _) (?_ : _ → _))
    | (refine FinR.drop 0 (Nat.zero_le _) (Closed.zero _) rfl ?_)
    | (refine FinR.keep ?_)
    | (refine And.intro (det3_agg rfl) ?_)
    | (refine fL_mk ?_)
    | (refine And.intro (by (try simp only [mk_size, List.size_toArray, ByteArray.size_append, ByteArray.size_extract, List.length_cons, List.length_nil]); omega) ?_)
    | (refine And.intro (by (try simp only [mk_size, List.size_toArray, ByteArray.size_append, ByteArray.size_extract, List.length_cons, List.length_nil, wrap64_eq]); omega) ?_)
    | fail)
  all_goals first | exact h0 _ _ _ | exact FinR.keep (h0 _ _ _) | (exfalso; omega) | skip
end Go.Proofs.Ytbmilmnfhdkfjaa
end

section
/- Contracts: effects of a plan by the reference. -/
set_option linter.unusedVariables false
set_option linter.unusedSimpArgs false
set_option maxRecDepth 100000
set_option maxHeartbeats 4000000
namespace Go.Proofs.Ytbmilmnfhdkfjaa
open Go Go.RowKit Go.Proofs.Ytbmilmnfhdkfjaa.Abs
variable {W0 : World} {σ : List Blk}
/-- what becomes of a cell: by the ends of the empty and of the full sheet -/
def efv (w b k : Nat) : Int := if w.testBit k then (if b.testBit k then 2 else 1) else if b.testBit k then 0 else 3
def effN (w b k : Nat) : List Int := (List.range k).map (efv w b) ++ List.replicate (36 - k) 0
theorem effN_len (w b : Nat) {k : Nat} (h : k ≤ 36) : (effN w b k).length = 36 := by simp [effN]; omega
theorem effN_set (w b : Nat) {k : Nat} (h : k < 36) : (effN w b k).set k (efv w b k) = effN w b (k + 1) := by
  have e : 36 - k = (36 - (k + 1)) + 1 := by omega
  have hl : ((List.range k).map (efv w b)).length = k := by simp
  rw [effN, e, List.replicate_succ, List.set_append_right _ _ (by omega), hl, Nat.sub_self, List.set_cons_zero, effN, List.range_succ, List.map_append, List.append_assoc]; rfl
theorem effN_keep (w b : Nat) {k : Nat} (h : k < 36) (h0 : efv w b k = 0) : effN w b (k + 1) = effN w b k := by
  have e : 36 - k = (36 - (k + 1)) + 1 := by omega
  rw [effN, effN, e, List.replicate_succ, List.range_succ, List.map_append, List.append_assoc, List.map_cons, List.map_nil, h0]; rfl
abbrev efL (xs ys : List (List Int)) : List Int := effN (runN (fsOf xs ys) 0) (runN (fsOf xs ys) fullN) 36
theorem c_l11Effects (a b c d e f : Int) (v1 v2 : Value) (xs ys : List (List Int)) (h1 : Sli W0 [] 6 enI (.lit v1) xs) (h2 : Sli W0 [] 4 enI (.lit v2) ys) (hx : ∀ x ∈ xs, x.length = 6) (hy : ∀ x ∈ ys, x.length = 4) (hxa : xs.all shRow = true) (hya : ys.all (stOk xs.length) = true) (hl2 : ys.length ≤ 1048576) (K : Cont) (h0 : K (Pi (efL xs ys)) []) : ACall Try.prog W0 64 [PlA a b c d e f (.lit v1) (.lit v2)] [] K := by
  refine by64 (Nat.le_of_ble_eq_true rfl) ?_
  obtain ⟨o2, n2, cap2, hv2, hn2, hc2, hm2, hf2⟩ := sli_form h2
  cases hv2
  subst hn2
  have hff : fullN ^^^ 0 = fullN := by decide
  have htk : (fsOf xs ys).take ys.length = fsOf xs ys := by rw [← fsOf_len xs ys, List.take_length]
  repeat' ((conv => whnf); first
    | (refine And.intro rfl ?_)
    | (refine And.intro (by decide +kernel) ?_)
    | (refine And.intro trivial ?_)
    | (refine d_l11At (n := 0) (k := ys.length) (h1 := sli_up h1) (h2 := sli_up h2) (hx := hx) (hy := hy) (hxa := hxa) (hya := hya) (hl2 := hl2) (hk := Nat.le_refl _) (h0 := ?_) ..; rw [htk])
    | (refine Exists.intro _ (And.intro (fun τ => callW_fn (d_l2NotN (n := 0) (h0 := And.intro rfl rfl) ..)) ?_))
    | (refine Exists.intro _ (And.intro (fun τ => callW_fn (d_l11At (n := fullN) (k := ys.length) (h1 := sli_up h1) (h2 := sli_up h2) (hx := hx) (hy := hy) (hxa := hxa) (hya := hya) (hl2 := hl2) (hk := Nat.le_refl _) (h0 := And.intro rfl rfl) ..)) ?_); rw [htk])
    | (refine Exists.intro _ (And.intro rfl (And.intro rfl (And.intro (Nat.le_of_ble_eq_true rfl) ?_))))
    | (refine Exists.intro _ (And.intro rfl (And.intro rfl (And.intro rfl (And.intro (Nat.le_of_ble_eq_true rfl) ?_)))))
    | (refine And.intro (Exists.intro _ (And.intro rfl rfl)) ?_)
    | (exact fun hW => absurd hW (by decide +kernel))
    | (intro hW; (try simp only [Bool.not_true, Bool.not_false, Bool.not_eq_true', Bool.not_eq_false', decide_eq_true_eq, decide_eq_false_iff_not, reduceCtorEq, Bool.true_eq_false, Bool.false_eq_true, mk_size, List.size_toArray, ByteArray.size_append, ByteArray.size_extract, List.length_cons, List.length_nil, ba_get, ba_empty, Int.toNat_natCast] at hW))
    | (refine And.intro (?_ : _ → _) (?_ : _ → _))
    | (refine FinR.drop 0 (Nat.zero_le _) (Closed.zero _) rfl ?_)
    | (refine FinR.keep ?_)
    | (refine And.intro (det3_agg rfl) ?_)
    | (refine fL_mk ?_)
    | (refine And.intro (by (try simp only [mk_size, List.size_toArray, ByteArray.size_append, ByteArray.size_extract, List.length_cons, List.length_nil]); omega) ?_)
    | (refine And.intro (by (try simp only [mk_size, List.size_toArray, ByteArray.size_append, ByteArray.size_extract, List.length_cons, List.length_nil, wrap64_eq]); omega) ?_)
    | fail)
  have h0 : K (Pi (effN (runN (fsOf xs ys) 0) (runN (fsOf xs ys) fullN) 36)) [] := h0
  generalize runN (fsOf xs ys) 0 = w at h0 ⊢
  generalize runN (fsOf xs ys) fullN = bb at h0 ⊢
  refine LoopR.live (fun y : Nat => [(2, .ptr 1 0 0), (3, .ptr 2 0 0), (4, .ptr 3 0 0), (5, .ptr 4 0 0), (6, I y)]) (fun y => [plBx a b c d e f (.lit v1) (.lit (.slice o2 ys.length cap2)) 35, bQ z36 58, bQ (effN w bb (6 * y)) 58, bl w, bl bb]) (fun y => y ≤ 6) (fun y => 6 - y) 0 ⟨rfl, rfl, rfl, rfl, rfl, trivial⟩ (.keep rfl) (Nat.zero_le _) ?_
  intro y hy
  by_cases hlt : y < 6
  · skip
    repeat' ((conv => whnf); first
      | (refine And.intro rfl ?_)
      | (refine And.intro (by decide +kernel) ?_)
      | (refine And.intro trivial ?_)
      | (refine Exists.intro _ (And.intro rfl (And.intro rfl (And.intro (Nat.le_of_ble_eq_true rfl) ?_))))
      | (refine Exists.intro _ (And.intro rfl (And.intro rfl (And.intro rfl (And.intro (Nat.le_of_ble_eq_true rfl) ?_)))))
      | (refine And.intro (Exists.intro _ (And.intro rfl rfl)) ?_)
      | (exact fun hW => absurd hW (by decide +kernel))
      | (intro hW; (try simp only [Bool.not_true, Bool.not_false, Bool.not_eq_true', Bool.not_eq_false', decide_eq_true_eq, decide_eq_false_iff_not, reduceCtorEq, Bool.true_eq_false, Bool.false_eq_true, mk_size, List.size_toArray, ByteArray.size_append, ByteArray.size_extract, List.length_cons, List.length_nil, ba_get, ba_empty, Int.toNat_natCast] at hW))
      | (refine And.intro (?_ : _ → _) (?_ : _ → _))
      | (refine FinR.drop 0 (Nat.zero_le _) (Closed.zero _) rfl ?_)
      | (refine FinR.keep ?_)
      | (refine And.intro (det3_agg rfl) ?_)
      | (refine fL_mk ?_)
      | (refine And.intro (by (try simp only [mk_size, List.size_toArray, ByteArray.size_append, ByteArray.size_extract, List.length_cons, List.length_nil]); omega) ?_)
      | (refine And.intro (by (try simp only [mk_size, List.size_toArray, ByteArray.size_append, ByteArray.size_extract, List.length_cons, List.length_nil, wrap64_eq]); omega) ?_)
      | fail)
    all_goals first | (exfalso; omega) | skip
    refine LoopR.live (fun x : Nat => [(2, .ptr 1 0 0), (3, .ptr 2 0 0), (4, .ptr 3 0 0), (5, .ptr 4 0 0), (6, I y), (7, I x)]) (fun x => [plBx a b c d e f (.lit v1) (.lit (.slice o2 ys.length cap2)) 35, bQ z36 58, bQ (effN w bb (6 * y + x)) 58, bl w, bl bb]) (fun x => x ≤ 6) (fun x => 6 - x) 0 ⟨rfl, rfl, rfl, rfl, rfl, rfl, trivial⟩ (.keep rfl) (Nat.zero_le _) ?_
    intro x hx
    by_cases hlt2 : x < 6
    · have hk : 6 * y + x < 36 := by omega
      have hml : (effN w bb (6 * y + x)).length = 36 := effN_len w bb (by omega)
      have hle : ∀ off, off = 6 * y + x → off + 1 ≤ ((effN w bb (6 * y + x)).map I).length := fun off ho => cell_le (by omega)
      have hoff : 0 + 0 + ((y : Nat) : Int).toNat * 6 + ((x : Nat) : Int).toNat * 1 = 6 * y + x := by simp only [Int.toNat_natCast]; omega
      have hst : ∀ v : Int, ((effN w bb (6 * y + x)).map I).take (0 + 0 + ((y : Nat) : Int).toNat * 6 + ((x : Nat) : Int).toNat * 1) ++ [I v] ++ ((effN w bb (6 * y + x)).map I).drop (0 + 0 + ((y : Nat) : Int).toNat * 6 + ((x : Nat) : Int).toNat * 1 + 1) = ((effN w bb (6 * y + x)).set (6 * y + x) v).map I := fun v => by
        rw [hoff]; exact cell_st v (by omega)
      repeat' ((conv => whnf); first
        | (refine Exists.intro (bQ (effN w bb (6 * y + x)) 58) (And.intro rfl (And.intro rfl (And.intro rfl (And.intro (hle _ hoff) ?_)))))
        | (refine And.intro rfl ?_)
        | (refine And.intro (by decide +kernel) ?_)
        | (refine And.intro trivial ?_)
        | (refine d_l2GetN (hx := hlt2) (hy := hlt) (h0 := ?_) ..)
        | (refine Exists.intro _ (And.intro (fun τ => callW_fn (d_l2GetN (hx := hlt2) (hy := hlt) (h0 := And.intro rfl rfl) ..)) ?_))
        | (refine Exists.intro _ (And.intro (callW_fn (d_l2GetN (hx := hlt2) (hy := hlt) (h0 := And.intro rfl rfl) ..)) (And.intro trivial ?_)))
        | (refine Exists.intro _ (And.intro (callW_fn (d_l2GetN (hx := hlt2) (hy := hlt) (h0 := And.intro rfl rfl) ..)) ?_))
        | (refine Exists.intro _ (And.intro (fun τ _ => callW_fn (d_l2GetN (hx := hlt2) (hy := hlt) (h0 := And.intro rfl rfl) ..)) ?_))
        | (refine Exists.intro _ (And.intro rfl (And.intro rfl (And.intro (Nat.le_of_ble_eq_true rfl) ?_))))
        | (refine Exists.intro _ (And.intro rfl (And.intro rfl (And.intro rfl (And.intro (Nat.le_of_ble_eq_true rfl) ?_)))))
        | (refine And.intro (Exists.intro _ (And.intro rfl rfl)) ?_)
        | (exact fun hW => absurd hW (by decide +kernel))
        | (intro hW; (try simp only [Bool.not_true, Bool.not_false, Bool.not_eq_true', Bool.not_eq_false', decide_eq_true_eq, decide_eq_false_iff_not, reduceCtorEq, Bool.true_eq_false, Bool.false_eq_true, mk_size, List.size_toArray, ByteArray.size_append, ByteArray.size_extract, List.length_cons, List.length_nil, ba_get, ba_empty, Int.toNat_natCast] at hW))
        | (refine And.intro (?_ : _ → _) (?_ : _ → _))
        | (refine FinR.drop 0 (Nat.zero_le _) (Closed.zero _) rfl ?_)
        | (refine FinR.keep ?_)
        | (refine And.intro (det3_agg rfl) ?_)
        | (refine fL_mk ?_)
        | (refine And.intro (by (try simp only [mk_size, List.size_toArray, ByteArray.size_append, ByteArray.size_extract, List.length_cons, List.length_nil]); omega) ?_)
        | (refine And.intro (by (try simp only [mk_size, List.size_toArray, ByteArray.size_append, ByteArray.size_extract, List.length_cons, List.length_nil, wrap64_eq]); omega) ?_)
        | fail)
      all_goals first | (exfalso; omega) | (exfalso; simp_all; done) | skip
      all_goals first
        | (refine Again.go (x + 1) ⟨rfl, rfl, rfl, rfl, rfl, slI' (wsucc' x (by omega)), trivial⟩ (.keep ?_) (by omega) (by omega); rw [← Nat.add_assoc, ← effN_set w bb hk, show efv w bb (6 * y + x) = 2 by simp_all [efv]]; dsimp only [bQ]; rw [← hst]; rfl)
        | (refine Again.go (x + 1) ⟨rfl, rfl, rfl, rfl, rfl, slI' (wsucc' x (by omega)), trivial⟩ (.keep ?_) (by omega) (by omega); rw [← Nat.add_assoc, ← effN_set w bb hk, show efv w bb (6 * y + x) = 1 by simp_all [efv]]; dsimp only [bQ]; rw [← hst]; rfl)
        | (refine Again.go (x + 1) ⟨rfl, rfl, rfl, rfl, rfl, slI' (wsucc' x (by omega)), trivial⟩ (.keep ?_) (by omega) (by omega); rw [← Nat.add_assoc, ← effN_set w bb hk, show efv w bb (6 * y + x) = 3 by simp_all [efv]]; dsimp only [bQ]; rw [← hst]; rfl)
        | (refine Again.go (x + 1) ⟨rfl, rfl, rfl, rfl, rfl, slI' (wsucc' x (by omega)), trivial⟩ (.keep ?_) (by omega) (by omega); rw [← Nat.add_assoc, effN_keep w bb hk (by simp_all [efv])])
    · obtain rfl : x = 6 := by omega
      repeat' ((conv => whnf); first
        | (refine And.intro rfl ?_)
        | (refine And.intro (by decide +kernel) ?_)
        | (refine And.intro trivial ?_)
        | (refine Exists.intro _ (And.intro rfl (And.intro rfl (And.intro (Nat.le_of_ble_eq_true rfl) ?_))))
        | (refine Exists.intro _ (And.intro rfl (And.intro rfl (And.intro rfl (And.intro (Nat.le_of_ble_eq_true rfl) ?_)))))
        | (refine And.intro (Exists.intro _ (And.intro rfl rfl)) ?_)
        | (exact fun hW => absurd hW (by decide +kernel))
        | (intro hW; (try simp only [Bool.not_true, Bool.not_false, Bool.not_eq_true', Bool.not_eq_false', decide_eq_true_eq, decide_eq_false_iff_not, reduceCtorEq, Bool.true_eq_false, Bool.false_eq_true, mk_size, List.size_toArray, ByteArray.size_append, ByteArray.size_extract, List.length_cons, List.length_nil, ba_get, ba_empty, Int.toNat_natCast] at hW))
        | (refine And.intro (?_ : _ → _) (?_ : _ → _))
        | (refine FinR.drop 0 (Nat.zero_le _) (Closed.zero _) rfl ?_)
        | (refine FinR.keep ?_)
        | (refine And.intro (det3_agg rfl) ?_)
        | (refine fL_mk ?_)
        | (refine And.intro (by (try simp only [mk_size, List.size_toArray, ByteArray.size_append, ByteArray.size_extract, List.length_cons, List.length_nil]); omega) ?_)
        | (refine And.intro (by (try simp only [mk_size, List.size_toArray, ByteArray.size_append, ByteArray.size_extract, List.length_cons, List.length_nil, wrap64_eq]); omega) ?_)
        | fail)
      all_goals first | (exfalso; omega) | skip
      exact Again.go (y + 1) ⟨rfl, rfl, rfl, rfl, slI' (wsucc' y (by omega)), trivial⟩ (.keep (by rw [Nat.mul_add])) (by omega) (by omega)
  · obtain rfl : y = 6 := by omega
    have hml : (effN w bb (6 * 6)).length = 36 := effN_len w bb (by omega)
    repeat' ((conv => whnf); first
      | (refine Exists.intro (bQ (effN w bb (6 * 6)) 58) (And.intro rfl (And.intro rfl (And.intro (pic_le hml rfl) ?_))); rw [show (bQ (effN w bb (6 * 6)) 58).cells = (effN w bb (6 * 6)).map I from rfl, pic_ld hml _ rfl])
      | (refine Exists.intro _ (And.intro rfl (And.intro rfl (And.intro (pic_len hml) (And.intro (Nat.le_of_ble_eq_true rfl) ?_)))))
      | (refine Exists.intro _ (And.intro rfl (And.intro rfl (And.intro (pic_rle hml _) ?_))); rw [pic_res hml _])
      | (refine FinR.drop 0 (Nat.zero_le _) (Closed.zero _) (belPi 0 _) ?_)
      | (refine And.intro rfl ?_)
      | (refine And.intro (by decide +kernel) ?_)
      | (refine And.intro trivial ?_)
      | (refine Exists.intro _ (And.intro rfl (And.intro rfl (And.intro (Nat.le_of_ble_eq_true rfl) ?_))))
      | (refine Exists.intro _ (And.intro rfl (And.intro rfl (And.intro rfl (And.intro (Nat.le_of_ble_eq_true rfl) ?_)))))
      | (refine And.intro (Exists.intro _ (And.intro rfl rfl)) ?_)
      | (exact fun hW => absurd hW (by decide +kernel))
      | (intro hW; (try simp only [Bool.not_true, Bool.not_false, Bool.not_eq_true', Bool.not_eq_false', decide_eq_true_eq, decide_eq_false_iff_not, reduceCtorEq, Bool.true_eq_false, Bool.false_eq_true, mk_size, List.size_toArray, ByteArray.size_append, ByteArray.size_extract, List.length_cons, List.length_nil, ba_get, ba_empty, Int.toNat_natCast] at hW))
      | (refine And.intro (?_ : _ → _) (?_ : _ → _))
      | (refine FinR.drop 0 (Nat.zero_le _) (Closed.zero _) rfl ?_)
      | (refine FinR.keep ?_)
      | (refine And.intro (det3_agg rfl) ?_)
      | (refine fL_mk ?_)
      | (refine And.intro (by (try simp only [mk_size, List.size_toArray, ByteArray.size_append, ByteArray.size_extract, List.length_cons, List.length_nil]); omega) ?_)
      | (refine And.intro (by (try simp only [mk_size, List.size_toArray, ByteArray.size_append, ByteArray.size_extract, List.length_cons, List.length_nil, wrap64_eq]); omega) ?_)
      | fail)
    all_goals first | (exfalso; omega) | exact h0
theorem d_l11Effects (a b c d e f : Int) (s1 s2 : AV) (xs ys : List (List Int)) (h1 : Sli W0 σ 6 enI s1 xs) (h2 : Sli W0 σ 4 enI s2 ys) (hx : ∀ x ∈ xs, x.length = 6) (hy : ∀ x ∈ ys, x.length = 4) (hxa : xs.all shRow = true) (hya : ys.all (stOk xs.length) = true) (hl2 : ys.length ≤ 1048576) (K : Cont) (h0 : K (Pi (efL xs ys)) σ) : ACall Try.prog W0 64 [PlA a b c d e f s1 s2] σ K :=
  lift_Pl (rest := []) (ι := Unit) (fun _ => Pi (efL xs ys)) (fun τ => []) (by kernel_rfl) rfl h1 h2 (fun W1 v1 v2 q1 q2 K hK => c_l11Effects a b c d e f v1 v2 xs ys q1 q2 hx hy hxa hya hl2 K (hK ())) K (fun _ => by
    rw [show shB σ.length [] = [] from rfl, List.append_nil, sh_Pi]; exact h0)
end Go.Proofs.Ytbmilmnfhdkfjaa
end

section
/- Contracts: effects of plans, the same effects, by both sides. -/
set_option linter.unusedVariables false
set_option linter.unusedSimpArgs false
set_option maxRecDepth 100000
set_option maxHeartbeats 4000000
namespace Go.Proofs.Ytbmilmnfhdkfjaa
open Go Go.RowKit Go.Proofs.Ytbmilmnfhdkfjaa.Abs
variable {W0 : World} {σ : List Blk}
/-- effects agree when the ends do -/
theorem efv_inj {w b w' b' k : Nat} (h : efv w b k = efv w' b' k) : w.testBit k = w'.testBit k ∧ b.testBit k = b'.testBit k := by
  unfold efv at h
  cases h1 : w.testBit k <;> cases h2 : b.testBit k <;> cases h3 : w'.testBit k <;> cases h4 : b'.testBit k <;> simp_all
theorem effN_36 (w b : Nat) : effN w b 36 = (List.range 36).map (efv w b) := by rw [effN, Nat.sub_self, List.replicate_zero, List.append_nil]
theorem effN_eq {w b w' b' : Nat} (hw : w < 2 ^ 36) (hb : b < 2 ^ 36) (hw' : w' < 2 ^ 36) (hb' : b' < 2 ^ 36) : effN w b 36 = effN w' b' 36 ↔ w = w' ∧ b = b' := by
  rw [effN_36, effN_36]
  constructor
  · intro h
    have hk : ∀ k, k < 36 → efv w b k = efv w' b' k := fun k hk => List.map_inj_left.1 h k (List.mem_range.2 hk)
    constructor
    · apply Nat.eq_of_testBit_eq; intro j
      by_cases hj : j < 36
      · exact (efv_inj (hk j hj)).1
      · rw [Nat.testBit_lt_two_pow (Nat.lt_of_lt_of_le hw (Nat.pow_le_pow_right (by decide) (by omega))), Nat.testBit_lt_two_pow (Nat.lt_of_lt_of_le hw' (Nat.pow_le_pow_right (by decide) (by omega)))]
    · apply Nat.eq_of_testBit_eq; intro j
      by_cases hj : j < 36
      · exact (efv_inj (hk j hj)).2
      · rw [Nat.testBit_lt_two_pow (Nat.lt_of_lt_of_le hb (Nat.pow_le_pow_right (by decide) (by omega))), Nat.testBit_lt_two_pow (Nat.lt_of_lt_of_le hb' (Nat.pow_le_pow_right (by decide) (by omega)))]
  · rintro ⟨rfl, rfl⟩; rfl
def efR (a b c d e f : Int) (xs ys : List (List Int)) : AV := if planB a b c d e f xs ys then .tup [Pi (efL xs ys), Bo true] else .tup [Pi z36, Bo false]
theorem c_sEffectsOf (a b c d e f : Int) (v1 v2 : Value) (xs ys : List (List Int)) (h1 : Sli W0 [] 6 enI (.lit v1) xs) (h2 : Sli W0 [] 4 enI (.lit v2) ys) (hx : ∀ x ∈ xs, x.length = 6) (hy : ∀ x ∈ ys, x.length = 4) (hl : xs.length ≤ 1048576) (hl2 : ys.length ≤ 1048576) (K : Cont) (h0 : K (efR a b c d e f xs ys) []) : ACall Try.prog W0 36 [PlA a b c d e f (.lit v1) (.lit v2)] [] K := by
  refine by36 (Nat.le_of_ble_eq_true rfl) ?_
  cases hg : planB a b c d e f xs ys with
  | false =>
    rw [efR, hg] at h0
    have h0 : K (.tup [Pi z36, Bo false]) [] := h0
    repeat' ((conv => whnf); first
      | (refine And.intro rfl ?_)
      | (refine And.intro (by decide +kernel) ?_)
      | (refine And.intro trivial ?_)
      | (refine d_l11Plan (h1 := sli_up h1) (h2 := sli_up h2) (hx := hx) (hy := hy) (hl := hl) (hl2 := hl2) (h0 := ?_) ..; rw [hg])
      | (refine Exists.intro _ (And.intro rfl (And.intro rfl (And.intro (Nat.le_of_ble_eq_true rfl) ?_))))
      | (refine Exists.intro _ (And.intro rfl (And.intro rfl (And.intro rfl (And.intro (Nat.le_of_ble_eq_true rfl) ?_)))))
      | (refine And.intro (Exists.intro _ (And.intro rfl rfl)) ?_)
      | (exact fun hW => absurd hW (by decide +kernel))
      | (intro hW; (try simp only [Bool.not_true, Bool.not_false, Bool.not_eq_true', Bool.not_eq_false', decide_eq_true_eq, decide_eq_false_iff_not, reduceCtorEq, Bool.true_eq_false, Bool.false_eq_true, mk_size, List.size_toArray, ByteArray.size_append, ByteArray.size_extract, List.length_cons, List.length_nil, ba_get, ba_empty, Int.toNat_natCast] at hW))
      | (refine And.intro (?_ : _ → _) (?_ : _ → _))
      | (refine FinR.drop 0 (Nat.zero_le _) (Closed.zero _) rfl ?_)
      | (refine FinR.keep ?_)
      | (refine And.intro (det3_agg rfl) ?_)
      | (refine fL_mk ?_)
      | (refine And.intro (by (try simp only [mk_size, List.size_toArray, ByteArray.size_append, ByteArray.size_extract, List.length_cons, List.length_nil]); omega) ?_)
      | (refine And.intro (by (try simp only [mk_size, List.size_toArray, ByteArray.size_append, ByteArray.size_extract, List.length_cons, List.length_nil, wrap64_eq]); omega) ?_)
      | fail)
    all_goals first | exact h0 | (exfalso; omega) | (exfalso; simp_all; done)
  | true =>
    obtain ⟨hs, hx4, hy40, hxa, hya⟩ := planB_iff.1 hg
    rw [efR, hg] at h0
    have h0 : K (.tup [Pi (efL xs ys), Bo true]) [] := h0
    have hq : (efL xs ys).length = 36 := effN_len _ _ (Nat.le_refl _)
    have hc := fun (W : World) (σ : List Blk) K h => d_l11Effects (W0 := W) (σ := σ) (s1 := .lit v1) (s2 := .lit v2) (xs := xs) (ys := ys) (K := K) (h0 := h) (a := a) (b := b) (c := c) (d := d) (e := e) (f := f) (hx := hx) (hy := hy) (hxa := hxa) (hya := hya) (hl2 := hl2)
    generalize efL xs ys = q at h0 hq hc
    repeat' ((conv => whnf); first
      | (refine Exists.intro _ (And.intro rfl (And.intro rfl (And.intro (pic_len hq) (And.intro (Nat.le_of_ble_eq_true rfl) ?_)))))
      | (refine Exists.intro _ (And.intro rfl (And.intro rfl (And.intro (pic_rle hq _) ?_))); rw [pic_res hq _])
      | (refine FinR.drop 0 (Nat.zero_le _) (Closed.zero _) (by show (bel3 0 (Pi q) && (bel3 0 (Bo true) && true)) = true; rw [belPi]; rfl) ?_)
      | (refine And.intro rfl ?_)
      | (refine And.intro (by decide +kernel) ?_)
      | (refine And.intro trivial ?_)
      | (refine d_l11Plan (h1 := sli_up h1) (h2 := sli_up h2) (hx := hx) (hy := hy) (hl := hl) (hl2 := hl2) (h0 := ?_) ..; rw [hg])
      | (refine hc _ _ _ ?_ (sli_up h1) (sli_up h2))
      | (refine Exists.intro _ (And.intro rfl (And.intro rfl (And.intro (Nat.le_of_ble_eq_true rfl) ?_))))
      | (refine Exists.intro _ (And.intro rfl (And.intro rfl (And.intro rfl (And.intro (Nat.le_of_ble_eq_true rfl) ?_)))))
      | (refine And.intro (Exists.intro _ (And.intro rfl rfl)) ?_)
      | (exact fun hW => absurd hW (by decide +kernel))
      | (intro hW; (try simp only [Bool.not_true, Bool.not_false, Bool.not_eq_true', Bool.not_eq_false', decide_eq_true_eq, decide_eq_false_iff_not, reduceCtorEq, Bool.true_eq_false, Bool.false_eq_true, mk_size, List.size_toArray, ByteArray.size_append, ByteArray.size_extract, List.length_cons, List.length_nil, ba_get, ba_empty, Int.toNat_natCast] at hW))
      | (refine And.intro (?_ : _ → _) (?_ : _ → _))
      | (refine FinR.drop 0 (Nat.zero_le _) (Closed.zero _) rfl ?_)
      | (refine FinR.keep ?_)
      | (refine And.intro (det3_agg rfl) ?_)
      | (refine fL_mk ?_)
      | (refine And.intro (by (try simp only [mk_size, List.size_toArray, ByteArray.size_append, ByteArray.size_extract, List.length_cons, List.length_nil]); omega) ?_)
      | (refine And.intro (by (try simp only [mk_size, List.size_toArray, ByteArray.size_append, ByteArray.size_extract, List.length_cons, List.length_nil, wrap64_eq]); omega) ?_)
      | fail)
    all_goals first | exact h0 | (exfalso; omega) | (exfalso; simp_all; done)
end Go.Proofs.Ytbmilmnfhdkfjaa
end

section
/- Contracts: the same effects, by the program. -/
set_option linter.unusedVariables false
set_option linter.unusedSimpArgs false
set_option maxRecDepth 100000
set_option maxHeartbeats 4000000
namespace Go.Proofs.Ytbmilmnfhdkfjaa
open Go Go.RowKit Go.Proofs.Ytbmilmnfhdkfjaa.Abs
variable {W0 : World} {σ : List Blk}
theorem d_planOfS (a b c d e f : Int) (s1 s2 : AV) (xs ys : List (List Int)) (h1 : Sli W0 σ 6 enI s1 xs) (h2 : Sli W0 σ 4 enI s2 ys) (hx : ∀ x ∈ xs, x.length = 6) (hy : ∀ x ∈ ys, x.length = 4) (hg : planB a b c d e f xs ys = true) (K : Cont)
    (h0 : ∀ (S : List Blk) (p : Nat), PlanSt S p (stN [a, b, c, d, e, f]) (fsOf xs ys) → (∀ (j : Nat) (B : Blk), σ[j]? = some B → S[j]? = some B) → σ.length ≤ S.length → K (.tup [.ptr p 0 0, Bo true]) S) : ACall Try.prog W0 56 [PlA a b c d e f s1 s2] σ K :=
  d_planOf a b c d e f s1 s2 xs ys h1 h2 hx hy K (fun _ τ hp => h0 _ _ hp (fun j B hj => getx1 hj) (by simp)) (fun h => by rw [hg] at h; cases h)
theorem d_planOfF (a b c d e f : Int) (s1 s2 : AV) (xs ys : List (List Int)) (h1 : Sli W0 σ 6 enI s1 xs) (h2 : Sli W0 σ 4 enI s2 ys) (hx : ∀ x ∈ xs, x.length = 6) (hy : ∀ x ∈ ys, x.length = 4) (hg : planB a b c d e f xs ys = false) (K : Cont) (h0 : K (.tup [nilP, Bo false]) σ) : ACall Try.prog W0 56 [PlA a b c d e f s1 s2] σ K :=
  d_planOf a b c d e f s1 s2 xs ys h1 h2 hx hy K (fun h => by rw [hg] at h; cases h) (fun _ => h0)
def sameR (g g' : Bool) (xs ys xs' ys' : List (List Int)) : AV := if g && g' then .tup [Bo (decide (((runN (fsOf xs ys) 0 : Nat) : Int) = (runN (fsOf xs' ys') 0 : Nat)) && (decide (((runN (fsOf xs ys) fullN : Nat) : Int) = (runN (fsOf xs' ys') fullN : Nat)) && true)), Bo true] else .tup [Bo false, Bo false]
theorem c_SameEffects (a b c d e f a' b' c' d' e' f' : Int) (v1 v2 u1 u2 : Value) (xs ys xs' ys' : List (List Int)) (h1 : Sli W0 [] 6 enI (.lit v1) xs) (h2 : Sli W0 [] 4 enI (.lit v2) ys) (g1 : Sli W0 [] 6 enI (.lit u1) xs') (g2 : Sli W0 [] 4 enI (.lit u2) ys') (hx : ∀ x ∈ xs, x.length = 6) (hy : ∀ x ∈ ys, x.length = 4) (hx' : ∀ x ∈ xs', x.length = 6) (hy' : ∀ x ∈ ys', x.length = 4) (K : Cont) (h0 : K (sameR (planB a b c d e f xs ys) (planB a' b' c' d' e' f' xs' ys') xs ys xs' ys') []) : ACall Try.prog W0 26 [PlA a b c d e f (.lit v1) (.lit v2), PlA a' b' c' d' e' f' (.lit u1) (.lit u2)] [] K := by
  refine by26 (Nat.le_of_ble_eq_true rfl) ?_
  cases hg : planB a b c d e f xs ys with
  | false =>
    rw [hg] at h0
    have h0 : K (.tup [Bo false, Bo false]) [] := h0
    cases hg' : planB a' b' c' d' e' f' xs' ys' with
    | false =>
      repeat' ((conv => whnf); first
        | (refine And.intro rfl ?_)
        | (refine And.intro (by decide +kernel) ?_)
        | (refine And.intro trivial ?_)
        | (refine d_planOfF (h1 := sli_up h1) (h2 := sli_up h2) (hx := hx) (hy := hy) (hg := hg) (h0 := ?_) ..)
        | (refine d_planOfF (h1 := sli_up g1) (h2 := sli_up g2) (hx := hx') (hy := hy') (hg := hg') (h0 := ?_) ..)
        | (refine Exists.intro _ (And.intro rfl (And.intro rfl (And.intro (Nat.le_of_ble_eq_true rfl) ?_))))
        | (refine Exists.intro _ (And.intro rfl (And.intro rfl (And.intro rfl (And.intro (Nat.le_of_ble_eq_true rfl) ?_)))))
        | (refine And.intro (Exists.intro _ (And.intro rfl rfl)) ?_)
        | (exact fun hW => absurd hW (by decide +kernel))
        | (intro hW; (try simp only [Bool.not_true, Bool.not_false, Bool.not_eq_true', Bool.not_eq_false', decide_eq_true_eq, decide_eq_false_iff_not, reduceCtorEq, Bool.true_eq_false, Bool.false_eq_true, mk_size, List.size_toArray, ByteArray.size_append, ByteArray.size_extract, List.length_cons, List.length_nil, ba_get, ba_empty, Int.toNat_natCast] at hW))
        | (refine And.intro (?_ : _ → _) (?_ : _ → _))
        | (refine FinR.drop 0 (Nat.zero_le _) (Closed.zero _) rfl ?_)
        | (refine FinR.keep ?_)
        | (refine And.intro (det3_agg rfl) ?_)
        | (refine fL_mk ?_)
        | (refine And.intro (by (try simp only [mk_size, List.size_toArray, ByteArray.size_append, ByteArray.size_extract, List.length_cons, List.length_nil]); omega) ?_)
        | (refine And.intro (by (try simp only [mk_size, List.size_toArray, ByteArray.size_append, ByteArray.size_extract, List.length_cons, List.length_nil, wrap64_eq]); omega) ?_)
        | fail)
      all_goals first | exact h0 | (exfalso; omega) | (exfalso; simp_all; done)
    | true =>
      repeat' ((conv => whnf); first
        | (refine And.intro rfl ?_)
        | (refine And.intro (by decide +kernel) ?_)
        | (refine And.intro trivial ?_)
        | (refine d_planOfF (h1 := sli_up h1) (h2 := sli_up h2) (hx := hx) (hy := hy) (hg := hg) (h0 := ?_) ..)
        | (refine d_planOfS (h1 := sli_up g1) (h2 := sli_up g2) (hx := hx') (hy := hy') (hg := hg') (h0 := fun S p hp hk hl => ?_) ..)
        | (refine Exists.intro _ (And.intro rfl (And.intro rfl (And.intro (Nat.le_of_ble_eq_true rfl) ?_))))
        | (refine Exists.intro _ (And.intro rfl (And.intro rfl (And.intro rfl (And.intro (Nat.le_of_ble_eq_true rfl) ?_)))))
        | (refine And.intro (Exists.intro _ (And.intro rfl rfl)) ?_)
        | (exact fun hW => absurd hW (by decide +kernel))
        | (intro hW; (try simp only [Bool.not_true, Bool.not_false, Bool.not_eq_true', Bool.not_eq_false', decide_eq_true_eq, decide_eq_false_iff_not, reduceCtorEq, Bool.true_eq_false, Bool.false_eq_true, mk_size, List.size_toArray, ByteArray.size_append, ByteArray.size_extract, List.length_cons, List.length_nil, ba_get, ba_empty, Int.toNat_natCast] at hW))
        | (refine And.intro (?_ : _ → _) (?_ : _ → _))
        | (refine FinR.drop 0 (Nat.zero_le _) (Closed.zero _) rfl ?_)
        | (refine FinR.keep ?_)
        | (refine And.intro (det3_agg rfl) ?_)
        | (refine fL_mk ?_)
        | (refine And.intro (by (try simp only [mk_size, List.size_toArray, ByteArray.size_append, ByteArray.size_extract, List.length_cons, List.length_nil]); omega) ?_)
        | (refine And.intro (by (try simp only [mk_size, List.size_toArray, ByteArray.size_append, ByteArray.size_extract, List.length_cons, List.length_nil, wrap64_eq]); omega) ?_)
        | fail)
      all_goals first | exact h0 | (exfalso; omega) | (exfalso; simp_all; done)
  | true =>
    obtain ⟨_, hx4, hy40, hxa, hya⟩ := planB_iff.1 hg
    have hfo := fsOf_ok hx hy hxa hya
    have hfl := fsOf_len xs ys
    cases hg' : planB a' b' c' d' e' f' xs' ys' with
    | false =>
      rw [hg, hg'] at h0
      have h0 : K (.tup [Bo false, Bo false]) [] := h0
      repeat' ((conv => whnf); first
        | (refine And.intro rfl ?_)
        | (refine And.intro (by decide +kernel) ?_)
        | (refine And.intro trivial ?_)
        | (refine d_planOfS (h1 := sli_up h1) (h2 := sli_up h2) (hx := hx) (hy := hy) (hg := hg) (h0 := fun S p hp hk hl => ?_) ..; have k1 := hk 1 _ rfl)
        | (refine Exists.intro _ (And.intro k1 (And.intro rfl (And.intro (Nat.le_of_ble_eq_true rfl) ?_))))
        | (refine d_planOfF (h1 := sli_up g1) (h2 := sli_up g2) (hx := hx') (hy := hy') (hg := hg') (h0 := ?_) ..)
        | (refine Exists.intro _ (And.intro rfl (And.intro rfl (And.intro (Nat.le_of_ble_eq_true rfl) ?_))))
        | (refine Exists.intro _ (And.intro rfl (And.intro rfl (And.intro rfl (And.intro (Nat.le_of_ble_eq_true rfl) ?_)))))
        | (refine And.intro (Exists.intro _ (And.intro rfl rfl)) ?_)
        | (exact fun hW => absurd hW (by decide +kernel))
        | (intro hW; (try simp only [Bool.not_true, Bool.not_false, Bool.not_eq_true', Bool.not_eq_false', decide_eq_true_eq, decide_eq_false_iff_not, reduceCtorEq, Bool.true_eq_false, Bool.false_eq_true, mk_size, List.size_toArray, ByteArray.size_append, ByteArray.size_extract, List.length_cons, List.length_nil, ba_get, ba_empty, Int.toNat_natCast] at hW))
        | (refine And.intro (?_ : _ → _) (?_ : _ → _))
        | (refine FinR.drop 0 (Nat.zero_le _) (Closed.zero _) rfl ?_)
        | (refine FinR.keep ?_)
        | (refine And.intro (det3_agg rfl) ?_)
        | (refine fL_mk ?_)
        | (refine And.intro (by (try simp only [mk_size, List.size_toArray, ByteArray.size_append, ByteArray.size_extract, List.length_cons, List.length_nil]); omega) ?_)
        | (refine And.intro (by (try simp only [mk_size, List.size_toArray, ByteArray.size_append, ByteArray.size_extract, List.length_cons, List.length_nil, wrap64_eq]); omega) ?_)
        | fail)
      all_goals first | exact h0 | (exfalso; omega) | (exfalso; simp_all; done)
    | true =>
      obtain ⟨_, hx4', hy40', hxa', hya'⟩ := planB_iff.1 hg'
      have hfo' := fsOf_ok hx' hy' hxa' hya'
      have hfl' := fsOf_len xs' ys'
      rw [hg, hg'] at h0
      have h0 : K (.tup [Bo (decide (((runN (fsOf xs ys) 0 : Nat) : Int) = (runN (fsOf xs' ys') 0 : Nat)) && (decide (((runN (fsOf xs ys) fullN : Nat) : Int) = (runN (fsOf xs' ys') fullN : Nat)) && true)), Bo true]) [] := h0
      repeat' ((conv => whnf); first
        | (refine And.intro rfl ?_)
        | (refine And.intro (by decide +kernel) ?_)
        | (refine And.intro trivial ?_)
        | (have kz := hp2; refine d_effects (hp := hp2.add.add.add) (hf := hfo') (hl := by omega) (h0 := fun A B C => ?_) ..)
        | (refine d_effects (hp := hp.add) (hf := hfo) (hl := by omega) (h0 := fun A B C => ?_) ..)
        | (refine d_planOfS (h1 := sli_up h1) (h2 := sli_up h2) (hx := hx) (hy := hy) (hg := hg) (h0 := fun S p hp hk hl => ?_) ..; have k1 := hk 1 _ rfl)
        | (refine Exists.intro _ (And.intro k1 (And.intro rfl (And.intro (Nat.le_of_ble_eq_true rfl) ?_))))
        | (refine d_planOf (h1 := sli_up g1) (h2 := sli_up g2) (hx := hx') (hy := hy') (h0 := fun _ τ2 hp2 => ?_) (h00 := fun h => by rw [hg'] at h; cases h) ..)
        | (refine Exists.intro _ (And.intro rfl (And.intro rfl (And.intro (Nat.le_of_ble_eq_true rfl) ?_))))
        | (refine Exists.intro _ (And.intro rfl (And.intro rfl (And.intro rfl (And.intro (Nat.le_of_ble_eq_true rfl) ?_)))))
        | (refine And.intro (Exists.intro _ (And.intro rfl rfl)) ?_)
        | (exact fun hW => absurd hW (by decide +kernel))
        | (intro hW; (try simp only [Bool.not_true, Bool.not_false, Bool.not_eq_true', Bool.not_eq_false', decide_eq_true_eq, decide_eq_false_iff_not, reduceCtorEq, Bool.true_eq_false, Bool.false_eq_true, mk_size, List.size_toArray, ByteArray.size_append, ByteArray.size_extract, List.length_cons, List.length_nil, ba_get, ba_empty, Int.toNat_natCast] at hW))
        | (refine And.intro (?_ : _ → _) (?_ : _ → _))
        | (refine FinR.drop 0 (Nat.zero_le _) (Closed.zero _) rfl ?_)
        | (refine FinR.keep ?_)
        | (refine And.intro (det3_agg rfl) ?_)
        | (refine fL_mk ?_)
        | (refine And.intro (by (try simp only [mk_size, List.size_toArray, ByteArray.size_append, ByteArray.size_extract, List.length_cons, List.length_nil]); omega) ?_)
        | (refine And.intro (by (try simp only [mk_size, List.size_toArray, ByteArray.size_append, ByteArray.size_extract, List.length_cons, List.length_nil, wrap64_eq]); omega) ?_)
        | fail)
      all_goals first | exact h0 | (exfalso; omega) | skip
end Go.Proofs.Ytbmilmnfhdkfjaa
end

section
/- Contracts: pictures compared. -/
set_option linter.unusedVariables false
set_option linter.unusedSimpArgs false
set_option maxRecDepth 100000
set_option maxHeartbeats 4000000
namespace Go.Proofs.Ytbmilmnfhdkfjaa
open Go Go.RowKit Go.Proofs.Ytbmilmnfhdkfjaa.Abs
variable {W0 : World} {σ : List Blk}
theorem c_eqIntA6A6 (q : List Int) (hq : q.length = 36) (K : Cont) (h0 : K (Bo true) []) : ACall Try.prog W0 38 [Pi q, Pi q] [] K := by
  refine by38 (Nat.le_of_ble_eq_true rfl) ?_
  repeat' ((conv => whnf); first
    | (refine And.intro rfl ?_)
    | (refine And.intro (by decide +kernel) ?_)
    | (refine And.intro trivial ?_)
    | (refine Exists.intro _ (And.intro rfl (And.intro rfl (And.intro (Nat.le_of_ble_eq_true rfl) ?_))))
    | (refine Exists.intro _ (And.intro rfl (And.intro rfl (And.intro rfl (And.intro (Nat.le_of_ble_eq_true rfl) ?_)))))
    | (refine And.intro (Exists.intro _ (And.intro rfl rfl)) ?_)
    | (exact fun hW => absurd hW (by decide +kernel))
    | (intro hW; (try simp only [Bool.not_true, Bool.not_false, Bool.not_eq_true', Bool.not_eq_false', decide_eq_true_eq, decide_eq_false_iff_not, reduceCtorEq, Bool.true_eq_false, Bool.false_eq_true, mk_size, List.size_toArray, ByteArray.size_append, ByteArray.size_extract, List.length_cons, List.length_nil, ba_get, ba_empty, Int.toNat_natCast] at hW))
    | (refine And.intro (?_ : _ → _) (?_ : _ → _))
    | (refine FinR.drop 0 (Nat.zero_le _) (Closed.zero _) rfl ?_)
    | (refine FinR.keep ?_)
    | (refine And.intro (det3_agg rfl) ?_)
    | (refine fL_mk ?_)
    | (refine And.intro (by (try simp only [mk_size, List.size_toArray, ByteArray.size_append, ByteArray.size_extract, List.length_cons, List.length_nil]); omega) ?_)
    | (refine And.intro (by (try simp only [mk_size, List.size_toArray, ByteArray.size_append, ByteArray.size_extract, List.length_cons, List.length_nil, wrap64_eq]); omega) ?_)
    | fail)
  refine LoopR.live (fun i : Nat => [(2, .ptr 0 0 0), (3, .ptr 1 0 0), (5, I i)]) (fun i => [bQ q 58, bQ q 58]) (fun i => i ≤ 6) (fun i => 6 - i) 0 ⟨rfl, rfl, rfl, trivial⟩ (.keep rfl) (Nat.zero_le _) ?_
  intro i hi
  by_cases hlt : i < 6
  · obtain ⟨a, b, c, d, e, f, hr⟩ := row_ld (q := q) (i := i) (by omega)
    have hle : ∀ off, off = i * 6 → off + 6 ≤ (q.map I).length := fun off ho => by rw [pic_len hq]; omega
    have he : eq6 a b c d e f a b c d e f = true := by simp [eq6]
    repeat' ((conv => whnf); first
      | (refine Exists.intro (bQ q 58) (And.intro rfl (And.intro rfl (And.intro (hle _ (by rw [Int.toNat_natCast]; omega)) ?_))); show _; rw [show (bQ q 58).cells = q.map I from rfl, row_mk hr (by rw [Int.toNat_natCast]; omega)])
      | (refine And.intro rfl ?_)
      | (refine And.intro (by decide +kernel) ?_)
      | (refine And.intro trivial ?_)
      | (refine d_eqIntA6 (h0 := ?_) ..)
      | (refine Exists.intro _ (And.intro (fun τ => callW_fn (d_eqIntA6 (h0 := And.intro rfl rfl) ..)) ?_))
      | (refine Exists.intro _ (And.intro (callW_fn (d_eqIntA6 (h0 := And.intro rfl rfl) ..)) (And.intro trivial ?_)))
      | (refine Exists.intro _ (And.intro (callW_fn (d_eqIntA6 (h0 := And.intro rfl rfl) ..)) ?_))
      | (refine Exists.intro _ (And.intro (fun τ _ => callW_fn (d_eqIntA6 (h0 := And.intro rfl rfl) ..)) ?_))
      | (refine Exists.intro _ (And.intro rfl (And.intro rfl (And.intro (Nat.le_of_ble_eq_true rfl) ?_))))
      | (refine Exists.intro _ (And.intro rfl (And.intro rfl (And.intro rfl (And.intro (Nat.le_of_ble_eq_true rfl) ?_)))))
      | (refine And.intro (Exists.intro _ (And.intro rfl rfl)) ?_)
      | (exact fun hW => absurd hW (by decide +kernel))
      | (intro hW; (try simp only [Bool.not_true, Bool.not_false, Bool.not_eq_true', Bool.not_eq_false', decide_eq_true_eq, decide_eq_false_iff_not, reduceCtorEq, Bool.true_eq_false, Bool.false_eq_true, mk_size, List.size_toArray, ByteArray.size_append, ByteArray.size_extract, List.length_cons, List.length_nil, ba_get, ba_empty, Int.toNat_natCast] at hW))
      | (refine And.intro (?_ : _ → _) (?_ : _ → _))
      | (refine FinR.drop 0 (Nat.zero_le _) (Closed.zero _) rfl ?_)
      | (refine FinR.keep ?_)
      | (refine And.intro (det3_agg rfl) ?_)
      | (refine fL_mk ?_)
      | (refine And.intro (by (try simp only [mk_size, List.size_toArray, ByteArray.size_append, ByteArray.size_extract, List.length_cons, List.length_nil]); omega) ?_)
      | (refine And.intro (by (try simp only [mk_size, List.size_toArray, ByteArray.size_append, ByteArray.size_extract, List.length_cons, List.length_nil, wrap64_eq]); omega) ?_)
      | fail)
    all_goals first | (exfalso; omega) | (exfalso; rw [he] at hW; simp at hW; done) | (exfalso; simp_all [eq6]; done) | skip
    exact Again.go (i + 1) ⟨rfl, rfl, slI' (wsucc' i (by omega)), trivial⟩ (.keep rfl) (by omega) (by omega)
  · obtain rfl : i = 6 := by omega
    repeat' ((conv => whnf); first
      | (refine And.intro rfl ?_)
      | (refine And.intro (by decide +kernel) ?_)
      | (refine And.intro trivial ?_)
      | (refine Exists.intro _ (And.intro rfl (And.intro rfl (And.intro (Nat.le_of_ble_eq_true rfl) ?_))))
      | (refine Exists.intro _ (And.intro rfl (And.intro rfl (And.intro rfl (And.intro (Nat.le_of_ble_eq_true rfl) ?_)))))
      | (refine And.intro (Exists.intro _ (And.intro rfl rfl)) ?_)
      | (exact fun hW => absurd hW (by decide +kernel))
      | (intro hW; (try simp only [Bool.not_true, Bool.not_false, Bool.not_eq_true', Bool.not_eq_false', decide_eq_true_eq, decide_eq_false_iff_not, reduceCtorEq, Bool.true_eq_false, Bool.false_eq_true, mk_size, List.size_toArray, ByteArray.size_append, ByteArray.size_extract, List.length_cons, List.length_nil, ba_get, ba_empty, Int.toNat_natCast] at hW))
      | (refine And.intro (?_ : _ → _) (?_ : _ → _))
      | (refine FinR.drop 0 (Nat.zero_le _) (Closed.zero _) rfl ?_)
      | (refine FinR.keep ?_)
      | (refine And.intro (det3_agg rfl) ?_)
      | (refine fL_mk ?_)
      | (refine And.intro (by (try simp only [mk_size, List.size_toArray, ByteArray.size_append, ByteArray.size_extract, List.length_cons, List.length_nil]); omega) ?_)
      | (refine And.intro (by (try simp only [mk_size, List.size_toArray, ByteArray.size_append, ByteArray.size_extract, List.length_cons, List.length_nil, wrap64_eq]); omega) ?_)
      | fail)
    all_goals first | (exfalso; omega) | exact h0
theorem d_eqIntA6A6 (q : List Int) (hq : q.length = 36) (K : Cont) (h0 : K (Bo true) σ) : ACall Try.prog W0 38 [Pi q, Pi q] σ K :=
  ACall.lift (by rw [List.all_cons, pureI, List.all_cons, pureI]; rfl) (fun k => rfl) (fun W1 K _ hK => c_eqIntA6A6 q hq K hK) h0
theorem c_EffectsOfF (a b c d e f : Int) (v1 v2 : Value) (xs ys : List (List Int)) (h1 : Sli W0 [] 6 enI (.lit v1) xs) (h2 : Sli W0 [] 4 enI (.lit v2) ys) (hx : ∀ x ∈ xs, x.length = 6) (hy : ∀ x ∈ ys, x.length = 4) (hg : planB a b c d e f xs ys = false) (K : Cont) (h0 : K (.tup [Pi z36, Bo false]) []) : ACall Try.prog W0 37 [PlA a b c d e f (.lit v1) (.lit v2)] [] K := by
  refine by37 (Nat.le_of_ble_eq_true rfl) ?_
  repeat' ((conv => whnf); first
    | (refine And.intro rfl ?_)
    | (refine And.intro (by decide +kernel) ?_)
    | (refine And.intro trivial ?_)
    | (refine d_planOfF (h1 := sli_up h1) (h2 := sli_up h2) (hx := hx) (hy := hy) (hg := hg) (h0 := ?_) ..)
    | (refine Exists.intro _ (And.intro rfl (And.intro rfl (And.intro (Nat.le_of_ble_eq_true rfl) ?_))))
    | (refine Exists.intro _ (And.intro rfl (And.intro rfl (And.intro rfl (And.intro (Nat.le_of_ble_eq_true rfl) ?_)))))
    | (refine And.intro (Exists.intro _ (And.intro rfl rfl)) ?_)
    | (exact fun hW => absurd hW (by decide +kernel))
    | (intro hW; (try simp only [Bool.not_true, Bool.not_false, Bool.not_eq_true', Bool.not_eq_false', decide_eq_true_eq, decide_eq_false_iff_not, reduceCtorEq, Bool.true_eq_false, Bool.false_eq_true, mk_size, List.size_toArray, ByteArray.size_append, ByteArray.size_extract, List.length_cons, List.length_nil, ba_get, ba_empty, Int.toNat_natCast] at hW))
    | (refine And.intro (?_ : _ → _) (?_ : _ → _))
    | (refine FinR.drop 0 (Nat.zero_le _) (Closed.zero _) rfl ?_)
    | (refine FinR.keep ?_)
    | (refine And.intro (det3_agg rfl) ?_)
    | (refine fL_mk ?_)
    | (refine And.intro (by (try simp only [mk_size, List.size_toArray, ByteArray.size_append, ByteArray.size_extract, List.length_cons, List.length_nil]); omega) ?_)
    | (refine And.intro (by (try simp only [mk_size, List.size_toArray, ByteArray.size_append, ByteArray.size_extract, List.length_cons, List.length_nil, wrap64_eq]); omega) ?_)
    | fail)
  all_goals first | exact h0 | (exfalso; omega) | (exfalso; simp_all; done)
end Go.Proofs.Ytbmilmnfhdkfjaa
end

section
/- Contracts: the same effects, by the reference. -/
set_option linter.unusedVariables false
set_option linter.unusedSimpArgs false
set_option maxRecDepth 100000
set_option maxHeartbeats 4000000
namespace Go.Proofs.Ytbmilmnfhdkfjaa
open Go Go.RowKit Go.Proofs.Ytbmilmnfhdkfjaa.Abs
variable {W0 : World} {σ : List Blk}
theorem c_sSameEffectsF (a b c d e f a' b' c' d' e' f' : Int) (v1 v2 u1 u2 : Value) (xs ys xs' ys' : List (List Int)) (h1 : Sli W0 [] 6 enI (.lit v1) xs) (h2 : Sli W0 [] 4 enI (.lit v2) ys) (g1 : Sli W0 [] 6 enI (.lit u1) xs') (g2 : Sli W0 [] 4 enI (.lit u2) ys') (hx : ∀ x ∈ xs, x.length = 6) (hy : ∀ x ∈ ys, x.length = 4) (hx' : ∀ x ∈ xs', x.length = 6) (hy' : ∀ x ∈ ys', x.length = 4) (hl : xs.length ≤ 1048576) (hl2 : ys.length ≤ 1048576) (hl' : xs'.length ≤ 1048576) (hl2' : ys'.length ≤ 1048576) (hg : (planB a b c d e f xs ys && planB a' b' c' d' e' f' xs' ys') = false) (K : Cont) (h0 : K (.tup [Bo false, Bo false]) []) : ACall Try.prog W0 25 [PlA a b c d e f (.lit v1) (.lit v2), PlA a' b' c' d' e' f' (.lit u1) (.lit u2)] [] K := by
  refine by25 (Nat.le_of_ble_eq_true rfl) ?_
  cases hg1 : planB a b c d e f xs ys with
  | false =>
    repeat' ((conv => whnf); first
      | (refine And.intro rfl ?_)
      | (refine And.intro (by decide +kernel) ?_)
      | (refine And.intro trivial ?_)
      | (refine d_l11Plan (h1 := sli_up h1) (h2 := sli_up h2) (hx := hx) (hy := hy) (hl := hl) (hl2 := hl2) (h0 := ?_) ..; rw [hg1])
      | (refine Exists.intro _ (And.intro rfl (And.intro rfl (And.intro (Nat.le_of_ble_eq_true rfl) ?_))))
      | (refine Exists.intro _ (And.intro rfl (And.intro rfl (And.intro rfl (And.intro (Nat.le_of_ble_eq_true rfl) ?_)))))
      | (refine And.intro (Exists.intro _ (And.intro rfl rfl)) ?_)
      | (exact fun hW => absurd hW (by decide +kernel))
      | (intro hW; (try simp only [Bool.not_true, Bool.not_false, Bool.not_eq_true', Bool.not_eq_false', decide_eq_true_eq, decide_eq_false_iff_not, reduceCtorEq, Bool.true_eq_false, Bool.false_eq_true, mk_size, List.size_toArray, ByteArray.size_append, ByteArray.size_extract, List.length_cons, List.length_nil, ba_get, ba_empty, Int.toNat_natCast] at hW))
      | (refine And.intro (?_ : _ → _) (?_ : _ → _))
      | (refine FinR.drop 0 (Nat.zero_le _) (Closed.zero _) rfl ?_)
      | (refine FinR.keep ?_)
      | (refine And.intro (det3_agg rfl) ?_)
      | (refine fL_mk ?_)
      | (refine And.intro (by (try simp only [mk_size, List.size_toArray, ByteArray.size_append, ByteArray.size_extract, List.length_cons, List.length_nil]); omega) ?_)
      | (refine And.intro (by (try simp only [mk_size, List.size_toArray, ByteArray.size_append, ByteArray.size_extract, List.length_cons, List.length_nil, wrap64_eq]); omega) ?_)
      | fail)
    all_goals first | exact h0 | (exfalso; omega) | (exfalso; simp_all; done)
  | true =>
    have hg2 : planB a' b' c' d' e' f' xs' ys' = false := by simpa [hg1] using hg
    repeat' ((conv => whnf); first
      | (refine And.intro rfl ?_)
      | (refine And.intro (by decide +kernel) ?_)
      | (refine And.intro trivial ?_)
      | (refine d_l11Plan (h1 := sli_up h1) (h2 := sli_up h2) (hx := hx) (hy := hy) (hl := hl) (hl2 := hl2) (h0 := ?_) ..; rw [hg1])
      | (refine d_l11Plan (h1 := sli_up g1) (h2 := sli_up g2) (hx := hx') (hy := hy') (hl := hl') (hl2 := hl2') (h0 := ?_) ..; rw [hg2])
      | (refine Exists.intro _ (And.intro rfl (And.intro rfl (And.intro (Nat.le_of_ble_eq_true rfl) ?_))))
      | (refine Exists.intro _ (And.intro rfl (And.intro rfl (And.intro rfl (And.intro (Nat.le_of_ble_eq_true rfl) ?_)))))
      | (refine And.intro (Exists.intro _ (And.intro rfl rfl)) ?_)
      | (exact fun hW => absurd hW (by decide +kernel))
      | (intro hW; (try simp only [Bool.not_true, Bool.not_false, Bool.not_eq_true', Bool.not_eq_false', decide_eq_true_eq, decide_eq_false_iff_not, reduceCtorEq, Bool.true_eq_false, Bool.false_eq_true, mk_size, List.size_toArray, ByteArray.size_append, ByteArray.size_extract, List.length_cons, List.length_nil, ba_get, ba_empty, Int.toNat_natCast] at hW))
      | (refine And.intro (?_ : _ → _) (?_ : _ → _))
      | (refine FinR.drop 0 (Nat.zero_le _) (Closed.zero _) rfl ?_)
      | (refine FinR.keep ?_)
      | (refine And.intro (det3_agg rfl) ?_)
      | (refine fL_mk ?_)
      | (refine And.intro (by (try simp only [mk_size, List.size_toArray, ByteArray.size_append, ByteArray.size_extract, List.length_cons, List.length_nil]); omega) ?_)
      | (refine And.intro (by (try simp only [mk_size, List.size_toArray, ByteArray.size_append, ByteArray.size_extract, List.length_cons, List.length_nil, wrap64_eq]); omega) ?_)
      | fail)
    all_goals first | exact h0 | (exfalso; omega) | (exfalso; simp_all; done)
end Go.Proofs.Ytbmilmnfhdkfjaa
end

section
/- Contracts: effects of plans by the program. -/
set_option linter.unusedVariables false
set_option linter.unusedSimpArgs false
set_option maxRecDepth 100000
set_option maxHeartbeats 4000000
namespace Go.Proofs.Ytbmilmnfhdkfjaa
open Go Go.RowKit Go.Proofs.Ytbmilmnfhdkfjaa.Abs
variable {W0 : World} {σ : List Blk}
theorem eff_round {Q : List Blk} {q q' : List Int} {cs : List AV} {e : TypeId} (h : cs = q'.map I) : Q.set 2 (bQ q' e) = (Q.set 2 (bQ q e)).set 2 ⟨cs, 0, e, 0, false, false⟩ := by rw [List.set_set, h]; rfl
theorem c_EffectsOfT (a b c d e f : Int) (v1 v2 : Value) (xs ys : List (List Int)) (h1 : Sli W0 [] 6 enI (.lit v1) xs) (h2 : Sli W0 [] 4 enI (.lit v2) ys) (hx : ∀ x ∈ xs, x.length = 6) (hy : ∀ x ∈ ys, x.length = 4) (hg : planB a b c d e f xs ys = true) (K : Cont) (h0 : K (.tup [Pi (efL xs ys), Bo true]) []) : ACall Try.prog W0 37 [PlA a b c d e f (.lit v1) (.lit v2)] [] K := by
  refine by37 (Nat.le_of_ble_eq_true rfl) ?_
  obtain ⟨hs, hx4, hy40, hxa, hya⟩ := planB_iff.1 hg
  have hfo := fsOf_ok hx hy hxa hya
  have hfl := fsOf_len xs ys
  repeat' ((conv => whnf); first
    | (refine And.intro rfl ?_)
    | (refine And.intro (by decide +kernel) ?_)
    | (refine And.intro trivial ?_)
    | (refine fS_mk ?_)
    | (refine d_planOfS (h1 := sli_up h1) (h2 := sli_up h2) (hx := hx) (hy := hy) (hg := hg) (h0 := fun S p hp hk hl => ?_) ..; have k1 := hk 1 _ rfl; have k2 := hk 2 _ rfl)
    | (refine d_effects (hp := hp) (hf := hfo) (hl := by omega) (h0 := fun A B C => ?_) ..)
    | (refine Exists.intro _ (And.intro getl (And.intro rfl (And.intro rfl (And.intro (Nat.le_of_ble_eq_true rfl) ?_)))); rw [set_last])
    | (refine Exists.intro _ (And.intro rfl (And.intro rfl (And.intro (Nat.le_of_ble_eq_true rfl) ?_))))
    | (refine Exists.intro _ (And.intro rfl (And.intro rfl (And.intro rfl (And.intro (Nat.le_of_ble_eq_true rfl) ?_)))))
    | (refine And.intro (Exists.intro _ (And.intro rfl rfl)) ?_)
    | (exact fun hW => absurd hW (by decide +kernel))
    | (intro hW; (try simp only [Bool.not_true, Bool.not_false, Bool.not_eq_true', Bool.not_eq_false', decide_eq_true_eq, decide_eq_false_iff_not, reduceCtorEq, Bool.true_eq_false, Bool.false_eq_true, mk_size, List.size_toArray, ByteArray.size_append, ByteArray.size_extract, List.length_cons, List.length_nil, ba_get, ba_empty, Int.toNat_natCast] at hW))
    | (refine And.intro (?_ : _ → _) (?_ : _ → _))
    | (refine FinR.drop 0 (Nat.zero_le _) (Closed.zero _) rfl ?_)
    | (refine FinR.keep ?_)
    | (refine And.intro (det3_agg rfl) ?_)
    | (refine fL_mk ?_)
    | (refine And.intro (by (try simp only [mk_size, List.size_toArray, ByteArray.size_append, ByteArray.size_extract, List.length_cons, List.length_nil]); omega) ?_)
    | (refine And.intro (by (try simp only [mk_size, List.size_toArray, ByteArray.size_append, ByteArray.size_extract, List.length_cons, List.length_nil, wrap64_eq]); omega) ?_)
    | fail)
  have hw := runN_lt hfo (show 0 < 2 ^ 36 by decide)
  have hb := runN_lt hfo (show fullN < 2 ^ 36 by decide)
  have h0 : K (.tup [Pi (effN (runN (fsOf xs ys) 0) (runN (fsOf xs ys) fullN) 36), Bo true]) [] := h0
  generalize runN (fsOf xs ys) 0 = w at h0 hw ⊢
  generalize runN (fsOf xs ys) fullN = bb at h0 hb ⊢
  obtain ⟨R, hR⟩ : ∃ R : List Blk, R = S ++ [A] ++ [B] ++ [C] := ⟨_, rfl⟩
  have kk2 : R[2]? = some (bQ z36 58) := by rw [hR]; exact getx1 (getx1 (getx1 k2))
  have kk1 : R[1]? = some (bQ z36 58) := by rw [hR]; exact getx1 (getx1 (getx1 k1))
  rw [← hR]
  obtain ⟨Q, hQ⟩ : ∃ Q : List Blk, Q = R ++ [⟨[U (w : Nat), U (bb : Nat)], 0, 91, 0, false, false⟩] := ⟨_, rfl⟩
  have q2 : Q[2]? = some (bQ z36 58) := by rw [hQ]; exact getx1 kk2
  have q1 : Q[1]? = some (bQ z36 58) := by rw [hQ]; exact getx1 kk1
  have qp : Q[R.length]? = some ⟨[U (w : Nat), U (bb : Nat)], 0, 91, 0, false, false⟩ := by rw [hQ]; exact getl
  have hr : 2 < R.length := getElem?_lt kk2
  conv => rhs; change R ++ [⟨[U (w : Nat), U (bb : Nat)], 0, 91, 0, false, false⟩]; rw [← hQ]
  clear hQ hR kk2 kk1
  generalize R.length = r at qp hr ⊢
  have e0 : effN w bb 0 = z36 := rfl
  refine LoopR.live (fun i : Nat => [(2, .ptr 1 0 0), (4, .ptr 2 0 0), (7, .ptr r 0 0), (23, I i)]) (fun i => Q.set 2 (bQ (effN w bb i) 58)) (fun i => i ≤ 36) (fun i => 36 - i) 0 ⟨rfl, rfl, rfl, rfl, trivial⟩ (.keep (by rw [e0, set_self q2])) (Nat.zero_le _) ?_
  intro i hi
  by_cases hlt : i < 36
  · have hml : (effN w bb i).length = 36 := effN_len w bb (by omega)
    have p2 : (Q.set 2 (bQ (effN w bb i) 58))[2]? = some (bQ (effN w bb i) 58) := get_set q2
    have pp : (Q.set 2 (bQ (effN w bb i) 58))[r]? = some ⟨[U (w : Nat), U (bb : Nat)], 0, 91, 0, false, false⟩ := get_ne qp (by omega)
    have e1 : ((i : Nat) : Int).tmod 6 = ((i % 6 : Nat) : Int) := by rw [Int.tmod_eq_emod_of_nonneg (by omega)]; rfl
    have e2 : IntKind.i64.wrap (((i : Nat) : Int).tdiv 6) = ((i / 6 : Nat) : Int) := by rw [Int.tdiv_eq_ediv_of_nonneg (by omega), wrap_i64 _ (by omega) (by omega)]; rfl
    have hle : ∀ off, off = i → off + 1 ≤ (bQ (effN w bb i) 58).cells.length := fun off ho => cell_le (by omega)
    have hoff : 0 + ((i / 6 : Nat) : Int).toNat * 6 + ((i % 6 : Nat) : Int).toNat * 1 = i := by simp only [Int.toNat_natCast]; omega
    have hst : ∀ v : Int, ((effN w bb i).map I).take (0 + ((i / 6 : Nat) : Int).toNat * 6 + ((i % 6 : Nat) : Int).toNat * 1) ++ [I v] ++ ((effN w bb i).map I).drop (0 + ((i / 6 : Nat) : Int).toNat * 6 + ((i % 6 : Nat) : Int).toNat * 1 + 1) = ((effN w bb i).set i v).map I := fun v => by
      rw [hoff]; exact cell_st v (by omega)
    repeat' ((conv => whnf); first
      | (refine Exists.intro (bQ (effN w bb i) 58) (And.intro p2 (And.intro rfl (And.intro rfl (And.intro (hle _ hoff) ?_)))))
      | (rw [e1])
      | (rw [e2])
      | (refine And.intro rfl ?_)
      | (refine And.intro (by decide +kernel) ?_)
      | (refine And.intro trivial ?_)
      | (refine fS_mk ?_)
      | (refine And.intro ⟨_, pp, rfl⟩ ?_)
      | (refine And.intro ⟨_, p2, rfl⟩ ?_)
      | (refine Exists.intro _ (And.intro pp (And.intro rfl (And.intro (Nat.le_of_ble_eq_true rfl) ?_))))
      | (refine d_has (hn := by omega) (hk := by omega) (h0 := ?_) ..)
      | (refine Exists.intro _ (And.intro (fun τ => callW_fn (d_has (hn := by omega) (hk := by omega) (h0 := And.intro rfl rfl) ..)) ?_))
      | (refine Exists.intro _ (And.intro (callW_fn (d_has (hn := by omega) (hk := by omega) (h0 := And.intro rfl rfl) ..)) (And.intro trivial ?_)))
      | (refine Exists.intro _ (And.intro (callW_fn (d_has (hn := by omega) (hk := by omega) (h0 := And.intro rfl rfl) ..)) ?_))
      | (refine Exists.intro _ (And.intro (fun τ _ => callW_fn (d_has (hn := by omega) (hk := by omega) (h0 := And.intro rfl rfl) ..)) ?_))
      | (refine Exists.intro _ (And.intro rfl (And.intro rfl (And.intro (Nat.le_of_ble_eq_true rfl) ?_))))
      | (refine Exists.intro _ (And.intro rfl (And.intro rfl (And.intro rfl (And.intro (Nat.le_of_ble_eq_true rfl) ?_)))))
      | (refine And.intro (Exists.intro _ (And.intro rfl rfl)) ?_)
      | (exact fun hW => absurd hW (by decide +kernel))
      | (intro hW; (try simp only [Bool.not_true, Bool.not_false, Bool.not_eq_true', Bool.not_eq_false', decide_eq_true_eq, decide_eq_false_iff_not, reduceCtorEq, Bool.true_eq_false, Bool.false_eq_true, mk_size, List.size_toArray, ByteArray.size_append, ByteArray.size_extract, List.length_cons, List.length_nil, ba_get, ba_empty, Int.toNat_natCast] at hW))
      | (refine And.intro (?_ : _ → _) (?_ : _ → _))
      | (refine FinR.drop 0 (Nat.zero_le _) (Closed.zero _) rfl ?_)
      | (refine FinR.keep ?_)
      | (refine And.intro (det3_agg rfl) ?_)
      | (refine fL_mk ?_)
      | (refine And.intro (by (try simp only [mk_size, List.size_toArray, ByteArray.size_append, ByteArray.size_extract, List.length_cons, List.length_nil]); omega) ?_)
      | (refine And.intro (by (try simp only [mk_size, List.size_toArray, ByteArray.size_append, ByteArray.size_extract, List.length_cons, List.length_nil, wrap64_eq]); omega) ?_)
      | fail)
    all_goals first | (exfalso; omega) | skip
    all_goals (refine Again.go (i + 1) ⟨rfl, rfl, rfl, slI' (wsucc' i (by omega)), trivial⟩ (.keep ?_) (by omega) (by omega))
    all_goals first
      | (refine eff_round (Eq.trans (hst 2) ?_); rw [← effN_set w bb hlt, show efv w bb i = 2 by simp_all [efv]])
      | (refine eff_round (Eq.trans (hst 1) ?_); rw [← effN_set w bb hlt, show efv w bb i = 1 by simp_all [efv]])
      | (refine eff_round (Eq.trans (hst 0) ?_); rw [← effN_set w bb hlt, show efv w bb i = 0 by simp_all [efv]])
      | (refine eff_round (Eq.trans (hst 3) ?_); rw [← effN_set w bb hlt, show efv w bb i = 3 by simp_all [efv]])
      | skip
  · obtain rfl : i = 36 := by omega
    have hml : (effN w bb 36).length = 36 := effN_len w bb (by omega)
    have p2 : (Q.set 2 (bQ (effN w bb 36) 58))[2]? = some (bQ (effN w bb 36) 58) := get_set q2
    have p1 : (Q.set 2 (bQ (effN w bb 36) 58))[1]? = some (bQ z36 58) := get_ne q1 (by omega)
    generalize effN w bb 36 = q at h0 hml p1 p2 ⊢
    repeat' ((conv => whnf); first
      | (refine Exists.intro (bQ q 58) (And.intro p2 (And.intro rfl (And.intro (pic_le hml rfl) ?_))); rw [show (bQ q 58).cells = q.map I from rfl, pic_ld hml _ rfl])
      | (refine Exists.intro _ (And.intro p1 (And.intro rfl (And.intro (pic_len hml) (And.intro (Nat.le_of_ble_eq_true rfl) ?_)))))
      | (refine Exists.intro _ (And.intro (get_set p1) (And.intro rfl (And.intro (pic_rle hml _) ?_))); rw [pic_res hml _])
      | (refine FinR.drop 0 (Nat.zero_le _) (Closed.zero _) (by show (bel3 0 (Pi q) && (bel3 0 (Bo true) && true)) = true; rw [belPi]; rfl) ?_)
      | (refine And.intro rfl ?_)
      | (refine And.intro (by decide +kernel) ?_)
      | (refine And.intro trivial ?_)
      | (refine fS_mk ?_)
      | (refine Exists.intro _ (And.intro rfl (And.intro rfl (And.intro (Nat.le_of_ble_eq_true rfl) ?_))))
      | (refine Exists.intro _ (And.intro rfl (And.intro rfl (And.intro rfl (And.intro (Nat.le_of_ble_eq_true rfl) ?_)))))
      | (refine And.intro (Exists.intro _ (And.intro rfl rfl)) ?_)
      | (exact fun hW => absurd hW (by decide +kernel))
      | (intro hW; (try simp only [Bool.not_true, Bool.not_false, Bool.not_eq_true', Bool.not_eq_false', decide_eq_true_eq, decide_eq_false_iff_not, reduceCtorEq, Bool.true_eq_false, Bool.false_eq_true, mk_size, List.size_toArray, ByteArray.size_append, ByteArray.size_extract, List.length_cons, List.length_nil, ba_get, ba_empty, Int.toNat_natCast] at hW))
      | (refine And.intro (?_ : _ → _) (?_ : _ → _))
      | (refine FinR.drop 0 (Nat.zero_le _) (Closed.zero _) rfl ?_)
      | (refine FinR.keep ?_)
      | (refine And.intro (det3_agg rfl) ?_)
      | (refine fL_mk ?_)
      | (refine And.intro (by (try simp only [mk_size, List.size_toArray, ByteArray.size_append, ByteArray.size_extract, List.length_cons, List.length_nil]); omega) ?_)
      | (refine And.intro (by (try simp only [mk_size, List.size_toArray, ByteArray.size_append, ByteArray.size_extract, List.length_cons, List.length_nil, wrap64_eq]); omega) ?_)
      | fail)
    all_goals first | (exfalso; omega) | exact h0 | skip
end Go.Proofs.Ytbmilmnfhdkfjaa
end
