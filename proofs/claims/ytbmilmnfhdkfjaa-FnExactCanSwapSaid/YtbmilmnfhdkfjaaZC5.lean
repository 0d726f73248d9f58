import Derived.Test.YtbmilmnfhdkfjaaZC4
section
/- Contracts: plans by sets: the program's planOf. -/
set_option linter.unusedVariables false
set_option linter.unusedSimpArgs false
set_option maxRecDepth 100000
set_option maxHeartbeats 4000000
namespace Go.Proofs.Ytbmilmnfhdkfjaa
open Go Go.RowKit Go.Proofs.Ytbmilmnfhdkfjaa.Abs
variable {W0 : World} {σ : List Blk}
abbrev nilP : AV := .lit (.pointer none)
structure PX where
  i : Nat
  σ : List Blk
theorem c_planOfG (a b c d e f : Int) (v1 v2 : Value) (xs ys : List (List Int)) (h1 : Sli W0 [] 6 enI (.lit v1) xs) (h2 : Sli W0 [] 4 enI (.lit v2) ys) (hx : ∀ x ∈ xs, x.length = 6) (hy : ∀ x ∈ ys, x.length = 4) (hs : shB6 a b c d e f = true) (hx4 : xs.length ≤ 4) (hy40 : ys.length ≤ 40) (K : Cont)
    (h0 : planB a b c d e f xs ys = true → ∀ σ', PlanSt σ' 2 (stN [a, b, c, d, e, f]) (fsOf xs ys) → K (.tup [.ptr 2 0 0, Bo true]) σ') (h00 : planB a b c d e f xs ys = false → K (.tup [nilP, Bo false]) []) : ACall Try.prog W0 56 [PlA a b c d e f (.lit v1) (.lit v2)] [] K := by
  obtain ⟨n, hn, rfl, rfl, rfl, rfl, rfl, rfl, hst⟩ := st_parts hs
  rw [hst] at h0
  refine by56 (Nat.le_of_ble_eq_true rfl) ?_
  obtain ⟨o1, n1, cap1, hv1, hn1, hc1, hm1, hf1⟩ := sli_form h1
  obtain ⟨o2, n2, cap2, hv2, hn2, hc2, hm2, hf2⟩ := sli_form h2
  cases hv1; cases hv2
  subst hn1; subst hn2
  repeat' ((conv => whnf); first
    | (refine And.intro rfl ?_)
    | (refine And.intro (by decide +kernel) ?_)
    | (refine And.intro trivial ?_)
    | (refine d_setOfN (n := n) (hn := hn) (h0 := ?_) ..)
    | (refine Exists.intro _ (And.intro rfl (And.intro rfl (And.intro (Nat.le_of_ble_eq_true rfl) ?_))))
    | (refine Exists.intro _ (And.intro rfl (And.intro rfl (And.intro rfl (And.intro (Nat.le_of_ble_eq_true rfl) ?_)))))
    | (refine And.intro (Exists.intro _ (And.intro rfl rfl)) ?_)
    | (exact fun hW => absurd hW (by decide +kernel))
    | (intro hW; (try simp only [Bool.not_true, Bool.not_false, Bool.not_eq_true', Bool.not_eq_false', decide_eq_true_eq, decide_eq_false_iff_not, reduceCtorEq, Bool.true_eq_false, Bool.false_eq_true, mk_size, List.size_toArray, ByteArray.size_append, ByteArray.size_extract, List.length_cons, List.length_nil, ba_get, ba_empty, Int.toNat_natCast] at hW))
    | (refine And.intro (?_ : _ → _) (?_ : _ → _))
    | (refine FinR.drop 0 (Nat.zero_le _) (Closed.zero _) rfl ?_)
    | (refine FinR.keep ?_)
    | (refine And.intro (det3_agg rfl) ?_)
    | (refine fL_mk ?_)
    | (refine And.intro (by (try simp only [mk_size, List.size_toArray, ByteArray.size_append, ByteArray.size_extract, List.length_cons, List.length_nil]); omega) ?_)
    | (refine And.intro (by (try simp only [mk_size, List.size_toArray, ByteArray.size_append, ByteArray.size_extract, List.length_cons, List.length_nil, wrap64_eq]); omega) ?_)
    | fail)
  all_goals first | (exfalso; omega) | (exfalso; simp_all; done) | skip
  refine LoopR.live (fun y : Nat × Nat => [(1, .ptr 0 0 0), (4, U n), (6, .sl 1 ((xs.take y.1).map stN).length 0 ((xs.take y.1).map stN).length y.2), (38, .lit (.slice o1 xs.length cap1)), (39, I xs.length), (40, I y.1)]) (fun y => [plBx (rowN n 0 : Nat) (rowN n 1 : Nat) (rowN n 2 : Nat) (rowN n 3 : Nat) (rowN n 4 : Nat) (rowN n 5 : Nat) (.lit (.slice o1 xs.length cap1)) (.lit (.slice o2 ys.length cap2)) 35, stB ((xs.take y.1).map stN)]) (fun y => y.1 ≤ xs.length ∧ (xs.take y.1).all shRow = true) (fun y => xs.length - y.1) (0, 0) ⟨rfl, rfl, rfl, rfl, rfl, rfl, trivial⟩ (.keep rfl) ⟨Nat.zero_le _, rfl⟩ ?_
  rintro ⟨i, cp⟩ ⟨hi, hxa⟩
  dsimp only at hi hxa
  have hml : ((xs.take i).map stN).length = i := by rw [List.length_map, List.length_take, Nat.min_eq_left hi]
  by_cases hlt : i < xs.length
  · obtain ⟨c0, c1, c2, c3, c4, c5, hxi⟩ := row6x hx hlt
    obtain ⟨ad, rfl, hb, hxx⟩ := hf1 i _ hxi
    have hld := fun C h => ldIn (W0 := W0) (s := 6) (enc := enI) hb hxx (k := i) hxi rfl (C := C) h
    cases hrr : shRow [c0, c1, c2, c3, c4, c5] with
    | false =>
      have hr : shB6 c0 c1 c2 c3 c4 c5 = false := hrr
      have h0 := h00 (by simp [planB, all_badG hxi hrr])
      repeat' ((conv => whnf); first
        | (refine And.intro rfl ?_)
        | (refine And.intro (by decide +kernel) ?_)
        | (refine And.intro trivial ?_)
        | (refine hld _ ?_)
        | (refine d_setOfF (hb := hr) (h0 := ?_) ..)
        | (refine Exists.intro _ (And.intro rfl (And.intro rfl (And.intro (Nat.le_of_ble_eq_true rfl) ?_))))
        | (refine Exists.intro _ (And.intro rfl (And.intro rfl (And.intro rfl (And.intro (Nat.le_of_ble_eq_true rfl) ?_)))))
        | (refine And.intro (Exists.intro _ (And.intro rfl rfl)) ?_)
        | (exact fun hW => absurd hW (by decide +kernel))
        | (intro hW; (try simp only [Bool.not_true, Bool.not_false, Bool.not_eq_true', Bool.not_eq_false', decide_eq_true_eq, decide_eq_false_iff_not, reduceCtorEq, Bool.true_eq_false, Bool.false_eq_true, mk_size, List.size_toArray, ByteArray.size_append, ByteArray.size_extract, List.length_cons, List.length_nil, ba_get, ba_empty, Int.toNat_natCast] at hW))
        | (refine And.intro (?_ : _ → _) (?_ : _ → _))
        | (refine FinR.drop 0 (Nat.zero_le _) (Closed.zero _) rfl ?_)
        | (refine FinR.keep ?_)
        | (refine And.intro (det3_agg rfl) ?_)
        | (refine fL_mk ?_)
        | (refine And.intro (by (try simp only [mk_size, List.size_toArray, ByteArray.size_append, ByteArray.size_extract, List.length_cons, List.length_nil]); omega) ?_)
        | (refine And.intro (by (try simp only [mk_size, List.size_toArray, ByteArray.size_append, ByteArray.size_extract, List.length_cons, List.length_nil, wrap64_eq]); omega) ?_)
        | fail)
      all_goals first | (exfalso; omega) | (exfalso; simp_all; done) | exact h0
    | true =>
      have hr : shB6 c0 c1 c2 c3 c4 c5 = true := hrr
      obtain ⟨m, hm, rfl, rfl, rfl, rfl, rfl, rfl, hsm⟩ := st_parts hr
      have hsn : (xs.take (i + 1)).map stN = (xs.take i).map stN ++ [m] := by rw [take_snoc hxi, List.map_append, List.map_cons, hsm]; rfl
      repeat' ((conv => whnf); first
        | (refine And.intro rfl ?_)
        | (refine And.intro (by decide +kernel) ?_)
        | (refine And.intro trivial ?_)
        | (refine hld _ ?_)
        | (refine d_setOfN (n := m) (hn := hm) (h0 := ?_) ..)
        | (refine Exists.intro _ (And.intro rfl (And.intro rfl (And.intro rfl (And.intro rfl (And.intro rfl (And.intro rfl (And.intro (by decide) (And.intro (by simp [List.length_map]) (And.intro rfl (And.intro (by (try dsimp only); unfold maxLen; omega) (And.intro (by (try dsimp only); omega) (fun cap' hcap1 hcap2 => ?_)))))))))))))
        | (refine Exists.intro _ (And.intro rfl (And.intro rfl (And.intro (Nat.le_of_ble_eq_true rfl) ?_))))
        | (refine Exists.intro _ (And.intro rfl (And.intro rfl (And.intro rfl (And.intro (Nat.le_of_ble_eq_true rfl) ?_)))))
        | (refine And.intro (Exists.intro _ (And.intro rfl rfl)) ?_)
        | (exact fun hW => absurd hW (by decide +kernel))
        | (intro hW; (try simp only [Bool.not_true, Bool.not_false, Bool.not_eq_true', Bool.not_eq_false', decide_eq_true_eq, decide_eq_false_iff_not, reduceCtorEq, Bool.true_eq_false, Bool.false_eq_true, mk_size, List.size_toArray, ByteArray.size_append, ByteArray.size_extract, List.length_cons, List.length_nil, ba_get, ba_empty, Int.toNat_natCast] at hW))
        | (refine And.intro (?_ : _ → _) (?_ : _ → _))
        | (refine FinR.drop 0 (Nat.zero_le _) (Closed.zero _) rfl ?_)
        | (refine FinR.keep ?_)
        | (refine And.intro (det3_agg rfl) ?_)
        | (refine fL_mk ?_)
        | (refine And.intro (by (try simp only [mk_size, List.size_toArray, ByteArray.size_append, ByteArray.size_extract, List.length_cons, List.length_nil]); omega) ?_)
        | (refine And.intro (by (try simp only [mk_size, List.size_toArray, ByteArray.size_append, ByteArray.size_extract, List.length_cons, List.length_nil, wrap64_eq]); omega) ?_)
        | fail)
      all_goals first | (exfalso; omega) | (exfalso; simp_all; done) | skip
      refine Again.go (i + 1, _) ⟨rfl, rfl, (by show AV.sl _ _ _ _ _ = AV.sl _ _ _ _ _; rw [hsn, List.length_append]; rfl), rfl, rfl, slI' (wsucc' i (by omega)), trivial⟩ (.drop 2 (Nat.zero_le _) ?_ (closCons rfl (closCons (List.all_eq_true.2 fun v hv => by obtain ⟨w, _, rfl⟩ := List.mem_map.1 hv; rfl) (closNil 2))) rfl) ⟨by dsimp only; omega, by dsimp only; rw [all_takeG hxi, hxa, hrr]; rfl⟩ (by dsimp only; omega)
      dsimp only [stB]
      rw [hsn, List.length_append, List.map_append]; rfl
  · obtain rfl : i = xs.length := by omega
    rw [List.take_length] at hml hxa ⊢
    repeat' ((conv => whnf); first
      | (refine And.intro rfl ?_)
      | (refine And.intro (by decide +kernel) ?_)
      | (refine And.intro trivial ?_)
      | (refine Exists.intro _ (And.intro rfl (And.intro rfl (And.intro (Nat.le_of_ble_eq_true rfl) ?_))))
      | (refine Exists.intro _ (And.intro rfl (And.intro rfl (And.intro rfl (And.intro (Nat.le_of_ble_eq_true rfl) ?_)))))
      | (refine And.intro (Exists.intro _ (And.intro rfl rfl)) ?_)
      | (exact fun hW => absurd hW (by decide +kernel))
      | (intro hW; (try simp only [Bool.not_true, Bool.not_false, Bool.not_eq_true', Bool.not_eq_false', decide_eq_true_eq, decide_eq_false_iff_not, reduceCtorEq, Bool.true_eq_false, Bool.false_eq_true, mk_size, List.size_toArray, ByteArray.size_append, ByteArray.size_extract, List.length_cons, List.length_nil, ba_get, ba_empty, Int.toNat_natCast] at hW))
      | (refine And.intro (?_ : _ → _) (?_ : _ → _))
      | (refine FinR.drop 0 (Nat.zero_le _) (Closed.zero _) rfl ?_)
      | (refine FinR.keep ?_)
      | (refine And.intro (det3_agg rfl) ?_)
      | (refine fL_mk ?_)
      | (refine And.intro (by (try simp only [mk_size, List.size_toArray, ByteArray.size_append, ByteArray.size_extract, List.length_cons, List.length_nil]); omega) ?_)
      | (refine And.intro (by (try simp only [mk_size, List.size_toArray, ByteArray.size_append, ByteArray.size_extract, List.length_cons, List.length_nil, wrap64_eq]); omega) ?_)
      | fail)
    all_goals first | (exfalso; omega) | skip
    refine LoopR.live (fun y : PX => [(6, .sl 1 (xs.map stN).length 0 (xs.map stN).length cp), (11, .ptr 2 0 0), (60, .lit (.slice o2 ys.length cap2)), (61, I ys.length), (62, I y.i)]) (fun y => y.σ) (fun y => y.i ≤ ys.length ∧ y.σ[1]? = some (stB (xs.map stN)) ∧ PlanSt y.σ 2 n ((fsOf xs ys).take y.i) ∧ (ys.take y.i).all (stOk xs.length) = true) (fun y => ys.length - y.i) ⟨0, _⟩ ⟨rfl, rfl, rfl, rfl, rfl, trivial⟩ (.keep rfl) ⟨Nat.zero_le _, rfl, ⟨nilA, rfl, .nil⟩, rfl⟩ ?_
    rintro ⟨j, σ⟩ ⟨hj, h1, hps, hya⟩
    dsimp only at hj h1 hps hya
    by_cases hlt2 : j < ys.length
    · obtain ⟨k, s, x, y, hyj⟩ := row4x hy hlt2
      obtain ⟨ad, rfl, hb, hxx⟩ := hf2 j _ hyj
      have hld := fun C h => ldIn (W0 := W0) (s := 4) (enc := enI) hb hxx (k := j) hyj rfl (C := C) h
      have hmm : (xs.map stN).length ≤ 1048576 := by omega
      cases hok : stOk xs.length [k, s, x, y] with
      | false =>
        have h0 := h00 (by simp [planB, all_badG hyj hok])
        rw [← hml] at hok
        repeat' ((conv => whnf); first
          | (refine Exists.intro _ (And.intro getl (And.intro rfl (And.intro rfl (And.intro (Nat.le_of_ble_eq_true rfl) ?_)))); rw [set_last])
          | (refine And.intro rfl ?_)
          | (refine And.intro (by decide +kernel) ?_)
          | (refine And.intro trivial ?_)
          | (refine fS_mk ?_)
          | (refine hld _ ?_)
          | (refine d_isStep (m := (xs.map stN).length) (hm := hmm) (h0 := ?_) ..)
          | (refine Exists.intro _ (And.intro (fun τ => callW_fn (d_isStep (m := (xs.map stN).length) (hm := hmm) (h0 := And.intro rfl rfl) ..)) ?_))
          | (refine Exists.intro _ (And.intro (callW_fn (d_isStep (m := (xs.map stN).length) (hm := hmm) (h0 := And.intro rfl rfl) ..)) (And.intro trivial ?_)))
          | (refine Exists.intro _ (And.intro (callW_fn (d_isStep (m := (xs.map stN).length) (hm := hmm) (h0 := And.intro rfl rfl) ..)) ?_))
          | (refine Exists.intro _ (And.intro (fun τ _ => callW_fn (d_isStep (m := (xs.map stN).length) (hm := hmm) (h0 := And.intro rfl rfl) ..)) ?_))
          | (refine Exists.intro _ (And.intro getl (And.intro rfl (And.intro (Nat.le_of_ble_eq_true rfl) ?_))))
          | (refine Exists.intro _ (And.intro (getx1 getl) (And.intro rfl (And.intro (Nat.le_of_ble_eq_true rfl) ?_))))
          | (refine Exists.intro _ (And.intro (getx1 (getx1 getl)) (And.intro rfl (And.intro (Nat.le_of_ble_eq_true rfl) ?_))))
          | (refine Exists.intro _ (And.intro (getx1 h1) (And.intro rfl (And.intro (Nat.le_of_ble_eq_true rfl) ?_))))
          | (refine Exists.intro _ (And.intro (getx1 (getx1 h1)) (And.intro rfl (And.intro (Nat.le_of_ble_eq_true rfl) ?_))))
          | (refine Exists.intro _ (And.intro (getx1 (getx1 (getx1 h1))) (And.intro rfl (And.intro (Nat.le_of_ble_eq_true rfl) ?_))))
          | (refine And.intro ⟨_, getl, rfl⟩ ?_)
          | (refine And.intro ⟨_, (getx1 getl), rfl⟩ ?_)
          | (refine And.intro ⟨_, (getx1 (getx1 getl)), rfl⟩ ?_)
          | (refine And.intro ⟨_, (getx1 h1), rfl⟩ ?_)
          | (refine And.intro ⟨_, (getx1 (getx1 h1)), rfl⟩ ?_)
          | (refine And.intro ⟨_, (getx1 (getx1 (getx1 h1))), rfl⟩ ?_)
          | (refine Exists.intro _ (And.intro rfl (And.intro rfl (And.intro (Nat.le_of_ble_eq_true rfl) ?_))))
          | (refine Exists.intro _ (And.intro rfl (And.intro rfl (And.intro rfl (And.intro (Nat.le_of_ble_eq_true rfl) ?_)))))
          | (refine And.intro (Exists.intro _ (And.intro rfl rfl)) ?_)
          | (exact fun hW => absurd hW (by decide +kernel))
          | (intro hW; (try simp only [Bool.not_true, Bool.not_false, Bool.not_eq_true', Bool.not_eq_false', decide_eq_true_eq, decide_eq_false_iff_not, reduceCtorEq, Bool.true_eq_false, Bool.false_eq_true, mk_size, List.size_toArray, ByteArray.size_append, ByteArray.size_extract, List.length_cons, List.length_nil, ba_get, ba_empty, Int.toNat_natCast] at hW))
          | (refine And.intro (?_ : _ → _) (?_ : _ → _))
          | (refine FinR.drop 0 (Nat.zero_le _) (Closed.zero _) rfl ?_)
          | (refine FinR.keep ?_)
          | (refine And.intro (det3_agg rfl) ?_)
          | (refine fL_mk ?_)
          | (refine And.intro (by (try simp only [mk_size, List.size_toArray, ByteArray.size_append, ByteArray.size_extract, List.length_cons, List.length_nil]); omega) ?_)
          | (refine And.intro (by (try simp only [mk_size, List.size_toArray, ByteArray.size_append, ByteArray.size_extract, List.length_cons, List.length_nil, wrap64_eq]); omega) ?_)
          | fail)
        all_goals first | (exfalso; omega) | (exfalso; simp_all; done) | exact h0 | (exfalso; rw [hok] at hW; cases hW; done)
      | true =>
        have hnx : (ys.take (j + 1)).all (stOk xs.length) = true := by rw [all_takeG hyj, hya, hok]; rfl
        have hok2 := hok
        rw [stOk_eq] at hok2
        simp only [Bool.and_eq_true] at hok2
        obtain ⟨⟨hk, hsx⟩, hce⟩ := hok2
        have hk3 := (inB_iff _ _ _).1 hk
        have hs3 := (inB_iff _ _ _).1 hsx
        obtain ⟨u, v, rfl, rfl, hu, hv⟩ : ∃ u v : Nat, x = u ∧ y = v ∧ u < 6 ∧ v < 6 := by
          have := cellB_iff.1 hce
          exact ⟨x.toNat, y.toNat, by omega, by omega, by omega, by omega⟩
        have hxs := xget (xs := xs) (k := s) (by omega)
        have hq : shRow (xs.getD s.toNat []) = true := List.all_eq_true.1 hxa _ (List.mem_of_getElem? hxs)
        have hq6 := hx _ (List.mem_of_getElem? hxs)
        obtain ⟨m, hm, hsm⟩ : ∃ m : Nat, m < 2 ^ 36 ∧ stN (xs.getD s.toNat []) = m := by
          match hz : xs.getD s.toNat [], hq6, hq with
          | [c0, c1, c2, c3, c4, c5], _, hq =>
            obtain ⟨m, hm, _, _, _, _, _, _, hsm⟩ := st_parts hq
            exact ⟨m, hm, hsm⟩
        have hsg : (xs.map stN)[s.toNat]? = some m := by rw [List.getElem?_map, hxs, Option.map_some, hsm]
        have hfs : (fsOf xs ys).take (j + 1) = (fsOf xs ys).take j ++ [(k.toNat, prN m u v)] := by
          refine take_snoc ?_
          rw [fsOf, List.getElem?_map, hyj]
          show some (k.toNat, prN (stN (xs.getD s.toNat [])) u v) = _
          rw [hsm]
        have hpr : ∀ {W : World} {σ : List Blk} (K : Cont), K (U (prN m u v : Nat)) σ → ACall Try.prog W 89 [U m, I (v * 6 + u : Nat)] σ K := by
          intro W σ K hK
          refine d_pressed m (v * 6 + u) hm (by omega) K ?_
          rw [show (v * 6 + u) % 6 = u by omega, show (v * 6 + u) / 6 = v by omega]
          exact hK
        have hget := stB_get hsg (off := 0 + s.toNat * 1) (by omega)
        have hgle : 0 + s.toNat * 1 + 1 ≤ ((xs.map stN).map (fun n : Nat => U n)).length := by rw [List.length_map, List.length_map]; omega
        rw [← hml] at hok hs3
        obtain ⟨st, h2, hst2⟩ := hps.ex
        have hps0 : ∀ k', k.toNat = k' → 1 ≤ k' ∧ k' ≤ 3 := by intro k' e; omega
        obtain ⟨k', rfl, hk1, hk2⟩ : ∃ k' : Nat, k = k' ∧ 1 ≤ k' ∧ k' ≤ 3 := ⟨k.toNat, by omega, by omega, by omega⟩
        rw [Int.toNat_natCast] at hfs
        generalize (fsOf xs ys).take j = fs at hst2 hps hfs
        clear hps0
        cases hst2 with
        | nil =>
          obtain rfl | rfl | rfl : k' = 1 ∨ k' = 2 ∨ k' = 3 := by omega
          · skip
            repeat' ((conv => whnf); first
              | (refine And.intro rfl (Exists.intro (stB (xs.map stN)) (And.intro (getx1 h1) (And.intro rfl (And.intro hgle ?_)))); rw [show (stB (xs.map stN)).cells = (xs.map stN).map (fun n : Nat => U n) from rfl, hget])
              | (refine Exists.intro _ (And.intro getl (And.intro rfl (And.intro rfl (And.intro (Nat.le_of_ble_eq_true rfl) ?_)))); rw [set_last])
              | (refine And.intro rfl ?_)
              | (refine And.intro (by decide +kernel) ?_)
              | (refine And.intro trivial ?_)
              | (refine fS_mk ?_)
              | (refine hld _ ?_)
              | (refine d_isStep (m := (xs.map stN).length) (hm := hmm) (h0 := ?_) ..)
              | (refine Exists.intro _ (And.intro (fun τ => callW_fn (d_isStep (m := (xs.map stN).length) (hm := hmm) (h0 := And.intro rfl rfl) ..)) ?_))
              | (refine Exists.intro _ (And.intro (callW_fn (d_isStep (m := (xs.map stN).length) (hm := hmm) (h0 := And.intro rfl rfl) ..)) (And.intro trivial ?_)))
              | (refine Exists.intro _ (And.intro (callW_fn (d_isStep (m := (xs.map stN).length) (hm := hmm) (h0 := And.intro rfl rfl) ..)) ?_))
              | (refine Exists.intro _ (And.intro (fun τ _ => callW_fn (d_isStep (m := (xs.map stN).length) (hm := hmm) (h0 := And.intro rfl rfl) ..)) ?_))
              | (refine Exists.intro _ (And.intro (fun τ => callW_fn (d_number (hx := by omega) (hy := by omega) (h0 := And.intro rfl rfl) ..)) ?_))
              | (refine Exists.intro _ (And.intro (fun τ => callW_fn (hpr _ (And.intro rfl rfl))) ?_))
              | (refine Exists.intro _ (And.intro getl (And.intro rfl (And.intro (Nat.le_of_ble_eq_true rfl) ?_))))
              | (refine Exists.intro _ (And.intro (getx1 getl) (And.intro rfl (And.intro (Nat.le_of_ble_eq_true rfl) ?_))))
              | (refine Exists.intro _ (And.intro (getx1 (getx1 getl)) (And.intro rfl (And.intro (Nat.le_of_ble_eq_true rfl) ?_))))
              | (refine Exists.intro _ (And.intro (getx1 h1) (And.intro rfl (And.intro (Nat.le_of_ble_eq_true rfl) ?_))))
              | (refine Exists.intro _ (And.intro (getx1 (getx1 h1)) (And.intro rfl (And.intro (Nat.le_of_ble_eq_true rfl) ?_))))
              | (refine Exists.intro _ (And.intro (getx1 (getx1 (getx1 h1))) (And.intro rfl (And.intro (Nat.le_of_ble_eq_true rfl) ?_))))
              | (refine Exists.intro _ (And.intro (getx1 h2) (And.intro rfl (And.intro (Nat.le_of_ble_eq_true rfl) ?_))))
              | (refine Exists.intro _ (And.intro (getx1 (getx1 h2)) (And.intro rfl (And.intro (Nat.le_of_ble_eq_true rfl) ?_))))
              | (refine Exists.intro _ (And.intro (getx1 (getx1 (getx1 h2))) (And.intro rfl (And.intro (Nat.le_of_ble_eq_true rfl) ?_))))
              | (refine And.intro ⟨_, getl, rfl⟩ ?_)
              | (refine And.intro ⟨_, (getx1 getl), rfl⟩ ?_)
              | (refine And.intro ⟨_, (getx1 (getx1 getl)), rfl⟩ ?_)
              | (refine And.intro ⟨_, (getx1 h1), rfl⟩ ?_)
              | (refine And.intro ⟨_, (getx1 (getx1 h1)), rfl⟩ ?_)
              | (refine And.intro ⟨_, (getx1 (getx1 (getx1 h1))), rfl⟩ ?_)
              | (refine And.intro ⟨_, (getx1 h2), rfl⟩ ?_)
              | (refine And.intro ⟨_, (getx1 (getx1 h2)), rfl⟩ ?_)
              | (refine And.intro ⟨_, (getx1 (getx1 (getx1 h2))), rfl⟩ ?_)
              | (refine And.intro ⟨_, (getx1 (getx1 (getx1 (getx1 h2)))), rfl⟩ ?_)
              | (refine Exists.intro _ (And.intro (getx1 (getx1 (getx1 (getx1 h2)))) (And.intro rfl (And.intro rfl (And.intro (Nat.le_of_ble_eq_true rfl) ?_)))))
              | (refine Exists.intro _ (And.intro rfl (And.intro rfl (And.intro (Nat.le_of_ble_eq_true rfl) ?_))))
              | (refine Exists.intro _ (And.intro rfl (And.intro rfl (And.intro rfl (And.intro (Nat.le_of_ble_eq_true rfl) ?_)))))
              | (refine And.intro (Exists.intro _ (And.intro rfl rfl)) ?_)
              | (exact fun hW => absurd hW (by decide +kernel))
              | (intro hW; (try simp only [Bool.not_true, Bool.not_false, Bool.not_eq_true', Bool.not_eq_false', decide_eq_true_eq, decide_eq_false_iff_not, reduceCtorEq, Bool.true_eq_false, Bool.false_eq_true, mk_size, List.size_toArray, ByteArray.size_append, ByteArray.size_extract, List.length_cons, List.length_nil, ba_get, ba_empty, Int.toNat_natCast] at hW))
              | (refine And.intro (?_ : _ → _) (?_ : _ → _))
              | (refine FinR.drop 0 (Nat.zero_le _) (Closed.zero _) rfl ?_)
              | (refine FinR.keep ?_)
              | (refine And.intro (det3_agg rfl) ?_)
              | (refine fL_mk ?_)
              | (refine And.intro (by (try simp only [mk_size, List.size_toArray, ByteArray.size_append, ByteArray.size_extract, List.length_cons, List.length_nil]); omega) ?_)
              | (refine And.intro (by (try simp only [mk_size, List.size_toArray, ByteArray.size_append, ByteArray.size_extract, List.length_cons, List.length_nil, wrap64_eq]); omega) ?_)
              | fail)
            all_goals first | (exfalso; omega) | (exfalso; simp_all; done) | (exfalso; rw [hok] at hW; cases hW; done) | skip
            refine Again.go ⟨j + 1, _⟩ ⟨rfl, rfl, rfl, rfl, slI' (wsucc' j (by omega)), trivial⟩ (.keep rfl) ⟨by dsimp only; omega, get_ne (getx1 (getx1 (getx1 (getx1 h1)))) (by decide), ?_, hnx⟩ (by dsimp only; omega)
            dsimp only
            rw [hfs]
            exact plan_step0 (m := prN m u v) (k := 1) (s := nilA) h2
          · skip
            repeat' ((conv => whnf); first
              | (refine And.intro rfl (Exists.intro (stB (xs.map stN)) (And.intro (getx1 h1) (And.intro rfl (And.intro hgle ?_)))); rw [show (stB (xs.map stN)).cells = (xs.map stN).map (fun n : Nat => U n) from rfl, hget])
              | (refine Exists.intro _ (And.intro getl (And.intro rfl (And.intro rfl (And.intro (Nat.le_of_ble_eq_true rfl) ?_)))); rw [set_last])
              | (refine And.intro rfl ?_)
              | (refine And.intro (by decide +kernel) ?_)
              | (refine And.intro trivial ?_)
              | (refine fS_mk ?_)
              | (refine hld _ ?_)
              | (refine d_isStep (m := (xs.map stN).length) (hm := hmm) (h0 := ?_) ..)
              | (refine Exists.intro _ (And.intro (fun τ => callW_fn (d_isStep (m := (xs.map stN).length) (hm := hmm) (h0 := And.intro rfl rfl) ..)) ?_))
              | (refine Exists.intro _ (And.intro (callW_fn (d_isStep (m := (xs.map stN).length) (hm := hmm) (h0 := And.intro rfl rfl) ..)) (And.intro trivial ?_)))
              | (refine Exists.intro _ (And.intro (callW_fn (d_isStep (m := (xs.map stN).length) (hm := hmm) (h0 := And.intro rfl rfl) ..)) ?_))
              | (refine Exists.intro _ (And.intro (fun τ _ => callW_fn (d_isStep (m := (xs.map stN).length) (hm := hmm) (h0 := And.intro rfl rfl) ..)) ?_))
              | (refine Exists.intro _ (And.intro (fun τ => callW_fn (d_number (hx := by omega) (hy := by omega) (h0 := And.intro rfl rfl) ..)) ?_))
              | (refine Exists.intro _ (And.intro (fun τ => callW_fn (hpr _ (And.intro rfl rfl))) ?_))
              | (refine Exists.intro _ (And.intro getl (And.intro rfl (And.intro (Nat.le_of_ble_eq_true rfl) ?_))))
              | (refine Exists.intro _ (And.intro (getx1 getl) (And.intro rfl (And.intro (Nat.le_of_ble_eq_true rfl) ?_))))
              | (refine Exists.intro _ (And.intro (getx1 (getx1 getl)) (And.intro rfl (And.intro (Nat.le_of_ble_eq_true rfl) ?_))))
              | (refine Exists.intro _ (And.intro (getx1 h1) (And.intro rfl (And.intro (Nat.le_of_ble_eq_true rfl) ?_))))
              | (refine Exists.intro _ (And.intro (getx1 (getx1 h1)) (And.intro rfl (And.intro (Nat.le_of_ble_eq_true rfl) ?_))))
              | (refine Exists.intro _ (And.intro (getx1 (getx1 (getx1 h1))) (And.intro rfl (And.intro (Nat.le_of_ble_eq_true rfl) ?_))))
              | (refine Exists.intro _ (And.intro (getx1 h2) (And.intro rfl (And.intro (Nat.le_of_ble_eq_true rfl) ?_))))
              | (refine Exists.intro _ (And.intro (getx1 (getx1 h2)) (And.intro rfl (And.intro (Nat.le_of_ble_eq_true rfl) ?_))))
              | (refine Exists.intro _ (And.intro (getx1 (getx1 (getx1 h2))) (And.intro rfl (And.intro (Nat.le_of_ble_eq_true rfl) ?_))))
              | (refine And.intro ⟨_, getl, rfl⟩ ?_)
              | (refine And.intro ⟨_, (getx1 getl), rfl⟩ ?_)
              | (refine And.intro ⟨_, (getx1 (getx1 getl)), rfl⟩ ?_)
              | (refine And.intro ⟨_, (getx1 h1), rfl⟩ ?_)
              | (refine And.intro ⟨_, (getx1 (getx1 h1)), rfl⟩ ?_)
              | (refine And.intro ⟨_, (getx1 (getx1 (getx1 h1))), rfl⟩ ?_)
              | (refine And.intro ⟨_, (getx1 h2), rfl⟩ ?_)
              | (refine And.intro ⟨_, (getx1 (getx1 h2)), rfl⟩ ?_)
              | (refine And.intro ⟨_, (getx1 (getx1 (getx1 h2))), rfl⟩ ?_)
              | (refine And.intro ⟨_, (getx1 (getx1 (getx1 (getx1 h2)))), rfl⟩ ?_)
              | (refine Exists.intro _ (And.intro (getx1 (getx1 (getx1 (getx1 h2)))) (And.intro rfl (And.intro rfl (And.intro (Nat.le_of_ble_eq_true rfl) ?_)))))
              | (refine Exists.intro _ (And.intro rfl (And.intro rfl (And.intro (Nat.le_of_ble_eq_true rfl) ?_))))
              | (refine Exists.intro _ (And.intro rfl (And.intro rfl (And.intro rfl (And.intro (Nat.le_of_ble_eq_true rfl) ?_)))))
              | (refine And.intro (Exists.intro _ (And.intro rfl rfl)) ?_)
              | (exact fun hW => absurd hW (by decide +kernel))
              | (intro hW; (try simp only [Bool.not_true, Bool.not_false, Bool.not_eq_true', Bool.not_eq_false', decide_eq_true_eq, decide_eq_false_iff_not, reduceCtorEq, Bool.true_eq_false, Bool.false_eq_true, mk_size, List.size_toArray, ByteArray.size_append, ByteArray.size_extract, List.length_cons, List.length_nil, ba_get, ba_empty, Int.toNat_natCast] at hW))
              | (refine And.intro (?_ : _ → _) (?_ : _ → _))
              | (refine FinR.drop 0 (Nat.zero_le _) (Closed.zero _) rfl ?_)
              | (refine FinR.keep ?_)
              | (refine And.intro (det3_agg rfl) ?_)
              | (refine fL_mk ?_)
              | (refine And.intro (by (try simp only [mk_size, List.size_toArray, ByteArray.size_append, ByteArray.size_extract, List.length_cons, List.length_nil]); omega) ?_)
              | (refine And.intro (by (try simp only [mk_size, List.size_toArray, ByteArray.size_append, ByteArray.size_extract, List.length_cons, List.length_nil, wrap64_eq]); omega) ?_)
              | fail)
            all_goals first | (exfalso; omega) | (exfalso; simp_all; done) | (exfalso; rw [hok] at hW; cases hW; done) | skip
            refine Again.go ⟨j + 1, _⟩ ⟨rfl, rfl, rfl, rfl, slI' (wsucc' j (by omega)), trivial⟩ (.keep rfl) ⟨by dsimp only; omega, get_ne (getx1 (getx1 (getx1 (getx1 h1)))) (by decide), ?_, hnx⟩ (by dsimp only; omega)
            dsimp only
            rw [hfs]
            exact plan_step0 (m := prN m u v) (k := 2) (s := nilA) h2
          · skip
            repeat' ((conv => whnf); first
              | (refine And.intro rfl (Exists.intro (stB (xs.map stN)) (And.intro (getx1 h1) (And.intro rfl (And.intro hgle ?_)))); rw [show (stB (xs.map stN)).cells = (xs.map stN).map (fun n : Nat => U n) from rfl, hget])
              | (refine Exists.intro _ (And.intro getl (And.intro rfl (And.intro rfl (And.intro (Nat.le_of_ble_eq_true rfl) ?_)))); rw [set_last])
              | (refine And.intro rfl ?_)
              | (refine And.intro (by decide +kernel) ?_)
              | (refine And.intro trivial ?_)
              | (refine fS_mk ?_)
              | (refine hld _ ?_)
              | (refine d_isStep (m := (xs.map stN).length) (hm := hmm) (h0 := ?_) ..)
              | (refine Exists.intro _ (And.intro (fun τ => callW_fn (d_isStep (m := (xs.map stN).length) (hm := hmm) (h0 := And.intro rfl rfl) ..)) ?_))
              | (refine Exists.intro _ (And.intro (callW_fn (d_isStep (m := (xs.map stN).length) (hm := hmm) (h0 := And.intro rfl rfl) ..)) (And.intro trivial ?_)))
              | (refine Exists.intro _ (And.intro (callW_fn (d_isStep (m := (xs.map stN).length) (hm := hmm) (h0 := And.intro rfl rfl) ..)) ?_))
              | (refine Exists.intro _ (And.intro (fun τ _ => callW_fn (d_isStep (m := (xs.map stN).length) (hm := hmm) (h0 := And.intro rfl rfl) ..)) ?_))
              | (refine Exists.intro _ (And.intro (fun τ => callW_fn (d_number (hx := by omega) (hy := by omega) (h0 := And.intro rfl rfl) ..)) ?_))
              | (refine Exists.intro _ (And.intro (fun τ => callW_fn (hpr _ (And.intro rfl rfl))) ?_))
              | (refine Exists.intro _ (And.intro getl (And.intro rfl (And.intro (Nat.le_of_ble_eq_true rfl) ?_))))
              | (refine Exists.intro _ (And.intro (getx1 getl) (And.intro rfl (And.intro (Nat.le_of_ble_eq_true rfl) ?_))))
              | (refine Exists.intro _ (And.intro (getx1 (getx1 getl)) (And.intro rfl (And.intro (Nat.le_of_ble_eq_true rfl) ?_))))
              | (refine Exists.intro _ (And.intro (getx1 h1) (And.intro rfl (And.intro (Nat.le_of_ble_eq_true rfl) ?_))))
              | (refine Exists.intro _ (And.intro (getx1 (getx1 h1)) (And.intro rfl (And.intro (Nat.le_of_ble_eq_true rfl) ?_))))
              | (refine Exists.intro _ (And.intro (getx1 (getx1 (getx1 h1))) (And.intro rfl (And.intro (Nat.le_of_ble_eq_true rfl) ?_))))
              | (refine Exists.intro _ (And.intro (getx1 h2) (And.intro rfl (And.intro (Nat.le_of_ble_eq_true rfl) ?_))))
              | (refine Exists.intro _ (And.intro (getx1 (getx1 h2)) (And.intro rfl (And.intro (Nat.le_of_ble_eq_true rfl) ?_))))
              | (refine Exists.intro _ (And.intro (getx1 (getx1 (getx1 h2))) (And.intro rfl (And.intro (Nat.le_of_ble_eq_true rfl) ?_))))
              | (refine And.intro ⟨_, getl, rfl⟩ ?_)
              | (refine And.intro ⟨_, (getx1 getl), rfl⟩ ?_)
              | (refine And.intro ⟨_, (getx1 (getx1 getl)), rfl⟩ ?_)
              | (refine And.intro ⟨_, (getx1 h1), rfl⟩ ?_)
              | (refine And.intro ⟨_, (getx1 (getx1 h1)), rfl⟩ ?_)
              | (refine And.intro ⟨_, (getx1 (getx1 (getx1 h1))), rfl⟩ ?_)
              | (refine And.intro ⟨_, (getx1 h2), rfl⟩ ?_)
              | (refine And.intro ⟨_, (getx1 (getx1 h2)), rfl⟩ ?_)
              | (refine And.intro ⟨_, (getx1 (getx1 (getx1 h2))), rfl⟩ ?_)
              | (refine And.intro ⟨_, (getx1 (getx1 (getx1 (getx1 h2)))), rfl⟩ ?_)
              | (refine Exists.intro _ (And.intro (getx1 (getx1 (getx1 (getx1 h2)))) (And.intro rfl (And.intro rfl (And.intro (Nat.le_of_ble_eq_true rfl) ?_)))))
              | (refine Exists.intro _ (And.intro rfl (And.intro rfl (And.intro (Nat.le_of_ble_eq_true rfl) ?_))))
              | (refine Exists.intro _ (And.intro rfl (And.intro rfl (And.intro rfl (And.intro (Nat.le_of_ble_eq_true rfl) ?_)))))
              | (refine And.intro (Exists.intro _ (And.intro rfl rfl)) ?_)
              | (exact fun hW => absurd hW (by decide +kernel))
              | (intro hW; (try simp only [Bool.not_true, Bool.not_false, Bool.not_eq_true', Bool.not_eq_false', decide_eq_true_eq, decide_eq_false_iff_not, reduceCtorEq, Bool.true_eq_false, Bool.false_eq_true, mk_size, List.size_toArray, ByteArray.size_append, ByteArray.size_extract, List.length_cons, List.length_nil, ba_get, ba_empty, Int.toNat_natCast] at hW))
              | (refine And.intro (?_ : _ → _) (?_ : _ → _))
              | (refine FinR.drop 0 (Nat.zero_le _) (Closed.zero _) rfl ?_)
              | (refine FinR.keep ?_)
              | (refine And.intro (det3_agg rfl) ?_)
              | (refine fL_mk ?_)
              | (refine And.intro (by (try simp only [mk_size, List.size_toArray, ByteArray.size_append, ByteArray.size_extract, List.length_cons, List.length_nil]); omega) ?_)
              | (refine And.intro (by (try simp only [mk_size, List.size_toArray, ByteArray.size_append, ByteArray.size_extract, List.length_cons, List.length_nil, wrap64_eq]); omega) ?_)
              | fail)
            all_goals first | (exfalso; omega) | (exfalso; simp_all; done) | (exfalso; rw [hok] at hW; cases hW; done) | skip
            refine Again.go ⟨j + 1, _⟩ ⟨rfl, rfl, rfl, rfl, slI' (wsucc' j (by omega)), trivial⟩ (.keep rfl) ⟨by dsimp only; omega, get_ne (getx1 (getx1 (getx1 (getx1 h1)))) (by decide), ?_, hnx⟩ (by dsimp only; omega)
            dsimp only
            rw [hfs]
            exact plan_step0 (m := prN m u v) (k := 3) (s := nilA) h2
        | own r ver cap cs fs hr hl hc =>
          have hr2 : r ≠ 2 := ne_e hr h2 (show (101 : Nat) ≠ 87 by decide)
          have hr1 : r ≠ 1 := ne_e hr h1 (show (101 : Nat) ≠ 82 by decide)
          have hfl : fs.length ≤ 40 := by
            have := congrArg List.length hfs
            rw [List.length_append, List.length_take] at this
            have e : ([((k' : Nat), prN m u v)] : List (Nat × Nat)).length = 1 := rfl
            rw [fsOf, List.length_map] at this
            omega
          obtain rfl | rfl | rfl : k' = 1 ∨ k' = 2 ∨ k' = 3 := by omega
          · skip
            repeat' ((conv => whnf); first
              | (refine And.intro rfl (Exists.intro (stB (xs.map stN)) (And.intro (getx1 h1) (And.intro rfl (And.intro hgle ?_)))); rw [show (stB (xs.map stN)).cells = (xs.map stN).map (fun n : Nat => U n) from rfl, hget])
              | (refine Exists.intro _ (And.intro getl (And.intro rfl (And.intro rfl (And.intro (Nat.le_of_ble_eq_true rfl) ?_)))); rw [set_last])
              | (refine Exists.intro _ (And.intro (getx1 (getx1 (getx1 hr))) (And.intro rfl (And.intro rfl (And.intro rfl (And.intro rfl (And.intro rfl (And.intro (by decide) (And.intro (by rw [Nat.mul_one]; exact hl.symm) (And.intro rfl (And.intro (by unfold maxLen; omega) (And.intro (by omega) (fun cap' hcap1 hcap2 => ?_)))))))))))))
              | (refine And.intro rfl ?_)
              | (refine And.intro (by decide +kernel) ?_)
              | (refine And.intro trivial ?_)
              | (refine fS_mk ?_)
              | (refine hld _ ?_)
              | (refine d_isStep (m := (xs.map stN).length) (hm := hmm) (h0 := ?_) ..)
              | (refine Exists.intro _ (And.intro (fun τ => callW_fn (d_isStep (m := (xs.map stN).length) (hm := hmm) (h0 := And.intro rfl rfl) ..)) ?_))
              | (refine Exists.intro _ (And.intro (callW_fn (d_isStep (m := (xs.map stN).length) (hm := hmm) (h0 := And.intro rfl rfl) ..)) (And.intro trivial ?_)))
              | (refine Exists.intro _ (And.intro (callW_fn (d_isStep (m := (xs.map stN).length) (hm := hmm) (h0 := And.intro rfl rfl) ..)) ?_))
              | (refine Exists.intro _ (And.intro (fun τ _ => callW_fn (d_isStep (m := (xs.map stN).length) (hm := hmm) (h0 := And.intro rfl rfl) ..)) ?_))
              | (refine Exists.intro _ (And.intro (fun τ => callW_fn (d_number (hx := by omega) (hy := by omega) (h0 := And.intro rfl rfl) ..)) ?_))
              | (refine Exists.intro _ (And.intro (fun τ => callW_fn (hpr _ (And.intro rfl rfl))) ?_))
              | (refine Exists.intro _ (And.intro getl (And.intro rfl (And.intro (Nat.le_of_ble_eq_true rfl) ?_))))
              | (refine Exists.intro _ (And.intro (getx1 getl) (And.intro rfl (And.intro (Nat.le_of_ble_eq_true rfl) ?_))))
              | (refine Exists.intro _ (And.intro (getx1 (getx1 getl)) (And.intro rfl (And.intro (Nat.le_of_ble_eq_true rfl) ?_))))
              | (refine Exists.intro _ (And.intro (getx1 h1) (And.intro rfl (And.intro (Nat.le_of_ble_eq_true rfl) ?_))))
              | (refine Exists.intro _ (And.intro (getx1 (getx1 h1)) (And.intro rfl (And.intro (Nat.le_of_ble_eq_true rfl) ?_))))
              | (refine Exists.intro _ (And.intro (getx1 (getx1 (getx1 h1))) (And.intro rfl (And.intro (Nat.le_of_ble_eq_true rfl) ?_))))
              | (refine Exists.intro _ (And.intro (getx1 h2) (And.intro rfl (And.intro (Nat.le_of_ble_eq_true rfl) ?_))))
              | (refine Exists.intro _ (And.intro (getx1 (getx1 h2)) (And.intro rfl (And.intro (Nat.le_of_ble_eq_true rfl) ?_))))
              | (refine Exists.intro _ (And.intro (getx1 (getx1 (getx1 h2))) (And.intro rfl (And.intro (Nat.le_of_ble_eq_true rfl) ?_))))
              | (refine And.intro ⟨_, getl, rfl⟩ ?_)
              | (refine And.intro ⟨_, (getx1 getl), rfl⟩ ?_)
              | (refine And.intro ⟨_, (getx1 (getx1 getl)), rfl⟩ ?_)
              | (refine And.intro ⟨_, (getx1 h1), rfl⟩ ?_)
              | (refine And.intro ⟨_, (getx1 (getx1 h1)), rfl⟩ ?_)
              | (refine And.intro ⟨_, (getx1 (getx1 (getx1 h1))), rfl⟩ ?_)
              | (refine And.intro ⟨_, (getx1 h2), rfl⟩ ?_)
              | (refine And.intro ⟨_, (getx1 (getx1 h2)), rfl⟩ ?_)
              | (refine And.intro ⟨_, (getx1 (getx1 (getx1 h2))), rfl⟩ ?_)
              | (refine And.intro ⟨_, (get_ne (getx1 (getx1 (getx1 h2))) hr2), rfl⟩ ?_)
              | (refine Exists.intro _ (And.intro (get_ne (getx1 (getx1 (getx1 h2))) hr2) (And.intro rfl (And.intro rfl (And.intro (Nat.le_of_ble_eq_true rfl) ?_)))))
              | (refine Exists.intro _ (And.intro rfl (And.intro rfl (And.intro (Nat.le_of_ble_eq_true rfl) ?_))))
              | (refine Exists.intro _ (And.intro rfl (And.intro rfl (And.intro rfl (And.intro (Nat.le_of_ble_eq_true rfl) ?_)))))
              | (refine And.intro (Exists.intro _ (And.intro rfl rfl)) ?_)
              | (exact fun hW => absurd hW (by decide +kernel))
              | (intro hW; (try simp only [Bool.not_true, Bool.not_false, Bool.not_eq_true', Bool.not_eq_false', decide_eq_true_eq, decide_eq_false_iff_not, reduceCtorEq, Bool.true_eq_false, Bool.false_eq_true, mk_size, List.size_toArray, ByteArray.size_append, ByteArray.size_extract, List.length_cons, List.length_nil, ba_get, ba_empty, Int.toNat_natCast] at hW))
              | (refine And.intro (?_ : _ → _) (?_ : _ → _))
              | (refine FinR.drop 0 (Nat.zero_le _) (Closed.zero _) rfl ?_)
              | (refine FinR.keep ?_)
              | (refine And.intro (det3_agg rfl) ?_)
              | (refine fL_mk ?_)
              | (refine And.intro (by (try simp only [mk_size, List.size_toArray, ByteArray.size_append, ByteArray.size_extract, List.length_cons, List.length_nil]); omega) ?_)
              | (refine And.intro (by (try simp only [mk_size, List.size_toArray, ByteArray.size_append, ByteArray.size_extract, List.length_cons, List.length_nil, wrap64_eq]); omega) ?_)
              | fail)
            all_goals first | (exfalso; omega) | (exfalso; simp_all; done) | (exfalso; rw [hok] at hW; cases hW; done) | skip
            refine Again.go ⟨j + 1, _⟩ ⟨rfl, rfl, rfl, rfl, slI' (wsucc' j (by omega)), trivial⟩ (.keep rfl) ⟨by dsimp only; omega, get_ne (get_ne (getx1 (getx1 (getx1 h1))) hr1) (by decide), ?_, hnx⟩ (by dsimp only; omega)
            dsimp only
            rw [hfs]
            exact plan_stepS (m := prN m u v) (k := 1) h2 hr hl hc
          · skip
            repeat' ((conv => whnf); first
              | (refine And.intro rfl (Exists.intro (stB (xs.map stN)) (And.intro (getx1 h1) (And.intro rfl (And.intro hgle ?_)))); rw [show (stB (xs.map stN)).cells = (xs.map stN).map (fun n : Nat => U n) from rfl, hget])
              | (refine Exists.intro _ (And.intro getl (And.intro rfl (And.intro rfl (And.intro (Nat.le_of_ble_eq_true rfl) ?_)))); rw [set_last])
              | (refine Exists.intro _ (And.intro (getx1 (getx1 (getx1 hr))) (And.intro rfl (And.intro rfl (And.intro rfl (And.intro rfl (And.intro rfl (And.intro (by decide) (And.intro (by rw [Nat.mul_one]; exact hl.symm) (And.intro rfl (And.intro (by unfold maxLen; omega) (And.intro (by omega) (fun cap' hcap1 hcap2 => ?_)))))))))))))
              | (refine And.intro rfl ?_)
              | (refine And.intro (by decide +kernel) ?_)
              | (refine And.intro trivial ?_)
              | (refine fS_mk ?_)
              | (refine hld _ ?_)
              | (refine d_isStep (m := (xs.map stN).length) (hm := hmm) (h0 := ?_) ..)
              | (refine Exists.intro _ (And.intro (fun τ => callW_fn (d_isStep (m := (xs.map stN).length) (hm := hmm) (h0 := And.intro rfl rfl) ..)) ?_))
              | (refine Exists.intro _ (And.intro (callW_fn (d_isStep (m := (xs.map stN).length) (hm := hmm) (h0 := And.intro rfl rfl) ..)) (And.intro trivial ?_)))
              | (refine Exists.intro _ (And.intro (callW_fn (d_isStep (m := (xs.map stN).length) (hm := hmm) (h0 := And.intro rfl rfl) ..)) ?_))
              | (refine Exists.intro _ (And.intro (fun τ _ => callW_fn (d_isStep (m := (xs.map stN).length) (hm := hmm) (h0 := And.intro rfl rfl) ..)) ?_))
              | (refine Exists.intro _ (And.intro (fun τ => callW_fn (d_number (hx := by omega) (hy := by omega) (h0 := And.intro rfl rfl) ..)) ?_))
              | (refine Exists.intro _ (And.intro (fun τ => callW_fn (hpr _ (And.intro rfl rfl))) ?_))
              | (refine Exists.intro _ (And.intro getl (And.intro rfl (And.intro (Nat.le_of_ble_eq_true rfl) ?_))))
              | (refine Exists.intro _ (And.intro (getx1 getl) (And.intro rfl (And.intro (Nat.le_of_ble_eq_true rfl) ?_))))
              | (refine Exists.intro _ (And.intro (getx1 (getx1 getl)) (And.intro rfl (And.intro (Nat.le_of_ble_eq_true rfl) ?_))))
              | (refine Exists.intro _ (And.intro (getx1 h1) (And.intro rfl (And.intro (Nat.le_of_ble_eq_true rfl) ?_))))
              | (refine Exists.intro _ (And.intro (getx1 (getx1 h1)) (And.intro rfl (And.intro (Nat.le_of_ble_eq_true rfl) ?_))))
              | (refine Exists.intro _ (And.intro (getx1 (getx1 (getx1 h1))) (And.intro rfl (And.intro (Nat.le_of_ble_eq_true rfl) ?_))))
              | (refine Exists.intro _ (And.intro (getx1 h2) (And.intro rfl (And.intro (Nat.le_of_ble_eq_true rfl) ?_))))
              | (refine Exists.intro _ (And.intro (getx1 (getx1 h2)) (And.intro rfl (And.intro (Nat.le_of_ble_eq_true rfl) ?_))))
              | (refine Exists.intro _ (And.intro (getx1 (getx1 (getx1 h2))) (And.intro rfl (And.intro (Nat.le_of_ble_eq_true rfl) ?_))))
              | (refine And.intro ⟨_, getl, rfl⟩ ?_)
              | (refine And.intro ⟨_, (getx1 getl), rfl⟩ ?_)
              | (refine And.intro ⟨_, (getx1 (getx1 getl)), rfl⟩ ?_)
              | (refine And.intro ⟨_, (getx1 h1), rfl⟩ ?_)
              | (refine And.intro ⟨_, (getx1 (getx1 h1)), rfl⟩ ?_)
              | (refine And.intro ⟨_, (getx1 (getx1 (getx1 h1))), rfl⟩ ?_)
              | (refine And.intro ⟨_, (getx1 h2), rfl⟩ ?_)
              | (refine And.intro ⟨_, (getx1 (getx1 h2)), rfl⟩ ?_)
              | (refine And.intro ⟨_, (getx1 (getx1 (getx1 h2))), rfl⟩ ?_)
              | (refine And.intro ⟨_, (get_ne (getx1 (getx1 (getx1 h2))) hr2), rfl⟩ ?_)
              | (refine Exists.intro _ (And.intro (get_ne (getx1 (getx1 (getx1 h2))) hr2) (And.intro rfl (And.intro rfl (And.intro (Nat.le_of_ble_eq_true rfl) ?_)))))
              | (refine Exists.intro _ (And.intro rfl (And.intro rfl (And.intro (Nat.le_of_ble_eq_true rfl) ?_))))
              | (refine Exists.intro _ (And.intro rfl (And.intro rfl (And.intro rfl (And.intro (Nat.le_of_ble_eq_true rfl) ?_)))))
              | (refine And.intro (Exists.intro _ (And.intro rfl rfl)) ?_)
              | (exact fun hW => absurd hW (by decide +kernel))
              | (intro hW; (try simp only [Bool.not_true, Bool.not_false, Bool.not_eq_true', Bool.not_eq_false', decide_eq_true_eq, decide_eq_false_iff_not, reduceCtorEq, Bool.true_eq_false, Bool.false_eq_true, mk_size, List.size_toArray, ByteArray.size_append, ByteArray.size_extract, List.length_cons, List.length_nil, ba_get, ba_empty, Int.toNat_natCast] at hW))
              | (refine And.intro (?_ : _ → _) (?_ : _ → _))
              | (refine FinR.drop 0 (Nat.zero_le _) (Closed.zero _) rfl ?_)
              | (refine FinR.keep ?_)
              | (refine And.intro (det3_agg rfl) ?_)
              | (refine fL_mk ?_)
              | (refine And.intro (by (try simp only [mk_size, List.size_toArray, ByteArray.size_append, ByteArray.size_extract, List.length_cons, List.length_nil]); omega) ?_)
              | (refine And.intro (by (try simp only [mk_size, List.size_toArray, ByteArray.size_append, ByteArray.size_extract, List.length_cons, List.length_nil, wrap64_eq]); omega) ?_)
              | fail)
            all_goals first | (exfalso; omega) | (exfalso; simp_all; done) | (exfalso; rw [hok] at hW; cases hW; done) | skip
            refine Again.go ⟨j + 1, _⟩ ⟨rfl, rfl, rfl, rfl, slI' (wsucc' j (by omega)), trivial⟩ (.keep rfl) ⟨by dsimp only; omega, get_ne (get_ne (getx1 (getx1 (getx1 h1))) hr1) (by decide), ?_, hnx⟩ (by dsimp only; omega)
            dsimp only
            rw [hfs]
            exact plan_stepS (m := prN m u v) (k := 2) h2 hr hl hc
          · skip
            repeat' ((conv => whnf); first
              | (refine And.intro rfl (Exists.intro (stB (xs.map stN)) (And.intro (getx1 h1) (And.intro rfl (And.intro hgle ?_)))); rw [show (stB (xs.map stN)).cells = (xs.map stN).map (fun n : Nat => U n) from rfl, hget])
              | (refine Exists.intro _ (And.intro getl (And.intro rfl (And.intro rfl (And.intro (Nat.le_of_ble_eq_true rfl) ?_)))); rw [set_last])
              | (refine Exists.intro _ (And.intro (getx1 (getx1 (getx1 hr))) (And.intro rfl (And.intro rfl (And.intro rfl (And.intro rfl (And.intro rfl (And.intro (by decide) (And.intro (by rw [Nat.mul_one]; exact hl.symm) (And.intro rfl (And.intro (by unfold maxLen; omega) (And.intro (by omega) (fun cap' hcap1 hcap2 => ?_)))))))))))))
              | (refine And.intro rfl ?_)
              | (refine And.intro (by decide +kernel) ?_)
              | (refine And.intro trivial ?_)
              | (refine fS_mk ?_)
              | (refine hld _ ?_)
              | (refine d_isStep (m := (xs.map stN).length) (hm := hmm) (h0 := ?_) ..)
              | (refine Exists.intro _ (And.intro (fun τ => callW_fn (d_isStep (m := (xs.map stN).length) (hm := hmm) (h0 := And.intro rfl rfl) ..)) ?_))
              | (refine Exists.intro _ (And.intro (callW_fn (d_isStep (m := (xs.map stN).length) (hm := hmm) (h0 := And.intro rfl rfl) ..)) (And.intro trivial ?_)))
              | (refine Exists.intro _ (And.intro (callW_fn (d_isStep (m := (xs.map stN).length) (hm := hmm) (h0 := And.intro rfl rfl) ..)) ?_))
              | (refine Exists.intro _ (And.intro (fun τ _ => callW_fn (d_isStep (m := (xs.map stN).length) (hm := hmm) (h0 := And.intro rfl rfl) ..)) ?_))
              | (refine Exists.intro _ (And.intro (fun τ => callW_fn (d_number (hx := by omega) (hy := by omega) (h0 := And.intro rfl rfl) ..)) ?_))
              | (refine Exists.intro _ (And.intro (fun τ => callW_fn (hpr _ (And.intro rfl rfl))) ?_))
              | (refine Exists.intro _ (And.intro getl (And.intro rfl (And.intro (Nat.le_of_ble_eq_true rfl) ?_))))
              | (refine Exists.intro _ (And.intro (getx1 getl) (And.intro rfl (And.intro (Nat.le_of_ble_eq_true rfl) ?_))))
              | (refine Exists.intro _ (And.intro (getx1 (getx1 getl)) (And.intro rfl (And.intro (Nat.le_of_ble_eq_true rfl) ?_))))
              | (refine Exists.intro _ (And.intro (getx1 h1) (And.intro rfl (And.intro (Nat.le_of_ble_eq_true rfl) ?_))))
              | (refine Exists.intro _ (And.intro (getx1 (getx1 h1)) (And.intro rfl (And.intro (Nat.le_of_ble_eq_true rfl) ?_))))
              | (refine Exists.intro _ (And.intro (getx1 (getx1 (getx1 h1))) (And.intro rfl (And.intro (Nat.le_of_ble_eq_true rfl) ?_))))
              | (refine Exists.intro _ (And.intro (getx1 h2) (And.intro rfl (And.intro (Nat.le_of_ble_eq_true rfl) ?_))))
              | (refine Exists.intro _ (And.intro (getx1 (getx1 h2)) (And.intro rfl (And.intro (Nat.le_of_ble_eq_true rfl) ?_))))
              | (refine Exists.intro _ (And.intro (getx1 (getx1 (getx1 h2))) (And.intro rfl (And.intro (Nat.le_of_ble_eq_true rfl) ?_))))
              | (refine And.intro ⟨_, getl, rfl⟩ ?_)
              | (refine And.intro ⟨_, (getx1 getl), rfl⟩ ?_)
              | (refine And.intro ⟨_, (getx1 (getx1 getl)), rfl⟩ ?_)
              | (refine And.intro ⟨_, (getx1 h1), rfl⟩ ?_)
              | (refine And.intro ⟨_, (getx1 (getx1 h1)), rfl⟩ ?_)
              | (refine And.intro ⟨_, (getx1 (getx1 (getx1 h1))), rfl⟩ ?_)
              | (refine And.intro ⟨_, (getx1 h2), rfl⟩ ?_)
              | (refine And.intro ⟨_, (getx1 (getx1 h2)), rfl⟩ ?_)
              | (refine And.intro ⟨_, (getx1 (getx1 (getx1 h2))), rfl⟩ ?_)
              | (refine And.intro ⟨_, (get_ne (getx1 (getx1 (getx1 h2))) hr2), rfl⟩ ?_)
              | (refine Exists.intro _ (And.intro (get_ne (getx1 (getx1 (getx1 h2))) hr2) (And.intro rfl (And.intro rfl (And.intro (Nat.le_of_ble_eq_true rfl) ?_)))))
              | (refine Exists.intro _ (And.intro rfl (And.intro rfl (And.intro (Nat.le_of_ble_eq_true rfl) ?_))))
              | (refine Exists.intro _ (And.intro rfl (And.intro rfl (And.intro rfl (And.intro (Nat.le_of_ble_eq_true rfl) ?_)))))
              | (refine And.intro (Exists.intro _ (And.intro rfl rfl)) ?_)
              | (exact fun hW => absurd hW (by decide +kernel))
              | (intro hW; (try simp only [Bool.not_true, Bool.not_false, Bool.not_eq_true', Bool.not_eq_false', decide_eq_true_eq, decide_eq_false_iff_not, reduceCtorEq, Bool.true_eq_false, Bool.false_eq_true, mk_size, List.size_toArray, ByteArray.size_append, ByteArray.size_extract, List.length_cons, List.length_nil, ba_get, ba_empty, Int.toNat_natCast] at hW))
              | (refine And.intro (?_ : _ → _) (?_ : _ → _))
              | (refine FinR.drop 0 (Nat.zero_le _) (Closed.zero _) rfl ?_)
              | (refine FinR.keep ?_)
              | (refine And.intro (det3_agg rfl) ?_)
              | (refine fL_mk ?_)
              | (refine And.intro (by (try simp only [mk_size, List.size_toArray, ByteArray.size_append, ByteArray.size_extract, List.length_cons, List.length_nil]); omega) ?_)
              | (refine And.intro (by (try simp only [mk_size, List.size_toArray, ByteArray.size_append, ByteArray.size_extract, List.length_cons, List.length_nil, wrap64_eq]); omega) ?_)
              | fail)
            all_goals first | (exfalso; omega) | (exfalso; simp_all; done) | (exfalso; rw [hok] at hW; cases hW; done) | skip
            refine Again.go ⟨j + 1, _⟩ ⟨rfl, rfl, rfl, rfl, slI' (wsucc' j (by omega)), trivial⟩ (.keep rfl) ⟨by dsimp only; omega, get_ne (get_ne (getx1 (getx1 (getx1 h1))) hr1) (by decide), ?_, hnx⟩ (by dsimp only; omega)
            dsimp only
            rw [hfs]
            exact plan_stepS (m := prN m u v) (k := 3) h2 hr hl hc
    · obtain rfl : j = ys.length := by omega
      have e : (fsOf xs ys).take ys.length = fsOf xs ys := List.take_of_length_le (by rw [fsOf, List.length_map]; exact Nat.le_refl _)
      rw [e] at hps
      rw [List.take_length] at hya
      have h00 := h0 (planB_iff.2 ⟨hs, hx4, hy40, hxa, hya⟩) σ hps
      repeat' ((conv => whnf); first
        | (refine And.intro rfl ?_)
        | (refine And.intro (by decide +kernel) ?_)
        | (refine And.intro trivial ?_)
        | (refine Exists.intro _ (And.intro rfl (And.intro rfl (And.intro (Nat.le_of_ble_eq_true rfl) ?_))))
        | (refine Exists.intro _ (And.intro rfl (And.intro rfl (And.intro rfl (And.intro (Nat.le_of_ble_eq_true rfl) ?_)))))
        | (refine And.intro (Exists.intro _ (And.intro rfl rfl)) ?_)
        | (exact fun hW => absurd hW (by decide +kernel))
        | (intro hW; (try simp only [Bool.not_true, Bool.not_false, Bool.not_eq_true', Bool.not_eq_false', decide_eq_true_eq, decide_eq_false_iff_not, reduceCtorEq, Bool.true_eq_false, Bool.false_eq_true, mk_size, List.size_toArray, ByteArray.size_append, ByteArray.size_extract, List.length_cons, List.length_nil, ba_get, ba_empty, Int.toNat_natCast] at hW))
        | (refine And.intro (?_ : _ → _) (?_ : _ → _))
        | (refine FinR.drop 0 (Nat.zero_le _) (Closed.zero _) rfl ?_)
        | (refine FinR.keep ?_)
        | (refine And.intro (det3_agg rfl) ?_)
        | (refine fL_mk ?_)
        | (refine And.intro (by (try simp only [mk_size, List.size_toArray, ByteArray.size_append, ByteArray.size_extract, List.length_cons, List.length_nil]); omega) ?_)
        | (refine And.intro (by (try simp only [mk_size, List.size_toArray, ByteArray.size_append, ByteArray.size_extract, List.length_cons, List.length_nil, wrap64_eq]); omega) ?_)
        | fail)
      all_goals first | (exfalso; omega) | exact h00
end Go.Proofs.Ytbmilmnfhdkfjaa
end

section
/- Contracts: the program's planOf; IsPlan; plans that the laws make and compare. -/
set_option linter.unusedVariables false
set_option linter.unusedSimpArgs false
set_option maxRecDepth 100000
set_option maxHeartbeats 4000000
namespace Go.Proofs.Ytbmilmnfhdkfjaa
open Go Go.RowKit Go.Proofs.Ytbmilmnfhdkfjaa.Abs
variable {W0 : World} {σ : List Blk}
theorem c_planOf (a b c d e f : Int) (v1 v2 : Value) (xs ys : List (List Int)) (h1 : Sli W0 [] 6 enI (.lit v1) xs) (h2 : Sli W0 [] 4 enI (.lit v2) ys) (hx : ∀ x ∈ xs, x.length = 6) (hy : ∀ x ∈ ys, x.length = 4) (K : Cont)
    (h0 : planB a b c d e f xs ys = true → ∀ σ', PlanSt σ' 2 (stN [a, b, c, d, e, f]) (fsOf xs ys) → K (.tup [.ptr 2 0 0, Bo true]) σ') (h00 : planB a b c d e f xs ys = false → K (.tup [nilP, Bo false]) []) : ACall Try.prog W0 56 [PlA a b c d e f (.lit v1) (.lit v2)] [] K := by
  by_cases hg : shB6 a b c d e f = true ∧ xs.length ≤ 4 ∧ ys.length ≤ 40
  · exact c_planOfG a b c d e f v1 v2 xs ys h1 h2 hx hy hg.1 hg.2.1 hg.2.2 K h0 h00
  · have hpf : planB a b c d e f xs ys = false := by
      rw [Bool.eq_false_iff]; intro h
      have := planB_iff.1 h
      exact hg ⟨this.1, this.2.1, this.2.2.1⟩
    have hnp := h00 hpf
    refine by56 (Nat.le_of_ble_eq_true rfl) ?_
    obtain ⟨o1, n1, cap1, hv1, hn1, hc1, hm1, hf1⟩ := sli_form h1
    obtain ⟨o2, n2, cap2, hv2, hn2, hc2, hm2, hf2⟩ := sli_form h2
    cases hv1; cases hv2
    subst hn1; subst hn2
    cases hs : shB6 a b c d e f with
    | true =>
      obtain ⟨n, hn, rfl, rfl, rfl, rfl, rfl, rfl, hst⟩ := st_parts hs
      have hg2 : 4 < xs.length ∨ 40 < ys.length := by
        by_cases h4 : xs.length ≤ 4
        · right
          by_cases h5 : ys.length ≤ 40
          · exact absurd ⟨hs, h4, h5⟩ hg
          · omega
        · left; omega
      repeat' ((conv => whnf); first
        | (refine And.intro rfl ?_)
        | (refine And.intro (by decide +kernel) ?_)
        | (refine And.intro trivial ?_)
        | (refine d_setOfN (n := n) (hn := hn) (h0 := ?_) ..)
        | (refine Exists.intro _ (And.intro rfl (And.intro rfl (And.intro (Nat.le_of_ble_eq_true rfl) ?_))))
        | (refine Exists.intro _ (And.intro rfl (And.intro rfl (And.intro rfl (And.intro (Nat.le_of_ble_eq_true rfl) ?_)))))
        | (refine And.intro (Exists.intro _ (And.intro rfl rfl)) ?_)
        | (exact fun hW => absurd hW (by decide +kernel))
        | (intro hW; (try simp only [Bool.not_true, Bool.not_false, Bool.not_eq_true', Bool.not_eq_false', decide_eq_true_eq, decide_eq_false_iff_not, reduceCtorEq, Bool.true_eq_false, Bool.false_eq_true, mk_size, List.size_toArray, ByteArray.size_append, ByteArray.size_extract, List.length_cons, List.length_nil, ba_get, ba_empty, Int.toNat_natCast] at hW))
        | (refine And.intro (?_ : _ → _) (?_ : _ → _))
        | (refine FinR.drop 0 (Nat.zero_le _) (Closed.zero _) rfl ?_)
        | (refine FinR.keep ?_)
        | (refine And.intro (det3_agg rfl) ?_)
        | (refine fL_mk ?_)
        | (refine And.intro (by (try simp only [mk_size, List.size_toArray, ByteArray.size_append, ByteArray.size_extract, List.length_cons, List.length_nil]); omega) ?_)
        | (refine And.intro (by (try simp only [mk_size, List.size_toArray, ByteArray.size_append, ByteArray.size_extract, List.length_cons, List.length_nil, wrap64_eq]); omega) ?_)
        | fail)
      all_goals first | (exfalso; omega) | (exfalso; simp_all; done) | exact hnp
    | false =>
      repeat' ((conv => whnf); first
        | (refine And.intro rfl ?_)
        | (refine And.intro (by decide +kernel) ?_)
        | (refine And.intro trivial ?_)
        | (refine d_setOfF (hb := hs) (h0 := ?_) ..)
        | (refine Exists.intro _ (And.intro rfl (And.intro rfl (And.intro (Nat.le_of_ble_eq_true rfl) ?_))))
        | (refine Exists.intro _ (And.intro rfl (And.intro rfl (And.intro rfl (And.intro (Nat.le_of_ble_eq_true rfl) ?_)))))
        | (refine And.intro (Exists.intro _ (And.intro rfl rfl)) ?_)
        | (exact fun hW => absurd hW (by decide +kernel))
        | (intro hW; (try simp only [Bool.not_true, Bool.not_false, Bool.not_eq_true', Bool.not_eq_false', decide_eq_true_eq, decide_eq_false_iff_not, reduceCtorEq, Bool.true_eq_false, Bool.false_eq_true, mk_size, List.size_toArray, ByteArray.size_append, ByteArray.size_extract, List.length_cons, List.length_nil, ba_get, ba_empty, Int.toNat_natCast] at hW))
        | (refine And.intro (?_ : _ → _) (?_ : _ → _))
        | (refine FinR.drop 0 (Nat.zero_le _) (Closed.zero _) rfl ?_)
        | (refine FinR.keep ?_)
        | (refine And.intro (det3_agg rfl) ?_)
        | (refine fL_mk ?_)
        | (refine And.intro (by (try simp only [mk_size, List.size_toArray, ByteArray.size_append, ByteArray.size_extract, List.length_cons, List.length_nil]); omega) ?_)
        | (refine And.intro (by (try simp only [mk_size, List.size_toArray, ByteArray.size_append, ByteArray.size_extract, List.length_cons, List.length_nil, wrap64_eq]); omega) ?_)
        | fail)
      all_goals first | (exfalso; omega) | (exfalso; simp_all; done) | exact hnp
/-! plans moved -/
theorem StepsSt.sh {σ τ : List Blk} {s : AV} {fs : List (Nat × Nat)} (h : StepsSt τ s fs) : StepsSt (σ ++ shB σ.length τ) (sh1 σ.length s) fs := by
  cases h with
  | nil => exact .nil
  | own r ver cap cs fs hr hl hc =>
    refine .own (σ.length + r) ver cap (cs.map (sh1 σ.length)) fs (get_sh hr) (by rw [List.length_map]; exact hl) fun j k m hj => ?_
    obtain ⟨a, b, q1, q2, q3⟩ := hc j k m hj
    refine ⟨σ.length + a, σ.length + b, by rw [List.getElem?_map, q1]; rfl, ?_, get_sh q3⟩
    have := get_sh (σ := σ) q2
    rw [this]
    show some (⟨[sh1 σ.length (doA k)], _, _, _, _, _⟩ : Blk) = _
    have e : sh1 σ.length (doA k) = doA k := by unfold doA; split <;> rfl
    rw [e]
theorem PlanSt.sh {σ τ : List Blk} {p n : Nat} {fs : List (Nat × Nat)} (h : PlanSt τ p n fs) : PlanSt (σ ++ shB σ.length τ) (σ.length + p) n fs := by
  obtain ⟨s, h1, h2⟩ := h.ex
  exact ⟨sh1 σ.length s, get_sh h1, h2.sh⟩
theorem StepsSt.add {σ τ : List Blk} {s : AV} {fs : List (Nat × Nat)} (h : StepsSt σ s fs) : StepsSt (σ ++ τ) s fs := by
  cases h with
  | nil => exact .nil
  | own r ver cap cs fs hr hl hc =>
    exact .own r ver cap cs fs (getx1 hr) hl fun j k m hj => let ⟨a, b, q1, q2, q3⟩ := hc j k m hj; ⟨a, b, q1, getx1 q2, getx1 q3⟩
theorem PlanSt.add {σ τ : List Blk} {p n : Nat} {fs : List (Nat × Nat)} (h : PlanSt σ p n fs) : PlanSt (σ ++ τ) p n fs := by
  obtain ⟨s, h1, h2⟩ := h.ex
  exact ⟨s, getx1 h1, h2.add⟩
theorem d_planOf (a b c d e f : Int) (s1 s2 : AV) (xs ys : List (List Int)) (h1 : Sli W0 σ 6 enI s1 xs) (h2 : Sli W0 σ 4 enI s2 ys) (hx : ∀ x ∈ xs, x.length = 6) (hy : ∀ x ∈ ys, x.length = 4) (K : Cont)
    (h0 : planB a b c d e f xs ys = true → ∀ τ, PlanSt (σ ++ τ) (σ.length + 2) (stN [a, b, c, d, e, f]) (fsOf xs ys) → K (.tup [.ptr (σ.length + 2) 0 0, Bo true]) (σ ++ τ)) (h00 : planB a b c d e f xs ys = false → K (.tup [nilP, Bo false]) σ) : ACall Try.prog W0 56 [PlA a b c d e f s1 s2] σ K := by
  cases hg : planB a b c d e f xs ys with
  | true =>
    exact lift_Pl (rest := []) (ι := { τ : List Blk // PlanSt τ 2 (stN [a, b, c, d, e, f]) (fsOf xs ys) }) (fun _ => .tup [.ptr 2 0 0, Bo true]) (fun τ => τ.1) (by kernel_rfl) rfl h1 h2
      (fun W1 v1 v2 q1 q2 K hK => c_planOf a b c d e f v1 v2 xs ys q1 q2 hx hy K (fun _ σ' hp => hK ⟨σ', hp⟩) (fun hf => by rw [hg] at hf; cases hf)) K (fun τ => h0 hg _ τ.2.sh)
  | false =>
    exact lift_Pl (rest := []) (ι := Unit) (fun _ => .tup [nilP, Bo false]) (fun τ => []) (by kernel_rfl) rfl h1 h2
      (fun W1 v1 v2 q1 q2 K hK => c_planOf a b c d e f v1 v2 xs ys q1 q2 hx hy K (fun hf => by rw [hg] at hf; cases hf) (fun _ => hK ())) K (fun τ => by
        rw [show shB σ.length [] = [] from rfl, List.append_nil]; exact h00 hg)
theorem d_l11Plan (a b c d e f : Int) (s1 s2 : AV) (xs ys : List (List Int)) (h1 : Sli W0 σ 6 enI s1 xs) (h2 : Sli W0 σ 4 enI s2 ys) (hx : ∀ x ∈ xs, x.length = 6) (hy : ∀ x ∈ ys, x.length = 4) (hl : xs.length ≤ 1048576) (hl2 : ys.length ≤ 1048576) (K : Cont) (h0 : K (Bo (planB a b c d e f xs ys)) σ) : ACall Try.prog W0 52 [PlA a b c d e f s1 s2] σ K :=
  lift_Pl (rest := []) (ι := Unit) (fun _ => Bo (planB a b c d e f xs ys)) (fun τ => []) (by kernel_rfl) rfl h1 h2 (fun W1 v1 v2 q1 q2 K hK => c_l11Plan a b c d e f v1 v2 xs ys q1 q2 hx hy hl hl2 K (hK ())) K (fun _ => by
    rw [show shB σ.length [] = [] from rfl, List.append_nil]; exact h0)
theorem sli_box {α : Type} {s : Nat} {enc : α → List Value} {a : AV} {xs : List α} {τ : List Blk} (h : Sli W0 σ s enc a xs) : Sli W0 (σ ++ τ) s enc a xs := by
  cases h with
  | nil => exact .nil
  | inn ad n cap xs hn hc hm hb hx => exact .inn ad n cap xs hn hc hm hb hx
  | own b ver off n cap B xs hB hv hn hx => exact .own b ver off n cap B xs (getx1 hB) hv hn hx
/-! the laws' plans -/
abbrev shSB (xs : List (List Int)) : Blk := ⟨jc xs, 0, 31, 6, true, true⟩
abbrev stSB (ys : List (List Int)) : Blk := ⟨jc ys, 0, 54, 4, true, true⟩
theorem c_toPlan (a b c d e f : Int) (v1 v2 : Value) (xs ys : List (List Int)) (h1 : Sli W0 [] 6 enI (.lit v1) xs) (h2 : Sli W0 [] 4 enI (.lit v2) ys) (hx : ∀ x ∈ xs, x.length = 6) (hy : ∀ x ∈ ys, x.length = 4) (hl : xs.length ≤ 1048576) (hl2 : ys.length ≤ 1048576) (K : Cont)
    (h0 : ∀ τ, τ.length = 3 → K (PlA a b c d e f (.sl 3 0 0 xs.length xs.length) (.sl 4 0 0 ys.length ys.length)) (τ ++ [shSB xs, stSB ys])) : ACall Try.prog W0 17 [PlA a b c d e f (.lit v1) (.lit v2)] [] K := by
  refine by17 (Nat.le_of_ble_eq_true rfl) ?_
  repeat' ((conv => whnf); first
    | (refine And.intro rfl ?_)
    | (refine And.intro (by decide +kernel) ?_)
    | (refine And.intro trivial ?_)
    | (refine d_toSheet (h0 := ?_) ..)
    | (refine Exists.intro _ (And.intro (fun τ => callW_fn (d_toSheet (h0 := And.intro rfl rfl) ..)) ?_))
    | (refine Exists.intro _ (And.intro (callW_fn (d_toSheet (h0 := And.intro rfl rfl) ..)) (And.intro trivial ?_)))
    | (refine Exists.intro _ (And.intro (callW_fn (d_toSheet (h0 := And.intro rfl rfl) ..)) ?_))
    | (refine Exists.intro _ (And.intro (fun τ _ => callW_fn (d_toSheet (h0 := And.intro rfl rfl) ..)) ?_))
    | (refine d_toSheetS (hs := sli_up h1) (hx := hx) (hl := hl) (h0 := ?_) ..)
    | (refine d_toStepS (hs := sli_up h2) (hx := hy) (hl := hl2) (h0 := ?_) ..)
    | (refine Exists.intro _ (And.intro rfl (And.intro rfl (And.intro (Nat.le_of_ble_eq_true rfl) ?_))))
    | (refine Exists.intro _ (And.intro rfl (And.intro rfl (And.intro rfl (And.intro (Nat.le_of_ble_eq_true rfl) ?_)))))
    | (refine And.intro (Exists.intro _ (And.intro rfl rfl)) ?_)
    | (exact fun hW => absurd hW (by decide +kernel))
    | (intro hW; (try simp only [Bool.not_true, Bool.not_false, Bool.not_eq_true', Bool.not_eq_false', decide_eq_true_eq, decide_eq_false_iff_not, reduceCtorEq, Bool.true_eq_false, Bool.false_eq_true, mk_size, List.size_toArray, ByteArray.size_append, ByteArray.size_extract, List.length_cons, List.length_nil, ba_get, ba_empty, Int.toNat_natCast] at hW))
    | (refine And.intro (?_ : _ → _) (?_ : _ → _))
    | (refine FinR.drop 0 (Nat.zero_le _) (Closed.zero _) rfl ?_)
    | (refine FinR.keep ?_)
    | (refine And.intro (det3_agg rfl) ?_)
    | (refine fL_mk ?_)
    | (refine And.intro (by (try simp only [mk_size, List.size_toArray, ByteArray.size_append, ByteArray.size_extract, List.length_cons, List.length_nil]); omega) ?_)
    | (refine And.intro (by (try simp only [mk_size, List.size_toArray, ByteArray.size_append, ByteArray.size_extract, List.length_cons, List.length_nil, wrap64_eq]); omega) ?_)
    | fail)
  all_goals exact h0 [_, _, _] rfl
theorem len3 {τ : List Blk} (h : τ.length = 3) : ∃ A B C, τ = [A, B, C] := by
  match τ, h with
  | [A, B, C], _ => exact ⟨A, B, C, rfl⟩
/-- a plan that a law made: new, its slices behind three blocks -/
theorem d_toPlan (a b c d e f : Int) (s1 s2 : AV) (xs ys : List (List Int)) (h1 : Sli W0 σ 6 enI s1 xs) (h2 : Sli W0 σ 4 enI s2 ys) (hx : ∀ x ∈ xs, x.length = 6) (hy : ∀ x ∈ ys, x.length = 4) (hl : xs.length ≤ 1048576) (hl2 : ys.length ≤ 1048576) (K : Cont)
    (h0 : ∀ A B C, K (PlA a b c d e f (.sl (σ.length + 3) 0 0 xs.length xs.length) (.sl (σ.length + 4) 0 0 ys.length ys.length)) (σ ++ [A, B, C, shSB xs, stSB ys])) : ACall Try.prog W0 17 [PlA a b c d e f s1 s2] σ K :=
  lift_Pl (rest := []) (ι := { τ : List Blk // τ.length = 3 }) (fun _ => PlA a b c d e f (.sl 3 0 0 xs.length xs.length) (.sl 4 0 0 ys.length ys.length)) (fun τ => τ.1 ++ [shSB xs, stSB ys]) (by kernel_rfl) rfl h1 h2
    (fun W1 v1 v2 q1 q2 K hK => c_toPlan a b c d e f v1 v2 xs ys q1 q2 hx hy hl hl2 K (fun τ hτ => hK ⟨τ, hτ⟩)) K (fun τ => by
      obtain ⟨τ, hτ⟩ := τ
      obtain ⟨A, B, C, rfl⟩ := len3 hτ
      show K _ (σ ++ [_, _, _, (⟨(jc xs).map (sh1 σ.length), _, _, _, _, _⟩ : Blk), (⟨(jc ys).map (sh1 σ.length), _, _, _, _, _⟩ : Blk)])
      rw [jc_sh, jc_sh]
      exact h0 _ _ _)
theorem c_szPlan (a b c d e f : Int) (v1 v2 : Value) (xs ys : List (List Int)) (m : Int) (h1 : Sli W0 [] 6 enI (.lit v1) xs) (h2 : Sli W0 [] 4 enI (.lit v2) ys) (hl : xs.length ≤ 9223372036854775807) (hl2 : ys.length ≤ 9223372036854775807) (hm : 0 ≤ m ∧ m ≤ 1048576) (K : Cont) (h0 : 0 ≤ m - xs.length - ys.length → K (I (m - xs.length - ys.length)) []) (h00 : m - xs.length - ys.length < 0 → K (I (-1)) []) : ACall Try.prog W0 15 [PlA a b c d e f (.lit v1) (.lit v2), I m] [] K := by
  refine by15 (Nat.le_of_ble_eq_true rfl) ?_
  by_cases hz : m - (xs.length : Nat) < 0
  · have hn := h00 (by omega)
    repeat' ((conv => whnf); first
      | (refine And.intro rfl ?_)
      | (refine And.intro (by decide +kernel) ?_)
      | (refine And.intro trivial ?_)
      | (refine d_szSheetS (ha := sli_up h1) (hl := hl) (hm := hm) (h0 := ?_) ..; rw [if_pos hz])
      | (refine Exists.intro _ (And.intro rfl (And.intro rfl (And.intro (Nat.le_of_ble_eq_true rfl) ?_))))
      | (refine Exists.intro _ (And.intro rfl (And.intro rfl (And.intro rfl (And.intro (Nat.le_of_ble_eq_true rfl) ?_)))))
      | (refine And.intro (Exists.intro _ (And.intro rfl rfl)) ?_)
      | (exact fun hW => absurd hW (by decide +kernel))
      | (intro hW; (try simp only [Bool.not_true, Bool.not_false, Bool.not_eq_true', Bool.not_eq_false', decide_eq_true_eq, decide_eq_false_iff_not, reduceCtorEq, Bool.true_eq_false, Bool.false_eq_true, mk_size, List.size_toArray, ByteArray.size_append, ByteArray.size_extract, List.length_cons, List.length_nil, ba_get, ba_empty, Int.toNat_natCast] at hW))
      | (refine And.intro (?_ : _ → _) (?_ : _ → _))
      | (refine FinR.drop 0 (Nat.zero_le _) (Closed.zero _) rfl ?_)
      | (refine FinR.keep ?_)
      | (refine And.intro (det3_agg rfl) ?_)
      | (refine fL_mk ?_)
      | (refine And.intro (by (try simp only [mk_size, List.size_toArray, ByteArray.size_append, ByteArray.size_extract, List.length_cons, List.length_nil]); omega) ?_)
      | (refine And.intro (by (try simp only [mk_size, List.size_toArray, ByteArray.size_append, ByteArray.size_extract, List.length_cons, List.length_nil, wrap64_eq]); omega) ?_)
      | fail)
    all_goals first | exact hn | (exfalso; omega)
  · by_cases hz2 : m - (xs.length : Nat) - (ys.length : Nat) < 0
    · have hn := h00 hz2
      repeat' ((conv => whnf); first
        | (refine And.intro rfl ?_)
        | (refine And.intro (by decide +kernel) ?_)
        | (refine And.intro trivial ?_)
        | (refine d_szSheetS (ha := sli_up h1) (hl := hl) (hm := hm) (h0 := ?_) ..; rw [if_neg hz])
        | (refine d_szStepS (ha := sli_up h2) (hl := hl2) (hm := by omega) (h0 := ?_) ..; rw [if_pos hz2])
        | (refine Exists.intro _ (And.intro rfl (And.intro rfl (And.intro (Nat.le_of_ble_eq_true rfl) ?_))))
        | (refine Exists.intro _ (And.intro rfl (And.intro rfl (And.intro rfl (And.intro (Nat.le_of_ble_eq_true rfl) ?_)))))
        | (refine And.intro (Exists.intro _ (And.intro rfl rfl)) ?_)
        | (exact fun hW => absurd hW (by decide +kernel))
        | (intro hW; (try simp only [Bool.not_true, Bool.not_false, Bool.not_eq_true', Bool.not_eq_false', decide_eq_true_eq, decide_eq_false_iff_not, reduceCtorEq, Bool.true_eq_false, Bool.false_eq_true, mk_size, List.size_toArray, ByteArray.size_append, ByteArray.size_extract, List.length_cons, List.length_nil, ba_get, ba_empty, Int.toNat_natCast] at hW))
        | (refine And.intro (?_ : _ → _) (?_ : _ → _))
        | (refine FinR.drop 0 (Nat.zero_le _) (Closed.zero _) rfl ?_)
        | (refine FinR.keep ?_)
        | (refine And.intro (det3_agg rfl) ?_)
        | (refine fL_mk ?_)
        | (refine And.intro (by (try simp only [mk_size, List.size_toArray, ByteArray.size_append, ByteArray.size_extract, List.length_cons, List.length_nil]); omega) ?_)
        | (refine And.intro (by (try simp only [mk_size, List.size_toArray, ByteArray.size_append, ByteArray.size_extract, List.length_cons, List.length_nil, wrap64_eq]); omega) ?_)
        | fail)
      all_goals first | exact hn | (exfalso; omega)
    · have hn := h0 (by omega)
      repeat' ((conv => whnf); first
        | (refine And.intro rfl ?_)
        | (refine And.intro (by decide +kernel) ?_)
        | (refine And.intro trivial ?_)
        | (refine d_szSheetS (ha := sli_up h1) (hl := hl) (hm := hm) (h0 := ?_) ..; rw [if_neg hz])
        | (refine d_szStepS (ha := sli_up h2) (hl := hl2) (hm := by omega) (h0 := ?_) ..; rw [if_neg hz2])
        | (refine Exists.intro _ (And.intro rfl (And.intro rfl (And.intro (Nat.le_of_ble_eq_true rfl) ?_))))
        | (refine Exists.intro _ (And.intro rfl (And.intro rfl (And.intro rfl (And.intro (Nat.le_of_ble_eq_true rfl) ?_)))))
        | (refine And.intro (Exists.intro _ (And.intro rfl rfl)) ?_)
        | (exact fun hW => absurd hW (by decide +kernel))
        | (intro hW; (try simp only [Bool.not_true, Bool.not_false, Bool.not_eq_true', Bool.not_eq_false', decide_eq_true_eq, decide_eq_false_iff_not, reduceCtorEq, Bool.true_eq_false, Bool.false_eq_true, mk_size, List.size_toArray, ByteArray.size_append, ByteArray.size_extract, List.length_cons, List.length_nil, ba_get, ba_empty, Int.toNat_natCast] at hW))
        | (refine And.intro (?_ : _ → _) (?_ : _ → _))
        | (refine FinR.drop 0 (Nat.zero_le _) (Closed.zero _) rfl ?_)
        | (refine FinR.keep ?_)
        | (refine And.intro (det3_agg rfl) ?_)
        | (refine fL_mk ?_)
        | (refine And.intro (by (try simp only [mk_size, List.size_toArray, ByteArray.size_append, ByteArray.size_extract, List.length_cons, List.length_nil]); omega) ?_)
        | (refine And.intro (by (try simp only [mk_size, List.size_toArray, ByteArray.size_append, ByteArray.size_extract, List.length_cons, List.length_nil, wrap64_eq]); omega) ?_)
        | fail)
      all_goals first | exact hn | (exfalso; omega)
theorem d_szPlan (a b c d e f : Int) (s1 s2 : AV) (xs ys : List (List Int)) (m : Int) (h1 : Sli W0 σ 6 enI s1 xs) (h2 : Sli W0 σ 4 enI s2 ys) (hl : xs.length ≤ 9223372036854775807) (hl2 : ys.length ≤ 9223372036854775807) (hm : 0 ≤ m ∧ m ≤ 1048576) (K : Cont) (h0 : 0 ≤ m - xs.length - ys.length → K (I (m - xs.length - ys.length)) σ) (h00 : m - xs.length - ys.length < 0 → K (I (-1)) σ) : ACall Try.prog W0 15 [PlA a b c d e f s1 s2, I m] σ K := by
  by_cases hz : m - xs.length - ys.length < 0
  · exact lift_Pl (rest := [I m]) (ι := Unit) (fun _ => I (-1)) (fun _ => []) (by kernel_rfl) rfl h1 h2 (fun W1 v1 v2 q1 q2 K hK => c_szPlan a b c d e f v1 v2 xs ys m q1 q2 hl hl2 hm K (fun h => by omega) (fun _ => hK ())) K (fun _ => by
      rw [show shB σ.length [] = [] from rfl, List.append_nil]; exact h00 hz)
  · exact lift_Pl (rest := [I m]) (ι := Unit) (fun _ => I (m - xs.length - ys.length)) (fun _ => []) (by kernel_rfl) rfl h1 h2 (fun W1 v1 v2 q1 q2 K hK => c_szPlan a b c d e f v1 v2 xs ys m q1 q2 hl hl2 hm K (fun _ => hK ()) (fun h => by omega)) K (fun _ => by
      rw [show shB σ.length [] = [] from rfl, List.append_nil]; exact h0 (by omega))
theorem c_eqPlan (a b c d e f : Int) (v1 v2 u1 u2 : Value) (xs ys : List (List Int)) (h1 : Sli W0 [] 6 enI (.lit v1) xs) (h2 : Sli W0 [] 4 enI (.lit v2) ys) (g1 : Sli W0 [] 6 enI (.lit u1) xs) (g2 : Sli W0 [] 4 enI (.lit u2) ys) (hx : ∀ x ∈ xs, x.length = 6) (hy : ∀ x ∈ ys, x.length = 4) (hl : xs.length ≤ 1048576) (hl2 : ys.length ≤ 1048576) (K : Cont) (h0 : K (Bo true) []) : ACall Try.prog W0 19 [PlA a b c d e f (.lit v1) (.lit v2), PlA a b c d e f (.lit u1) (.lit u2)] [] K := by
  refine by19 (Nat.le_of_ble_eq_true rfl) ?_
  repeat' ((conv => whnf); first
    | (refine And.intro rfl ?_)
    | (refine And.intro (by decide +kernel) ?_)
    | (refine And.intro trivial ?_)
    | (refine d_eqSheet (h0 := ?_) ..)
    | (refine Exists.intro _ (And.intro (fun τ => callW_fn (d_eqSheet (h0 := And.intro rfl rfl) ..)) ?_))
    | (refine Exists.intro _ (And.intro (callW_fn (d_eqSheet (h0 := And.intro rfl rfl) ..)) (And.intro trivial ?_)))
    | (refine Exists.intro _ (And.intro (callW_fn (d_eqSheet (h0 := And.intro rfl rfl) ..)) ?_))
    | (refine Exists.intro _ (And.intro (fun τ _ => callW_fn (d_eqSheet (h0 := And.intro rfl rfl) ..)) ?_))
    | (refine d_eqSheetS (ha := sli_up h1) (hb' := sli_up g1) (hx := hx) (hl := hl) (h0 := ?_) ..)
    | (refine d_eqStepS (ha := sli_up h2) (hb' := sli_up g2) (hx := hy) (hl := hl2) (h0 := ?_) ..)
    | (refine Exists.intro _ (And.intro rfl (And.intro rfl (And.intro (Nat.le_of_ble_eq_true rfl) ?_))))
    | (refine Exists.intro _ (And.intro rfl (And.intro rfl (And.intro rfl (And.intro (Nat.le_of_ble_eq_true rfl) ?_)))))
    | (refine And.intro (Exists.intro _ (And.intro rfl rfl)) ?_)
    | (exact fun hW => absurd hW (by decide +kernel))
    | (intro hW; (try simp only [Bool.not_true, Bool.not_false, Bool.not_eq_true', Bool.not_eq_false', decide_eq_true_eq, decide_eq_false_iff_not, reduceCtorEq, Bool.true_eq_false, Bool.false_eq_true, mk_size, List.size_toArray, ByteArray.size_append, ByteArray.size_extract, List.length_cons, List.length_nil, ba_get, ba_empty, Int.toNat_natCast] at hW))
    | (refine And.intro (?_ : _ → _) (?_ : _ → _))
    | (refine FinR.drop 0 (Nat.zero_le _) (Closed.zero _) rfl ?_)
    | (refine FinR.keep ?_)
    | (refine And.intro (det3_agg rfl) ?_)
    | (refine fL_mk ?_)
    | (refine And.intro (by (try simp only [mk_size, List.size_toArray, ByteArray.size_append, ByteArray.size_extract, List.length_cons, List.length_nil]); omega) ?_)
    | (refine And.intro (by (try simp only [mk_size, List.size_toArray, ByteArray.size_append, ByteArray.size_extract, List.length_cons, List.length_nil, wrap64_eq]); omega) ?_)
    | fail)
  all_goals first | exact h0 | (exfalso; simp_all [eq6]; done)
theorem lift_PlPl {g : FuncId} {a b c d e f a' b' c' d' e' f' : Int} {s1 s2 t1 t2 : AV} {xs ys zs ws : List (List Int)} {r : AV} (hok : callOK Try.prog g = true) (hr : ∀ k, sh3 k r = r) (h1 : Sli W0 σ 6 enI s1 xs) (h2 : Sli W0 σ 4 enI s2 ys) (g1 : Sli W0 σ 6 enI t1 zs) (g2 : Sli W0 σ 4 enI t2 ws)
    (h : ∀ (W1 : World) (v1 v2 u1 u2 : Value), Sli W1 [] 6 enI (.lit v1) xs → Sli W1 [] 4 enI (.lit v2) ys → Sli W1 [] 6 enI (.lit u1) zs → Sli W1 [] 4 enI (.lit u2) ws → ∀ K : Cont, K r [] → ACall Try.prog W1 g [PlA a b c d e f (.lit v1) (.lit v2), PlA a' b' c' d' e' f' (.lit u1) (.lit u2)] [] K) (K : Cont) (h0 : K r σ) : ACall Try.prog W0 g [PlA a b c d e f s1 s2, PlA a' b' c' d' e' f' t1 t2] σ K := by
  refine ACall.frameA (K0 := fun v σ' => v = r ∧ σ' = []) hok (fun W1 ι vs hh hrr => ?_) ?_
  · obtain ⟨v1, vs', rfl, hr1, hr2⟩ := Rels.uncons hrr
    obtain ⟨v2, vs'', rfl, hr3, hr4⟩ := Rels.uncons hr2
    obtain rfl := hr4.nil_inv
    obtain ⟨q1, q2, p1, p2, p3⟩ := plA_conc h1 h2 hh hr1
    obtain ⟨w1, w2, o1, o2, o3⟩ := plA_conc g1 g2 hh hr3
    obtain ⟨u1, rfl⟩ := sli_lit p1
    obtain ⟨u2, rfl⟩ := sli_lit p2
    obtain ⟨u3, rfl⟩ := sli_lit o1
    obtain ⟨u4, rfl⟩ := sli_lit o2
    exact ⟨[_, _], Rels.cons p3 (Rels.cons o3 Rels.nil), h W1 _ _ _ _ p1 p2 o1 o2 _ ⟨rfl, rfl⟩⟩
  · rintro v σ' ⟨rfl, rfl⟩
    have e : σ ++ shB σ.length [] = σ := by simp [shB]
    rw [e, hr]; exact h0
theorem d_eqPlan (a b c d e f : Int) (s1 s2 t1 t2 : AV) (xs ys : List (List Int)) (h1 : Sli W0 σ 6 enI s1 xs) (h2 : Sli W0 σ 4 enI s2 ys) (g1 : Sli W0 σ 6 enI t1 xs) (g2 : Sli W0 σ 4 enI t2 ys) (hx : ∀ x ∈ xs, x.length = 6) (hy : ∀ x ∈ ys, x.length = 4) (hl : xs.length ≤ 1048576) (hl2 : ys.length ≤ 1048576) (K : Cont) (h0 : K (Bo true) σ) : ACall Try.prog W0 19 [PlA a b c d e f s1 s2, PlA a b c d e f t1 t2] σ K :=
  lift_PlPl (by kernel_rfl) (fun _ => rfl) h1 h2 g1 g2 (fun W1 v1 v2 u1 u2 q1 q2 q3 q4 K hK => c_eqPlan a b c d e f v1 v2 u1 u2 xs ys q1 q2 q3 q4 hx hy hl hl2 K hK) K h0
end Go.Proofs.Ytbmilmnfhdkfjaa
end

section
/- Contracts: plans that run. -/
set_option linter.unusedVariables false
set_option linter.unusedSimpArgs false
set_option maxRecDepth 100000
set_option maxHeartbeats 4000000
namespace Go.Proofs.Ytbmilmnfhdkfjaa
open Go Go.RowKit Go.Proofs.Ytbmilmnfhdkfjaa.Abs
variable {W0 : World} {σ : List Blk}
/-- a step by sets; many -/
def stepF (k m n : Nat) : Nat := if k = 1 then n ^^^ m else if k = 2 then n ||| m else n &&& (fullN ^^^ m)
def runN (fs : List (Nat × Nat)) (n : Nat) : Nat := fs.foldl (fun n s => stepF s.1 s.2 n) n
def runL : List (Nat × Nat) → Nat → List Nat
  | [], n => [n]
  | s :: fs, n => n :: runL fs (stepF s.1 s.2 n)
theorem stepF_lt {k m n : Nat} (hm : m < 2 ^ 36) (hn : n < 2 ^ 36) : stepF k m n < 2 ^ 36 := by
  unfold stepF
  split
  · exact Nat.xor_lt_two_pow hn hm
  · split
    · exact Nat.or_lt_two_pow hn hm
    · exact Nat.lt_of_le_of_lt Nat.and_le_left hn
/-- steps that are valid -/
def FsOk (fs : List (Nat × Nat)) : Prop := ∀ s ∈ fs, (1 ≤ s.1 ∧ s.1 ≤ 3) ∧ s.2 < 2 ^ 36
theorem FsOk.take {fs : List (Nat × Nat)} (h : FsOk fs) (i : Nat) : FsOk (fs.take i) := fun s hs => h s (List.mem_of_mem_take hs)
theorem runN_lt : ∀ {fs : List (Nat × Nat)} {n : Nat}, FsOk fs → n < 2 ^ 36 → runN fs n < 2 ^ 36
  | [], n, _, hn => hn
  | s :: fs, n, h, hn => runN_lt (fs := fs) (n := stepF s.1 s.2 n) (fun t ht => h t (List.mem_cons_of_mem _ ht)) (stepF_lt (h s List.mem_cons_self).2 hn)
theorem runN_snoc (fs : List (Nat × Nat)) (k m n : Nat) : runN (fs ++ [(k, m)]) n = stepF k m (runN fs n) := by simp [runN]
theorem runL_len : ∀ (fs : List (Nat × Nat)) (n : Nat), (runL fs n).length = fs.length + 1
  | [], _ => rfl
  | s :: fs, n => by rw [runL, List.length_cons, runL_len fs, List.length_cons]
theorem runL_snoc : ∀ (fs : List (Nat × Nat)) (k m n : Nat), runL (fs ++ [(k, m)]) n = runL fs n ++ [stepF k m (runN fs n)]
  | [], k, m, n => rfl
  | s :: fs, k, m, n => by
    rw [List.cons_append, runL, runL_snoc fs, runL]; rfl
theorem runL_get : ∀ (fs : List (Nat × Nat)) (n : Nat) {i : Nat}, i ≤ fs.length → (runL fs n)[i]? = some (runN (fs.take i) n)
  | [], n, i, h => by
    have : i = 0 := by simpa using h
    subst this; rfl
  | s :: fs, n, 0, h => rfl
  | s :: fs, n, i + 1, h => by
    rw [runL, List.getElem?_cons_succ, runL_get fs _ (by simpa using h)]; rfl
theorem fsOf_ok {xs ys : List (List Int)} (hx : ∀ x ∈ xs, x.length = 6) (hy : ∀ x ∈ ys, x.length = 4) (hxa : xs.all shRow = true) (hya : ys.all (stOk xs.length) = true) : FsOk (fsOf xs ys) := by
  intro s hs
  obtain ⟨r, hr, rfl⟩ := List.mem_map.1 hs
  have h4 := hy r hr
  have hok := List.all_eq_true.1 hya r hr
  match r, h4, hok with
  | [k, t, x, y], _, hok =>
    rw [stOk_eq] at hok
    simp only [Bool.and_eq_true] at hok
    obtain ⟨⟨hk, ht⟩, hc⟩ := hok
    have hk3 := (inB_iff _ _ _).1 hk
    have hc6 := cellB_iff.1 hc
    exact ⟨(show 1 ≤ k.toNat ∧ k.toNat ≤ 3 by omega), prN_lt (show x.toNat < 6 by omega) (show y.toNat < 6 by omega)⟩
theorem fsOf_len (xs ys : List (List Int)) : (fsOf xs ys).length = ys.length := by rw [fsOf, List.length_map]
/-! the program -/
theorem d_clo (a b k m y : Nat) (ha : σ[a]? = some (doB k)) (hb : σ[b]? = some (uB m)) (hk : 1 ≤ k ∧ k ≤ 3) (hm : m < 2 ^ 36) (hy : y < 2 ^ 36) (K : Cont) (h0 : K (U (stepF k m y : Nat)) σ) : ACall Try.prog W0 94 [U y, .ptr a 0 0, .ptr b 0 0] σ K := by
  refine by94 (Nat.le_of_ble_eq_true rfl) ?_
  obtain rfl | rfl | rfl : k = 1 ∨ k = 2 ∨ k = 3 := by omega
  · have h0 : K (U (y ^^^ m : Nat)) σ := h0
    repeat' ((conv => whnf); first
      | (refine And.intro rfl ?_)
      | (refine And.intro (by decide +kernel) ?_)
      | (refine And.intro trivial ?_)
      | (refine Exists.intro _ (And.intro ha (And.intro rfl (And.intro (Nat.le_of_ble_eq_true rfl) ?_))))
      | (refine Exists.intro _ (And.intro hb (And.intro rfl (And.intro (Nat.le_of_ble_eq_true rfl) ?_))))
      | (refine d_toggled (hn := hy) (hm := hm) (h0 := ?_) ..)
      | (refine Exists.intro _ (And.intro rfl (And.intro rfl (And.intro (Nat.le_of_ble_eq_true rfl) ?_))))
      | (refine Exists.intro _ (And.intro rfl (And.intro rfl (And.intro rfl (And.intro (Nat.le_of_ble_eq_true rfl) ?_)))))
      | (refine And.intro (Exists.intro _ (And.intro rfl rfl)) ?_)
      | (exact fun hW => absurd hW (by decide +kernel))
      | (intro hW; (try simp only [Bool.not_true, Bool.not_false, Bool.not_eq_true', Bool.not_eq_false', decide_eq_true_eq, decide_eq_false_iff_not, reduceCtorEq, Bool.true_eq_false, Bool.false_eq_true, mk_size, List.size_toArray, ByteArray.size_append, ByteArray.size_extract, List.length_cons, List.length_nil, ba_get, ba_empty, Int.toNat_natCast] at hW))
      | (refine And.intro (?_ : _ → _) (?_ : _ → _))
      | (refine FinR.drop 0 (Nat.zero_le _) (Closed.zero _) rfl ?_)
      | (refine FinR.keep ?_)
      | (refine And.intro (det3_agg rfl) ?_)
      | (refine fL_mk ?_)
      | (refine And.intro (by (try simp only [mk_size, List.size_toArray, ByteArray.size_append, ByteArray.size_extract, List.length_cons, List.length_nil]); omega) ?_)
      | (refine And.intro (by (try simp only [mk_size, List.size_toArray, ByteArray.size_append, ByteArray.size_extract, List.length_cons, List.length_nil, wrap64_eq]); omega) ?_)
      | fail)
    all_goals first | exact h0 | exact FinR.keep h0
  · have h0 : K (U (y ||| m : Nat)) σ := h0
    repeat' ((conv => whnf); first
      | (refine And.intro rfl ?_)
      | (refine And.intro (by decide +kernel) ?_)
      | (refine And.intro trivial ?_)
      | (refine Exists.intro _ (And.intro ha (And.intro rfl (And.intro (Nat.le_of_ble_eq_true rfl) ?_))))
      | (refine Exists.intro _ (And.intro hb (And.intro rfl (And.intro (Nat.le_of_ble_eq_true rfl) ?_))))
      | (refine d_inked (hn := hy) (hm := hm) (h0 := ?_) ..)
      | (refine Exists.intro _ (And.intro rfl (And.intro rfl (And.intro (Nat.le_of_ble_eq_true rfl) ?_))))
      | (refine Exists.intro _ (And.intro rfl (And.intro rfl (And.intro rfl (And.intro (Nat.le_of_ble_eq_true rfl) ?_)))))
      | (refine And.intro (Exists.intro _ (And.intro rfl rfl)) ?_)
      | (exact fun hW => absurd hW (by decide +kernel))
      | (intro hW; (try simp only [Bool.not_true, Bool.not_false, Bool.not_eq_true', Bool.not_eq_false', decide_eq_true_eq, decide_eq_false_iff_not, reduceCtorEq, Bool.true_eq_false, Bool.false_eq_true, mk_size, List.size_toArray, ByteArray.size_append, ByteArray.size_extract, List.length_cons, List.length_nil, ba_get, ba_empty, Int.toNat_natCast] at hW))
      | (refine And.intro (?_ : _ → _) (?_ : _ → _))
      | (refine FinR.drop 0 (Nat.zero_le _) (Closed.zero _) rfl ?_)
      | (refine FinR.keep ?_)
      | (refine And.intro (det3_agg rfl) ?_)
      | (refine fL_mk ?_)
      | (refine And.intro (by (try simp only [mk_size, List.size_toArray, ByteArray.size_append, ByteArray.size_extract, List.length_cons, List.length_nil]); omega) ?_)
      | (refine And.intro (by (try simp only [mk_size, List.size_toArray, ByteArray.size_append, ByteArray.size_extract, List.length_cons, List.length_nil, wrap64_eq]); omega) ?_)
      | fail)
    all_goals first | exact h0 | exact FinR.keep h0
  · have h0 : K (U (y &&& (fullN ^^^ m) : Nat)) σ := h0
    repeat' ((conv => whnf); first
      | (refine And.intro rfl ?_)
      | (refine And.intro (by decide +kernel) ?_)
      | (refine And.intro trivial ?_)
      | (refine Exists.intro _ (And.intro ha (And.intro rfl (And.intro (Nat.le_of_ble_eq_true rfl) ?_))))
      | (refine Exists.intro _ (And.intro hb (And.intro rfl (And.intro (Nat.le_of_ble_eq_true rfl) ?_))))
      | (refine d_wiped (hn := hy) (hm := hm) (h0 := ?_) ..)
      | (refine Exists.intro _ (And.intro rfl (And.intro rfl (And.intro (Nat.le_of_ble_eq_true rfl) ?_))))
      | (refine Exists.intro _ (And.intro rfl (And.intro rfl (And.intro rfl (And.intro (Nat.le_of_ble_eq_true rfl) ?_)))))
      | (refine And.intro (Exists.intro _ (And.intro rfl rfl)) ?_)
      | (exact fun hW => absurd hW (by decide +kernel))
      | (intro hW; (try simp only [Bool.not_true, Bool.not_false, Bool.not_eq_true', Bool.not_eq_false', decide_eq_true_eq, decide_eq_false_iff_not, reduceCtorEq, Bool.true_eq_false, Bool.false_eq_true, mk_size, List.size_toArray, ByteArray.size_append, ByteArray.size_extract, List.length_cons, List.length_nil, ba_get, ba_empty, Int.toNat_natCast] at hW))
      | (refine And.intro (?_ : _ → _) (?_ : _ → _))
      | (refine FinR.drop 0 (Nat.zero_le _) (Closed.zero _) rfl ?_)
      | (refine FinR.keep ?_)
      | (refine And.intro (det3_agg rfl) ?_)
      | (refine fL_mk ?_)
      | (refine And.intro (by (try simp only [mk_size, List.size_toArray, ByteArray.size_append, ByteArray.size_extract, List.length_cons, List.length_nil]); omega) ?_)
      | (refine And.intro (by (try simp only [mk_size, List.size_toArray, ByteArray.size_append, ByteArray.size_extract, List.length_cons, List.length_nil, wrap64_eq]); omega) ?_)
      | fail)
    all_goals first | exact h0 | exact FinR.keep h0
abbrev ruB (l : List Nat) : Blk := ⟨l.map (fun n : Nat => U n), l.length - 1, 82, 1, true, true⟩
theorem d_run (p n x : Nat) (fs : List (Nat × Nat)) (hp : PlanSt σ p n fs) (hf : FsOk fs) (hl : fs.length ≤ 1048576) (hx : x < 2 ^ 36) (K : Cont) (h0 : ∀ cap, K (.sl σ.length fs.length 0 (fs.length + 1) cap) (σ ++ [ruB (runL fs x)])) : ACall Try.prog W0 61 [.ptr p 0 0, U x] σ K := by
  refine by61 (Nat.le_of_ble_eq_true rfl) ?_
  obtain ⟨s, h1, hs⟩ := hp.ex
  cases hs with
  | nil =>
    have h00 := h0 1
    repeat' ((conv => whnf); first
      | (refine And.intro rfl ?_)
      | (refine And.intro (by decide +kernel) ?_)
      | (refine And.intro trivial ?_)
      | (refine fS_mk ?_)
      | (refine And.intro ⟨_, getx1 h1, rfl⟩ ?_)
      | (refine Exists.intro _ (And.intro (getx1 h1) (And.intro rfl (And.intro (Nat.le_of_ble_eq_true rfl) ?_))))
      | (refine Exists.intro _ (And.intro rfl (And.intro rfl (And.intro (Nat.le_of_ble_eq_true rfl) ?_))))
      | (refine Exists.intro _ (And.intro rfl (And.intro rfl (And.intro rfl (And.intro (Nat.le_of_ble_eq_true rfl) ?_)))))
      | (refine And.intro (Exists.intro _ (And.intro rfl rfl)) ?_)
      | (exact fun hW => absurd hW (by decide +kernel))
      | (intro hW; (try simp only [Bool.not_true, Bool.not_false, Bool.not_eq_true', Bool.not_eq_false', decide_eq_true_eq, decide_eq_false_iff_not, reduceCtorEq, Bool.true_eq_false, Bool.false_eq_true, mk_size, List.size_toArray, ByteArray.size_append, ByteArray.size_extract, List.length_cons, List.length_nil, ba_get, ba_empty, Int.toNat_natCast] at hW))
      | (refine And.intro (?_ : _ → _) (?_ : _ → _))
      | (refine FinR.drop 0 (Nat.zero_le _) (Closed.zero _) rfl ?_)
      | (refine FinR.keep ?_)
      | (refine And.intro (det3_agg rfl) ?_)
      | (refine fL_mk ?_)
      | (refine And.intro (by (try simp only [mk_size, List.size_toArray, ByteArray.size_append, ByteArray.size_extract, List.length_cons, List.length_nil]); omega) ?_)
      | (refine And.intro (by (try simp only [mk_size, List.size_toArray, ByteArray.size_append, ByteArray.size_extract, List.length_cons, List.length_nil, wrap64_eq]); omega) ?_)
      | fail)
    refine LoopR.unroll 1 ?_
    repeat' ((conv => whnf); first
      | (refine And.intro rfl ?_)
      | (refine And.intro (by decide +kernel) ?_)
      | (refine And.intro trivial ?_)
      | (refine Exists.intro _ (And.intro rfl (And.intro rfl (And.intro (Nat.le_of_ble_eq_true rfl) ?_))))
      | (refine Exists.intro _ (And.intro rfl (And.intro rfl (And.intro rfl (And.intro (Nat.le_of_ble_eq_true rfl) ?_)))))
      | (refine And.intro (Exists.intro _ (And.intro rfl rfl)) ?_)
      | (exact fun hW => absurd hW (by decide +kernel))
      | (intro hW; (try simp only [Bool.not_true, Bool.not_false, Bool.not_eq_true', Bool.not_eq_false', decide_eq_true_eq, decide_eq_false_iff_not, reduceCtorEq, Bool.true_eq_false, Bool.false_eq_true, mk_size, List.size_toArray, ByteArray.size_append, ByteArray.size_extract, List.length_cons, List.length_nil, ba_get, ba_empty, Int.toNat_natCast] at hW))
      | (refine And.intro (?_ : _ → _) (?_ : _ → _))
      | (refine FinR.drop 0 (Nat.zero_le _) (Closed.zero _) rfl ?_)
      | (refine FinR.keep ?_)
      | (refine And.intro (det3_agg rfl) ?_)
      | (refine fL_mk ?_)
      | (refine And.intro (by (try simp only [mk_size, List.size_toArray, ByteArray.size_append, ByteArray.size_extract, List.length_cons, List.length_nil]); omega) ?_)
      | (refine And.intro (by (try simp only [mk_size, List.size_toArray, ByteArray.size_append, ByteArray.size_extract, List.length_cons, List.length_nil, wrap64_eq]); omega) ?_)
      | fail)
    all_goals first | (exfalso; omega) | exact h00 | exact FinR.keep h00
  | own r ver cap cs fs hr hlc hc =>
    repeat' ((conv => whnf); first
      | (refine And.intro rfl ?_)
      | (refine And.intro (by decide +kernel) ?_)
      | (refine And.intro trivial ?_)
      | (refine fS_mk ?_)
      | (refine And.intro ⟨_, getx1 h1, rfl⟩ ?_)
      | (refine And.intro ⟨_, getx1 hr, rfl⟩ ?_)
      | (refine Exists.intro _ (And.intro (getx1 h1) (And.intro rfl (And.intro (Nat.le_of_ble_eq_true rfl) ?_))))
      | (refine Exists.intro _ (And.intro rfl (And.intro rfl (And.intro (Nat.le_of_ble_eq_true rfl) ?_))))
      | (refine Exists.intro _ (And.intro rfl (And.intro rfl (And.intro rfl (And.intro (Nat.le_of_ble_eq_true rfl) ?_)))))
      | (refine And.intro (Exists.intro _ (And.intro rfl rfl)) ?_)
      | (exact fun hW => absurd hW (by decide +kernel))
      | (intro hW; (try simp only [Bool.not_true, Bool.not_false, Bool.not_eq_true', Bool.not_eq_false', decide_eq_true_eq, decide_eq_false_iff_not, reduceCtorEq, Bool.true_eq_false, Bool.false_eq_true, mk_size, List.size_toArray, ByteArray.size_append, ByteArray.size_extract, List.length_cons, List.length_nil, ba_get, ba_empty, Int.toNat_natCast] at hW))
      | (refine And.intro (?_ : _ → _) (?_ : _ → _))
      | (refine FinR.drop 0 (Nat.zero_le _) (Closed.zero _) rfl ?_)
      | (refine FinR.keep ?_)
      | (refine And.intro (det3_agg rfl) ?_)
      | (refine fL_mk ?_)
      | (refine And.intro (by (try simp only [mk_size, List.size_toArray, ByteArray.size_append, ByteArray.size_extract, List.length_cons, List.length_nil]); omega) ?_)
      | (refine And.intro (by (try simp only [mk_size, List.size_toArray, ByteArray.size_append, ByteArray.size_extract, List.length_cons, List.length_nil, wrap64_eq]); omega) ?_)
      | fail)
    refine LoopR.live (fun y : Nat × Nat => [(1, U (runN (fs.take y.1) x : Nat)), (5, .sl σ.length y.1 0 (y.1 + 1) y.2), (13, .sl r ver 0 fs.length cap), (14, I fs.length), (15, I y.1)]) (fun y => σ ++ [ruB (runL (fs.take y.1) x)]) (fun y => y.1 ≤ fs.length) (fun y => fs.length - y.1) (0, 1) ⟨rfl, rfl, rfl, rfl, rfl, trivial⟩ (.keep rfl) (Nat.zero_le _) ?_
    rintro ⟨i, cp⟩ hi
    dsimp only at hi
    have hrl : (runL (fs.take i) x).length = i + 1 := by rw [runL_len, List.length_take, Nat.min_eq_left hi]
    have hrn : runN (fs.take i) x < 2 ^ 36 := runN_lt (hf.take i) hx
    by_cases hlt : i < fs.length
    · obtain ⟨k, m, hkm⟩ : ∃ k m, fs[i]? = some (k, m) := ⟨fs[i].1, fs[i].2, List.getElem?_eq_getElem hlt⟩
      obtain ⟨a, b, q1, q2, q3⟩ := hc i k m hkm
      have hkk := hf (k, m) (List.mem_of_getElem? hkm)
      have hsn : fs.take (i + 1) = fs.take i ++ [(k, m)] := take_snoc hkm
      have hce : ∀ off, off = i → mkAV false ((cs.drop off).take 1) = cloA a b := fun off ho => by
        subst ho
        rw [List.drop_eq_getElem_cons (getElem?_lt q1), (List.getElem?_eq_some_iff.1 q1).2]; rfl
      have hle : ∀ off, off = i → off + 1 ≤ cs.length := fun off ho => by have := getElem?_lt q1; omega
      have hml : (i + 1) * 1 = ((runL (fs.take i) x).map (fun n : Nat => U n)).length := by rw [List.length_map, hrl]; omega
      have hver : (runL (fs.take i) x).length - 1 = i := by omega
      repeat' ((conv => whnf); first
        | (refine Exists.intro _ (And.intro (getx1 hr) (And.intro rfl (And.intro (hle _ (by rw [Int.toNat_natCast]; omega)) ?_))); rw [hce _ (by rw [Int.toNat_natCast]; omega)])
        | (refine Exists.intro _ (And.intro getl (And.intro hver (And.intro rfl (And.intro rfl (And.intro rfl (And.intro rfl (And.intro (by decide) (And.intro hml (And.intro rfl (And.intro (by dsimp only; unfold maxLen; omega) (And.intro (by dsimp only; omega) (fun cap' hcap1 hcap2 => ?_)))))))))))); rw [set_last])
        | (refine And.intro rfl ?_)
        | (refine And.intro (by decide +kernel) ?_)
        | (refine And.intro trivial ?_)
        | (refine And.intro ⟨_, getx1 hr, rfl⟩ ?_)
        | (refine d_clo (ha := getx1 q2) (hb := getx1 q3) (hk := hkk.1) (hm := hkk.2) (hy := hrn) (h0 := ?_) ..)
        | (refine Exists.intro _ (And.intro rfl (And.intro rfl (And.intro (Nat.le_of_ble_eq_true rfl) ?_))))
        | (refine Exists.intro _ (And.intro rfl (And.intro rfl (And.intro rfl (And.intro (Nat.le_of_ble_eq_true rfl) ?_)))))
        | (refine And.intro (Exists.intro _ (And.intro rfl rfl)) ?_)
        | (exact fun hW => absurd hW (by decide +kernel))
        | (intro hW; (try simp only [Bool.not_true, Bool.not_false, Bool.not_eq_true', Bool.not_eq_false', decide_eq_true_eq, decide_eq_false_iff_not, reduceCtorEq, Bool.true_eq_false, Bool.false_eq_true, mk_size, List.size_toArray, ByteArray.size_append, ByteArray.size_extract, List.length_cons, List.length_nil, ba_get, ba_empty, Int.toNat_natCast] at hW))
        | (refine And.intro (?_ : _ → _) (?_ : _ → _))
        | (refine FinR.drop 0 (Nat.zero_le _) (Closed.zero _) rfl ?_)
        | (refine FinR.keep ?_)
        | (refine And.intro (det3_agg rfl) ?_)
        | (refine fL_mk ?_)
        | (refine And.intro (by (try simp only [mk_size, List.size_toArray, ByteArray.size_append, ByteArray.size_extract, List.length_cons, List.length_nil]); omega) ?_)
        | (refine And.intro (by (try simp only [mk_size, List.size_toArray, ByteArray.size_append, ByteArray.size_extract, List.length_cons, List.length_nil, wrap64_eq]); omega) ?_)
        | fail)
      all_goals first | (exfalso; omega) | skip
      refine Again.go (i + 1, _) ⟨(by show U _ = U _; rw [hsn, runN_snoc]), rfl, rfl, rfl, slI' (wsucc' i (by omega)), trivial⟩ (.keep ?_) (by dsimp only; omega) (by dsimp only; omega)
      dsimp only [ruB]
      rw [hsn, runL_snoc, List.map_append, List.length_append, hrl]; rfl
    · obtain rfl : i = fs.length := by omega
      rw [List.take_length]
      have h00 := h0 cp
      repeat' ((conv => whnf); first
        | (refine And.intro rfl ?_)
        | (refine And.intro (by decide +kernel) ?_)
        | (refine And.intro trivial ?_)
        | (refine Exists.intro _ (And.intro rfl (And.intro rfl (And.intro (Nat.le_of_ble_eq_true rfl) ?_))))
        | (refine Exists.intro _ (And.intro rfl (And.intro rfl (And.intro rfl (And.intro (Nat.le_of_ble_eq_true rfl) ?_)))))
        | (refine And.intro (Exists.intro _ (And.intro rfl rfl)) ?_)
        | (exact fun hW => absurd hW (by decide +kernel))
        | (intro hW; (try simp only [Bool.not_true, Bool.not_false, Bool.not_eq_true', Bool.not_eq_false', decide_eq_true_eq, decide_eq_false_iff_not, reduceCtorEq, Bool.true_eq_false, Bool.false_eq_true, mk_size, List.size_toArray, ByteArray.size_append, ByteArray.size_extract, List.length_cons, List.length_nil, ba_get, ba_empty, Int.toNat_natCast] at hW))
        | (refine And.intro (?_ : _ → _) (?_ : _ → _))
        | (refine FinR.drop 0 (Nat.zero_le _) (Closed.zero _) rfl ?_)
        | (refine FinR.keep ?_)
        | (refine And.intro (det3_agg rfl) ?_)
        | (refine fL_mk ?_)
        | (refine And.intro (by (try simp only [mk_size, List.size_toArray, ByteArray.size_append, ByteArray.size_extract, List.length_cons, List.length_nil]); omega) ?_)
        | (refine And.intro (by (try simp only [mk_size, List.size_toArray, ByteArray.size_append, ByteArray.size_extract, List.length_cons, List.length_nil, wrap64_eq]); omega) ?_)
        | fail)
      all_goals first | (exfalso; omega) | exact h00 | exact FinR.keep h00
end Go.Proofs.Ytbmilmnfhdkfjaa
end

section
/- Contracts: sheets of a plan, by both sides. -/
set_option linter.unusedVariables false
set_option linter.unusedSimpArgs false
set_option maxRecDepth 100000
set_option maxHeartbeats 4000000
namespace Go.Proofs.Ytbmilmnfhdkfjaa
open Go Go.RowKit Go.Proofs.Ytbmilmnfhdkfjaa.Abs
variable {W0 : World} {σ : List Blk}
theorem st_row {r : List Int} (h6 : r.length = 6) (h : shRow r = true) : ∃ n : Nat, n < 2 ^ 36 ∧ r = shR n ∧ stN r = n := by
  match r, h6, h with
  | [a, b, c, d, e, f], _, h =>
    obtain ⟨n, hn, rfl, rfl, rfl, rfl, rfl, rfl, hs⟩ := st_parts h
    exact ⟨n, hn, rfl, hs⟩
theorem c_l11Next (n : Nat) (v1 : Value) (xs : List (List Int)) (h1 : Sli W0 [] 6 enI (.lit v1) xs) (k s : Int) (m u v : Nat) (hm : xs[s.toNat]? = some (shR m)) (hk : 1 ≤ k ∧ k ≤ 3) (hs : 0 ≤ s ∧ s < xs.length) (hu : u < 6) (hv : v < 6) (K : Cont) (h0 : K (ShN (stepF k.toNat (prN m u v) n)) []) : ACall Try.prog W0 96 [ShN n, .lit v1, Ste k s u v] [] K := by
  refine by96 (Nat.le_of_ble_eq_true rfl) ?_
  obtain ⟨o1, n1, cap1, hv1, hn1, hc1, hm1, hf1⟩ := sli_form h1
  cases hv1
  subst hn1
  obtain ⟨ad, rfl, hb, hxx⟩ := hf1 _ _ hm
  have hld := fun C h => ldIn (W0 := W0) (s := 6) (enc := enI) hb hxx hm rfl (C := C) h
  obtain rfl | rfl | rfl : k = 1 ∨ k = 2 ∨ k = 3 := by omega
  · have h0 : K (ShN (n ^^^ prN m u v)) [] := h0
    repeat' ((conv => whnf); first
      | (refine And.intro rfl ?_)
      | (refine And.intro (by decide +kernel) ?_)
      | (refine And.intro trivial ?_)
      | (refine hld _ ?_)
      | (refine d_l2AtN (n := m) (hx := hu) (hy := hv) (h0 := ?_) ..)
      | (refine Exists.intro _ (And.intro (fun τ => callW_fn (d_l2AtN (n := m) (hx := hu) (hy := hv) (h0 := And.intro rfl rfl) ..)) ?_))
      | (refine Exists.intro _ (And.intro (callW_fn (d_l2AtN (n := m) (hx := hu) (hy := hv) (h0 := And.intro rfl rfl) ..)) (And.intro trivial ?_)))
      | (refine Exists.intro _ (And.intro (callW_fn (d_l2AtN (n := m) (hx := hu) (hy := hv) (h0 := And.intro rfl rfl) ..)) ?_))
      | (refine Exists.intro _ (And.intro (fun τ _ => callW_fn (d_l2AtN (n := m) (hx := hu) (hy := hv) (h0 := And.intro rfl rfl) ..)) ?_))
      | (refine d_l2XorN (n := n) (m := prN m u v) (h0 := ?_) ..)
      | (refine Exists.intro _ (And.intro (fun τ => callW_fn (d_l2XorN (n := n) (m := prN m u v) (h0 := And.intro rfl rfl) ..)) ?_))
      | (refine Exists.intro _ (And.intro (callW_fn (d_l2XorN (n := n) (m := prN m u v) (h0 := And.intro rfl rfl) ..)) (And.intro trivial ?_)))
      | (refine Exists.intro _ (And.intro (callW_fn (d_l2XorN (n := n) (m := prN m u v) (h0 := And.intro rfl rfl) ..)) ?_))
      | (refine Exists.intro _ (And.intro (fun τ _ => callW_fn (d_l2XorN (n := n) (m := prN m u v) (h0 := And.intro rfl rfl) ..)) ?_))
      | (refine Exists.intro _ (And.intro rfl (And.intro rfl (And.intro (Nat.le_of_ble_eq_true rfl) ?_))))
      | (refine Exists.intro _ (And.intro rfl (And.intro rfl (And.intro rfl (And.intro (Nat.le_of_ble_eq_true rfl) ?_)))))
      | (refine And.intro (Exists.intro _ (And.intro rfl rfl)) ?_)
      | (exact fun hW => absurd hW (by decide +kernel))
      | (intro hW; (try simp only [Bool.not_true, Bool.not_false, Bool.not_eq_true', Bool.not_eq_false', decide_eq_true_eq, decide_eq_false_iff_not, reduceCtorEq, Bool.true_eq_false, Bool.false_eq_true, mk_size, List.size_toArray, ByteArray.size_append, ByteArray.size_extract, List.length_cons, List.length_nil, ba_get, ba_empty, Int.toNat_natCast] at hW))
      | (refine And.intro (?_ : _ → _) (?_ : _ → _))
      | (refine FinR.drop 0 (Nat.zero_le _) (Closed.zero _) rfl ?_)
      | (refine FinR.keep ?_)
      | (refine And.intro (det3_agg rfl) ?_)
      | (refine fL_mk ?_)
      | (refine And.intro (by (try simp only [mk_size, List.size_toArray, ByteArray.size_append, ByteArray.size_extract, List.length_cons, List.length_nil]); omega) ?_)
      | (refine And.intro (by (try simp only [mk_size, List.size_toArray, ByteArray.size_append, ByteArray.size_extract, List.length_cons, List.length_nil, wrap64_eq]); omega) ?_)
      | fail)
    all_goals exact h0
  · have h0 : K (ShN (n ||| prN m u v)) [] := h0
    repeat' ((conv => whnf); first
      | (refine And.intro rfl ?_)
      | (refine And.intro (by decide +kernel) ?_)
      | (refine And.intro trivial ?_)
      | (refine hld _ ?_)
      | (refine d_l2AtN (n := m) (hx := hu) (hy := hv) (h0 := ?_) ..)
      | (refine Exists.intro _ (And.intro (fun τ => callW_fn (d_l2AtN (n := m) (hx := hu) (hy := hv) (h0 := And.intro rfl rfl) ..)) ?_))
      | (refine Exists.intro _ (And.intro (callW_fn (d_l2AtN (n := m) (hx := hu) (hy := hv) (h0 := And.intro rfl rfl) ..)) (And.intro trivial ?_)))
      | (refine Exists.intro _ (And.intro (callW_fn (d_l2AtN (n := m) (hx := hu) (hy := hv) (h0 := And.intro rfl rfl) ..)) ?_))
      | (refine Exists.intro _ (And.intro (fun τ _ => callW_fn (d_l2AtN (n := m) (hx := hu) (hy := hv) (h0 := And.intro rfl rfl) ..)) ?_))
      | (refine d_l2OrN (n := n) (m := prN m u v) (h0 := ?_) ..)
      | (refine Exists.intro _ (And.intro (fun τ => callW_fn (d_l2OrN (n := n) (m := prN m u v) (h0 := And.intro rfl rfl) ..)) ?_))
      | (refine Exists.intro _ (And.intro (callW_fn (d_l2OrN (n := n) (m := prN m u v) (h0 := And.intro rfl rfl) ..)) (And.intro trivial ?_)))
      | (refine Exists.intro _ (And.intro (callW_fn (d_l2OrN (n := n) (m := prN m u v) (h0 := And.intro rfl rfl) ..)) ?_))
      | (refine Exists.intro _ (And.intro (fun τ _ => callW_fn (d_l2OrN (n := n) (m := prN m u v) (h0 := And.intro rfl rfl) ..)) ?_))
      | (refine Exists.intro _ (And.intro rfl (And.intro rfl (And.intro (Nat.le_of_ble_eq_true rfl) ?_))))
      | (refine Exists.intro _ (And.intro rfl (And.intro rfl (And.intro rfl (And.intro (Nat.le_of_ble_eq_true rfl) ?_)))))
      | (refine And.intro (Exists.intro _ (And.intro rfl rfl)) ?_)
      | (exact fun hW => absurd hW (by decide +kernel))
      | (intro hW; (try simp only [Bool.not_true, Bool.not_false, Bool.not_eq_true', Bool.not_eq_false', decide_eq_true_eq, decide_eq_false_iff_not, reduceCtorEq, Bool.true_eq_false, Bool.false_eq_true, mk_size, List.size_toArray, ByteArray.size_append, ByteArray.size_extract, List.length_cons, List.length_nil, ba_get, ba_empty, Int.toNat_natCast] at hW))
      | (refine And.intro (?_ : _ → _) (?_ : _ → _))
      | (refine FinR.drop 0 (Nat.zero_le _) (Closed.zero _) rfl ?_)
      | (refine FinR.keep ?_)
      | (refine And.intro (det3_agg rfl) ?_)
      | (refine fL_mk ?_)
      | (refine And.intro (by (try simp only [mk_size, List.size_toArray, ByteArray.size_append, ByteArray.size_extract, List.length_cons, List.length_nil]); omega) ?_)
      | (refine And.intro (by (try simp only [mk_size, List.size_toArray, ByteArray.size_append, ByteArray.size_extract, List.length_cons, List.length_nil, wrap64_eq]); omega) ?_)
      | fail)
    all_goals exact h0
  · have h0 : K (ShN (n &&& (fullN ^^^ prN m u v))) [] := h0
    repeat' ((conv => whnf); first
      | (refine And.intro rfl ?_)
      | (refine And.intro (by decide +kernel) ?_)
      | (refine And.intro trivial ?_)
      | (refine hld _ ?_)
      | (refine d_l2AtN (n := m) (hx := hu) (hy := hv) (h0 := ?_) ..)
      | (refine Exists.intro _ (And.intro (fun τ => callW_fn (d_l2AtN (n := m) (hx := hu) (hy := hv) (h0 := And.intro rfl rfl) ..)) ?_))
      | (refine Exists.intro _ (And.intro (callW_fn (d_l2AtN (n := m) (hx := hu) (hy := hv) (h0 := And.intro rfl rfl) ..)) (And.intro trivial ?_)))
      | (refine Exists.intro _ (And.intro (callW_fn (d_l2AtN (n := m) (hx := hu) (hy := hv) (h0 := And.intro rfl rfl) ..)) ?_))
      | (refine Exists.intro _ (And.intro (fun τ _ => callW_fn (d_l2AtN (n := m) (hx := hu) (hy := hv) (h0 := And.intro rfl rfl) ..)) ?_))
      | (refine d_l2NotN (n := prN m u v) (h0 := ?_) ..)
      | (refine Exists.intro _ (And.intro (fun τ => callW_fn (d_l2NotN (n := prN m u v) (h0 := And.intro rfl rfl) ..)) ?_))
      | (refine Exists.intro _ (And.intro (callW_fn (d_l2NotN (n := prN m u v) (h0 := And.intro rfl rfl) ..)) (And.intro trivial ?_)))
      | (refine Exists.intro _ (And.intro (callW_fn (d_l2NotN (n := prN m u v) (h0 := And.intro rfl rfl) ..)) ?_))
      | (refine Exists.intro _ (And.intro (fun τ _ => callW_fn (d_l2NotN (n := prN m u v) (h0 := And.intro rfl rfl) ..)) ?_))
      | (refine d_l2AndM (n := n) (m := fullN ^^^ prN m u v) (h0 := ?_) ..)
      | (refine Exists.intro _ (And.intro (fun τ => callW_fn (d_l2AndM (n := n) (m := fullN ^^^ prN m u v) (h0 := And.intro rfl rfl) ..)) ?_))
      | (refine Exists.intro _ (And.intro (callW_fn (d_l2AndM (n := n) (m := fullN ^^^ prN m u v) (h0 := And.intro rfl rfl) ..)) (And.intro trivial ?_)))
      | (refine Exists.intro _ (And.intro (callW_fn (d_l2AndM (n := n) (m := fullN ^^^ prN m u v) (h0 := And.intro rfl rfl) ..)) ?_))
      | (refine Exists.intro _ (And.intro (fun τ _ => callW_fn (d_l2AndM (n := n) (m := fullN ^^^ prN m u v) (h0 := And.intro rfl rfl) ..)) ?_))
      | (refine Exists.intro _ (And.intro rfl (And.intro rfl (And.intro (Nat.le_of_ble_eq_true rfl) ?_))))
      | (refine Exists.intro _ (And.intro rfl (And.intro rfl (And.intro rfl (And.intro (Nat.le_of_ble_eq_true rfl) ?_)))))
      | (refine And.intro (Exists.intro _ (And.intro rfl rfl)) ?_)
      | (exact fun hW => absurd hW (by decide +kernel))
      | (intro hW; (try simp only [Bool.not_true, Bool.not_false, Bool.not_eq_true', Bool.not_eq_false', decide_eq_true_eq, decide_eq_false_iff_not, reduceCtorEq, Bool.true_eq_false, Bool.false_eq_true, mk_size, List.size_toArray, ByteArray.size_append, ByteArray.size_extract, List.length_cons, List.length_nil, ba_get, ba_empty, Int.toNat_natCast] at hW))
      | (refine And.intro (?_ : _ → _) (?_ : _ → _))
      | (refine FinR.drop 0 (Nat.zero_le _) (Closed.zero _) rfl ?_)
      | (refine FinR.keep ?_)
      | (refine And.intro (det3_agg rfl) ?_)
      | (refine fL_mk ?_)
      | (refine And.intro (by (try simp only [mk_size, List.size_toArray, ByteArray.size_append, ByteArray.size_extract, List.length_cons, List.length_nil]); omega) ?_)
      | (refine And.intro (by (try simp only [mk_size, List.size_toArray, ByteArray.size_append, ByteArray.size_extract, List.length_cons, List.length_nil, wrap64_eq]); omega) ?_)
      | fail)
    all_goals exact h0
theorem lift_PSP {α : Type} {enc : α → List Value} {g : FuncId} {b a c r : AV} {xs : List α} {s : Nat} (hok : callOK Try.prog g = true) (hb : pure3 b = true) (hc : pure3 c = true) (hr : ∀ k, sh3 k r = r) (hs : Sli W0 σ s enc a xs) (h : ∀ (W1 : World) (v : Value), Sli W1 [] s enc (.lit v) xs → ∀ K : Cont, K r [] → ACall Try.prog W1 g [b, .lit v, c] [] K) (K : Cont) (h0 : K r σ) : ACall Try.prog W0 g [b, a, c] σ K := by
  refine ACall.frameA (K0 := fun v σ' => v = r ∧ σ' = []) hok (fun W1 ι vs hh hrr => ?_) ?_
  · obtain ⟨v1, vs', rfl, hr1, hr2⟩ := Rels.uncons hrr
    obtain ⟨v2, vs'', rfl, hr3, hr4⟩ := Rels.uncons hr2
    obtain ⟨v3, vs3, rfl, hr5, hr6⟩ := Rels.uncons hr4
    obtain rfl := hr6.nil_inv
    obtain ⟨a', ha, hs'⟩ := hs.conc hh ⟨v2, hr3⟩
    obtain ⟨u, rfl⟩ := sli_lit hs'
    exact ⟨[b, .lit u, c], Rels.cons (rel3_pure hb hr1) (Rels.cons (ha _ hr3) (Rels.cons (rel3_pure hc hr5) Rels.nil)), h W1 u hs' _ ⟨rfl, rfl⟩⟩
  · rintro v σ' ⟨rfl, rfl⟩
    have e : σ ++ shB σ.length [] = σ := by simp [shB]
    rw [e, hr]; exact h0
theorem d_l11Next (n : Nat) (a : AV) (xs : List (List Int)) (h1 : Sli W0 σ 6 enI a xs) (k s : Int) (m u v : Nat) (hm : xs[s.toNat]? = some (shR m)) (hk : 1 ≤ k ∧ k ≤ 3) (hs : 0 ≤ s ∧ s < xs.length) (hu : u < 6) (hv : v < 6) (K : Cont) (h0 : K (ShN (stepF k.toNat (prN m u v) n)) σ) : ACall Try.prog W0 96 [ShN n, a, Ste k s u v] σ K :=
  lift_PSP (by kernel_rfl) rfl rfl (fun _ => rfl) h1 (fun W1 v1 q K hK => c_l11Next n v1 xs q k s m u v hm hk hs hu hv K hK) K h0
/-- a step of a valid plan by its parts -/
theorem step_parts {xs ys : List (List Int)} (hx : ∀ x ∈ xs, x.length = 6) (hy : ∀ x ∈ ys, x.length = 4) (hxa : xs.all shRow = true) (hya : ys.all (stOk xs.length) = true) {i : Nat} (hi : i < ys.length) :
    ∃ (k s : Int) (m u v : Nat), ys[i]? = some [k, s, (u : Int), (v : Int)] ∧ (1 ≤ k ∧ k ≤ 3) ∧ (0 ≤ s ∧ s < xs.length) ∧ u < 6 ∧ v < 6 ∧ m < 2 ^ 36 ∧ xs[s.toNat]? = some (shR m) ∧ (fsOf xs ys)[i]? = some (k.toNat, prN m u v) := by
  obtain ⟨k, s, x, y, hyi⟩ := row4x hy hi
  have hok := List.all_eq_true.1 hya _ (List.mem_of_getElem? hyi)
  rw [stOk_eq] at hok
  simp only [Bool.and_eq_true] at hok
  obtain ⟨⟨hk, ht⟩, hc⟩ := hok
  have hk3 := (inB_iff _ _ _).1 hk
  have hs3 := (inB_iff _ _ _).1 ht
  obtain ⟨u, v, rfl, rfl, hu, hv⟩ : ∃ u v : Nat, x = u ∧ y = v ∧ u < 6 ∧ v < 6 := by
    have := cellB_iff.1 hc
    exact ⟨x.toNat, y.toNat, by omega, by omega, by omega, by omega⟩
  have hxs := xget (xs := xs) (k := s) (by omega)
  have hmem := List.mem_of_getElem? hxs
  obtain ⟨m, hm, hr, hst⟩ := st_row (hx _ hmem) (List.all_eq_true.1 hxa _ hmem)
  refine ⟨k, s, m, u, v, hyi, hk3, by omega, hu, hv, hm, by rw [hxs, hr], ?_⟩
  rw [fsOf, List.getElem?_map, hyi]
  show some (k.toNat, prN (stN (xs.getD s.toNat [])) u v) = _
  rw [hst]
theorem c_l11At (a b c d e f : Int) (v1 v2 : Value) (xs ys : List (List Int)) (h1 : Sli W0 [] 6 enI (.lit v1) xs) (h2 : Sli W0 [] 4 enI (.lit v2) ys) (hx : ∀ x ∈ xs, x.length = 6) (hy : ∀ x ∈ ys, x.length = 4) (hxa : xs.all shRow = true) (hya : ys.all (stOk xs.length) = true) (hl2 : ys.length ≤ 1048576) (n k : Nat) (hk : k ≤ ys.length) (K : Cont) (h0 : K (ShN (runN ((fsOf xs ys).take k) n)) []) : ACall Try.prog W0 60 [PlA a b c d e f (.lit v1) (.lit v2), ShN n, I k] [] K := by
  refine by60 (Nat.le_of_ble_eq_true rfl) ?_
  obtain ⟨o2, n2, cap2, hv2, hn2, hc2, hm2, hf2⟩ := sli_form h2
  cases hv2
  subst hn2
  repeat' ((conv => whnf); first
    | (refine And.intro rfl ?_)
    | (refine And.intro (by decide +kernel) ?_)
    | (refine And.intro trivial ?_)
    | (refine Exists.intro _ (And.intro rfl (And.intro rfl (And.intro (Nat.le_of_ble_eq_true rfl) ?_))))
    | (refine Exists.intro _ (And.intro rfl (And.intro rfl (And.intro rfl (And.intro (Nat.le_of_ble_eq_true rfl) ?_)))))
    | (refine And.intro (Exists.intro _ (And.intro rfl rfl)) ?_)
    | (exact fun hW => absurd hW (by decide +kernel))
    | (intro hW; (try simp only [Bool.not_true, Bool.not_false, Bool.not_eq_true', Bool.not_eq_false', decide_eq_true_eq, decide_eq_false_iff_not, reduceCtorEq, Bool.true_eq_false, Bool.false_eq_true, mk_size, List.size_toArray, ByteArray.size_append, ByteArray.size_extract, List.length_cons, List.length_nil, ba_get, ba_empty, Int.toNat_natCast] at hW))
    | (refine And.intro (?_ : _ → _) (?_ : _ → _))
    | (refine FinR.drop 0 (Nat.zero_le _) (Closed.zero _) rfl ?_)
    | (refine FinR.keep ?_)
    | (refine And.intro (det3_agg rfl) ?_)
    | (refine fL_mk ?_)
    | (refine And.intro (by (try simp only [mk_size, List.size_toArray, ByteArray.size_append, ByteArray.size_extract, List.length_cons, List.length_nil]); omega) ?_)
    | (refine And.intro (by (try simp only [mk_size, List.size_toArray, ByteArray.size_append, ByteArray.size_extract, List.length_cons, List.length_nil, wrap64_eq]); omega) ?_)
    | fail)
  refine LoopR.live (fun i : Nat => [(2, I k), (3, .ptr 0 0 0), (4, .ptr 1 0 0), (6, .ptr 2 0 0), (7, I i)]) (fun i => [plBx a b c d e f (.lit v1) (.lit (.slice o2 ys.length cap2)) 35, bl (runN ((fsOf xs ys).take i) n), bl 0]) (fun i => i ≤ k) (fun i => k - i) 0 ⟨rfl, rfl, rfl, rfl, rfl, trivial⟩ (.keep rfl) (Nat.zero_le _) ?_
  intro i hi
  by_cases hlt : i < k
  · obtain ⟨k', s, m, u, v, hyi, hk3, hs3, hu, hv, hm, hxs, hfs⟩ := step_parts hx hy hxa hya (show i < ys.length by omega)
    obtain ⟨ad, rfl, hb, hxx⟩ := hf2 _ _ hyi
    have hld := fun C h => ldIn (W0 := W0) (s := 4) (enc := enI) hb hxx hyi rfl (C := C) h
    have hsn : runN ((fsOf xs ys).take (i + 1)) n = stepF k'.toNat (prN m u v) (runN ((fsOf xs ys).take i) n) := by rw [take_snoc hfs, runN_snoc]
    repeat' ((conv => whnf); first
      | (refine And.intro rfl ?_)
      | (refine And.intro (by decide +kernel) ?_)
      | (refine And.intro trivial ?_)
      | (refine hld _ ?_)
      | (refine Exists.intro _ (And.intro (fun τ => callW_fn (d_l11Next (n := runN ((fsOf xs ys).take i) n) (h1 := sli_up h1) (hm := hxs) (hk := hk3) (hs := hs3) (hu := hu) (hv := hv) (h0 := And.intro rfl rfl) ..)) ?_))
      | (refine Exists.intro _ (And.intro rfl (And.intro rfl (And.intro (Nat.le_of_ble_eq_true rfl) ?_))))
      | (refine Exists.intro _ (And.intro rfl (And.intro rfl (And.intro rfl (And.intro (Nat.le_of_ble_eq_true rfl) ?_)))))
      | (refine And.intro (Exists.intro _ (And.intro rfl rfl)) ?_)
      | (exact fun hW => absurd hW (by decide +kernel))
      | (intro hW; (try simp only [Bool.not_true, Bool.not_false, Bool.not_eq_true', Bool.not_eq_false', decide_eq_true_eq, decide_eq_false_iff_not, reduceCtorEq, Bool.true_eq_false, Bool.false_eq_true, mk_size, List.size_toArray, ByteArray.size_append, ByteArray.size_extract, List.length_cons, List.length_nil, ba_get, ba_empty, Int.toNat_natCast] at hW))
      | (refine And.intro (?_ : _ → _) (?_ : _ → _))
      | (refine FinR.drop 0 (Nat.zero_le _) (Closed.zero _) rfl ?_)
      | (refine FinR.keep ?_)
      | (refine And.intro (det3_agg rfl) ?_)
      | (refine fL_mk ?_)
      | (refine And.intro (by (try simp only [mk_size, List.size_toArray, ByteArray.size_append, ByteArray.size_extract, List.length_cons, List.length_nil]); omega) ?_)
      | (refine And.intro (by (try simp only [mk_size, List.size_toArray, ByteArray.size_append, ByteArray.size_extract, List.length_cons, List.length_nil, wrap64_eq]); omega) ?_)
      | fail)
    all_goals first | (exfalso; omega) | skip
    refine Again.go (i + 1) ⟨rfl, rfl, rfl, rfl, slI' (wsucc' i (by omega)), trivial⟩ (.keep ?_) (by omega) (by omega)
    rw [hsn]; rfl
  · obtain rfl : i = k := by omega
    repeat' ((conv => whnf); first
      | (refine And.intro rfl ?_)
      | (refine And.intro (by decide +kernel) ?_)
      | (refine And.intro trivial ?_)
      | (refine Exists.intro _ (And.intro rfl (And.intro rfl (And.intro (Nat.le_of_ble_eq_true rfl) ?_))))
      | (refine Exists.intro _ (And.intro rfl (And.intro rfl (And.intro rfl (And.intro (Nat.le_of_ble_eq_true rfl) ?_)))))
      | (refine And.intro (Exists.intro _ (And.intro rfl rfl)) ?_)
      | (exact fun hW => absurd hW (by decide +kernel))
      | (intro hW; (try simp only [Bool.not_true, Bool.not_false, Bool.not_eq_true', Bool.not_eq_false', decide_eq_true_eq, decide_eq_false_iff_not, reduceCtorEq, Bool.true_eq_false, Bool.false_eq_true, mk_size, List.size_toArray, ByteArray.size_append, ByteArray.size_extract, List.length_cons, List.length_nil, ba_get, ba_empty, Int.toNat_natCast] at hW))
      | (refine And.intro (?_ : _ → _) (?_ : _ → _))
      | (refine FinR.drop 0 (Nat.zero_le _) (Closed.zero _) rfl ?_)
      | (refine FinR.keep ?_)
      | (refine And.intro (det3_agg rfl) ?_)
      | (refine fL_mk ?_)
      | (refine And.intro (by (try simp only [mk_size, List.size_toArray, ByteArray.size_append, ByteArray.size_extract, List.length_cons, List.length_nil]); omega) ?_)
      | (refine And.intro (by (try simp only [mk_size, List.size_toArray, ByteArray.size_append, ByteArray.size_extract, List.length_cons, List.length_nil, wrap64_eq]); omega) ?_)
      | fail)
    all_goals first | (exfalso; omega) | exact h0
theorem d_l11At (a b c d e f : Int) (s1 s2 : AV) (xs ys : List (List Int)) (h1 : Sli W0 σ 6 enI s1 xs) (h2 : Sli W0 σ 4 enI s2 ys) (hx : ∀ x ∈ xs, x.length = 6) (hy : ∀ x ∈ ys, x.length = 4) (hxa : xs.all shRow = true) (hya : ys.all (stOk xs.length) = true) (hl2 : ys.length ≤ 1048576) (n k : Nat) (hk : k ≤ ys.length) (K : Cont) (h0 : K (ShN (runN ((fsOf xs ys).take k) n)) σ) : ACall Try.prog W0 60 [PlA a b c d e f s1 s2, ShN n, I k] σ K :=
  lift_Pl (rest := [ShN n, I k]) (ι := Unit) (fun _ => ShN (runN ((fsOf xs ys).take k) n)) (fun τ => []) (by kernel_rfl) rfl h1 h2 (fun W1 v1 v2 q1 q2 K hK => c_l11At a b c d e f v1 v2 xs ys q1 q2 hx hy hxa hya hl2 n k hk K (hK ())) K (fun _ => by
    rw [show shB σ.length [] = [] from rfl, List.append_nil]; exact h0)
end Go.Proofs.Ytbmilmnfhdkfjaa
end

section
/- Contracts: vain steps, by both sides; plans marked and held. -/
set_option linter.unusedVariables false
set_option linter.unusedSimpArgs false
set_option maxRecDepth 100000
set_option maxHeartbeats 4000000
namespace Go.Proofs.Ytbmilmnfhdkfjaa
open Go Go.RowKit Go.Proofs.Ytbmilmnfhdkfjaa.Abs
variable {W0 : World} {σ : List Blk}
/-! vain steps -/
def vainQ (fs : List (Nat × Nat)) (n i : Nat) : Bool := decide (runN (fs.take (i + 1)) n = runN (fs.take i) n)
abbrev vainL (xs ys : List (List Int)) (n : Nat) : List Int := selN (vainQ (fsOf xs ys) n) ys.length
end Go.Proofs.Ytbmilmnfhdkfjaa
end

section
/- Contracts: the law of vain steps. -/
set_option linter.unusedVariables false
set_option linter.unusedSimpArgs false
set_option maxRecDepth 100000
set_option maxHeartbeats 4000000
namespace Go.Proofs.Ytbmilmnfhdkfjaa
open Go Go.RowKit Go.Proofs.Ytbmilmnfhdkfjaa.Abs
variable {W0 : World} {σ : List Blk}
theorem varC_app {F : List Nat} {R : Prop} {τ : List Blk} : ∀ {σ : List Blk} {k : Nat}, R → varC F σ R k (σ ++ τ)
  | [], _, h => h
  | B :: σ, k, h => by
    show (match memB k F with
      | true => B.ver = B.ver ∧ B.esz = B.esz ∧ B.row = B.row ∧ varC F σ R (k + 1) (σ ++ τ)
      | false => B = B ∧ varC F σ R (k + 1) (σ ++ τ) : Prop)
    cases memB k F with
    | true => exact ⟨rfl, rfl, rfl, varC_app h⟩
    | false => exact ⟨rfl, varC_app h⟩
end Go.Proofs.Ytbmilmnfhdkfjaa
end

section
/- Contracts: plans in new memory. -/
set_option linter.unusedVariables false
set_option linter.unusedSimpArgs false
set_option maxRecDepth 100000
set_option maxHeartbeats 4000000
namespace Go.Proofs.Ytbmilmnfhdkfjaa
open Go Go.RowKit Go.Proofs.Ytbmilmnfhdkfjaa.Abs
variable {W0 : World} {σ : List Blk}
theorem jc_flat (xs : List (List Int)) : ((xs.map enI).flatten).map AV.lit = jc xs := by
  unfold jc
  rw [List.map_flatten, List.map_map]
  congr 1
  refine List.map_congr_left fun x _ => ?_
  simp
theorem flat_at {s : Nat} : ∀ {xs : List (List Int)}, (∀ x ∈ xs, x.length = s) → ∀ {j : Nat} {v : Value}, ((xs.map enI).flatten)[j]? = some v → ∃ i r x, j = i * s + r ∧ xs[i]? = some x ∧ (enI x)[r]? = some v
  | [], _, j, v, h => by simp at h
  | x :: xs, hx, j, v, h => by
    have hl : (enI x).length = s := by rw [List.length_map]; exact hx x List.mem_cons_self
    have h' : (enI x ++ (xs.map enI).flatten)[j]? = some v := h
    rw [List.getElem?_append] at h'
    split at h'
    · exact ⟨0, j, x, by omega, rfl, h'⟩
    · rename_i hj
      obtain ⟨i, r, y, e, hi, hr⟩ := flat_at (s := s) (fun y hy => hx y (List.mem_cons_of_mem _ hy)) h'
      exact ⟨i + 1, r, y, by rw [Nat.add_mul]; omega, hi, hr⟩
theorem flat_len {s : Nat} {xs : List (List Int)} (hx : ∀ x ∈ xs, x.length = s) : ((xs.map enI).flatten).length = xs.length * s := by
  have := jc_len hx
  rw [← jc_flat, List.length_map] at this
  exact this
/-- all rows of a slice that came in, to be appended -/
theorem sli_src {s : Nat} {ad : Addr} {n cap : Nat} {xs : List (List Int)} (h : Sli W0 [] s enI (.lit (.slice (some ad) n cap)) xs) (hx : ∀ x ∈ xs, x.length = s) {C : List Value → Prop} (hc : C ((xs.map enI).flatten)) :
    ∃ cs : List Value, cs.length = n * s ∧ (∀ (j : Nat) (v : Value), cs[j]? = some v → W0.cell? (ad.add j) = some v ∧ v.oneCell' = true) ∧ ad.block < W0.heap.size ∧ C cs := by
  cases h with
  | inn ad n cap xs hn hcc hm hb hxx =>
    refine ⟨_, by rw [flat_len hx, hn], fun j v hj => ?_, hb, hc⟩
    obtain ⟨i, r, x, rfl, hi, hr⟩ := flat_at hx hj
    have := hxx i x hi r v hr
    rw [add_add] at this
    exact this
/-- a slice that is not nil, as the callee sees it -/
theorem sli_concN {s : Nat} {a : AV} {xs : List (List Int)} {ι : Abs.Loc} {W1 : World} {x : Value} (h : Sli W0 σ s enI a xs) (hn : a ≠ nilA) (hh : HRel W0 ι σ W1) (hr : rel3 ι σ a x) :
    ∃ o n c, x = .slice (some o) n c ∧ Sli W1 [] s enI (.lit (.slice (some o) n c)) xs := by
  have hx : ∃ o n c, x = .slice (some o) n c := by
    cases h with
    | nil => exact absurd rfl hn
    | inn ad n cap xs hn hc hm hb hx => exact ⟨ad, n, cap, hr⟩
    | own b ver off n cap B xs hB hv hn hx =>
      obtain ⟨c, t, _, e, _⟩ := slRel_now hr hB hv
      exact ⟨_, _, _, e⟩
  obtain ⟨o, n, c, rfl⟩ := hx
  obtain ⟨a', ha, hs⟩ := h.conc hh ⟨_, hr⟩
  obtain ⟨v, rfl⟩ := sli_lit hs
  have e : (.slice (some o) n c : Value) = v := ha _ hr
  subst e
  exact ⟨o, n, c, rfl, hs⟩
theorem sl_nn {b v o n c : Nat} : AV.sl b v o n c ≠ nilA := by intro h; cases h
theorem lit_nn {o : Addr} {n c : Nat} : AV.lit (.slice (some o) n c) ≠ nilA := by intro h; cases h
theorem plA_concN {a b c d e f : Int} {s1 s2 : AV} {xs ys : List (List Int)} {ι : Abs.Loc} {W1 : World} {x : Value} (h1 : Sli W0 σ 6 enI s1 xs) (h2 : Sli W0 σ 4 enI s2 ys) (n1 : s1 ≠ nilA) (n2 : s2 ≠ nilA) (hh : HRel W0 ι σ W1) (hr : rel3 ι σ (PlA a b c d e f s1 s2) x) :
    ∃ o1 m1 c1 o2 m2 c2, Sli W1 [] 6 enI (.lit (.slice (some o1) m1 c1)) xs ∧ Sli W1 [] 4 enI (.lit (.slice (some o2) m2 c2)) ys ∧ rel3 [] [] (PlA a b c d e f (.lit (.slice (some o1) m1 c1)) (.lit (.slice (some o2) m2 c2))) x := by
  obtain ⟨l, rfl, hl⟩ := (show ∃ l : List Value, x = .agg l.toArray ∧ Rels (crel ι σ) [I a, I b, I c, I d, I e, I f, s1, s2] l from hr)
  obtain ⟨x0, l0, rfl, q0, r0⟩ := Rels.uncons hl
  obtain ⟨x1, l1, rfl, q1, r1⟩ := Rels.uncons r0
  obtain ⟨x2, l2, rfl, q2, r2⟩ := Rels.uncons r1
  obtain ⟨x3, l3, rfl, q3, r3⟩ := Rels.uncons r2
  obtain ⟨x4, l4, rfl, q4, r4⟩ := Rels.uncons r3
  obtain ⟨x5, l5, rfl, q5, r5⟩ := Rels.uncons r4
  obtain ⟨x6, l6, rfl, q6, r6⟩ := Rels.uncons r5
  obtain ⟨x7, l7, rfl, q7, r7⟩ := Rels.uncons r6
  obtain rfl := r7.nil_inv
  obtain ⟨o1, m1, c1, e1, hs1⟩ := sli_concN h1 n1 hh (sli_r31 h1 q6.1)
  obtain ⟨o2, m2, c2, e2, hs2⟩ := sli_concN h2 n2 hh (sli_r31 h2 q7.1)
  subst e1; subst e2
  refine ⟨_, _, _, _, _, _, hs1, hs2, _, rfl, ?_⟩
  exact Rels.cons ⟨q0.1, q0.2⟩ (Rels.cons ⟨q1.1, q1.2⟩ (Rels.cons ⟨q2.1, q2.2⟩ (Rels.cons ⟨q3.1, q3.2⟩ (Rels.cons ⟨q4.1, q4.2⟩ (Rels.cons ⟨q5.1, q5.2⟩ (Rels.cons ⟨rfl, q6.2⟩ (Rels.cons ⟨rfl, q7.2⟩ Rels.nil)))))))
theorem lift_PlN {g : FuncId} {a b c d e f : Int} {s1 s2 : AV} {rest : List AV} {xs ys : List (List Int)} {ι : Type} (r : ι → AV) (β : ι → List Blk) (hok : callOK Try.prog g = true) (hrest : rest.all pure3 = true) (h1 : Sli W0 σ 6 enI s1 xs) (h2 : Sli W0 σ 4 enI s2 ys) (n1 : s1 ≠ nilA) (n2 : s2 ≠ nilA)
    (h : ∀ (W1 : World) (o1 : Addr) (m1 c1 : Nat) (o2 : Addr) (m2 c2 : Nat), Sli W1 [] 6 enI (.lit (.slice (some o1) m1 c1)) xs → Sli W1 [] 4 enI (.lit (.slice (some o2) m2 c2)) ys → ∀ K : Cont, (∀ i, K (r i) (β i)) → ACall Try.prog W1 g (PlA a b c d e f (.lit (.slice (some o1) m1 c1)) (.lit (.slice (some o2) m2 c2)) :: rest) [] K) (K : Cont) (h0 : ∀ i, K (sh3 σ.length (r i)) (σ ++ shB σ.length (β i))) : ACall Try.prog W0 g (PlA a b c d e f s1 s2 :: rest) σ K := by
  refine ACall.frameA (K0 := fun v σ' => ∃ i, v = r i ∧ σ' = β i) hok (fun W1 ι vs hh hrr => ?_) ?_
  · obtain ⟨v1, vs', rfl, hr1, hr2⟩ := Rels.uncons hrr
    obtain ⟨o1, m1, c1, o2, m2, c2, q1, q2, q3⟩ := plA_concN h1 h2 n1 n2 hh hr1
    exact ⟨_ :: rest, Rels.cons q3 (rels_pure hrest hr2), h W1 _ _ _ _ _ _ q1 q2 _ (fun i => ⟨i, rfl, rfl⟩)⟩
  · rintro v σ' ⟨i, rfl, rfl⟩; exact h0 i
theorem lift_PlSN {g : FuncId} {a b c d e f : Int} {s1 s2 s3 : AV} {xs ys zs : List (List Int)} {ι : Type} (r : ι → AV) (β : ι → List Blk) (hok : callOK Try.prog g = true) (h1 : Sli W0 σ 6 enI s1 xs) (h2 : Sli W0 σ 4 enI s2 ys) (h3 : Sli W0 σ 4 enI s3 zs) (n1 : s1 ≠ nilA) (n2 : s2 ≠ nilA) (n3 : s3 ≠ nilA)
    (h : ∀ (W1 : World) (o1 : Addr) (m1 c1 : Nat) (o2 : Addr) (m2 c2 : Nat) (o3 : Addr) (m3 c3 : Nat), Sli W1 [] 6 enI (.lit (.slice (some o1) m1 c1)) xs → Sli W1 [] 4 enI (.lit (.slice (some o2) m2 c2)) ys → Sli W1 [] 4 enI (.lit (.slice (some o3) m3 c3)) zs → ∀ K : Cont, (∀ i, K (r i) (β i)) → ACall Try.prog W1 g [PlA a b c d e f (.lit (.slice (some o1) m1 c1)) (.lit (.slice (some o2) m2 c2)), .lit (.slice (some o3) m3 c3)] [] K) (K : Cont) (h0 : ∀ i, K (sh3 σ.length (r i)) (σ ++ shB σ.length (β i))) : ACall Try.prog W0 g [PlA a b c d e f s1 s2, s3] σ K := by
  refine ACall.frameA (K0 := fun v σ' => ∃ i, v = r i ∧ σ' = β i) hok (fun W1 ι vs hh hrr => ?_) ?_
  · obtain ⟨v1, vs', rfl, hr1, hr2⟩ := Rels.uncons hrr
    obtain ⟨v2, vs'', rfl, hr3, hr4⟩ := Rels.uncons hr2
    obtain rfl := hr4.nil_inv
    obtain ⟨o1, m1, c1, o2, m2, c2, q1, q2, q3⟩ := plA_concN h1 h2 n1 n2 hh hr1
    obtain ⟨o3, m3, c3, rfl, q4⟩ := sli_concN h3 n3 hh hr3
    exact ⟨[_, .lit (.slice (some o3) m3 c3)], Rels.cons q3 (Rels.cons rfl Rels.nil), h W1 _ _ _ _ _ _ _ _ _ q1 q2 q4 _ (fun i => ⟨i, rfl, rfl⟩)⟩
  · rintro v σ' ⟨i, rfl, rfl⟩; exact h0 i
abbrev shK (xs : List (List Int)) (r : Nat) : Blk := ⟨jc xs, r, 31, 6, true, true⟩
abbrev stK (ys : List (List Int)) (r : Nat) : Blk := ⟨jc ys, r, 54, 4, true, true⟩
/-- a plan in new memory -/
structure NewP (xs ys : List (List Int)) where
  τ : List Blk
  b1 : Nat
  r1 : Nat
  c1 : Nat
  b2 : Nat
  r2 : Nat
  c2 : Nat
  h1 : τ[b1]? = some (shK xs r1)
  h2 : τ[b2]? = some (stK ys r2)
theorem newP_sh1 {xs ys : List (List Int)} (x : NewP xs ys) : (σ ++ shB σ.length x.τ)[σ.length + x.b1]? = some (shK xs x.r1) := by
  rw [get_sh x.h1]
  show some (⟨(jc xs).map (sh1 σ.length), _, _, _, _, _⟩ : Blk) = _
  rw [jc_sh]
theorem newP_sh2 {xs ys : List (List Int)} (x : NewP xs ys) : (σ ++ shB σ.length x.τ)[σ.length + x.b2]? = some (stK ys x.r2) := by
  rw [get_sh x.h2]
  show some (⟨(jc ys).map (sh1 σ.length), _, _, _, _, _⟩ : Blk) = _
  rw [jc_sh]
theorem newP_raw {a b c d e f : Int} {xs ys : List (List Int)} {K : Cont} (h0 : ∀ x : NewP xs ys, K (PlA a b c d e f (.sl x.b1 x.r1 0 xs.length x.c1) (.sl x.b2 x.r2 0 ys.length x.c2)) x.τ) (τ : List Blk) (b1 r1 c1 b2 r2 c2 n1 n2 : Nat) (C1 C2 : List AV) (e1 : n1 = xs.length) (e2 : n2 = ys.length) (h1 : τ[b1]? = some ⟨C1, r1, 31, 6, true, true⟩) (j1 : C1 = jc xs) (h2 : τ[b2]? = some ⟨C2, r2, 54, 4, true, true⟩) (j2 : C2 = jc ys) : K (PlA a b c d e f (.sl b1 r1 0 n1 c1) (.sl b2 r2 0 n2 c2)) τ := by
  subst e1; subst e2; subst j1; subst j2
  exact h0 ⟨τ, b1, r1, c1, b2, r2, c2, h1, h2⟩
abbrev plN (a b c d e f : Int) {xs ys : List (List Int)} (x : NewP xs ys) : AV := PlA a b c d e f (.sl x.b1 x.r1 0 xs.length x.c1) (.sl x.b2 x.r2 0 ys.length x.c2)
theorem c_l11Own (a b c d e f : Int) (o1 : Addr) (m1 c1 : Nat) (o2 : Addr) (m2 c2 : Nat) (o3 : Addr) (m3 c3 : Nat) (xs ys zs : List (List Int)) (h1 : Sli W0 [] 6 enI (.lit (.slice (some o1) m1 c1)) xs) (h2 : Sli W0 [] 4 enI (.lit (.slice (some o2) m2 c2)) ys) (h3 : Sli W0 [] 4 enI (.lit (.slice (some o3) m3 c3)) zs) (hx : ∀ x ∈ xs, x.length = 6) (hz : ∀ x ∈ zs, x.length = 4) (hl : xs.length ≤ 2097152) (hl2 : zs.length ≤ 2097152) (K : Cont) (h0 : ∀ x : NewP xs zs, K (plN a b c d e f x) x.τ) : ACall Try.prog W0 66 [PlA a b c d e f (.lit (.slice (some o1) m1 c1)) (.lit (.slice (some o2) m2 c2)), .lit (.slice (some o3) m3 c3)] [] K := by
  refine by66 (Nat.le_of_ble_eq_true rfl) ?_
  have hn1 : m1 = xs.length := by cases h1 with | inn ad n cap xs hn hc hm hb hxx => exact hn
  have hn3 : m3 = zs.length := by cases h3 with | inn ad n cap xs hn hc hm hb hxx => exact hn
  subst hn1; subst hn3
  have hj1 : (((xs.map enI).flatten).map AV.lit).length = xs.length * 6 := by rw [jc_flat]; exact jc_len hx
  have hj3 : (((zs.map enI).flatten).map AV.lit).length = zs.length * 4 := by rw [jc_flat]; exact jc_len hz
  repeat' ((conv => whnf); first
    | (refine And.intro rfl ?_)
    | (refine And.intro (by decide +kernel) ?_)
    | (refine And.intro trivial ?_)
    | (refine sli_src h1 hx ?_)
    | (refine sli_src h3 hz ?_)
    | (refine Exists.intro _ (And.intro rfl (And.intro rfl (And.intro rfl (And.intro rfl (And.intro rfl (And.intro rfl (And.intro (by decide) (And.intro rfl (And.intro hj1 (And.intro (by unfold maxLen; omega) (And.intro (by omega) (fun cap' hcap1 hcap2 => ?_)))))))))))))
    | (refine Exists.intro _ (And.intro rfl (And.intro rfl (And.intro rfl (And.intro rfl (And.intro rfl (And.intro rfl (And.intro (by decide) (And.intro rfl (And.intro hj3 (And.intro (by unfold maxLen; omega) (And.intro (by omega) (fun cap' hcap1 hcap2 => ?_)))))))))))))
    | (first | (refine And.intro (Exists.intro _ (And.intro rfl rfl)) ?_) | (refine And.intro (?_ : _ → _) (?_ : _ → _)) | (refine And.intro (det3_agg rfl) ?_) | (refine And.intro (by (try simp only [List.length_cons, List.length_nil]); omega) ?_) | (refine And.intro ?_ ?_))
    | (refine Exists.intro _ (And.intro rfl (And.intro rfl (And.intro (Nat.le_of_ble_eq_true rfl) ?_))))
    | (refine Exists.intro _ (And.intro rfl (And.intro rfl (And.intro rfl (And.intro (Nat.le_of_ble_eq_true rfl) ?_)))))
    | (refine And.intro (Exists.intro _ (And.intro rfl rfl)) ?_)
    | (exact fun hW => absurd hW (by decide +kernel))
    | (intro hW; (try simp only [Bool.not_true, Bool.not_false, Bool.not_eq_true', Bool.not_eq_false', decide_eq_true_eq, decide_eq_false_iff_not, reduceCtorEq, Bool.true_eq_false, Bool.false_eq_true, mk_size, List.size_toArray, ByteArray.size_append, ByteArray.size_extract, List.length_cons, List.length_nil, ba_get, ba_empty, Int.toNat_natCast] at hW))
    | (refine And.intro (?_ : _ → _) (?_ : _ → _))
    | (refine FinR.drop 0 (Nat.zero_le _) (Closed.zero _) rfl ?_)
    | (refine FinR.keep ?_)
    | (refine And.intro (det3_agg rfl) ?_)
    | (refine fL_mk ?_)
    | (refine And.intro (by (try simp only [mk_size, List.size_toArray, ByteArray.size_append, ByteArray.size_extract, List.length_cons, List.length_nil]); omega) ?_)
    | (refine And.intro (by (try simp only [mk_size, List.size_toArray, ByteArray.size_append, ByteArray.size_extract, List.length_cons, List.length_nil, wrap64_eq]); omega) ?_)
    | fail)
  all_goals exact newP_raw h0 _ _ _ _ _ _ _ _ _ _ _ (Nat.zero_add _) (Nat.zero_add _) rfl (jc_flat xs) rfl (jc_flat zs)
theorem d_l11Own (a b c d e f : Int) (s1 s2 s3 : AV) (xs ys zs : List (List Int)) (h1 : Sli W0 σ 6 enI s1 xs) (h2 : Sli W0 σ 4 enI s2 ys) (h3 : Sli W0 σ 4 enI s3 zs) (n1 : s1 ≠ nilA) (n2 : s2 ≠ nilA) (n3 : s3 ≠ nilA) (hx : ∀ x ∈ xs, x.length = 6) (hz : ∀ x ∈ zs, x.length = 4) (hl : xs.length ≤ 2097152) (hl2 : zs.length ≤ 2097152) (K : Cont)
    (h0 : ∀ S b1 r1 c1 b2 r2 c2, S[b1]? = some (shK xs r1) → S[b2]? = some (stK zs r2) → σ.length ≤ b1 → σ.length ≤ b2 → (∀ (j : Nat) (B : Blk), σ[j]? = some B → S[j]? = some B) → K (PlA a b c d e f (.sl b1 r1 0 xs.length c1) (.sl b2 r2 0 zs.length c2)) S) : ACall Try.prog W0 66 [PlA a b c d e f s1 s2, s3] σ K :=
  lift_PlSN (ι := NewP xs zs) (fun x => plN a b c d e f x) (fun x => x.τ) (by kernel_rfl) h1 h2 h3 n1 n2 n3 (fun W1 o1 m1 c1 o2 m2 c2 o3 m3 c3 q1 q2 q3 K hK => c_l11Own a b c d e f o1 m1 c1 o2 m2 c2 o3 m3 c3 xs ys zs q1 q2 q3 hx hz hl hl2 K hK) K (fun x => h0 _ _ _ _ _ _ _ (newP_sh1 x) (newP_sh2 x) (Nat.le_add_right _ _) (Nat.le_add_right _ _) (fun j B hj => getx1 hj))
end Go.Proofs.Ytbmilmnfhdkfjaa
end

section
/- Contracts: steps undone, by both sides. -/
set_option linter.unusedVariables false
set_option linter.unusedSimpArgs false
set_option maxRecDepth 100000
set_option maxHeartbeats 4000000
namespace Go.Proofs.Ytbmilmnfhdkfjaa
open Go Go.RowKit Go.Proofs.Ytbmilmnfhdkfjaa.Abs
variable {W0 : World} {σ : List Blk}
abbrev plZ : AV := PlA 0 0 0 0 0 0 nilA nilA
end Go.Proofs.Ytbmilmnfhdkfjaa
end

section
/- Contracts: plans of the laws with the state as a variable; plans without slices. -/
set_option linter.unusedVariables false
set_option linter.unusedSimpArgs false
set_option maxRecDepth 100000
set_option maxHeartbeats 4000000
namespace Go.Proofs.Ytbmilmnfhdkfjaa
open Go Go.RowKit Go.Proofs.Ytbmilmnfhdkfjaa.Abs
variable {W0 : World} {σ : List Blk}
theorem ne_of_64 {b1 b2 r1 r2 : Nat} {xs ys : List (List Int)} (h1 : σ[b1]? = some (shK xs r1)) (h2 : σ[b2]? = some (stK ys r2)) : b1 ≠ b2 := by
  rintro rfl
  rw [h1] at h2
  injection h2 with h
  injection h with _ _ _ h
  cases h
end Go.Proofs.Ytbmilmnfhdkfjaa
end

section
/- Contracts: the ends and the effects of a plan by sets. -/
set_option linter.unusedVariables false
set_option linter.unusedSimpArgs false
set_option maxRecDepth 100000
set_option maxHeartbeats 4000000
namespace Go.Proofs.Ytbmilmnfhdkfjaa
open Go Go.RowKit Go.Proofs.Ytbmilmnfhdkfjaa.Abs
variable {W0 : World} {σ : List Blk}
theorem set3 {σ : List Blk} {A B C A' : Blk} : (σ ++ [A] ++ [B] ++ [C]).set σ.length A' = σ ++ [A'] ++ [B] ++ [C] := by simp
theorem d_end (p n x : Nat) (fs : List (Nat × Nat)) (hp : PlanSt σ p n fs) (hf : FsOk fs) (hl : fs.length ≤ 1048576) (hx : x < 2 ^ 36) (K : Cont) (h0 : K (U (runN fs x : Nat)) (σ ++ [ruB (runL fs x)])) : ACall Try.prog W0 99 [.ptr p 0 0, U x] σ K := by
  refine by99 (Nat.le_of_ble_eq_true rfl) ?_
  have hver : (ruB (runL fs x)).ver = fs.length := by show (runL fs x).length - 1 = _; rw [runL_len]; rfl
  have hle : ∀ off, off ≤ fs.length → off + 1 ≤ (ruB (runL fs x)).cells.length := fun off ho => by show _ ≤ (List.map _ _).length; rw [List.length_map, runL_len]; omega
  have hget : ∀ off, off = fs.length → mkAV false (((ruB (runL fs x)).cells.drop off).take 1) = U (runN fs x : Nat) := fun off ho => by
    have := runL_get fs x (Nat.le_refl _)
    rw [List.take_length] at this
    exact stB_get this ho
  obtain ⟨s, h1, hs⟩ := hp.ex
  cases hs with
  | nil =>
    repeat' ((conv => whnf); first
      | (refine Exists.intro _ (And.intro getl (And.intro hver (And.intro (hle _ (by simp)) ?_))); rw [hget _ (by simp)])
      | (refine And.intro rfl ?_)
      | (refine And.intro (by decide +kernel) ?_)
      | (refine And.intro trivial ?_)
      | (refine fS_mk ?_)
      | (refine And.intro ⟨_, h1, rfl⟩ ?_)
      | (refine And.intro rfl (Exists.intro _ (And.intro h1 (And.intro rfl (And.intro (Nat.le_of_ble_eq_true rfl) ?_)))))
      | (refine Exists.intro _ (And.intro h1 (And.intro rfl (And.intro (Nat.le_of_ble_eq_true rfl) ?_))))
      | (refine d_run (hp := hp) (hf := hf) (hl := hl) (hx := hx) (h0 := fun cap => varC_app ?_) ..)
      | (refine And.intro ⟨_, getl, hver⟩ ?_)
      | (refine Exists.intro _ (And.intro rfl (And.intro rfl (And.intro (Nat.le_of_ble_eq_true rfl) ?_))))
      | (refine Exists.intro _ (And.intro rfl (And.intro rfl (And.intro rfl (And.intro (Nat.le_of_ble_eq_true rfl) ?_)))))
      | (refine And.intro (Exists.intro _ (And.intro rfl rfl)) ?_)
      | (exact fun hW => absurd hW (by decide +kernel))
      | (intro hW; (try simp only [Bool.not_true, Bool.not_false, Bool.not_eq_true', Bool.not_eq_false', decide_eq_true_eq, decide_eq_false_iff_not, reduceCtorEq, Bool.true_eq_false, Bool.false_eq_true, mk_size, List.size_toArray, ByteArray.size_append, ByteArray.size_extract, List.length_cons, List.length_nil, ba_get, ba_empty, Int.toNat_natCast] at hW))
      | (refine And.intro (?_ : _ → _) (?_ : _ → _))
      | (refine FinR.drop 0 (Nat.zero_le _) (Closed.zero _) rfl ?_)
      | (refine FinR.keep ?_)
      | (refine And.intro (det3_agg rfl) ?_)
      | (refine fL_mk ?_)
      | (refine And.intro (by (try simp only [mk_size, List.size_toArray, ByteArray.size_append, ByteArray.size_extract, List.length_cons, List.length_nil]); omega) ?_)
      | (refine And.intro (by (try simp only [mk_size, List.size_toArray, ByteArray.size_append, ByteArray.size_extract, List.length_cons, List.length_nil, wrap64_eq]); omega) ?_)
      | fail)
    all_goals first | exact h0 | exact FinR.keep h0 | (exfalso; omega) | skip
  | own r ver cap cs fs hr hlc hc =>
    repeat' ((conv => whnf); first
      | (refine Exists.intro _ (And.intro getl (And.intro hver (And.intro (hle _ (by rw [Int.toNat_natCast]; omega)) ?_))); rw [hget _ (by rw [Int.toNat_natCast]; omega)])
      | (refine And.intro rfl ?_)
      | (refine And.intro (by decide +kernel) ?_)
      | (refine And.intro trivial ?_)
      | (refine fS_mk ?_)
      | (refine And.intro ⟨_, h1, rfl⟩ ?_)
      | (refine And.intro rfl (Exists.intro _ (And.intro h1 (And.intro rfl (And.intro (Nat.le_of_ble_eq_true rfl) ?_)))))
      | (refine Exists.intro _ (And.intro h1 (And.intro rfl (And.intro (Nat.le_of_ble_eq_true rfl) ?_))))
      | (refine And.intro ⟨_, hr, rfl⟩ ?_)
      | (refine d_run (hp := hp) (hf := hf) (hl := hl) (hx := hx) (h0 := fun cap => varC_app ?_) ..)
      | (refine And.intro ⟨_, getl, hver⟩ ?_)
      | (refine Exists.intro _ (And.intro rfl (And.intro rfl (And.intro (Nat.le_of_ble_eq_true rfl) ?_))))
      | (refine Exists.intro _ (And.intro rfl (And.intro rfl (And.intro rfl (And.intro (Nat.le_of_ble_eq_true rfl) ?_)))))
      | (refine And.intro (Exists.intro _ (And.intro rfl rfl)) ?_)
      | (exact fun hW => absurd hW (by decide +kernel))
      | (intro hW; (try simp only [Bool.not_true, Bool.not_false, Bool.not_eq_true', Bool.not_eq_false', decide_eq_true_eq, decide_eq_false_iff_not, reduceCtorEq, Bool.true_eq_false, Bool.false_eq_true, mk_size, List.size_toArray, ByteArray.size_append, ByteArray.size_extract, List.length_cons, List.length_nil, ba_get, ba_empty, Int.toNat_natCast] at hW))
      | (refine And.intro (?_ : _ → _) (?_ : _ → _))
      | (refine FinR.drop 0 (Nat.zero_le _) (Closed.zero _) rfl ?_)
      | (refine FinR.keep ?_)
      | (refine And.intro (det3_agg rfl) ?_)
      | (refine fL_mk ?_)
      | (refine And.intro (by (try simp only [mk_size, List.size_toArray, ByteArray.size_append, ByteArray.size_extract, List.length_cons, List.length_nil]); omega) ?_)
      | (refine And.intro (by (try simp only [mk_size, List.size_toArray, ByteArray.size_append, ByteArray.size_extract, List.length_cons, List.length_nil, wrap64_eq]); omega) ?_)
      | fail)
    all_goals first | exact h0 | exact FinR.keep h0 | (exfalso; omega) | skip
theorem d_effects (p n : Nat) (fs : List (Nat × Nat)) (hp : PlanSt σ p n fs) (hf : FsOk fs) (hl : fs.length ≤ 1048576) (K : Cont) (h0 : ∀ A B C, K (.agg [U (runN fs 0 : Nat), U (runN fs fullN : Nat)]) (σ ++ [A] ++ [B] ++ [C])) : ACall Try.prog W0 65 [.ptr p 0 0] σ K := by
  refine by65 (Nat.le_of_ble_eq_true rfl) ?_
  repeat' ((conv => whnf); first
    | (refine And.intro rfl ?_)
    | (refine And.intro (by decide +kernel) ?_)
    | (refine And.intro trivial ?_)
    | (refine fS_mk ?_)
    | (refine d_end (x := fullN) (hp := (hp.add).add) (hf := hf) (hl := hl) (hx := by decide) (h0 := ?_) ..)
    | (refine d_end (x := 0) (hp := hp.add) (hf := hf) (hl := hl) (hx := by decide) (h0 := ?_) ..)
    | (refine Exists.intro _ (And.intro (getx1 (getx1 getl)) (And.intro rfl (And.intro rfl (And.intro (Nat.le_of_ble_eq_true rfl) ?_)))); rw [set3])
    | (refine Exists.intro _ (And.intro (getx1 (getx1 getl)) (And.intro rfl (And.intro (Nat.le_of_ble_eq_true rfl) ?_))))
    | (refine Exists.intro _ (And.intro rfl (And.intro rfl (And.intro (Nat.le_of_ble_eq_true rfl) ?_))))
    | (refine Exists.intro _ (And.intro rfl (And.intro rfl (And.intro rfl (And.intro (Nat.le_of_ble_eq_true rfl) ?_)))))
    | (refine And.intro (Exists.intro _ (And.intro rfl rfl)) ?_)
    | (exact fun hW => absurd hW (by decide +kernel))
    | (intro hW; (try simp only [Bool.not_true, Bool.not_false, Bool.not_eq_true', Bool.not_eq_false', decide_eq_true_eq, decide_eq_false_iff_not, reduceCtorEq, Bool.true_eq_false, Bool.false_eq_true, mk_size, List.size_toArray, ByteArray.size_append, ByteArray.size_extract, List.length_cons, List.length_nil, ba_get, ba_empty, Int.toNat_natCast] at hW))
    | (refine And.intro (?_ : _ → _) (?_ : _ → _))
    | (refine FinR.drop 0 (Nat.zero_le _) (Closed.zero _) rfl ?_)
    | (refine FinR.keep ?_)
    | (refine And.intro (det3_agg rfl) ?_)
    | (refine fL_mk ?_)
    | (refine And.intro (by (try simp only [mk_size, List.size_toArray, ByteArray.size_append, ByteArray.size_extract, List.length_cons, List.length_nil]); omega) ?_)
    | (refine And.intro (by (try simp only [mk_size, List.size_toArray, ByteArray.size_append, ByteArray.size_extract, List.length_cons, List.length_nil, wrap64_eq]); omega) ?_)
    | fail)
  all_goals first | exact h0 _ _ _ | exact FinR.keep (h0 _ _ _) | (exfalso; omega) | skip
end Go.Proofs.Ytbmilmnfhdkfjaa
end

section
/- Contracts: effects of a plan by the reference. -/
set_option linter.unusedVariables false
set_option linter.unusedSimpArgs false
set_option maxRecDepth 100000
set_option maxHeartbeats 4000000
namespace Go.Proofs.Ytbmilmnfhdkfjaa
open Go Go.RowKit Go.Proofs.Ytbmilmnfhdkfjaa.Abs
variable {W0 : World} {σ : List Blk}
/-- what becomes of a cell: by the ends of the empty and of the full sheet -/
def efv (w b k : Nat) : Int := if w.testBit k then (if b.testBit k then 2 else 1) else if b.testBit k then 0 else 3
def effN (w b k : Nat) : List Int := (List.range k).map (efv w b) ++ List.replicate (36 - k) 0
theorem effN_len (w b : Nat) {k : Nat} (h : k ≤ 36) : (effN w b k).length = 36 := by simp [effN]; omega
theorem effN_set (w b : Nat) {k : Nat} (h : k < 36) : (effN w b k).set k (efv w b k) = effN w b (k + 1) := by
  have e : 36 - k = (36 - (k + 1)) + 1 := by omega
  have hl : ((List.range k).map (efv w b)).length = k := by simp
  rw [effN, e, List.replicate_succ, List.set_append_right _ _ (by omega), hl, Nat.sub_self, List.set_cons_zero, effN, List.range_succ, List.map_append, List.append_assoc]; rfl
theorem effN_keep (w b : Nat) {k : Nat} (h : k < 36) (h0 : efv w b k = 0) : effN w b (k + 1) = effN w b k := by
  have e : 36 - k = (36 - (k + 1)) + 1 := by omega
  rw [effN, effN, e, List.replicate_succ, List.range_succ, List.map_append, List.append_assoc, List.map_cons, List.map_nil, h0]; rfl
abbrev efL (xs ys : List (List Int)) : List Int := effN (runN (fsOf xs ys) 0) (runN (fsOf xs ys) fullN) 36
theorem c_l11Effects (a b c d e f : Int) (v1 v2 : Value) (xs ys : List (List Int)) (h1 : Sli W0 [] 6 enI (.lit v1) xs) (h2 : Sli W0 [] 4 enI (.lit v2) ys) (hx : ∀ x ∈ xs, x.length = 6) (hy : ∀ x ∈ ys, x.length = 4) (hxa : xs.all shRow = true) (hya : ys.all (stOk xs.length) = true) (hl2 : ys.length ≤ 1048576) (K : Cont) (h0 : K (Pi (efL xs ys)) []) : ACall Try.prog W0 64 [PlA a b c d e f (.lit v1) (.lit v2)] [] K := by
  refine by64 (Nat.le_of_ble_eq_true rfl) ?_
  obtain ⟨o2, n2, cap2, hv2, hn2, hc2, hm2, hf2⟩ := sli_form h2
  cases hv2
  subst hn2
  have hff : fullN ^^^ 0 = fullN := by decide
  have htk : (fsOf xs ys).take ys.length = fsOf xs ys := by rw [← fsOf_len xs ys, List.take_length]
  repeat' ((conv => whnf); first
    | (refine And.intro rfl ?_)
    | (refine And.intro (by decide +kernel) ?_)
    | (refine And.intro trivial ?_)
    | (refine d_l11At (n := 0) (k := ys.length) (h1 := sli_up h1) (h2 := sli_up h2) (hx := hx) (hy := hy) (hxa := hxa) (hya := hya) (hl2 := hl2) (hk := Nat.le_refl _) (h0 := ?_) ..; rw [htk])
    | (refine Exists.intro _ (And.intro (fun τ => callW_fn (d_l2NotN (n := 0) (h0 := And.intro rfl rfl) ..)) ?_))
    | (refine Exists.intro _ (And.intro (fun τ => callW_fn (d_l11At (n := fullN) (k := ys.length) (h1 := sli_up h1) (h2 := sli_up h2) (hx := hx) (hy := hy) (hxa := hxa) (hya := hya) (hl2 := hl2) (hk := Nat.le_refl _) (h0 := And.intro rfl rfl) ..)) ?_); rw [htk])
    | (refine Exists.intro _ (And.intro rfl (And.intro rfl (And.intro (Nat.le_of_ble_eq_true rfl) ?_))))
    | (refine Exists.intro _ (And.intro rfl (And.intro rfl (And.intro rfl (And.intro (Nat.le_of_ble_eq_true rfl) ?_)))))
    | (refine And.intro (Exists.intro _ (And.intro rfl rfl)) ?_)
    | (exact fun hW => absurd hW (by decide +kernel))
    | (intro hW; (try simp only [Bool.not_true, Bool.not_false, Bool.not_eq_true', Bool.not_eq_false', decide_eq_true_eq, decide_eq_false_iff_not, reduceCtorEq, Bool.true_eq_false, Bool.false_eq_true, mk_size, List.size_toArray, ByteArray.size_append, ByteArray.size_extract, List.length_cons, List.length_nil, ba_get, ba_empty, Int.toNat_natCast] at hW))
    | (refine And.intro (?_ : _ → _) (?_ : _ → _))
    | (refine FinR.drop 0 (Nat.zero_le _) (Closed.zero _) rfl ?_)
    | (refine FinR.keep ?_)
    | (refine And.intro (det3_agg rfl) ?_)
    | (refine fL_mk ?_)
    | (refine And.intro (by (try simp only [mk_size, List.size_toArray, ByteArray.size_append, ByteArray.size_extract, List.length_cons, List.length_nil]); omega) ?_)
    | (refine And.intro (by (try simp only [mk_size, List.size_toArray, ByteArray.size_append, ByteArray.size_extract, List.length_cons, List.length_nil, wrap64_eq]); omega) ?_)
    | fail)
  have h0 : K (Pi (effN (runN (fsOf xs ys) 0) (runN (fsOf xs ys) fullN) 36)) [] := h0
  generalize runN (fsOf xs ys) 0 = w at h0 ⊢
  generalize runN (fsOf xs ys) fullN = bb at h0 ⊢
  refine LoopR.live (fun y : Nat => [(2, .ptr 1 0 0), (3, .ptr 2 0 0), (4, .ptr 3 0 0), (5, .ptr 4 0 0), (6, I y)]) (fun y => [plBx a b c d e f (.lit v1) (.lit (.slice o2 ys.length cap2)) 35, bQ z36 58, bQ (effN w bb (6 * y)) 58, bl w, bl bb]) (fun y => y ≤ 6) (fun y => 6 - y) 0 ⟨rfl, rfl, rfl, rfl, rfl, trivial⟩ (.keep rfl) (Nat.zero_le _) ?_
  intro y hy
  by_cases hlt : y < 6
  · skip
    repeat' ((conv => whnf); first
      | (refine And.intro rfl ?_)
      | (refine And.intro (by decide +kernel) ?_)
      | (refine And.intro trivial ?_)
      | (refine Exists.intro _ (And.intro rfl (And.intro rfl (And.intro (Nat.le_of_ble_eq_true rfl) ?_))))
      | (refine Exists.intro _ (And.intro rfl (And.intro rfl (And.intro rfl (And.intro (Nat.le_of_ble_eq_true rfl) ?_)))))
      | (refine And.intro (Exists.intro _ (And.intro rfl rfl)) ?_)
      | (exact fun hW => absurd hW (by decide +kernel))
      | (intro hW; (try simp only [Bool.not_true, Bool.not_false, Bool.not_eq_true', Bool.not_eq_false', decide_eq_true_eq, decide_eq_false_iff_not, reduceCtorEq, Bool.true_eq_false, Bool.false_eq_true, mk_size, List.size_toArray, ByteArray.size_append, ByteArray.size_extract, List.length_cons, List.length_nil, ba_get, ba_empty, Int.toNat_natCast] at hW))
      | (refine And.intro (?_ : _ → _) (?_ : _ → _))
      | (refine FinR.drop 0 (Nat.zero_le _) (Closed.zero _) rfl ?_)
      | (refine FinR.keep ?_)
      | (refine And.intro (det3_agg rfl) ?_)
      | (refine fL_mk ?_)
      | (refine And.intro (by (try simp only [mk_size, List.size_toArray, ByteArray.size_append, ByteArray.size_extract, List.length_cons, List.length_nil]); omega) ?_)
      | (refine And.intro (by (try simp only [mk_size, List.size_toArray, ByteArray.size_append, ByteArray.size_extract, List.length_cons, List.length_nil, wrap64_eq]); omega) ?_)
      | fail)
    all_goals first | (exfalso; omega) | skip
    refine LoopR.live (fun x : Nat => [(2, .ptr 1 0 0), (3, .ptr 2 0 0), (4, .ptr 3 0 0), (5, .ptr 4 0 0), (6, I y), (7, I x)]) (fun x => [plBx a b c d e f (.lit v1) (.lit (.slice o2 ys.length cap2)) 35, bQ z36 58, bQ (effN w bb (6 * y + x)) 58, bl w, bl bb]) (fun x => x ≤ 6) (fun x => 6 - x) 0 ⟨rfl, rfl, rfl, rfl, rfl, rfl, trivial⟩ (.keep rfl) (Nat.zero_le _) ?_
    intro x hx
    by_cases hlt2 : x < 6
    · have hk : 6 * y + x < 36 := by omega
      have hml : (effN w bb (6 * y + x)).length = 36 := effN_len w bb (by omega)
      have hle : ∀ off, off = 6 * y + x → off + 1 ≤ ((effN w bb (6 * y + x)).map I).length := fun off ho => cell_le (by omega)
      have hoff : 0 + 0 + ((y : Nat) : Int).toNat * 6 + ((x : Nat) : Int).toNat * 1 = 6 * y + x := by simp only [Int.toNat_natCast]; omega
      have hst : ∀ v : Int, ((effN w bb (6 * y + x)).map I).take (0 + 0 + ((y : Nat) : Int).toNat * 6 + ((x : Nat) : Int).toNat * 1) ++ [I v] ++ ((effN w bb (6 * y + x)).map I).drop (0 + 0 + ((y : Nat) : Int).toNat * 6 + ((x : Nat) : Int).toNat * 1 + 1) = ((effN w bb (6 * y + x)).set (6 * y + x) v).map I := fun v => by
        rw [hoff]; exact cell_st v (by omega)
      repeat' ((conv => whnf); first
        | (refine Exists.intro (bQ (effN w bb (6 * y + x)) 58) (And.intro rfl (And.intro rfl (And.intro rfl (And.intro (hle _ hoff) ?_)))))
        | (refine And.intro rfl ?_)
        | (refine And.intro (by decide +kernel) ?_)
        | (refine And.intro trivial ?_)
        | (refine d_l2GetN (hx := hlt2) (hy := hlt) (h0 := ?_) ..)
        | (refine Exists.intro _ (And.intro (fun τ => callW_fn (d_l2GetN (hx := hlt2) (hy := hlt) (h0 := And.intro rfl rfl) ..)) ?_))
        | (refine Exists.intro _ (And.intro (callW_fn (d_l2GetN (hx := hlt2) (hy := hlt) (h0 := And.intro rfl rfl) ..)) (And.intro trivial ?_)))
        | (refine Exists.intro _ (And.intro (callW_fn (d_l2GetN (hx := hlt2) (hy := hlt) (h0 := And.intro rfl rfl) ..)) ?_))
        | (refine Exists.intro _ (And.intro (fun τ _ => callW_fn (d_l2GetN (hx := hlt2) (hy := hlt) (h0 := And.intro rfl rfl) ..)) ?_))
        | (refine Exists.intro _ (And.intro rfl (And.intro rfl (And.intro (Nat.le_of_ble_eq_true rfl) ?_))))
        | (refine Exists.intro _ (And.intro rfl (And.intro rfl (And.intro rfl (And.intro (Nat.le_of_ble_eq_true rfl) ?_)))))
        | (refine And.intro (Exists.intro _ (And.intro rfl rfl)) ?_)
        | (exact fun hW => absurd hW (by decide +kernel))
        | (intro hW; (try simp only [Bool.not_true, Bool.not_false, Bool.not_eq_true', Bool.not_eq_false', decide_eq_true_eq, decide_eq_false_iff_not, reduceCtorEq, Bool.true_eq_false, Bool.false_eq_true, mk_size, List.size_toArray, ByteArray.size_append, ByteArray.size_extract, List.length_cons, List.length_nil, ba_get, ba_empty, Int.toNat_natCast] at hW))
        | (refine And.intro (?_ : _ → _) (?_ : _ → _))
        | (refine FinR.drop 0 (Nat.zero_le _) (Closed.zero _) rfl ?_)
        | (refine FinR.keep ?_)
        | (refine And.intro (det3_agg rfl) ?_)
        | (refine fL_mk ?_)
        | (refine And.intro (by (try simp only [mk_size, List.size_toArray, ByteArray.size_append, ByteArray.size_extract, List.length_cons, List.length_nil]); omega) ?_)
        | (refine And.intro (by (try simp only [mk_size, List.size_toArray, ByteArray.size_append, ByteArray.size_extract, List.length_cons, List.length_nil, wrap64_eq]); omega) ?_)
        | fail)
      all_goals first | (exfalso; omega) | (exfalso; simp_all; done) | skip
      all_goals first
        | (refine Again.go (x + 1) ⟨rfl, rfl, rfl, rfl, rfl, slI' (wsucc' x (by omega)), trivial⟩ (.keep ?_) (by omega) (by omega); rw [← Nat.add_assoc, ← effN_set w bb hk, show efv w bb (6 * y + x) = 2 by simp_all [efv]]; dsimp only [bQ]; rw [← hst]; rfl)
        | (refine Again.go (x + 1) ⟨rfl, rfl, rfl, rfl, rfl, slI' (wsucc' x (by omega)), trivial⟩ (.keep ?_) (by omega) (by omega); rw [← Nat.add_assoc, ← effN_set w bb hk, show efv w bb (6 * y + x) = 1 by simp_all [efv]]; dsimp only [bQ]; rw [← hst]; rfl)
        | (refine Again.go (x + 1) ⟨rfl, rfl, rfl, rfl, rfl, slI' (wsucc' x (by omega)), trivial⟩ (.keep ?_) (by omega) (by omega); rw [← Nat.add_assoc, ← effN_set w bb hk, show efv w bb (6 * y + x) = 3 by simp_all [efv]]; dsimp only [bQ]; rw [← hst]; rfl)
        | (refine Again.go (x + 1) ⟨rfl, rfl, rfl, rfl, rfl, slI' (wsucc' x (by omega)), trivial⟩ (.keep ?_) (by omega) (by omega); rw [← Nat.add_assoc, effN_keep w bb hk (by simp_all [efv])])
    · obtain rfl : x = 6 := by omega
      repeat' ((conv => whnf); first
        | (refine And.intro rfl ?_)
        | (refine And.intro (by decide +kernel) ?_)
        | (refine And.intro trivial ?_)
        | (refine Exists.intro _ (And.intro rfl (And.intro rfl (And.intro (Nat.le_of_ble_eq_true rfl) ?_))))
        | (refine Exists.intro _ (And.intro rfl (And.intro rfl (And.intro rfl (And.intro (Nat.le_of_ble_eq_true rfl) ?_)))))
        | (refine And.intro (Exists.intro _ (And.intro rfl rfl)) ?_)
        | (exact fun hW => absurd hW (by decide +kernel))
        | (intro hW; (try simp only [Bool.not_true, Bool.not_false, Bool.not_eq_true', Bool.not_eq_false', decide_eq_true_eq, decide_eq_false_iff_not, reduceCtorEq, Bool.true_eq_false, Bool.false_eq_true, mk_size, List.size_toArray, ByteArray.size_append, ByteArray.size_extract, List.length_cons, List.length_nil, ba_get, ba_empty, Int.toNat_natCast] at hW))
        | (refine And.intro (?_ : _ → _) (?_ : _ → _))
        | (refine FinR.drop 0 (Nat.zero_le _) (Closed.zero _) rfl ?_)
        | (refine FinR.keep ?_)
        | (refine And.intro (det3_agg rfl) ?_)
        | (refine fL_mk ?_)
        | (refine And.intro (by (try simp only [mk_size, List.size_toArray, ByteArray.size_append, ByteArray.size_extract, List.length_cons, List.length_nil]); omega) ?_)
        | (refine And.intro (by (try simp only [mk_size, List.size_toArray, ByteArray.size_append, ByteArray.size_extract, List.length_cons, List.length_nil, wrap64_eq]); omega) ?_)
        | fail)
      all_goals first | (exfalso; omega) | skip
      exact Again.go (y + 1) ⟨rfl, rfl, rfl, rfl, slI' (wsucc' y (by omega)), trivial⟩ (.keep (by rw [Nat.mul_add])) (by omega) (by omega)
  · obtain rfl : y = 6 := by omega
    have hml : (effN w bb (6 * 6)).length = 36 := effN_len w bb (by omega)
    repeat' ((conv => whnf); first
      | (refine Exists.intro (bQ (effN w bb (6 * 6)) 58) (And.intro rfl (And.intro rfl (And.intro (pic_le hml rfl) ?_))); rw [show (bQ (effN w bb (6 * 6)) 58).cells = (effN w bb (6 * 6)).map I from rfl, pic_ld hml _ rfl])
      | (refine Exists.intro _ (And.intro rfl (And.intro rfl (And.intro (pic_len hml) (And.intro (Nat.le_of_ble_eq_true rfl) ?_)))))
      | (refine Exists.intro _ (And.intro rfl (And.intro rfl (And.intro (pic_rle hml _) ?_))); rw [pic_res hml _])
      | (refine FinR.drop 0 (Nat.zero_le _) (Closed.zero _) (belPi 0 _) ?_)
      | (refine And.intro rfl ?_)
      | (refine And.intro (by decide +kernel) ?_)
      | (refine And.intro trivial ?_)
      | (refine Exists.intro _ (And.intro rfl (And.intro rfl (And.intro (Nat.le_of_ble_eq_true rfl) ?_))))
      | (refine Exists.intro _ (And.intro rfl (And.intro rfl (And.intro rfl (And.intro (Nat.le_of_ble_eq_true rfl) ?_)))))
      | (refine And.intro (Exists.intro _ (And.intro rfl rfl)) ?_)
      | (exact fun hW => absurd hW (by decide +kernel))
      | (intro hW; (try simp only [Bool.not_true, Bool.not_false, Bool.not_eq_true', Bool.not_eq_false', decide_eq_true_eq, decide_eq_false_iff_not, reduceCtorEq, Bool.true_eq_false, Bool.false_eq_true, mk_size, List.size_toArray, ByteArray.size_append, ByteArray.size_extract, List.length_cons, List.length_nil, ba_get, ba_empty, Int.toNat_natCast] at hW))
      | (refine And.intro (?_ : _ → _) (?_ : _ → _))
      | (refine FinR.drop 0 (Nat.zero_le _) (Closed.zero _) rfl ?_)
      | (refine FinR.keep ?_)
      | (refine And.intro (det3_agg rfl) ?_)
      | (refine fL_mk ?_)
      | (refine And.intro (by (try simp only [mk_size, List.size_toArray, ByteArray.size_append, ByteArray.size_extract, List.length_cons, List.length_nil]); omega) ?_)
      | (refine And.intro (by (try simp only [mk_size, List.size_toArray, ByteArray.size_append, ByteArray.size_extract, List.length_cons, List.length_nil, wrap64_eq]); omega) ?_)
      | fail)
    all_goals first | (exfalso; omega) | exact h0
theorem d_l11Effects (a b c d e f : Int) (s1 s2 : AV) (xs ys : List (List Int)) (h1 : Sli W0 σ 6 enI s1 xs) (h2 : Sli W0 σ 4 enI s2 ys) (hx : ∀ x ∈ xs, x.length = 6) (hy : ∀ x ∈ ys, x.length = 4) (hxa : xs.all shRow = true) (hya : ys.all (stOk xs.length) = true) (hl2 : ys.length ≤ 1048576) (K : Cont) (h0 : K (Pi (efL xs ys)) σ) : ACall Try.prog W0 64 [PlA a b c d e f s1 s2] σ K :=
  lift_Pl (rest := []) (ι := Unit) (fun _ => Pi (efL xs ys)) (fun τ => []) (by kernel_rfl) rfl h1 h2 (fun W1 v1 v2 q1 q2 K hK => c_l11Effects a b c d e f v1 v2 xs ys q1 q2 hx hy hxa hya hl2 K (hK ())) K (fun _ => by
    rw [show shB σ.length [] = [] from rfl, List.append_nil, sh_Pi]; exact h0)
end Go.Proofs.Ytbmilmnfhdkfjaa
end

section
/- Contracts: effects of plans, the same effects, by both sides. -/
set_option linter.unusedVariables false
set_option linter.unusedSimpArgs false
set_option maxRecDepth 100000
set_option maxHeartbeats 4000000
namespace Go.Proofs.Ytbmilmnfhdkfjaa
open Go Go.RowKit Go.Proofs.Ytbmilmnfhdkfjaa.Abs
variable {W0 : World} {σ : List Blk}
/-- effects agree when the ends do -/
theorem efv_inj {w b w' b' k : Nat} (h : efv w b k = efv w' b' k) : w.testBit k = w'.testBit k ∧ b.testBit k = b'.testBit k := by
  unfold efv at h
  cases h1 : w.testBit k <;> cases h2 : b.testBit k <;> cases h3 : w'.testBit k <;> cases h4 : b'.testBit k <;> simp_all
theorem effN_36 (w b : Nat) : effN w b 36 = (List.range 36).map (efv w b) := by rw [effN, Nat.sub_self, List.replicate_zero, List.append_nil]
theorem effN_eq {w b w' b' : Nat} (hw : w < 2 ^ 36) (hb : b < 2 ^ 36) (hw' : w' < 2 ^ 36) (hb' : b' < 2 ^ 36) : effN w b 36 = effN w' b' 36 ↔ w = w' ∧ b = b' := by
  rw [effN_36, effN_36]
  constructor
  · intro h
    have hk : ∀ k, k < 36 → efv w b k = efv w' b' k := fun k hk => List.map_inj_left.1 h k (List.mem_range.2 hk)
    constructor
    · apply Nat.eq_of_testBit_eq; intro j
      by_cases hj : j < 36
      · exact (efv_inj (hk j hj)).1
      · rw [Nat.testBit_lt_two_pow (Nat.lt_of_lt_of_le hw (Nat.pow_le_pow_right (by decide) (by omega))), Nat.testBit_lt_two_pow (Nat.lt_of_lt_of_le hw' (Nat.pow_le_pow_right (by decide) (by omega)))]
    · apply Nat.eq_of_testBit_eq; intro j
      by_cases hj : j < 36
      · exact (efv_inj (hk j hj)).2
      · rw [Nat.testBit_lt_two_pow (Nat.lt_of_lt_of_le hb (Nat.pow_le_pow_right (by decide) (by omega))), Nat.testBit_lt_two_pow (Nat.lt_of_lt_of_le hb' (Nat.pow_le_pow_right (by decide) (by omega)))]
  · rintro ⟨rfl, rfl⟩; rfl
end Go.Proofs.Ytbmilmnfhdkfjaa
end

section
/- Contracts: the same effects, by the program. -/
set_option linter.unusedVariables false
set_option linter.unusedSimpArgs false
set_option maxRecDepth 100000
set_option maxHeartbeats 4000000
namespace Go.Proofs.Ytbmilmnfhdkfjaa
open Go Go.RowKit Go.Proofs.Ytbmilmnfhdkfjaa.Abs
variable {W0 : World} {σ : List Blk}
theorem d_planOfS (a b c d e f : Int) (s1 s2 : AV) (xs ys : List (List Int)) (h1 : Sli W0 σ 6 enI s1 xs) (h2 : Sli W0 σ 4 enI s2 ys) (hx : ∀ x ∈ xs, x.length = 6) (hy : ∀ x ∈ ys, x.length = 4) (hg : planB a b c d e f xs ys = true) (K : Cont)
    (h0 : ∀ (S : List Blk) (p : Nat), PlanSt S p (stN [a, b, c, d, e, f]) (fsOf xs ys) → (∀ (j : Nat) (B : Blk), σ[j]? = some B → S[j]? = some B) → σ.length ≤ S.length → K (.tup [.ptr p 0 0, Bo true]) S) : ACall Try.prog W0 56 [PlA a b c d e f s1 s2] σ K :=
  d_planOf a b c d e f s1 s2 xs ys h1 h2 hx hy K (fun _ τ hp => h0 _ _ hp (fun j B hj => getx1 hj) (by simp)) (fun h => by rw [hg] at h; cases h)
theorem d_planOfF (a b c d e f : Int) (s1 s2 : AV) (xs ys : List (List Int)) (h1 : Sli W0 σ 6 enI s1 xs) (h2 : Sli W0 σ 4 enI s2 ys) (hx : ∀ x ∈ xs, x.length = 6) (hy : ∀ x ∈ ys, x.length = 4) (hg : planB a b c d e f xs ys = false) (K : Cont) (h0 : K (.tup [nilP, Bo false]) σ) : ACall Try.prog W0 56 [PlA a b c d e f s1 s2] σ K :=
  d_planOf a b c d e f s1 s2 xs ys h1 h2 hx hy K (fun h => by rw [hg] at h; cases h) (fun _ => h0)
end Go.Proofs.Ytbmilmnfhdkfjaa
end

section
/- Contracts: two steps exchanged, by the program. -/
set_option linter.unusedVariables false
set_option linter.unusedSimpArgs false
set_option maxRecDepth 100000
set_option maxHeartbeats 4000000
namespace Go.Proofs.Ytbmilmnfhdkfjaa
open Go Go.RowKit Go.Proofs.Ytbmilmnfhdkfjaa.Abs
variable {W0 : World} {σ : List Blk}
theorem swap_get {α : Type} {l : List α} {k : Nat} {x y : α} (hx : l[k]? = some x) (hy : l[k + 1]? = some y) (j : Nat) : ((l.set k y).set (k + 1) x)[j]? = l[if j = k then k + 1 else if j = k + 1 then k else j]? := by
  have h1 := getElem?_lt hy
  rw [List.getElem?_set]
  by_cases e1 : k + 1 = j
  · rw [if_pos e1, if_pos (by rw [List.length_set]; omega), if_neg (by omega), if_pos e1.symm, hx]
  · rw [if_neg e1, List.getElem?_set]
    by_cases e2 : k = j
    · rw [if_pos e2, if_pos (by omega), if_pos e2.symm, hy]
    · rw [if_neg e2, if_neg (by omega), if_neg (by omega)]
theorem varC_app2 {F : List Nat} {R : Prop} {σ τ ρ : List Blk} {k : Nat} (h : R) : varC F σ R k (σ ++ τ ++ ρ) := by rw [List.append_assoc]; exact varC_app h
theorem stepsOwn {s : AV} {fs : List (Nat × Nat)} (h : StepsSt σ s fs) (hn : fs ≠ []) : ∃ r ver cap cs, s = .sl r ver 0 fs.length cap ∧ σ[r]? = some ⟨cs, ver, 101, 1, true, true⟩ ∧ cs.length = fs.length ∧
    ∀ (j k m : Nat), fs[j]? = some (k, m) → ∃ a b, cs[j]? = some (cloA a b) ∧ σ[a]? = some (doB k) ∧ σ[b]? = some (uB m) := by
  cases h with
  | nil => exact absurd rfl hn
  | own r ver cap cs fs hr hl hc => exact ⟨r, ver, cap, cs, rfl, hr, hl, hc⟩
theorem d_CloneFn (r ver cap n : Nat) (cs : List AV) (hr : σ[r]? = some ⟨cs, ver, 101, 1, true, true⟩) (hn : n = cs.length) (hl : cs.length ≤ 1048576) (K : Cont) (h0 : ∀ c', K (.sl σ.length 1 0 n c') (σ ++ [⟨cs, 1, 101, 1, true, true⟩])) : ACall Try.prog W0 75 [.sl r ver 0 n cap] σ K := by
  subst hn
  refine by75 (Nat.le_of_ble_eq_true rfl) ?_
  have hle : ∀ off, off = 0 + cs.length * 1 → off ≤ (⟨cs, ver, 101, 1, true, true⟩ : Blk).cells.length := fun off ho => by show off ≤ cs.length; omega
  have hct : (cs.drop 0).take (cs.length * 1) = cs := by rw [List.drop_zero, Nat.mul_one, List.take_length]
  have hj : ((cs.drop 0).take (cs.length * 1)).length = cs.length * 1 := by rw [hct, Nat.mul_one]
  repeat' ((conv => whnf); first
    | (refine And.intro rfl ?_)
    | (refine And.intro (by decide +kernel) ?_)
    | (refine And.intro trivial ?_)
    | (refine fS_mk ?_)
    | (refine And.intro ⟨_, hr, rfl⟩ ?_)
    | (refine Exists.intro _ (And.intro (getx1 hr) (And.intro rfl (And.intro (hle _ rfl) ?_))))
    | (refine Exists.intro _ (And.intro getl (And.intro rfl (And.intro rfl (And.intro rfl (And.intro rfl (And.intro rfl (And.intro (by decide) (And.intro rfl (And.intro hj (And.intro (by unfold maxLen; omega) (And.intro (by omega) (fun cap' hcap1 hcap2 => ?_)))))))))))))
    | (refine Exists.intro _ (And.intro rfl (And.intro rfl (And.intro (Nat.le_of_ble_eq_true rfl) ?_))))
    | (refine Exists.intro _ (And.intro rfl (And.intro rfl (And.intro rfl (And.intro (Nat.le_of_ble_eq_true rfl) ?_)))))
    | (refine And.intro (Exists.intro _ (And.intro rfl rfl)) ?_)
    | (exact fun hW => absurd hW (by decide +kernel))
    | (intro hW; (try simp only [Bool.not_true, Bool.not_false, Bool.not_eq_true', Bool.not_eq_false', decide_eq_true_eq, decide_eq_false_iff_not, reduceCtorEq, Bool.true_eq_false, Bool.false_eq_true, mk_size, List.size_toArray, ByteArray.size_append, ByteArray.size_extract, List.length_cons, List.length_nil, ba_get, ba_empty, Int.toNat_natCast] at hW))
    | (refine And.intro (?_ : _ → _) (?_ : _ → _))
    | (refine FinR.drop 0 (Nat.zero_le _) (Closed.zero _) rfl ?_)
    | (refine FinR.keep ?_)
    | (refine And.intro (det3_agg rfl) ?_)
    | (refine fL_mk ?_)
    | (refine And.intro (by (try simp only [mk_size, List.size_toArray, ByteArray.size_append, ByteArray.size_extract, List.length_cons, List.length_nil]); omega) ?_)
    | (refine And.intro (by (try simp only [mk_size, List.size_toArray, ByteArray.size_append, ByteArray.size_extract, List.length_cons, List.length_nil, wrap64_eq]); omega) ?_)
    | fail)
  all_goals first | (exfalso; simp_all; done) | skip
  all_goals
    rw [Nat.zero_add cs.length, set_last]
    have e : (⟨[] ++ (cs.drop 0).take (cs.length * 1), 0 + 1, 101, 1, true, true⟩ : Blk) = ⟨cs, 1, 101, 1, true, true⟩ := by rw [List.nil_append, hct]
    exact Eq.mpr (congrArg (fun B => K (.sl σ.length 1 0 cs.length cap') (σ ++ [B])) e) (h0 cap')
theorem steps_swap {r ver cap cap' k : Nat} {cs : List AV} {fs : List (Nat × Nat)} {x y : AV} {u v : Nat × Nat} {r' ver' : Nat} (hcl : cs.length = fs.length) (hc : ∀ (j k m : Nat), fs[j]? = some (k, m) → ∃ a b, cs[j]? = some (cloA a b) ∧ σ[a]? = some (doB k) ∧ σ[b]? = some (uB m))
    (hx : cs[k]? = some x) (hy : cs[k + 1]? = some y) (hu : fs[k]? = some u) (hv : fs[k + 1]? = some v) (hr : σ[r']? = some ⟨(cs.set k y).set (k + 1) x, ver', 101, 1, true, true⟩) : StepsSt σ (.sl r' ver' 0 fs.length cap') ((fs.set k v).set (k + 1) u) := by
  have e : ((fs.set k v).set (k + 1) u).length = fs.length := by rw [List.length_set, List.length_set]
  rw [← e]
  refine .own r' ver' cap' _ _ hr (by rw [List.length_set, List.length_set, e]; exact hcl) fun j k0 m hj => ?_
  rw [swap_get hu hv] at hj
  rw [swap_get hx hy]
  exact hc _ _ _ hj
theorem getlq {S : List Blk} {A B Y : Blk} : (S ++ [A] ++ [Y])[(S ++ [B]).length]? = some Y := by
  rw [show (S ++ [B]).length = (S ++ [A]).length by simp]; exact getl
theorem st_clo {C : List Blk → Prop} {S : List Blk} {cs : List AV} {v : Nat} {e : TypeId} {Y : Blk} {off i : Nat} {z : AV} (y : AV) (hi : cs[i]? = some z) (ho : off = i) (h : C (S ++ [(⟨cs.set i y, v, e, 1, true, true⟩ : Blk)] ++ [Y])) :
    ∃ B', (S ++ [(⟨cs, v, e, 1, true, true⟩ : Blk)] ++ [Y])[S.length]? = some B' ∧ B'.ver = v ∧ [y].length = 1 ∧ off + 1 ≤ B'.cells.length ∧ fS ((S ++ [(⟨cs, v, e, 1, true, true⟩ : Blk)] ++ [Y]).set S.length { B' with cells := B'.cells.take off ++ [y] ++ B'.cells.drop (off + 1) }) C := by
  subst ho
  have hlt := getElem?_lt hi
  refine ⟨_, getx1 getl, rfl, rfl, by show off + 1 ≤ cs.length; omega, ?_⟩
  rw [fS_eq, List.set_append_left _ _ (by simp), set_last]
  show C (S ++ [(⟨cs.take off ++ [y] ++ cs.drop (off + 1), v, e, 1, true, true⟩ : Blk)] ++ [Y])
  rw [show cs.take off ++ [y] ++ cs.drop (off + 1) = cs.set off y by rw [List.set_eq_take_append_cons_drop, if_pos hlt, List.append_assoc]; rfl]
  exact h
theorem clo_ld {cs : List AV} {i off : Nat} {y : AV} (h : cs[i]? = some y) (ho : off = i) : mkAV false ((cs.drop off).take 1) = y := by
  subst ho
  have hlt := getElem?_lt h
  rw [List.drop_eq_getElem_cons hlt]
  rw [List.getElem?_eq_getElem hlt] at h
  cases h; rfl
theorem c_SwapT (a b c d e f : Int) (v1 v2 : Value) (xs ys : List (List Int)) (k : Nat) (fs' : List (Nat × Nat)) (u v : Nat × Nat) (hu : (fsOf xs ys)[k]? = some u) (hv : (fsOf xs ys)[k + 1]? = some v) (hfs : fs' = ((fsOf xs ys).set k v).set (k + 1) u) (h1 : Sli W0 [] 6 enI (.lit v1) xs) (h2 : Sli W0 [] 4 enI (.lit v2) ys) (hx : ∀ x ∈ xs, x.length = 6) (hy : ∀ x ∈ ys, x.length = 4) (hg : planB a b c d e f xs ys = true) (hk : k + 2 ≤ ys.length) (K : Cont)
    (h0 : K (.tup [Bo (decide (((runN (fsOf xs ys) 0 : Nat) : Int) = (runN fs' 0 : Nat)) && (decide (((runN (fsOf xs ys) fullN : Nat) : Int) = (runN fs' fullN : Nat)) && true)), Bo true]) []) : ACall Try.prog W0 35 [PlA a b c d e f (.lit v1) (.lit v2), I k] [] K := by
  refine by35 (Nat.le_of_ble_eq_true rfl) ?_
  obtain ⟨_, hx4, hy40, hxa, hya⟩ := planB_iff.1 hg
  obtain ⟨o2, n2, cap2, hv2, hn2, hc2, hm2, hf2⟩ := sli_form h2
  cases hv2
  subst hn2
  have hfo := fsOf_ok hx hy hxa hya
  have hfl := fsOf_len xs ys
  have hfo' : FsOk fs' := by
    subst hfs
    intro s hs
    rcases List.mem_or_eq_of_mem_set hs with h | rfl
    · rcases List.mem_or_eq_of_mem_set h with h | rfl
      · exact hfo s h
      · exact hfo _ (List.mem_of_getElem? hv)
    · exact hfo _ (List.mem_of_getElem? hu)
  have hfl' : fs'.length = ys.length := by rw [hfs, List.length_set, List.length_set, hfl]
  have hne : fsOf xs ys ≠ [] := by intro h; rw [h] at hfl; simp at hfl; omega
  have ew : IntKind.i64.wrap ((k : Nat) + 1 : Int) = ((k + 1 : Nat) : Int) := wsucc' k (by omega)
  have ew2 : IntKind.i64.wrap ((ys.length : Nat) - 2 : Int) = (ys.length : Nat) - 2 := wrap_i64 _ (by omega) (by omega)
  generalize hF : fsOf xs ys = fs at hu hv hfs hfo hfl hne h0
  repeat' ((conv => whnf); first
    | (refine And.intro rfl ?_)
    | (refine And.intro (by decide +kernel) ?_)
    | (refine And.intro trivial ?_)
    | (refine fS_mk ?_)
    | (refine d_planOfS (h1 := sli_up h1) (h2 := sli_up h2) (hx := hx) (hy := hy) (hg := hg) (h0 := fun S p hp hkk hl => ?_) ..; rw [hF] at hp; have k0 := hkk 0 _ rfl; obtain ⟨s, z1, hs⟩ := hp.ex; obtain ⟨r, ver, cap, cs, rfl, hr, hcl, hc⟩ := stepsOwn hs hne)
    | (refine And.intro ⟨_, z1, rfl⟩ ?_)
    | (refine And.intro ⟨_, k0, rfl⟩ ?_)
    | (refine Exists.intro _ (And.intro k0 (And.intro rfl (And.intro (Nat.le_of_ble_eq_true rfl) ?_))))
    | (refine Exists.intro _ (And.intro z1 (And.intro rfl (And.intro (Nat.le_of_ble_eq_true rfl) ?_))))
    | (refine And.intro rfl (Exists.intro _ (And.intro z1 (And.intro rfl (And.intro (Nat.le_of_ble_eq_true rfl) ?_)))))
    | (refine d_CloneFn (hr := hr) (hn := hcl.symm) (hl := by omega) (h0 := fun c' => varC_app ?_) ..)
    | (refine varC_app2 ?_)
    | (refine Exists.intro _ (And.intro rfl (And.intro rfl (And.intro (Nat.le_of_ble_eq_true rfl) ?_))))
    | (refine Exists.intro _ (And.intro rfl (And.intro rfl (And.intro rfl (And.intro (Nat.le_of_ble_eq_true rfl) ?_)))))
    | (refine And.intro (Exists.intro _ (And.intro rfl rfl)) ?_)
    | (exact fun hW => absurd hW (by decide +kernel))
    | (intro hW; (try simp only [Bool.not_true, Bool.not_false, Bool.not_eq_true', Bool.not_eq_false', decide_eq_true_eq, decide_eq_false_iff_not, reduceCtorEq, Bool.true_eq_false, Bool.false_eq_true, mk_size, List.size_toArray, ByteArray.size_append, ByteArray.size_extract, List.length_cons, List.length_nil, ba_get, ba_empty, Int.toNat_natCast] at hW))
    | (refine And.intro (?_ : _ → _) (?_ : _ → _))
    | (refine FinR.drop 0 (Nat.zero_le _) (Closed.zero _) rfl ?_)
    | (refine FinR.keep ?_)
    | (refine And.intro (det3_agg rfl) ?_)
    | (refine fL_mk ?_)
    | (refine And.intro (by (try simp only [mk_size, List.size_toArray, ByteArray.size_append, ByteArray.size_extract, List.length_cons, List.length_nil]); omega) ?_)
    | (refine And.intro (by (try simp only [mk_size, List.size_toArray, ByteArray.size_append, ByteArray.size_extract, List.length_cons, List.length_nil, wrap64_eq]); omega) ?_)
    | fail)
  all_goals first | (exfalso; omega) | (exfalso; simp_all; done) | skip
  all_goals (refine varC_app2 ?_)
  all_goals
    obtain ⟨xa, xb, hx1, _, _⟩ := hc k u.1 u.2 hu
    obtain ⟨ya, yb, hy1, _, _⟩ := hc (k + 1) v.1 v.2 hv
    have hle : ∀ off i, off = i → i < ys.length → off + 1 ≤ (⟨cs, 1, 101, 1, true, true⟩ : Blk).cells.length := fun off i ho hi => by show off + 1 ≤ cs.length; omega
    have ho1 : 0 + (IntKind.i64.wrap ((k : Nat) + 1 : Int)).toNat * 1 = k + 1 := by rw [ew]; omega
    have ho0 : 0 + ((k : Nat) : Int).toNat * 1 = k := by omega
    have hy2 : (cs.set k (cloA ya yb))[k + 1]? = some (cloA ya yb) := by rw [List.getElem?_set_ne (by omega)]; exact hy1
    have hc2 := fun (τ ρ : List Blk) (j k0 m : Nat) (hj : fs[j]? = some (k0, m)) => let ⟨a, b, q1, q2, q3⟩ := hc j k0 m hj; (⟨a, b, q1, getx1 (getx1 q2), getx1 (getx1 q3)⟩ : ∃ a b, cs[j]? = some (cloA a b) ∧ (S ++ τ ++ ρ)[a]? = some (doB k0) ∧ (S ++ τ ++ ρ)[b]? = some (uB m))
  all_goals
    have hp2 : PlanSt (S ++ [(⟨(cs.set k (cloA ya yb)).set (k + 1) (cloA xa xb), 1, 101, 1, true, true⟩ : Blk)] ++ [plB (stN [a, b, c, d, e, f]) (.sl S.length 1 0 fs.length c')]) (S ++ [(⟨cs, 1, 101, 1, true, true⟩ : Blk)]).length (stN [a, b, c, d, e, f]) fs' :=
      ⟨_, getlq, by rw [hfs]; exact steps_swap (cap := cap) (r := r) (ver := ver) hcl (hc2 _ _) hx1 hy1 hu hv (getx1 getl)⟩
  repeat' ((conv => whnf); first
    | (refine Exists.intro _ (And.intro (getx1 getl) (And.intro rfl (And.intro (hle _ _ ho1 (by omega)) ?_))); rw [show (⟨cs, 1, 101, 1, true, true⟩ : Blk).cells = cs from rfl, clo_ld hy1 ho1])
    | (refine Exists.intro _ (And.intro (getx1 getl) (And.intro rfl (And.intro (hle _ _ ho0 (by omega)) ?_))); rw [show (⟨cs, 1, 101, 1, true, true⟩ : Blk).cells = cs from rfl, clo_ld hx1 ho0])
    | (refine And.intro rfl ?_)
    | (refine And.intro (by decide +kernel) ?_)
    | (refine And.intro trivial ?_)
    | (refine fS_mk ?_)
    | (refine d_effects (hp := hp.add.add) (hf := hfo) (hl := by omega) (h0 := fun A B D => ?_) ..)
    | (refine d_effects (hp := hp2.add.add.add) (hf := hfo') (hl := by omega) (h0 := fun A B D => ?_) ..)
    | (refine And.intro ⟨_, getl, rfl⟩ ?_)
    | (refine And.intro ⟨_, getx1 getl, rfl⟩ ?_)
    | (refine Exists.intro _ (And.intro getl (And.intro rfl (And.intro (Nat.le_of_ble_eq_true rfl) ?_))))
    | (refine st_clo _ hx1 ho0 ?_)
    | (refine st_clo _ hy2 ho1 ?_)
    | (refine Exists.intro _ (And.intro rfl (And.intro rfl (And.intro (Nat.le_of_ble_eq_true rfl) ?_))))
    | (refine Exists.intro _ (And.intro rfl (And.intro rfl (And.intro rfl (And.intro (Nat.le_of_ble_eq_true rfl) ?_)))))
    | (refine And.intro (Exists.intro _ (And.intro rfl rfl)) ?_)
    | (exact fun hW => absurd hW (by decide +kernel))
    | (intro hW; (try simp only [Bool.not_true, Bool.not_false, Bool.not_eq_true', Bool.not_eq_false', decide_eq_true_eq, decide_eq_false_iff_not, reduceCtorEq, Bool.true_eq_false, Bool.false_eq_true, mk_size, List.size_toArray, ByteArray.size_append, ByteArray.size_extract, List.length_cons, List.length_nil, ba_get, ba_empty, Int.toNat_natCast] at hW))
    | (refine And.intro (?_ : _ → _) (?_ : _ → _))
    | (refine FinR.drop 0 (Nat.zero_le _) (Closed.zero _) rfl ?_)
    | (refine FinR.keep ?_)
    | (refine And.intro (det3_agg rfl) ?_)
    | (refine fL_mk ?_)
    | (refine And.intro (by (try simp only [mk_size, List.size_toArray, ByteArray.size_append, ByteArray.size_extract, List.length_cons, List.length_nil]); omega) ?_)
    | (refine And.intro (by (try simp only [mk_size, List.size_toArray, ByteArray.size_append, ByteArray.size_extract, List.length_cons, List.length_nil, wrap64_eq]); omega) ?_)
    | fail)
  all_goals first | (exfalso; omega) | exact h0 | skip
end Go.Proofs.Ytbmilmnfhdkfjaa
end

section
/- Contracts: the law SameEffects. -/
set_option linter.unusedVariables false
set_option linter.unusedSimpArgs false
set_option maxRecDepth 100000
set_option maxHeartbeats 4000000
namespace Go.Proofs.Ytbmilmnfhdkfjaa
open Go Go.RowKit Go.Proofs.Ytbmilmnfhdkfjaa.Abs
variable {W0 : World} {σ : List Blk}
theorem litsA_pic : ∀ q : List Int, litsA (q.map I) = some (q.map (Value.int .i64))
  | [] => rfl
  | x :: q => by
    show litsA (I x :: q.map I) = _
    unfold litsA
    rw [litsA_pic q]; rfl
theorem eqC_pic : ∀ (q q' : List Int), q.length = q'.length → eqC (List.replicate q.length .int) (q.map (Value.int .i64)) (q'.map (Value.int .i64)) = some (decide (q = q'))
  | [], [], _ => rfl
  | x :: q, y :: q', h => by
    have ih := eqC_pic q q' (by simpa using h)
    show eqC (.int :: List.replicate q.length .int) (.int .i64 x :: q.map (Value.int .i64)) (.int .i64 y :: q'.map (Value.int .i64)) = _
    unfold eqC
    rw [if_pos rfl, ih]
    show some (decide (x = y) && decide (q = q')) = _
    rw [← Bool.decide_and]
    congr 1
    simp
theorem eqC36b {q q' : List Int} (hq : q.length = 36) (hq' : q'.length = 36) : eqC [.int, .int, .int, .int, .int, .int, .int, .int, .int, .int, .int, .int, .int, .int, .int, .int, .int, .int, .int, .int, .int, .int, .int, .int, .int, .int, .int, .int, .int, .int, .int, .int, .int, .int, .int, .int] (q.map (Value.int .i64)) (q'.map (Value.int .i64)) = some (decide (q = q')) := by
  have := eqC_pic q q' (by omega)
  rw [hq] at this
  exact this
theorem same_eq (xs ys xs' ys' : List (List Int)) (hx : ∀ x ∈ xs, x.length = 6) (hy : ∀ x ∈ ys, x.length = 4) (hx' : ∀ x ∈ xs', x.length = 6) (hy' : ∀ x ∈ ys', x.length = 4) {m m' : Nat} (hxa : xs.all shRow = true) (hya : ys.all (stOk xs.length) = true) (hxa' : xs'.all shRow = true) (hya' : ys'.all (stOk xs'.length) = true) :
    decide (efL xs ys = efL xs' ys') = (decide (((runN (fsOf xs ys) 0 : Nat) : Int) = (runN (fsOf xs' ys') 0 : Nat)) && (decide (((runN (fsOf xs ys) fullN : Nat) : Int) = (runN (fsOf xs' ys') fullN : Nat)) && true)) := by
  have hfo := fsOf_ok hx hy hxa hya
  have hfo' := fsOf_ok hx' hy' hxa' hya'
  have hh := effN_eq (runN_lt hfo (show 0 < 2 ^ 36 by decide)) (runN_lt hfo (show fullN < 2 ^ 36 by decide)) (runN_lt hfo' (show 0 < 2 ^ 36 by decide)) (runN_lt hfo' (show fullN < 2 ^ 36 by decide))
  rw [Bool.and_true, ← Bool.decide_and]
  refine decide_eq_decide.2 (hh.trans ?_)
  rw [Int.ofNat_inj, Int.ofNat_inj]
end Go.Proofs.Ytbmilmnfhdkfjaa
end

section
/- Contracts: lists of steps turned round. -/
set_option linter.unusedVariables false
set_option linter.unusedSimpArgs false
set_option maxRecDepth 100000
set_option maxHeartbeats 4000000
namespace Go.Proofs.Ytbmilmnfhdkfjaa
open Go Go.RowKit Go.Proofs.Ytbmilmnfhdkfjaa.Abs
variable {W0 : World} {σ : List Blk}
theorem jc_appB (l m : List (List Int)) : jc (l ++ m) = jc l ++ jc m := by simp [jc]
theorem jc_split {l : List (List Int)} {i : Nat} {x : List Int} (h : l[i]? = some x) : jc l = jc (l.take i) ++ (x.map I ++ jc (l.drop (i + 1))) := by
  have hlt := getElem?_lt h
  have hx : l[i] = x := by rw [List.getElem?_eq_getElem hlt] at h; exact Option.some.inj h
  have e : l = l.take i ++ (x :: l.drop (i + 1)) := by rw [← hx, ← List.drop_eq_getElem_cons hlt, List.take_append_drop]
  conv => lhs; rw [e]
  rw [jc_appB]; rfl
theorem jc_pre {s : Nat} {l : List (List Int)} (hl : ∀ x ∈ l, x.length = s) {i : Nat} (hi : i ≤ l.length) : (jc (l.take i)).length = i * s := by
  rw [jc_len (s := s) fun x h => hl x (List.mem_of_mem_take h), List.length_take, Nat.min_eq_left hi]
theorem jc_setB {s : Nat} {l : List (List Int)} (hl : ∀ x ∈ l, x.length = s) {i : Nat} {x : List Int} (y : List Int) (h : l[i]? = some x) : (jc l).take (i * s) ++ y.map I ++ (jc l).drop (i * s + s) = jc (l.set i y) := by
  have hlt := getElem?_lt h
  have hp := jc_pre hl (Nat.le_of_lt hlt)
  have hx := hl x (List.mem_of_getElem? h)
  have e : l.set i y = l.take i ++ (y :: l.drop (i + 1)) := List.set_eq_take_append_cons_drop .. |>.trans (by rw [if_pos hlt])
  rw [e, jc_appB, jc_split h, List.take_left' hp, ← List.drop_drop, List.drop_left' hp, List.drop_left' (by rw [List.length_map]; exact hx)]
  simp [jc]
theorem st_rowB {C : List Blk → Prop} {b r off : Nat} {l : List (List Int)} {i : Nat} {x : List Int} (y : List Int) (hB : σ[b]? = some (stK l r)) (hl : ∀ x ∈ l, x.length = 4) (hi : l[i]? = some x) (hy : y.length = 4) (ho : off = i * 4) (h : C (σ.set b (stK (l.set i y) r))) :
    ∃ B', σ[b]? = some B' ∧ B'.ver = r ∧ (y.map I).length = 4 ∧ off + 4 ≤ B'.cells.length ∧ fS (σ.set b { B' with cells := B'.cells.take off ++ y.map I ++ B'.cells.drop (off + 4) }) C := by
  subst ho
  have hlt := getElem?_lt hi
  refine ⟨_, hB, rfl, by rw [List.length_map]; exact hy, ?_, ?_⟩
  · show i * 4 + 4 ≤ (jc l).length
    rw [jc_len (s := 4) hl]; omega
  · rw [fS_eq]
    show C (σ.set b ⟨(jc l).take (i * 4) ++ y.map I ++ (jc l).drop (i * 4 + 4), r, _, 4, true, true⟩)
    rw [jc_setB hl y hi]
    exact h
end Go.Proofs.Ytbmilmnfhdkfjaa
end

section
/- Contracts: plans that lead back, by both sides. -/
set_option linter.unusedVariables false
set_option linter.unusedSimpArgs false
set_option maxRecDepth 100000
set_option maxHeartbeats 4000000
namespace Go.Proofs.Ytbmilmnfhdkfjaa
open Go Go.RowKit Go.Proofs.Ytbmilmnfhdkfjaa.Abs
variable {W0 : World} {σ : List Blk}
abbrev fnT : AV := .lit (.func (.func 81) #[] #[])
end Go.Proofs.Ytbmilmnfhdkfjaa
end

section
/- Contracts: BackPlan by the reference. -/
set_option linter.unusedVariables false
set_option linter.unusedSimpArgs false
set_option maxRecDepth 100000
set_option maxHeartbeats 4000000
namespace Go.Proofs.Ytbmilmnfhdkfjaa
open Go Go.RowKit Go.Proofs.Ytbmilmnfhdkfjaa.Abs
variable {W0 : World} {σ : List Blk}
theorem sli_rowsE {xs : List (List Int)} {b ver s n cap : Nat} {C : List AV} {e : TypeId} {z : Nat} {r m : Bool} (hx : ∀ x ∈ xs, x.length = s) (hb : σ[b]? = some ⟨C, ver, e, z, r, m⟩) (hC : C = jc xs) (hn : n = xs.length) : Sli W0 σ s enI (.sl b ver 0 n cap) xs := by
  subst hC; subst hn; exact sli_rows hx hb
end Go.Proofs.Ytbmilmnfhdkfjaa
end
