import Derived.Test.YtjekjbkllhompaaZT4
section
/- Contracts: texts of plans, by both sides. -/
set_option linter.unusedVariables false
set_option linter.unusedSimpArgs false
set_option maxRecDepth 100000
set_option maxHeartbeats 4000000
namespace Go.Proofs.Ytjekjbkllhompaa
open Go Go.RowKit Go.Proofs.Ytjekjbkllhompaa.Abs
variable {W0 : World} {σ : List Blk}
theorem belSt (k : Nat) (ws : List ByteArray) : (ws.map (fun w => AV.lit (.string w))).all (bel1 k) = true := by
  rw [List.all_eq_true]; intro x hx; obtain ⟨w, _, rfl⟩ := List.mem_map.1 hx; rfl
theorem u8dig (n : Nat) (hn : n ≤ 9) : IntKind.u8.wrap (IntKind.i64.wrap (48 + (n : Int))) = 48 + (n : Int) := by
  obtain rfl | rfl | rfl | rfl | rfl | rfl | rfl | rfl | rfl | rfl : n = 0 ∨ n = 1 ∨ n = 2 ∨ n = 3 ∨ n = 4 ∨ n = 5 ∨ n = 6 ∨ n = 7 ∨ n = 8 ∨ n = 9 := by omega
  all_goals rfl
def txR (a b c d e f : Int) (xs ys : List (List Int)) : AV := if planB a b c d e f xs ys = true then .tup [Sx (jn (ys.map wT) ys.length), Bo true] else .tup [Sx ⟨#[]⟩, Bo false]
theorem txR_form (a b c d e f : Int) (xs ys : List (List Int)) : ∃ t bb, txR a b c d e f xs ys = .tup [Sx t, Bo bb] := by
  unfold txR; split <;> exact ⟨_, _, rfl⟩
theorem txR_sh (k : Nat) (a b c d e f : Int) (xs ys : List (List Int)) : sh3 k (txR a b c d e f xs ys) = txR a b c d e f xs ys := by unfold txR; split <;> rfl
theorem d_l11Text (a : AV) (xs ys : List (List Int)) (ha : Sli W0 σ 4 enI a ys) (hx : ∀ x ∈ xs, x.length = 6) (hy : ∀ x ∈ ys, x.length = 4) (hxa : xs.all shRow = true) (hx4 : xs.length ≤ 4) (hya : ys.all (stOk xs.length) = true) (hl : ys.length ≤ 1048576) (K : Cont) (h0 : K (Sx (jn (ys.map wT) ys.length)) σ) : ACall Try.prog W0 12 [a] σ K := by
  refine ACall.frameA (K0 := fun v σ' => v = Sx (jn (ys.map wT) ys.length) ∧ σ' = []) (by kernel_rfl) (fun W1 ι vs hh hrr => ?_) ?_
  · obtain ⟨v1, vs', rfl, hr1, hr2⟩ := Rels.uncons hrr
    obtain rfl := hr2.nil_inv
    obtain ⟨a', ha', hsa⟩ := ha.conc hh ⟨v1, hr1⟩
    obtain ⟨u, rfl⟩ := sli_lit hsa
    exact ⟨[.lit u], Rels.cons (ha' _ hr1) Rels.nil, c_l11Text u xs ys hsa hx hy hxa hx4 hya hl _ ⟨rfl, rfl⟩⟩
  · rintro v σ' ⟨rfl, rfl⟩
    rw [show shB σ.length [] = [] from rfl, List.append_nil]; exact h0
theorem c_sPlanText (a b c d e f : Int) (v1 v2 : Value) (xs ys : List (List Int)) (h1 : Sli W0 [] 6 enI (.lit v1) xs) (h2 : Sli W0 [] 4 enI (.lit v2) ys) (hx : ∀ x ∈ xs, x.length = 6) (hy : ∀ x ∈ ys, x.length = 4) (hl : xs.length ≤ 1048576) (hl2 : ys.length ≤ 1048576) (K : Cont) (h0 : K (txR a b c d e f xs ys) []) : ACall Try.prog W0 5 [PlA a b c d e f (.lit v1) (.lit v2)] [] K := by
  refine by5 (Nat.le_of_ble_eq_true rfl) ?_
  cases hg : planB a b c d e f xs ys with
  | false =>
    rw [txR, if_neg (by rw [hg]; decide)] at h0
    repeat' ((conv => whnf); first
      | (refine And.intro rfl ?_)
      | (refine And.intro (by decide +kernel) ?_)
      | (refine And.intro trivial ?_)
      | (refine d_l11Plan (h1 := sli_up h1) (h2 := sli_up h2) (hx := hx) (hy := hy) (hl := hl) (hl2 := hl2) (h0 := ?_) ..; rw [hg])
      | (refine Exists.intro _ (And.intro rfl (And.intro rfl (And.intro (Nat.le_of_ble_eq_true rfl) ?_))))
      | (refine Exists.intro _ (And.intro rfl (And.intro rfl (And.intro rfl (And.intro (Nat.le_of_ble_eq_true rfl) ?_)))))
      | (refine And.intro (Exists.intro _ (And.intro rfl rfl)) ?_)
      | (exact fun hW => absurd hW (by decide +kernel))
      | (intro hW; (try simp only [Bool.not_true, Bool.not_false, Bool.not_eq_true', Bool.not_eq_false', decide_eq_true_eq, decide_eq_false_iff_not, reduceCtorEq, Bool.true_eq_false, Bool.false_eq_true, mk_size, List.size_toArray, ByteArray.size_append, ByteArray.size_extract, List.length_cons, List.length_nil, ba_get, ba_empty, Int.toNat_natCast] at hW))
      | (refine And.intro (?_ : _ → _) (?_ : _ → _))
      | (refine FinR.drop 0 (Nat.zero_le _) (Closed.zero _) rfl ?_)
      | (refine FinR.keep ?_)
      | (refine And.intro (det3_agg rfl) ?_)
      | (refine fL_mk ?_)
      | (refine And.intro (by (try simp only [mk_size, List.size_toArray, ByteArray.size_append, ByteArray.size_extract, List.length_cons, List.length_nil]); omega) ?_)
      | (refine And.intro (by (try simp only [mk_size, List.size_toArray, ByteArray.size_append, ByteArray.size_extract, List.length_cons, List.length_nil, wrap64_eq]); omega) ?_)
      | fail)
    all_goals first | exact h0 | (exfalso; omega) | (exfalso; simp_all; done)
  | true =>
    rw [txR, if_pos hg] at h0
    obtain ⟨_, hx4, hy40, hxa, hya⟩ := planB_iff.1 hg
    have hc := fun (σ : List Blk) K h => d_l11Text (W0 := W0) (σ := σ) (a := .lit v2) (xs := xs) (ys := ys) (K := K) (h0 := h) (ha := sli_up h2) (hx := hx) (hy := hy) (hxa := hxa) (hx4 := hx4) (hya := hya) (hl := hl2)
    generalize jn (ys.map wT) ys.length = t at h0 hc
    repeat' ((conv => whnf); first
      | (refine And.intro rfl ?_)
      | (refine And.intro (by decide +kernel) ?_)
      | (refine And.intro trivial ?_)
      | (refine d_l11Plan (h1 := sli_up h1) (h2 := sli_up h2) (hx := hx) (hy := hy) (hl := hl) (hl2 := hl2) (h0 := ?_) ..; rw [hg])
      | (refine hc _ _ ?_)
      | (refine Exists.intro _ (And.intro rfl (And.intro rfl (And.intro (Nat.le_of_ble_eq_true rfl) ?_))))
      | (refine Exists.intro _ (And.intro rfl (And.intro rfl (And.intro rfl (And.intro (Nat.le_of_ble_eq_true rfl) ?_)))))
      | (refine And.intro (Exists.intro _ (And.intro rfl rfl)) ?_)
      | (exact fun hW => absurd hW (by decide +kernel))
      | (intro hW; (try simp only [Bool.not_true, Bool.not_false, Bool.not_eq_true', Bool.not_eq_false', decide_eq_true_eq, decide_eq_false_iff_not, reduceCtorEq, Bool.true_eq_false, Bool.false_eq_true, mk_size, List.size_toArray, ByteArray.size_append, ByteArray.size_extract, List.length_cons, List.length_nil, ba_get, ba_empty, Int.toNat_natCast] at hW))
      | (refine And.intro (?_ : _ → _) (?_ : _ → _))
      | (refine FinR.drop 0 (Nat.zero_le _) (Closed.zero _) rfl ?_)
      | (refine FinR.keep ?_)
      | (refine And.intro (det3_agg rfl) ?_)
      | (refine fL_mk ?_)
      | (refine And.intro (by (try simp only [mk_size, List.size_toArray, ByteArray.size_append, ByteArray.size_extract, List.length_cons, List.length_nil]); omega) ?_)
      | (refine And.intro (by (try simp only [mk_size, List.size_toArray, ByteArray.size_append, ByteArray.size_extract, List.length_cons, List.length_nil, wrap64_eq]); omega) ?_)
      | fail)
    all_goals first | exact h0 | (exfalso; omega) | (exfalso; simp_all; done)
theorem c_PlanText (a b c d e f : Int) (v1 v2 : Value) (xs ys : List (List Int)) (h1 : Sli W0 [] 6 enI (.lit v1) xs) (h2 : Sli W0 [] 4 enI (.lit v2) ys) (hx : ∀ x ∈ xs, x.length = 6) (hy : ∀ x ∈ ys, x.length = 4) (K : Cont) (h0 : K (txR a b c d e f xs ys) []) : ACall Try.prog W0 7 [PlA a b c d e f (.lit v1) (.lit v2)] [] K := by
  refine by7 (Nat.le_of_ble_eq_true rfl) ?_
  cases hg : planB a b c d e f xs ys with
  | false =>
    rw [txR, if_neg (by rw [hg]; decide)] at h0
    repeat' ((conv => whnf); first
      | (refine And.intro rfl ?_)
      | (refine And.intro (by decide +kernel) ?_)
      | (refine And.intro trivial ?_)
      | (refine d_IsPlan (h1 := sli_up h1) (h2 := sli_up h2) (hx := hx) (hy := hy) (h0 := ?_) ..; rw [hg])
      | (refine Exists.intro _ (And.intro rfl (And.intro rfl (And.intro (Nat.le_of_ble_eq_true rfl) ?_))))
      | (refine Exists.intro _ (And.intro rfl (And.intro rfl (And.intro rfl (And.intro (Nat.le_of_ble_eq_true rfl) ?_)))))
      | (refine And.intro (Exists.intro _ (And.intro rfl rfl)) ?_)
      | (exact fun hW => absurd hW (by decide +kernel))
      | (intro hW; (try simp only [Bool.not_true, Bool.not_false, Bool.not_eq_true', Bool.not_eq_false', decide_eq_true_eq, decide_eq_false_iff_not, reduceCtorEq, Bool.true_eq_false, Bool.false_eq_true, mk_size, List.size_toArray, ByteArray.size_append, ByteArray.size_extract, List.length_cons, List.length_nil, ba_get, ba_empty, Int.toNat_natCast] at hW))
      | (refine And.intro (?_ : _ → _) (?_ : _ → _))
      | (refine FinR.drop 0 (Nat.zero_le _) (Closed.zero _) rfl ?_)
      | (refine FinR.keep ?_)
      | (refine And.intro (det3_agg rfl) ?_)
      | (refine fL_mk ?_)
      | (refine And.intro (by (try simp only [mk_size, List.size_toArray, ByteArray.size_append, ByteArray.size_extract, List.length_cons, List.length_nil]); omega) ?_)
      | (refine And.intro (by (try simp only [mk_size, List.size_toArray, ByteArray.size_append, ByteArray.size_extract, List.length_cons, List.length_nil, wrap64_eq]); omega) ?_)
      | fail)
    all_goals first | exact h0 | (exfalso; omega) | (exfalso; simp_all; done)
  | true =>
  rw [txR, if_pos hg] at h0
  obtain ⟨_, hx4, hy40, hxa, hya⟩ := planB_iff.1 hg
  obtain ⟨o, n, cap, hv2, hn, hc, hm, hf⟩ := sli_form h2
  cases hv2
  subst hn
  obtain ⟨ws, hws⟩ : ∃ ws, ws = ys.map wT := ⟨_, rfl⟩
  rw [← hws] at h0
  have hwl : ws.length = ys.length := by rw [hws, List.length_map]
  have hw4 : ∀ w ∈ ws, w.size = 4 := fun w hw => by rw [hws] at hw; obtain ⟨r, _, rfl⟩ := List.mem_map.1 hw; exact wT_size r
  repeat' ((conv => whnf); first
    | (refine And.intro rfl ?_)
    | (refine And.intro (by decide +kernel) ?_)
    | (refine And.intro trivial ?_)
    | (refine d_IsPlan (h1 := sli_up h1) (h2 := sli_up h2) (hx := hx) (hy := hy) (h0 := ?_) ..; rw [hg])
    | (refine Exists.intro _ (And.intro rfl (And.intro rfl (And.intro (Nat.le_of_ble_eq_true rfl) ?_))))
    | (refine Exists.intro _ (And.intro rfl (And.intro rfl (And.intro rfl (And.intro (Nat.le_of_ble_eq_true rfl) ?_)))))
    | (refine And.intro (Exists.intro _ (And.intro rfl rfl)) ?_)
    | (exact fun hW => absurd hW (by decide +kernel))
    | (intro hW; (try simp only [Bool.not_true, Bool.not_false, Bool.not_eq_true', Bool.not_eq_false', decide_eq_true_eq, decide_eq_false_iff_not, reduceCtorEq, Bool.true_eq_false, Bool.false_eq_true, mk_size, List.size_toArray, ByteArray.size_append, ByteArray.size_extract, List.length_cons, List.length_nil, ba_get, ba_empty, Int.toNat_natCast] at hW))
    | (refine And.intro (?_ : _ → _) (?_ : _ → _))
    | (refine FinR.drop 0 (Nat.zero_le _) (Closed.zero _) rfl ?_)
    | (refine FinR.keep ?_)
    | (refine And.intro (det3_agg rfl) ?_)
    | (refine fL_mk ?_)
    | (refine And.intro (by (try simp only [mk_size, List.size_toArray, ByteArray.size_append, ByteArray.size_extract, List.length_cons, List.length_nil]); omega) ?_)
    | (refine And.intro (by (try simp only [mk_size, List.size_toArray, ByteArray.size_append, ByteArray.size_extract, List.length_cons, List.length_nil, wrap64_eq]); omega) ?_)
    | fail)
  all_goals first | (exfalso; omega) | (exfalso; simp_all; done) | skip
  refine LoopR.live (fun y : Nat × Nat => [(4, .sl 1 y.1 0 y.1 y.2), (12, .lit (.slice o ys.length cap)), (13, I ys.length), (14, I y.1)]) (fun y => [plBx a b c d e f (.lit v1) (.lit (.slice o ys.length cap)) 36, stcB (ws.take y.1) y.1]) (fun y => y.1 ≤ ys.length ∧ y.1 ≤ y.2) (fun y => ys.length - y.1) (0, 0) ⟨rfl, rfl, rfl, rfl, trivial⟩ (.keep rfl) ⟨Nat.zero_le _, Nat.le_refl _⟩ ?_
  rintro ⟨i, cp⟩ ⟨hi, hcp⟩
  dsimp only at hi hcp ⊢
  have hml : i * 1 = ((ws.take i).map (fun w => AV.lit (.string w))).length := by rw [List.length_map, List.length_take]; omega
  by_cases hlt : i < ys.length
  · obtain ⟨k, s, m, u, v, hyi, hk3, hs3, hu, hv, hm', hxs, hfs⟩ := step_parts hx hy hxa hya hlt
    obtain ⟨sn, rfl⟩ := Int.eq_ofNat_of_zero_le hs3.1
    have hsn : sn < 4 := by omega
    obtain ⟨ad, e', hb, hxx⟩ := hf _ _ hyi
    cases e'
    have hld := fun C h => ldIn (W0 := W0) (s := 4) (enc := enI) hb hxx (k := i) hyi rfl (C := C) h
    have hst : ∀ w, ws[i]? = some w → stcB (ws.take (i + 1)) (i + 1) = ⟨(ws.take i).map (fun w => AV.lit (.string w)) ++ [AV.lit (.string w)], i + 1, 9, 1, true, true⟩ := fun w hw => by
      show (⟨_, _, _, _, _, _⟩ : Blk) = _
      rw [List.take_add_one, hw, Option.toList_some, List.map_append]; rfl
    have hwi : ∀ r, ys[i]? = some r → ws[i]? = some (wT r) := fun r hr => by rw [hws, List.getElem?_map, hr]; rfl
    obtain rfl | rfl | rfl : k = 1 ∨ k = 2 ∨ k = 3 := by omega
    · have hn : strOfNums [116, IntKind.u8.wrap (IntKind.i64.wrap (48 + (sn : Int))), IntKind.u8.wrap (IntKind.i64.wrap (48 + (u : Int))), IntKind.u8.wrap (IntKind.i64.wrap (48 + (v : Int)))] = wT [1, (sn : Int), (u : Int), (v : Int)] := by
        rw [u8dig sn (by omega), u8dig u (by omega), u8dig v (by omega)]; rfl
      repeat' ((conv => whnf); first
        | (refine And.intro rfl ?_)
        | (refine And.intro (by decide +kernel) ?_)
        | (refine And.intro trivial ?_)
        | (refine fS_mk ?_)
        | (refine hld _ ?_)
        | (refine And.intro rfl (Exists.intro _ (Exists.intro [_, _, _, _] (And.intro rfl (And.intro rfl (And.intro (Nat.le_of_ble_eq_true rfl) (And.intro rfl ?_)))))))
        | (refine Exists.intro _ (Exists.intro [_, _, _, _] (And.intro rfl (And.intro rfl (And.intro (Nat.le_of_ble_eq_true rfl) (And.intro rfl ?_))))))
        | (refine Exists.intro _ (And.intro rfl (And.intro rfl (And.intro rfl (And.intro rfl (And.intro rfl (And.intro rfl (And.intro (by decide) (And.intro hml (And.intro rfl (And.intro (by unfold maxLen; omega) (And.intro (by omega) (fun cap' hcap1 hcap2 => ?_)))))))))))))
        | (refine Exists.intro _ (And.intro rfl (And.intro rfl (And.intro (Nat.le_of_ble_eq_true rfl) ?_))))
        | (refine Exists.intro _ (And.intro rfl (And.intro rfl (And.intro rfl (And.intro (Nat.le_of_ble_eq_true rfl) ?_)))))
        | (refine And.intro (Exists.intro _ (And.intro rfl rfl)) ?_)
        | (exact fun hW => absurd hW (by decide +kernel))
        | (intro hW; (try simp only [Bool.not_true, Bool.not_false, Bool.not_eq_true', Bool.not_eq_false', decide_eq_true_eq, decide_eq_false_iff_not, reduceCtorEq, Bool.true_eq_false, Bool.false_eq_true, mk_size, List.size_toArray, ByteArray.size_append, ByteArray.size_extract, List.length_cons, List.length_nil, ba_get, ba_empty, Int.toNat_natCast] at hW))
        | (refine And.intro (?_ : _ → _) (?_ : _ → _))
        | (refine FinR.drop 0 (Nat.zero_le _) (Closed.zero _) rfl ?_)
        | (refine FinR.keep ?_)
        | (refine And.intro (det3_agg rfl) ?_)
        | (refine fL_mk ?_)
        | (refine And.intro (by (try simp only [mk_size, List.size_toArray, ByteArray.size_append, ByteArray.size_extract, List.length_cons, List.length_nil]); omega) ?_)
        | (refine And.intro (by (try simp only [mk_size, List.size_toArray, ByteArray.size_append, ByteArray.size_extract, List.length_cons, List.length_nil, wrap64_eq]); omega) ?_)
        | fail)
      all_goals first | (exfalso; omega) | skip
      all_goals exact Again.go (i + 1, cap') ⟨rfl, rfl, rfl, slI' (wsucc' i (by omega)), trivial⟩ (.drop 2 (Nat.zero_le _) (by show [_, stcB (ws.take (i + 1)) (i + 1)] = [_, _]; rw [hst _ (hwi _ hyi), ← hn]; rfl) (closCons rfl (closCons (belSt 2 _) (closNil 2))) rfl) (by dsimp only; omega) (by dsimp only; omega)
    · have hn : strOfNums [105, IntKind.u8.wrap (IntKind.i64.wrap (48 + (sn : Int))), IntKind.u8.wrap (IntKind.i64.wrap (48 + (u : Int))), IntKind.u8.wrap (IntKind.i64.wrap (48 + (v : Int)))] = wT [2, (sn : Int), (u : Int), (v : Int)] := by
        rw [u8dig sn (by omega), u8dig u (by omega), u8dig v (by omega)]; rfl
      repeat' ((conv => whnf); first
        | (refine And.intro rfl ?_)
        | (refine And.intro (by decide +kernel) ?_)
        | (refine And.intro trivial ?_)
        | (refine fS_mk ?_)
        | (refine hld _ ?_)
        | (refine And.intro rfl (Exists.intro _ (Exists.intro [_, _, _, _] (And.intro rfl (And.intro rfl (And.intro (Nat.le_of_ble_eq_true rfl) (And.intro rfl ?_)))))))
        | (refine Exists.intro _ (Exists.intro [_, _, _, _] (And.intro rfl (And.intro rfl (And.intro (Nat.le_of_ble_eq_true rfl) (And.intro rfl ?_))))))
        | (refine Exists.intro _ (And.intro rfl (And.intro rfl (And.intro rfl (And.intro rfl (And.intro rfl (And.intro rfl (And.intro (by decide) (And.intro hml (And.intro rfl (And.intro (by unfold maxLen; omega) (And.intro (by omega) (fun cap' hcap1 hcap2 => ?_)))))))))))))
        | (refine Exists.intro _ (And.intro rfl (And.intro rfl (And.intro (Nat.le_of_ble_eq_true rfl) ?_))))
        | (refine Exists.intro _ (And.intro rfl (And.intro rfl (And.intro rfl (And.intro (Nat.le_of_ble_eq_true rfl) ?_)))))
        | (refine And.intro (Exists.intro _ (And.intro rfl rfl)) ?_)
        | (exact fun hW => absurd hW (by decide +kernel))
        | (intro hW; (try simp only [Bool.not_true, Bool.not_false, Bool.not_eq_true', Bool.not_eq_false', decide_eq_true_eq, decide_eq_false_iff_not, reduceCtorEq, Bool.true_eq_false, Bool.false_eq_true, mk_size, List.size_toArray, ByteArray.size_append, ByteArray.size_extract, List.length_cons, List.length_nil, ba_get, ba_empty, Int.toNat_natCast] at hW))
        | (refine And.intro (?_ : _ → _) (?_ : _ → _))
        | (refine FinR.drop 0 (Nat.zero_le _) (Closed.zero _) rfl ?_)
        | (refine FinR.keep ?_)
        | (refine And.intro (det3_agg rfl) ?_)
        | (refine fL_mk ?_)
        | (refine And.intro (by (try simp only [mk_size, List.size_toArray, ByteArray.size_append, ByteArray.size_extract, List.length_cons, List.length_nil]); omega) ?_)
        | (refine And.intro (by (try simp only [mk_size, List.size_toArray, ByteArray.size_append, ByteArray.size_extract, List.length_cons, List.length_nil, wrap64_eq]); omega) ?_)
        | fail)
      all_goals first | (exfalso; omega) | skip
      all_goals exact Again.go (i + 1, cap') ⟨rfl, rfl, rfl, slI' (wsucc' i (by omega)), trivial⟩ (.drop 2 (Nat.zero_le _) (by show [_, stcB (ws.take (i + 1)) (i + 1)] = [_, _]; rw [hst _ (hwi _ hyi), ← hn]; rfl) (closCons rfl (closCons (belSt 2 _) (closNil 2))) rfl) (by dsimp only; omega) (by dsimp only; omega)
    · have hn : strOfNums [119, IntKind.u8.wrap (IntKind.i64.wrap (48 + (sn : Int))), IntKind.u8.wrap (IntKind.i64.wrap (48 + (u : Int))), IntKind.u8.wrap (IntKind.i64.wrap (48 + (v : Int)))] = wT [3, (sn : Int), (u : Int), (v : Int)] := by
        rw [u8dig sn (by omega), u8dig u (by omega), u8dig v (by omega)]; rfl
      repeat' ((conv => whnf); first
        | (refine And.intro rfl ?_)
        | (refine And.intro (by decide +kernel) ?_)
        | (refine And.intro trivial ?_)
        | (refine fS_mk ?_)
        | (refine hld _ ?_)
        | (refine And.intro rfl (Exists.intro _ (Exists.intro [_, _, _, _] (And.intro rfl (And.intro rfl (And.intro (Nat.le_of_ble_eq_true rfl) (And.intro rfl ?_)))))))
        | (refine Exists.intro _ (Exists.intro [_, _, _, _] (And.intro rfl (And.intro rfl (And.intro (Nat.le_of_ble_eq_true rfl) (And.intro rfl ?_))))))
        | (refine Exists.intro _ (And.intro rfl (And.intro rfl (And.intro rfl (And.intro rfl (And.intro rfl (And.intro rfl (And.intro (by decide) (And.intro hml (And.intro rfl (And.intro (by unfold maxLen; omega) (And.intro (by omega) (fun cap' hcap1 hcap2 => ?_)))))))))))))
        | (refine Exists.intro _ (And.intro rfl (And.intro rfl (And.intro (Nat.le_of_ble_eq_true rfl) ?_))))
        | (refine Exists.intro _ (And.intro rfl (And.intro rfl (And.intro rfl (And.intro (Nat.le_of_ble_eq_true rfl) ?_)))))
        | (refine And.intro (Exists.intro _ (And.intro rfl rfl)) ?_)
        | (exact fun hW => absurd hW (by decide +kernel))
        | (intro hW; (try simp only [Bool.not_true, Bool.not_false, Bool.not_eq_true', Bool.not_eq_false', decide_eq_true_eq, decide_eq_false_iff_not, reduceCtorEq, Bool.true_eq_false, Bool.false_eq_true, mk_size, List.size_toArray, ByteArray.size_append, ByteArray.size_extract, List.length_cons, List.length_nil, ba_get, ba_empty, Int.toNat_natCast] at hW))
        | (refine And.intro (?_ : _ → _) (?_ : _ → _))
        | (refine FinR.drop 0 (Nat.zero_le _) (Closed.zero _) rfl ?_)
        | (refine FinR.keep ?_)
        | (refine And.intro (det3_agg rfl) ?_)
        | (refine fL_mk ?_)
        | (refine And.intro (by (try simp only [mk_size, List.size_toArray, ByteArray.size_append, ByteArray.size_extract, List.length_cons, List.length_nil]); omega) ?_)
        | (refine And.intro (by (try simp only [mk_size, List.size_toArray, ByteArray.size_append, ByteArray.size_extract, List.length_cons, List.length_nil, wrap64_eq]); omega) ?_)
        | fail)
      all_goals first | (exfalso; omega) | skip
      all_goals exact Again.go (i + 1, cap') ⟨rfl, rfl, rfl, slI' (wsucc' i (by omega)), trivial⟩ (.drop 2 (Nat.zero_le _) (by show [_, stcB (ws.take (i + 1)) (i + 1)] = [_, _]; rw [hst _ (hwi _ hyi), ← hn]; rfl) (closCons rfl (closCons (belSt 2 _) (closNil 2))) rfl) (by dsimp only; omega) (by dsimp only; omega)
  · obtain rfl : i = ys.length := by omega
    have htk : ws.take ys.length = ws := by rw [← hwl, List.take_length]
    rw [htk, ← hwl]
    rw [← hwl] at h0 hcp
    repeat' ((conv => whnf); first
      | (refine And.intro rfl ?_)
      | (refine And.intro (by decide +kernel) ?_)
      | (refine And.intro trivial ?_)
      | (refine d_Join (hB := rfl) (hw := hw4) (hl := by omega) (hc := hcp) (h0 := ?_) ..)
      | (refine Exists.intro _ (And.intro rfl (And.intro rfl (And.intro (Nat.le_of_ble_eq_true rfl) ?_))))
      | (refine Exists.intro _ (And.intro rfl (And.intro rfl (And.intro rfl (And.intro (Nat.le_of_ble_eq_true rfl) ?_)))))
      | (refine And.intro (Exists.intro _ (And.intro rfl rfl)) ?_)
      | (exact fun hW => absurd hW (by decide +kernel))
      | (intro hW; (try simp only [Bool.not_true, Bool.not_false, Bool.not_eq_true', Bool.not_eq_false', decide_eq_true_eq, decide_eq_false_iff_not, reduceCtorEq, Bool.true_eq_false, Bool.false_eq_true, mk_size, List.size_toArray, ByteArray.size_append, ByteArray.size_extract, List.length_cons, List.length_nil, ba_get, ba_empty, Int.toNat_natCast] at hW))
      | (refine And.intro (?_ : _ → _) (?_ : _ → _))
      | (refine FinR.drop 0 (Nat.zero_le _) (Closed.zero _) rfl ?_)
      | (refine FinR.keep ?_)
      | (refine And.intro (det3_agg rfl) ?_)
      | (refine fL_mk ?_)
      | (refine And.intro (by (try simp only [mk_size, List.size_toArray, ByteArray.size_append, ByteArray.size_extract, List.length_cons, List.length_nil]); omega) ?_)
      | (refine And.intro (by (try simp only [mk_size, List.size_toArray, ByteArray.size_append, ByteArray.size_extract, List.length_cons, List.length_nil, wrap64_eq]); omega) ?_)
      | fail)
    all_goals first | (exfalso; omega) | exact h0 | skip
theorem d_sPlanText (a b c d e f : Int) (s1 s2 : AV) (xs ys : List (List Int)) (h1 : Sli W0 σ 6 enI s1 xs) (h2 : Sli W0 σ 4 enI s2 ys) (hx : ∀ x ∈ xs, x.length = 6) (hy : ∀ x ∈ ys, x.length = 4) (hl : xs.length ≤ 1048576) (hl2 : ys.length ≤ 1048576) (K : Cont) (h0 : K (txR a b c d e f xs ys) σ) : ACall Try.prog W0 5 [PlA a b c d e f s1 s2] σ K :=
  lift_Pl (rest := []) (ι := Unit) (fun _ => txR a b c d e f xs ys) (fun τ => []) (by kernel_rfl) rfl h1 h2 (fun W1 v1 v2 q1 q2 K hK => c_sPlanText a b c d e f v1 v2 xs ys q1 q2 hx hy hl hl2 K (hK ())) K (fun _ => by
    rw [show shB σ.length [] = [] from rfl, List.append_nil, txR_sh]; exact h0)
theorem d_PlanText (a b c d e f : Int) (s1 s2 : AV) (xs ys : List (List Int)) (h1 : Sli W0 σ 6 enI s1 xs) (h2 : Sli W0 σ 4 enI s2 ys) (hx : ∀ x ∈ xs, x.length = 6) (hy : ∀ x ∈ ys, x.length = 4) (K : Cont) (h0 : K (txR a b c d e f xs ys) σ) : ACall Try.prog W0 7 [PlA a b c d e f s1 s2] σ K :=
  lift_Pl (rest := []) (ι := Unit) (fun _ => txR a b c d e f xs ys) (fun τ => []) (by kernel_rfl) rfl h1 h2 (fun W1 v1 v2 q1 q2 K hK => c_PlanText a b c d e f v1 v2 xs ys q1 q2 hx hy K (hK ())) K (fun _ => by
    rw [show shB σ.length [] = [] from rfl, List.append_nil, txR_sh]; exact h0)
end Go.Proofs.Ytjekjbkllhompaa
end

section
/- Contracts: the law PlanText. -/
set_option linter.unusedVariables false
set_option linter.unusedSimpArgs false
set_option maxRecDepth 100000
set_option maxHeartbeats 4000000
namespace Go.Proofs.Ytjekjbkllhompaa
open Go Go.RowKit Go.Proofs.Ytjekjbkllhompaa.Abs
variable {W0 : World} {σ : List Blk}
theorem c_law_PlanTextQ (a b c d e f : Int) (v1 v2 : Value) (xs ys : List (List Int)) (h1 : Sli W0 [] 6 enI (.lit v1) xs) (h2 : Sli W0 [] 4 enI (.lit v2) ys) (hx : ∀ x ∈ xs, x.length = 6) (hy : ∀ x ∈ ys, x.length = 4) (hm : xs.length ≤ maxLen) (hm2 : ys.length ≤ maxLen) (K : Cont) (h0 : K (Bo true) []) : ACall Try.prog W0 3 [PlA a b c d e f (.lit v1) (.lit v2)] [] K := by
  have hm' : xs.length ≤ 9223372036854775807 := hm
  have hm2' : ys.length ≤ 9223372036854775807 := hm2
  refine by3 (Nat.le_of_ble_eq_true rfl) ?_
  by_cases hz : (1048576 : Int) - xs.length - ys.length < 0
  · skip
    repeat' ((conv => whnf); first
      | (refine And.intro rfl ?_)
      | (refine And.intro (by decide +kernel) ?_)
      | (refine And.intro trivial ?_)
      | (refine d_szPlan (h1 := sli_up h1) (h2 := sli_up h2) (hl := hm') (hl2 := hm2') (hm := by decide) (h0 := fun h => ?_) (h00 := fun h => ?_) ..)
      | (refine Exists.intro _ (And.intro rfl (And.intro rfl (And.intro (Nat.le_of_ble_eq_true rfl) ?_))))
      | (refine Exists.intro _ (And.intro rfl (And.intro rfl (And.intro rfl (And.intro (Nat.le_of_ble_eq_true rfl) ?_)))))
      | (refine And.intro (Exists.intro _ (And.intro rfl rfl)) ?_)
      | (exact fun hW => absurd hW (by decide +kernel))
      | (intro hW; (try simp only [Bool.not_true, Bool.not_false, Bool.not_eq_true', Bool.not_eq_false', decide_eq_true_eq, decide_eq_false_iff_not, reduceCtorEq, Bool.true_eq_false, Bool.false_eq_true, mk_size, List.size_toArray, ByteArray.size_append, ByteArray.size_extract, List.length_cons, List.length_nil, ba_get, ba_empty, Int.toNat_natCast] at hW))
      | (refine And.intro (?_ : _ → _) (?_ : _ → _))
      | (refine FinR.drop 0 (Nat.zero_le _) (Closed.zero _) rfl ?_)
      | (refine FinR.keep ?_)
      | (refine And.intro (det3_agg rfl) ?_)
      | (refine fL_mk ?_)
      | (refine And.intro (by (try simp only [mk_size, List.size_toArray, ByteArray.size_append, ByteArray.size_extract, List.length_cons, List.length_nil]); omega) ?_)
      | (refine And.intro (by (try simp only [mk_size, List.size_toArray, ByteArray.size_append, ByteArray.size_extract, List.length_cons, List.length_nil, wrap64_eq]); omega) ?_)
      | fail)
    all_goals first | exact h0 | (exfalso; omega) | (exfalso; simp_all; done)
  · have hl : xs.length ≤ 1048576 := by omega
    have hl2 : ys.length ≤ 1048576 := by omega
    obtain ⟨t, bb, hat⟩ := txR_form a b c d e f xs ys
    repeat' ((conv => whnf); first
      | (refine And.intro rfl ?_)
      | (refine And.intro (by decide +kernel) ?_)
      | (refine And.intro trivial ?_)
      | (refine d_szPlan (h1 := sli_up h1) (h2 := sli_up h2) (hl := hm') (hl2 := hm2') (hm := by decide) (h0 := fun h => ?_) (h00 := fun h => absurd h hz) ..)
      | (refine d_toPlan (h1 := sli_up h1) (h2 := sli_up h2) (hx := hx) (hy := hy) (hl := hl) (hl2 := hl2) (h0 := fun A B C => ?_) ..)
      | (refine d_sPlanText (h1 := sli_rows hx rfl) (h2 := sli_rows hy rfl) (hx := hx) (hy := hy) (hl := hl) (hl2 := hl2) (h0 := ?_) ..; rw [hat])
      | (refine d_PlanText (h1 := sli_rows hx rfl) (h2 := sli_rows hy rfl) (hx := hx) (hy := hy) (h0 := ?_) ..; rw [hat])
      | (refine Exists.intro _ (And.intro (callW_fn (d_eqPlan (h1 := sli_rows hx rfl) (h2 := sli_rows hy rfl) (g1 := sli_rows hx rfl) (g2 := sli_rows hy rfl) (hx := hx) (hy := hy) (hl := hl) (hl2 := hl2) (h0 := And.intro rfl rfl) ..)) ?_))
      | (refine Exists.intro _ (And.intro rfl (And.intro rfl (And.intro (Nat.le_of_ble_eq_true rfl) ?_))))
      | (refine Exists.intro _ (And.intro rfl (And.intro rfl (And.intro rfl (And.intro (Nat.le_of_ble_eq_true rfl) ?_)))))
      | (refine And.intro (Exists.intro _ (And.intro rfl rfl)) ?_)
      | (exact fun hW => absurd hW (by decide +kernel))
      | (intro hW; (try simp only [Bool.not_true, Bool.not_false, Bool.not_eq_true', Bool.not_eq_false', decide_eq_true_eq, decide_eq_false_iff_not, reduceCtorEq, Bool.true_eq_false, Bool.false_eq_true, mk_size, List.size_toArray, ByteArray.size_append, ByteArray.size_extract, List.length_cons, List.length_nil, ba_get, ba_empty, Int.toNat_natCast] at hW))
      | (refine And.intro (?_ : _ → _) (?_ : _ → _))
      | (refine FinR.drop 0 (Nat.zero_le _) (Closed.zero _) rfl ?_)
      | (refine FinR.keep ?_)
      | (refine And.intro (det3_agg rfl) ?_)
      | (refine fL_mk ?_)
      | (refine And.intro (by (try simp only [mk_size, List.size_toArray, ByteArray.size_append, ByteArray.size_extract, List.length_cons, List.length_nil]); omega) ?_)
      | (refine And.intro (by (try simp only [mk_size, List.size_toArray, ByteArray.size_append, ByteArray.size_extract, List.length_cons, List.length_nil, wrap64_eq]); omega) ?_)
      | fail)
    all_goals first | exact h0 | (exfalso; omega) | (exfalso; simp_all; done) | skip
theorem c_law_PlanText (a0 : Int) (ha0 : IntKind.i64.has a0) (a1 : Int) (ha1 : IntKind.i64.has a1) (a2 : Int) (ha2 : IntKind.i64.has a2) (a3 : Int) (ha3 : IntKind.i64.has a3) (a4 : Int) (ha4 : IntKind.i64.has a4) (a5 : Int) (ha5 : IntKind.i64.has a5) (v : Value) (xs : List (List Int)) (sv : Sli W0 [] 6 enI (.lit v) xs) (hv : ∀ x ∈ xs, x.length = 6 ∧ ∀ n ∈ x, IntKind.i64.has n) (mv : xs.length ≤ maxLen) (u : Value) (ys : List (List Int)) (su : Sli W0 [] 4 enI (.lit u) ys) (hu : ∀ x ∈ ys, x.length = 4 ∧ ∀ n ∈ x, IntKind.i64.has n) (mu : ys.length ≤ maxLen) (K : Cont) (h0 : K (Bo true) []) : ACall Try.prog W0 3 [PlA a0 a1 a2 a3 a4 a5 (.lit v) (.lit u)] [] K :=
  c_law_PlanTextQ a0 a1 a2 a3 a4 a5 v u xs ys sv su (fun x h => (hv x h).1) (fun x h => (hu x h).1) mv mu K h0
end Go.Proofs.Ytjekjbkllhompaa
end
