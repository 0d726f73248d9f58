import Derived.Test.YthncpkdhcfaflaaZLawOverlaps4
section
/- Contracts: the laws of hidden and whole prints. -/
set_option linter.unusedVariables false
set_option linter.unusedSimpArgs false
set_option maxRecDepth 100000
set_option maxHeartbeats 4000000
namespace Go.Proofs.Ythncpkdhcfaflaa
open Go Go.RowKit Go.Proofs.Ythncpkdhcfaflaa.Abs
variable {W0 : World} {σ : List Blk}
abbrev prB (xs : List (List Int)) : Blk := ⟨jc xs, 0, 83, 9, true, true⟩
theorem jc_len9 {xs : List (List Int)} (hx : ∀ x ∈ xs, x.length = 9) : xs.length * 9 ≤ (prB xs).cells.length := by rw [jc_len (s := 9) hx]; exact Nat.le_refl _
end Go.Proofs.Ythncpkdhcfaflaa
end

section
/- Contracts: prints that overlap. -/
set_option linter.unusedVariables false
set_option linter.unusedSimpArgs false
set_option maxRecDepth 100000
set_option maxHeartbeats 4000000
namespace Go.Proofs.Ythncpkdhcfaflaa
open Go Go.RowKit Go.Proofs.Ythncpkdhcfaflaa.Abs
variable {W0 : World} {σ : List Blk}
/-- pairs of places -/
def inn (q : Nat → Nat → Bool) (i : Nat) : Nat → List (List Int)
  | 0 => []
  | m + 1 => inn q i m ++ if q i (i + 1 + m) then [[(i : Int), ((i + 1 + m : Nat) : Int)]] else []
def prs (q : Nat → Nat → Bool) (n : Nat) : Nat → List (List Int)
  | 0 => []
  | i + 1 => prs q n i ++ inn q i (n - (i + 1))
theorem inn_succ (q : Nat → Nat → Bool) (i m : Nat) : inn q i (m + 1) = inn q i m ++ if q i (i + 1 + m) then [[(i : Int), ((i + 1 + m : Nat) : Int)]] else [] := rfl
theorem prs_succ (q : Nat → Nat → Bool) (n i : Nat) : prs q n (i + 1) = prs q n i ++ inn q i (n - (i + 1)) := rfl
theorem inn_len (q : Nat → Nat → Bool) (i : Nat) : ∀ m, (inn q i m).length ≤ m
  | 0 => Nat.le_refl _
  | m + 1 => by have := inn_len q i m; rw [inn_succ, List.length_append]; split <;> simp <;> omega
theorem prs_len (q : Nat → Nat → Bool) (n : Nat) : ∀ i, (prs q n i).length ≤ i * n
  | 0 => Nat.zero_le _
  | i + 1 => by
    have h1 := prs_len q n i
    have h2 := inn_len q i (n - (i + 1))
    rw [prs_succ, List.length_append, Nat.add_mul]; omega
theorem inn_row (q : Nat → Nat → Bool) (i : Nat) : ∀ m, ∀ x ∈ inn q i m, x.length = 2
  | 0, x, h => by cases h
  | m + 1, x, h => by
    rw [inn_succ] at h
    rcases List.mem_append.1 h with h | h
    · exact inn_row q i m x h
    · split at h
      · rw [List.mem_singleton.1 h]; rfl
      · cases h
theorem prs_row (q : Nat → Nat → Bool) (n : Nat) : ∀ i, ∀ x ∈ prs q n i, x.length = 2
  | 0, x, h => by cases h
  | i + 1, x, h => by
    rw [prs_succ] at h
    rcases List.mem_append.1 h with h | h
    · exact prs_row q n i x h
    · exact inn_row q i _ x h
/-- what is there behind i rounds and m steps of the next one -/
def prO (q : Nat → Nat → Bool) (n i m : Nat) : List (List Int) := prs q n i ++ inn q i m
theorem prO_row (q : Nat → Nat → Bool) (n i m : Nat) : ∀ x ∈ prO q n i m, x.length = 2 := fun x h => by
  rcases List.mem_append.1 h with h | h
  · exact prs_row q n i x h
  · exact inn_row q i _ x h
theorem prO_zero (q : Nat → Nat → Bool) (n i : Nat) : prO q n i 0 = prs q n i := by simp [prO, inn]
theorem prO_len {q : Nat → Nat → Bool} {n i m : Nat} (hn : n ≤ 6) (hi : i ≤ 6) (hm : m ≤ 6) : (prO q n i m).length ≤ 42 := by
  have h1 := prs_len q n i
  have h2 := inn_len q i m
  have h3 : i * n ≤ 6 * 6 := Nat.mul_le_mul hi hn
  rw [prO, List.length_append]; omega
theorem prO_step {q : Nat → Nat → Bool} {n i m : Nat} : prO q n i (m + 1) = prO q n i m ++ if q i (i + 1 + m) then [[(i : Int), ((i + 1 + m : Nat) : Int)]] else [] := by
  rw [prO, inn_succ, ← List.append_assoc]; rfl
abbrev prsB (l : List (List Int)) : Blk := ⟨jc l, l.length, 81, 2, true, true⟩
def ovQ (xs : List (List Int)) (i k : Nat) : Bool := !decide (pSet (xs.getD i []) &&& pSet (xs.getD k []) = 0)
theorem ovQ_at {xs : List (List Int)} {i k : Nat} {x y : List Int} (h : xs[i]? = some x) (h' : xs[k]? = some y) : ovQ xs i k = !decide (pSet x &&& pSet y = 0) := by
  rw [ovQ, List.getD_eq_getElem?_getD, List.getD_eq_getElem?_getD, h, h']; rfl
theorem jc_len2 {l : List (List Int)} (h : ∀ x ∈ l, x.length = 2) : l.length * 2 = (jc l).length := (jc_len (s := 2) h).symm
theorem c_sOverT (a : AV) (xs : List (List Int)) (ha : Sli W0 [] 9 enI a xs) (hx : ∀ x ∈ xs, x.length = 9) (hb' : listB xs = true) (K : Cont)
    (h0 : ∀ cap, K (.tup [.sl 0 (prs (ovQ xs) xs.length xs.length).length 0 (prs (ovQ xs) xs.length xs.length).length cap, Bo true]) [prsB (prs (ovQ xs) xs.length xs.length)]) : ACall Try.prog W0 14 [a] [] K := by
  obtain ⟨hl, hall⟩ := listB_iff.1 hb'
  refine by14 (Nat.le_of_ble_eq_true rfl) ?_
  have ha0 := ha
  cases ha with
  | nil =>
    have h0 := h0 0
    repeat' ((conv => whnf); first
      | (refine And.intro rfl ?_)
      | (refine And.intro (by decide +kernel) ?_)
      | (refine And.intro trivial ?_)
      | (refine d_l8List (ha := sli_up ha0) (hx := hx) (hl := by omega) (h0 := ?_) ..; rw [hb'])
      | (refine Exists.intro _ (And.intro rfl (And.intro rfl (And.intro (Nat.le_of_ble_eq_true rfl) ?_))))
      | (refine Exists.intro _ (And.intro rfl (And.intro rfl (And.intro rfl (And.intro (Nat.le_of_ble_eq_true rfl) ?_)))))
      | (refine And.intro (Exists.intro _ (And.intro rfl rfl)) ?_)
      | (exact fun hW => absurd hW (by decide +kernel))
      | (intro hW; (try simp only [Bool.not_true, Bool.not_false, Bool.not_eq_true', Bool.not_eq_false', decide_eq_true_eq, decide_eq_false_iff_not, reduceCtorEq, Bool.true_eq_false, Bool.false_eq_true, mk_size, List.size_toArray, ByteArray.size_append, ByteArray.size_extract, List.length_cons, List.length_nil, ba_get, ba_empty, Int.toNat_natCast] at hW))
      | (refine And.intro (?_ : _ → _) (?_ : _ → _))
      | (refine FinR.drop 0 (Nat.zero_le _) (Closed.zero _) rfl ?_)
      | (refine FinR.keep ?_)
      | (refine And.intro (det3_agg rfl) ?_)
      | (refine fL_mk ?_)
      | (refine And.intro (by (try simp only [mk_size, List.size_toArray, ByteArray.size_append, ByteArray.size_extract, List.length_cons, List.length_nil]); omega) ?_)
      | (refine And.intro (by (try simp only [mk_size, List.size_toArray, ByteArray.size_append, ByteArray.size_extract, List.length_cons, List.length_nil, wrap64_eq]); omega) ?_)
      | fail)
    all_goals first | (exfalso; omega) | (exfalso; simp_all; done) | skip
    refine LoopR.unroll 1 ?_
    repeat' ((conv => whnf); first
      | (refine And.intro rfl ?_)
      | (refine And.intro (by decide +kernel) ?_)
      | (refine And.intro trivial ?_)
      | (refine Exists.intro _ (And.intro rfl (And.intro rfl (And.intro (Nat.le_of_ble_eq_true rfl) ?_))))
      | (refine Exists.intro _ (And.intro rfl (And.intro rfl (And.intro rfl (And.intro (Nat.le_of_ble_eq_true rfl) ?_)))))
      | (refine And.intro (Exists.intro _ (And.intro rfl rfl)) ?_)
      | (exact fun hW => absurd hW (by decide +kernel))
      | (intro hW; (try simp only [Bool.not_true, Bool.not_false, Bool.not_eq_true', Bool.not_eq_false', decide_eq_true_eq, decide_eq_false_iff_not, reduceCtorEq, Bool.true_eq_false, Bool.false_eq_true, mk_size, List.size_toArray, ByteArray.size_append, ByteArray.size_extract, List.length_cons, List.length_nil, ba_get, ba_empty, Int.toNat_natCast] at hW))
      | (refine And.intro (?_ : _ → _) (?_ : _ → _))
      | (refine FinR.drop 0 (Nat.zero_le _) (Closed.zero _) rfl ?_)
      | (refine FinR.keep ?_)
      | (refine And.intro (det3_agg rfl) ?_)
      | (refine fL_mk ?_)
      | (refine And.intro (by (try simp only [mk_size, List.size_toArray, ByteArray.size_append, ByteArray.size_extract, List.length_cons, List.length_nil]); omega) ?_)
      | (refine And.intro (by (try simp only [mk_size, List.size_toArray, ByteArray.size_append, ByteArray.size_extract, List.length_cons, List.length_nil, wrap64_eq]); omega) ?_)
      | fail)
    all_goals first | (exfalso; omega) | exact h0
  | inn ad n cap xs hn hc hcm hb hxx =>
    subst hn
    repeat' ((conv => whnf); first
      | (refine And.intro rfl ?_)
      | (refine And.intro (by decide +kernel) ?_)
      | (refine And.intro trivial ?_)
      | (refine d_l8List (ha := sli_up ha0) (hx := hx) (hl := by omega) (h0 := ?_) ..; rw [hb'])
      | (refine Exists.intro _ (And.intro rfl (And.intro rfl (And.intro (Nat.le_of_ble_eq_true rfl) ?_))))
      | (refine Exists.intro _ (And.intro rfl (And.intro rfl (And.intro rfl (And.intro (Nat.le_of_ble_eq_true rfl) ?_)))))
      | (refine And.intro (Exists.intro _ (And.intro rfl rfl)) ?_)
      | (exact fun hW => absurd hW (by decide +kernel))
      | (intro hW; (try simp only [Bool.not_true, Bool.not_false, Bool.not_eq_true', Bool.not_eq_false', decide_eq_true_eq, decide_eq_false_iff_not, reduceCtorEq, Bool.true_eq_false, Bool.false_eq_true, mk_size, List.size_toArray, ByteArray.size_append, ByteArray.size_extract, List.length_cons, List.length_nil, ba_get, ba_empty, Int.toNat_natCast] at hW))
      | (refine And.intro (?_ : _ → _) (?_ : _ → _))
      | (refine FinR.drop 0 (Nat.zero_le _) (Closed.zero _) rfl ?_)
      | (refine FinR.keep ?_)
      | (refine And.intro (det3_agg rfl) ?_)
      | (refine fL_mk ?_)
      | (refine And.intro (by (try simp only [mk_size, List.size_toArray, ByteArray.size_append, ByteArray.size_extract, List.length_cons, List.length_nil]); omega) ?_)
      | (refine And.intro (by (try simp only [mk_size, List.size_toArray, ByteArray.size_append, ByteArray.size_extract, List.length_cons, List.length_nil, wrap64_eq]); omega) ?_)
      | fail)
    all_goals first | (exfalso; omega) | (exfalso; simp_all; done) | skip
    refine LoopR.live (fun y : Nat × Nat => [(0, .lit (.slice (some ad) xs.length cap)), (4, .sl 0 (prs (ovQ xs) xs.length y.1).length 0 (prs (ovQ xs) xs.length y.1).length y.2), (5, I y.1)]) (fun y => [prsB (prs (ovQ xs) xs.length y.1)]) (fun y => y.1 ≤ xs.length) (fun y => xs.length - y.1) (0, 0) ⟨rfl, rfl, rfl, trivial⟩ (.keep rfl) (Nat.zero_le _) ?_
    rintro ⟨i, cp⟩ hi
    dsimp only at hi
    by_cases hlt : i < xs.length
    · obtain ⟨c0, c1, c2, c3, c4, c5, c6, c7, c8, hxi⟩ := row9 hx hlt
      have hp : pOk [c0, c1, c2, c3, c4, c5, c6, c7, c8] = true := List.all_eq_true.1 hall _ (List.mem_of_getElem? hxi)
      have hld := ld9 hb hxx hxi rfl
      have hs := pSet_lt rfl hp
      repeat' ((conv => whnf); first
        | (refine And.intro rfl ?_)
        | (refine And.intro (by decide +kernel) ?_)
        | (refine And.intro trivial ?_)
        | (refine Exists.intro _ (And.intro rfl (And.intro rfl (And.intro (Nat.le_of_ble_eq_true rfl) ?_))))
        | (refine Exists.intro _ (And.intro rfl (And.intro rfl (And.intro rfl (And.intro (Nat.le_of_ble_eq_true rfl) ?_)))))
        | (refine And.intro (Exists.intro _ (And.intro rfl rfl)) ?_)
        | (exact fun hW => absurd hW (by decide +kernel))
        | (intro hW; (try simp only [Bool.not_true, Bool.not_false, Bool.not_eq_true', Bool.not_eq_false', decide_eq_true_eq, decide_eq_false_iff_not, reduceCtorEq, Bool.true_eq_false, Bool.false_eq_true, mk_size, List.size_toArray, ByteArray.size_append, ByteArray.size_extract, List.length_cons, List.length_nil, ba_get, ba_empty, Int.toNat_natCast] at hW))
        | (refine And.intro (?_ : _ → _) (?_ : _ → _))
        | (refine FinR.drop 0 (Nat.zero_le _) (Closed.zero _) rfl ?_)
        | (refine FinR.keep ?_)
        | (refine And.intro (det3_agg rfl) ?_)
        | (refine fL_mk ?_)
        | (refine And.intro (by (try simp only [mk_size, List.size_toArray, ByteArray.size_append, ByteArray.size_extract, List.length_cons, List.length_nil]); omega) ?_)
        | (refine And.intro (by (try simp only [mk_size, List.size_toArray, ByteArray.size_append, ByteArray.size_extract, List.length_cons, List.length_nil, wrap64_eq]); omega) ?_)
        | fail)
      all_goals first | (exfalso; omega) | skip
      refine LoopR.live (fun y : Nat × Nat => [(0, .lit (.slice (some ad) xs.length cap)), (4, .sl 0 (prO (ovQ xs) xs.length i y.1).length 0 (prO (ovQ xs) xs.length i y.1).length y.2), (5, I i), (6, I (i + 1 + y.1 : Nat))]) (fun y => [prsB (prO (ovQ xs) xs.length i y.1)]) (fun y => y.1 ≤ xs.length - (i + 1)) (fun y => xs.length - (i + 1) - y.1) (0, cp) ⟨rfl, (by show AV.sl _ _ _ _ _ = AV.sl _ _ _ _ _; rw [prO_zero]), rfl, slI' (wsucc' i (by omega)), trivial⟩ (.keep (by dsimp only; rw [prO_zero])) (Nat.zero_le _) ?_
      rintro ⟨m, cp2⟩ hm
      dsimp only at hm
      have hln := prO_len (q := ovQ xs) (n := xs.length) (i := i) (m := m) hl (by omega) (by omega)
      have hl2 := jc_len2 (prO_row (ovQ xs) xs.length i m)
      have hst := prO_step (q := ovQ xs) (n := xs.length) (i := i) (m := m)
      by_cases hlt2 : i + 1 + m < xs.length
      · obtain ⟨e0, e1, e2, e3, e4, e5, e6, e7, e8, hyi⟩ := row9 hx hlt2
        have hp2 : pOk [e0, e1, e2, e3, e4, e5, e6, e7, e8] = true := List.all_eq_true.1 hall _ (List.mem_of_getElem? hyi)
        have hld2 := ld9 hb hxx hyi rfl
        have hs2 := pSet_lt rfl hp2
        have hand : pSet [c0, c1, c2, c3, c4, c5, c6, c7, c8] &&& pSet [e0, e1, e2, e3, e4, e5, e6, e7, e8] < 2 ^ 36 := Nat.lt_of_le_of_lt Nat.and_le_left hs
        have hq := ovQ_at hxi hyi
        have hod := ones_dec _ hand
        repeat' ((conv => whnf); first
          | (refine And.intro rfl ?_)
          | (refine And.intro (by decide +kernel) ?_)
          | (refine And.intro trivial ?_)
          | (refine And.intro rfl (hld _ ?_))
          | (refine And.intro rfl (hld2 _ ?_))
          | (refine hld _ ?_)
          | (refine hld2 _ ?_)
          | (refine d_l8Cells (h := hp) (h0 := ?_) ..)
          | (refine Exists.intro _ (And.intro (fun τ => callW_fn (d_l8Cells (h := hp) (h0 := And.intro rfl rfl) ..)) ?_))
          | (refine Exists.intro _ (And.intro (callW_fn (d_l8Cells (h := hp) (h0 := And.intro rfl rfl) ..)) (And.intro trivial ?_)))
          | (refine Exists.intro _ (And.intro (callW_fn (d_l8Cells (h := hp) (h0 := And.intro rfl rfl) ..)) ?_))
          | (refine Exists.intro _ (And.intro (fun τ _ => callW_fn (d_l8Cells (h := hp) (h0 := And.intro rfl rfl) ..)) ?_))
          | (refine d_l8Cells (h := hp2) (h0 := ?_) ..)
          | (refine Exists.intro _ (And.intro (fun τ => callW_fn (d_l8Cells (h := hp2) (h0 := And.intro rfl rfl) ..)) ?_))
          | (refine Exists.intro _ (And.intro (callW_fn (d_l8Cells (h := hp2) (h0 := And.intro rfl rfl) ..)) (And.intro trivial ?_)))
          | (refine Exists.intro _ (And.intro (callW_fn (d_l8Cells (h := hp2) (h0 := And.intro rfl rfl) ..)) ?_))
          | (refine Exists.intro _ (And.intro (fun τ _ => callW_fn (d_l8Cells (h := hp2) (h0 := And.intro rfl rfl) ..)) ?_))
          | (refine d_l2AndM (h0 := ?_) ..)
          | (refine Exists.intro _ (And.intro (fun τ => callW_fn (d_l2AndM (h0 := And.intro rfl rfl) ..)) ?_))
          | (refine Exists.intro _ (And.intro (callW_fn (d_l2AndM (h0 := And.intro rfl rfl) ..)) (And.intro trivial ?_)))
          | (refine Exists.intro _ (And.intro (callW_fn (d_l2AndM (h0 := And.intro rfl rfl) ..)) ?_))
          | (refine Exists.intro _ (And.intro (fun τ _ => callW_fn (d_l2AndM (h0 := And.intro rfl rfl) ..)) ?_))
          | (refine d_l2CountM (hn := hand) (h0 := ?_) ..)
          | (refine Exists.intro _ (And.intro (fun τ => callW_fn (d_l2CountM (hn := hand) (h0 := And.intro rfl rfl) ..)) ?_))
          | (refine Exists.intro _ (And.intro (callW_fn (d_l2CountM (hn := hand) (h0 := And.intro rfl rfl) ..)) (And.intro trivial ?_)))
          | (refine Exists.intro _ (And.intro (callW_fn (d_l2CountM (hn := hand) (h0 := And.intro rfl rfl) ..)) ?_))
          | (refine Exists.intro _ (And.intro (fun τ _ => callW_fn (d_l2CountM (hn := hand) (h0 := And.intro rfl rfl) ..)) ?_))
          | (refine Exists.intro _ (And.intro rfl (And.intro rfl (And.intro rfl (And.intro rfl (And.intro rfl (And.intro rfl (And.intro (by decide) (And.intro (by simp [hl2.symm]) (And.intro rfl (And.intro (by (try dsimp only); unfold maxLen; omega) (And.intro (by (try dsimp only); omega) (fun cap' hcap1 hcap2 => ?_)))))))))))))
          | (refine Exists.intro _ (And.intro rfl (And.intro rfl (And.intro (Nat.le_of_ble_eq_true rfl) ?_))))
          | (refine Exists.intro _ (And.intro rfl (And.intro rfl (And.intro rfl (And.intro (Nat.le_of_ble_eq_true rfl) ?_)))))
          | (refine And.intro (Exists.intro _ (And.intro rfl rfl)) ?_)
          | (exact fun hW => absurd hW (by decide +kernel))
          | (intro hW; (try simp only [Bool.not_true, Bool.not_false, Bool.not_eq_true', Bool.not_eq_false', decide_eq_true_eq, decide_eq_false_iff_not, reduceCtorEq, Bool.true_eq_false, Bool.false_eq_true, mk_size, List.size_toArray, ByteArray.size_append, ByteArray.size_extract, List.length_cons, List.length_nil, ba_get, ba_empty, Int.toNat_natCast] at hW))
          | (refine And.intro (?_ : _ → _) (?_ : _ → _))
          | (refine FinR.drop 0 (Nat.zero_le _) (Closed.zero _) rfl ?_)
          | (refine FinR.keep ?_)
          | (refine And.intro (det3_agg rfl) ?_)
          | (refine fL_mk ?_)
          | (refine And.intro (by (try simp only [mk_size, List.size_toArray, ByteArray.size_append, ByteArray.size_extract, List.length_cons, List.length_nil]); omega) ?_)
          | (refine And.intro (by (try simp only [mk_size, List.size_toArray, ByteArray.size_append, ByteArray.size_extract, List.length_cons, List.length_nil, wrap64_eq]); omega) ?_)
          | fail)
        all_goals first | (exfalso; omega) | skip
        · have hq1 : ovQ xs i (i + 1 + m) = true := by
            rw [hq, ← hod]; simp; omega
          rw [hq1, if_pos rfl] at hst
          refine Again.go (m + 1, _) ⟨rfl, (by show AV.sl _ _ _ _ _ = AV.sl _ _ _ _ _; rw [hst, List.length_append]; rfl), rfl, slI' (wsucc' _ (by omega)), trivial⟩ (.keep ?_) (by dsimp only; omega) (by dsimp only; omega)
          dsimp only [prsB]
          rw [hst, List.length_append, jc_append]; rfl
        · have hq1 : ovQ xs i (i + 1 + m) = false := by
            rw [hq, ← hod]; simp; omega
          rw [hq1, if_neg (by decide), List.append_nil] at hst
          refine Again.go (m + 1, cp2) ⟨rfl, (by show AV.sl _ _ _ _ _ = AV.sl _ _ _ _ _; rw [hst]), rfl, slI' (wsucc' _ (by omega)), trivial⟩ (.keep ?_) (by dsimp only; omega) (by dsimp only; omega)
          dsimp only [prsB]
          rw [hst]
      · obtain rfl : m = xs.length - (i + 1) := by omega
        repeat' ((conv => whnf); first
          | (refine And.intro rfl ?_)
          | (refine And.intro (by decide +kernel) ?_)
          | (refine And.intro trivial ?_)
          | (refine Exists.intro _ (And.intro rfl (And.intro rfl (And.intro (Nat.le_of_ble_eq_true rfl) ?_))))
          | (refine Exists.intro _ (And.intro rfl (And.intro rfl (And.intro rfl (And.intro (Nat.le_of_ble_eq_true rfl) ?_)))))
          | (refine And.intro (Exists.intro _ (And.intro rfl rfl)) ?_)
          | (exact fun hW => absurd hW (by decide +kernel))
          | (intro hW; (try simp only [Bool.not_true, Bool.not_false, Bool.not_eq_true', Bool.not_eq_false', decide_eq_true_eq, decide_eq_false_iff_not, reduceCtorEq, Bool.true_eq_false, Bool.false_eq_true, mk_size, List.size_toArray, ByteArray.size_append, ByteArray.size_extract, List.length_cons, List.length_nil, ba_get, ba_empty, Int.toNat_natCast] at hW))
          | (refine And.intro (?_ : _ → _) (?_ : _ → _))
          | (refine FinR.drop 0 (Nat.zero_le _) (Closed.zero _) rfl ?_)
          | (refine FinR.keep ?_)
          | (refine And.intro (det3_agg rfl) ?_)
          | (refine fL_mk ?_)
          | (refine And.intro (by (try simp only [mk_size, List.size_toArray, ByteArray.size_append, ByteArray.size_extract, List.length_cons, List.length_nil]); omega) ?_)
          | (refine And.intro (by (try simp only [mk_size, List.size_toArray, ByteArray.size_append, ByteArray.size_extract, List.length_cons, List.length_nil, wrap64_eq]); omega) ?_)
          | fail)
        all_goals first | (exfalso; omega) | skip
        refine Again.go (i + 1, cp2) ⟨rfl, rfl, slI' (wsucc' i (by omega)), trivial⟩ (.keep rfl) (by dsimp only; omega) (by dsimp only; omega)
    · obtain rfl : i = xs.length := by omega
      have h0 := h0 cp
      repeat' ((conv => whnf); first
        | (refine And.intro rfl ?_)
        | (refine And.intro (by decide +kernel) ?_)
        | (refine And.intro trivial ?_)
        | (refine Exists.intro _ (And.intro rfl (And.intro rfl (And.intro (Nat.le_of_ble_eq_true rfl) ?_))))
        | (refine Exists.intro _ (And.intro rfl (And.intro rfl (And.intro rfl (And.intro (Nat.le_of_ble_eq_true rfl) ?_)))))
        | (refine And.intro (Exists.intro _ (And.intro rfl rfl)) ?_)
        | (exact fun hW => absurd hW (by decide +kernel))
        | (intro hW; (try simp only [Bool.not_true, Bool.not_false, Bool.not_eq_true', Bool.not_eq_false', decide_eq_true_eq, decide_eq_false_iff_not, reduceCtorEq, Bool.true_eq_false, Bool.false_eq_true, mk_size, List.size_toArray, ByteArray.size_append, ByteArray.size_extract, List.length_cons, List.length_nil, ba_get, ba_empty, Int.toNat_natCast] at hW))
        | (refine And.intro (?_ : _ → _) (?_ : _ → _))
        | (refine FinR.drop 0 (Nat.zero_le _) (Closed.zero _) rfl ?_)
        | (refine FinR.keep ?_)
        | (refine And.intro (det3_agg rfl) ?_)
        | (refine fL_mk ?_)
        | (refine And.intro (by (try simp only [mk_size, List.size_toArray, ByteArray.size_append, ByteArray.size_extract, List.length_cons, List.length_nil]); omega) ?_)
        | (refine And.intro (by (try simp only [mk_size, List.size_toArray, ByteArray.size_append, ByteArray.size_extract, List.length_cons, List.length_nil, wrap64_eq]); omega) ?_)
        | fail)
      all_goals first | (exfalso; omega) | exact h0
  | own b ver off n cap B xs hB => simp at hB
theorem c_OverT (a : AV) (xs : List (List Int)) (ha : Sli W0 [] 9 enI a xs) (hx : ∀ x ∈ xs, x.length = 9) (hb : listB xs = true) (K : Cont)
    (h0 : ∀ cap, K (.tup [.sl 1 (prs (ovQ xs) xs.length xs.length).length 0 (prs (ovQ xs) xs.length xs.length).length cap, Bo true]) [lyB xs, prsB (prs (ovQ xs) xs.length xs.length)]) : ACall Try.prog W0 16 [a] [] K := by
  obtain ⟨hl, hall⟩ := listB_iff.1 hb
  obtain ⟨va, rfl⟩ := sli_lit ha
  refine by16 (Nat.le_of_ble_eq_true rfl) ?_
  have h6 : decide (xs.length ≤ 6) = true := by simpa using hl
  repeat' ((conv => whnf); first
    | (refine And.intro rfl ?_)
    | (refine And.intro (by decide +kernel) ?_)
    | (refine And.intro trivial ?_)
    | (refine c_layersOf (ha := ha) (hx := hx) (hl := by omega) (h1 := fun _ cp => ?_) (h2 := fun hf => by rw [hall] at hf; cases hf) ..; rw [h6])
    | (refine Exists.intro _ (And.intro rfl (And.intro rfl (And.intro (Nat.le_of_ble_eq_true rfl) ?_))))
    | (refine Exists.intro _ (And.intro rfl (And.intro rfl (And.intro rfl (And.intro (Nat.le_of_ble_eq_true rfl) ?_)))))
    | (refine And.intro (Exists.intro _ (And.intro rfl rfl)) ?_)
    | (exact fun hW => absurd hW (by decide +kernel))
    | (intro hW; (try simp only [Bool.not_true, Bool.not_false, Bool.not_eq_true', Bool.not_eq_false', decide_eq_true_eq, decide_eq_false_iff_not, reduceCtorEq, Bool.true_eq_false, Bool.false_eq_true, mk_size, List.size_toArray, ByteArray.size_append, ByteArray.size_extract, List.length_cons, List.length_nil, ba_get, ba_empty, Int.toNat_natCast] at hW))
    | (refine And.intro (?_ : _ → _) (?_ : _ → _))
    | (refine FinR.drop 0 (Nat.zero_le _) (Closed.zero _) rfl ?_)
    | (refine FinR.keep ?_)
    | (refine And.intro (det3_agg rfl) ?_)
    | (refine fL_mk ?_)
    | (refine And.intro (by (try simp only [mk_size, List.size_toArray, ByteArray.size_append, ByteArray.size_extract, List.length_cons, List.length_nil]); omega) ?_)
    | (refine And.intro (by (try simp only [mk_size, List.size_toArray, ByteArray.size_append, ByteArray.size_extract, List.length_cons, List.length_nil, wrap64_eq]); omega) ?_)
    | fail)
  all_goals first | (exfalso; omega) | (exfalso; simp_all; done) | skip
  refine LoopR.live (fun y : Nat × Nat => [(4, .sl 0 xs.length 0 xs.length cp), (6, .sl 1 (prs (ovQ xs) xs.length y.1).length 0 (prs (ovQ xs) xs.length y.1).length y.2), (18, I xs.length), (19, I y.1)]) (fun y => [lyB xs, prsB (prs (ovQ xs) xs.length y.1)]) (fun y => y.1 ≤ xs.length) (fun y => xs.length - y.1) (0, 0) ⟨rfl, rfl, rfl, rfl, trivial⟩ (.keep rfl) (Nat.zero_le _) ?_
  rintro ⟨i, cp1⟩ hi
  dsimp only at hi
  by_cases hlt : i < xs.length
  · obtain ⟨x, hxi⟩ : ∃ x, xs[i]? = some x := ⟨_, List.getElem?_eq_getElem hlt⟩
    have hp : pOk x = true := List.all_eq_true.1 hall _ (List.mem_of_getElem? hxi)
    have hs := pSet_lt (hx _ (List.mem_of_getElem? hxi)) hp
    repeat' ((conv => whnf); first
      | (refine And.intro rfl ?_)
      | (refine And.intro (by decide +kernel) ?_)
      | (refine And.intro trivial ?_)
      | (refine Exists.intro _ (And.intro rfl (And.intro rfl (And.intro (Nat.le_of_ble_eq_true rfl) ?_))))
      | (refine Exists.intro _ (And.intro rfl (And.intro rfl (And.intro rfl (And.intro (Nat.le_of_ble_eq_true rfl) ?_)))))
      | (refine And.intro (Exists.intro _ (And.intro rfl rfl)) ?_)
      | (exact fun hW => absurd hW (by decide +kernel))
      | (intro hW; (try simp only [Bool.not_true, Bool.not_false, Bool.not_eq_true', Bool.not_eq_false', decide_eq_true_eq, decide_eq_false_iff_not, reduceCtorEq, Bool.true_eq_false, Bool.false_eq_true, mk_size, List.size_toArray, ByteArray.size_append, ByteArray.size_extract, List.length_cons, List.length_nil, ba_get, ba_empty, Int.toNat_natCast] at hW))
      | (refine And.intro (?_ : _ → _) (?_ : _ → _))
      | (refine FinR.drop 0 (Nat.zero_le _) (Closed.zero _) rfl ?_)
      | (refine FinR.keep ?_)
      | (refine And.intro (det3_agg rfl) ?_)
      | (refine fL_mk ?_)
      | (refine And.intro (by (try simp only [mk_size, List.size_toArray, ByteArray.size_append, ByteArray.size_extract, List.length_cons, List.length_nil]); omega) ?_)
      | (refine And.intro (by (try simp only [mk_size, List.size_toArray, ByteArray.size_append, ByteArray.size_extract, List.length_cons, List.length_nil, wrap64_eq]); omega) ?_)
      | fail)
    all_goals first | (exfalso; omega) | skip
    refine LoopR.live (fun y : Nat × Nat => [(4, .sl 0 xs.length 0 xs.length cp), (6, .sl 1 (prO (ovQ xs) xs.length i y.1).length 0 (prO (ovQ xs) xs.length i y.1).length y.2), (7, I i), (8, I (i + 1 + y.1 : Nat)), (18, I xs.length), (19, I i)]) (fun y => [lyB xs, prsB (prO (ovQ xs) xs.length i y.1)]) (fun y => y.1 ≤ xs.length - (i + 1)) (fun y => xs.length - (i + 1) - y.1) (0, cp1) ⟨rfl, (by show AV.sl _ _ _ _ _ = AV.sl _ _ _ _ _; rw [prO_zero]), rfl, slI' (wsucc' i (by omega)), rfl, rfl, trivial⟩ (.keep (by dsimp only; rw [prO_zero])) (Nat.zero_le _) ?_
    rintro ⟨m, cp2⟩ hm
    dsimp only at hm
    have hln := prO_len (q := ovQ xs) (n := xs.length) (i := i) (m := m) hl (by omega) (by omega)
    have hl2 := jc_len2 (prO_row (ovQ xs) xs.length i m)
    have hst := prO_step (q := ovQ xs) (n := xs.length) (i := i) (m := m)
    by_cases hlt2 : i + 1 + m < xs.length
    · obtain ⟨y, hyi⟩ : ∃ y, xs[i + 1 + m]? = some y := ⟨_, List.getElem?_eq_getElem hlt2⟩
      have hp2 : pOk y = true := List.all_eq_true.1 hall _ (List.mem_of_getElem? hyi)
      have hs2 := pSet_lt (hx _ (List.mem_of_getElem? hyi)) hp2
      have hq := ovQ_at hxi hyi
      have hbd := bAndU hs hs2
      have hoff : ((i + 1 + m : Nat) : Int).toNat = i + 1 + m := Int.toNat_natCast _
      have hle1 : ∀ (off : Nat), off = i * 2 → off + 1 ≤ (lyC xs).length := fun off ho => lay_le hlt (by omega)
      have hle2 : ∀ (off : Nat), off = (i + 1 + m) * 2 → off + 1 ≤ (lyC xs).length := fun off ho => lay_le hlt2 (by omega)
      repeat' ((conv => whnf); first
        | (refine And.intro rfl (Exists.intro (lyB xs) (And.intro rfl (And.intro rfl (And.intro (hle1 _ (by rw [Int.toNat_natCast]; omega)) ?_)))); rw [lay_set hxi (by rw [Int.toNat_natCast]; omega)])
        | (refine And.intro rfl (Exists.intro (lyB xs) (And.intro rfl (And.intro rfl (And.intro (hle2 _ (by rw [hoff]; omega)) ?_)))); rw [lay_set hyi (by rw [hoff]; omega)])
        | (refine And.intro rfl ?_)
        | (refine And.intro (by decide +kernel) ?_)
        | (refine And.intro trivial ?_)
        | (refine Exists.intro _ (And.intro rfl (And.intro rfl (And.intro rfl (And.intro rfl (And.intro rfl (And.intro rfl (And.intro (by decide) (And.intro (by simp [hl2.symm]) (And.intro rfl (And.intro (by (try dsimp only); unfold maxLen; omega) (And.intro (by (try dsimp only); omega) (fun cap' hcap1 hcap2 => ?_)))))))))))))
        | (refine Exists.intro _ (And.intro rfl (And.intro rfl (And.intro (Nat.le_of_ble_eq_true rfl) ?_))))
        | (refine Exists.intro _ (And.intro rfl (And.intro rfl (And.intro rfl (And.intro (Nat.le_of_ble_eq_true rfl) ?_)))))
        | (refine And.intro (Exists.intro _ (And.intro rfl rfl)) ?_)
        | (exact fun hW => absurd hW (by decide +kernel))
        | (intro hW; (try simp only [Bool.not_true, Bool.not_false, Bool.not_eq_true', Bool.not_eq_false', decide_eq_true_eq, decide_eq_false_iff_not, reduceCtorEq, Bool.true_eq_false, Bool.false_eq_true, mk_size, List.size_toArray, ByteArray.size_append, ByteArray.size_extract, List.length_cons, List.length_nil, ba_get, ba_empty, Int.toNat_natCast] at hW))
        | (refine And.intro (?_ : _ → _) (?_ : _ → _))
        | (refine FinR.drop 0 (Nat.zero_le _) (Closed.zero _) rfl ?_)
        | (refine FinR.keep ?_)
        | (refine And.intro (det3_agg rfl) ?_)
        | (refine fL_mk ?_)
        | (refine And.intro (by (try simp only [mk_size, List.size_toArray, ByteArray.size_append, ByteArray.size_extract, List.length_cons, List.length_nil]); omega) ?_)
        | (refine And.intro (by (try simp only [mk_size, List.size_toArray, ByteArray.size_append, ByteArray.size_extract, List.length_cons, List.length_nil, wrap64_eq]); omega) ?_)
        | fail)
      all_goals first | (exfalso; omega) | skip
      all_goals (rw [hbd] at hW)
      · have hq1 : ovQ xs i (i + 1 + m) = true := by
          rw [hq]; simp; omega
        rw [hq1, if_pos rfl] at hst
        refine Again.go (m + 1, _) ⟨rfl, (by show AV.sl _ _ _ _ _ = AV.sl _ _ _ _ _; rw [hst, List.length_append]; rfl), rfl, slI' (wsucc' _ (by omega)), rfl, rfl, trivial⟩ (.keep ?_) (by dsimp only; omega) (by dsimp only; omega)
        dsimp only [prsB]
        rw [hst, List.length_append, jc_append]; rfl
      · have hq1 : ovQ xs i (i + 1 + m) = false := by
          rw [hq]; simp; omega
        rw [hq1, if_neg (by decide), List.append_nil] at hst
        refine Again.go (m + 1, cp2) ⟨rfl, (by show AV.sl _ _ _ _ _ = AV.sl _ _ _ _ _; rw [hst]), rfl, slI' (wsucc' _ (by omega)), rfl, rfl, trivial⟩ (.keep ?_) (by dsimp only; omega) (by dsimp only; omega)
        dsimp only [prsB]
        rw [hst]
    · obtain rfl : m = xs.length - (i + 1) := by omega
      repeat' ((conv => whnf); first
        | (refine And.intro rfl ?_)
        | (refine And.intro (by decide +kernel) ?_)
        | (refine And.intro trivial ?_)
        | (refine Exists.intro _ (And.intro rfl (And.intro rfl (And.intro (Nat.le_of_ble_eq_true rfl) ?_))))
        | (refine Exists.intro _ (And.intro rfl (And.intro rfl (And.intro rfl (And.intro (Nat.le_of_ble_eq_true rfl) ?_)))))
        | (refine And.intro (Exists.intro _ (And.intro rfl rfl)) ?_)
        | (exact fun hW => absurd hW (by decide +kernel))
        | (intro hW; (try simp only [Bool.not_true, Bool.not_false, Bool.not_eq_true', Bool.not_eq_false', decide_eq_true_eq, decide_eq_false_iff_not, reduceCtorEq, Bool.true_eq_false, Bool.false_eq_true, mk_size, List.size_toArray, ByteArray.size_append, ByteArray.size_extract, List.length_cons, List.length_nil, ba_get, ba_empty, Int.toNat_natCast] at hW))
        | (refine And.intro (?_ : _ → _) (?_ : _ → _))
        | (refine FinR.drop 0 (Nat.zero_le _) (Closed.zero _) rfl ?_)
        | (refine FinR.keep ?_)
        | (refine And.intro (det3_agg rfl) ?_)
        | (refine fL_mk ?_)
        | (refine And.intro (by (try simp only [mk_size, List.size_toArray, ByteArray.size_append, ByteArray.size_extract, List.length_cons, List.length_nil]); omega) ?_)
        | (refine And.intro (by (try simp only [mk_size, List.size_toArray, ByteArray.size_append, ByteArray.size_extract, List.length_cons, List.length_nil, wrap64_eq]); omega) ?_)
        | fail)
      all_goals first | (exfalso; omega) | skip
      refine Again.go (i + 1, cp2) ⟨rfl, rfl, rfl, slI' (wsucc' i (by omega)), trivial⟩ (.keep rfl) (by dsimp only; omega) (by dsimp only; omega)
  · obtain rfl : i = xs.length := by omega
    have h0 := h0 cp1
    repeat' ((conv => whnf); first
      | (refine And.intro rfl ?_)
      | (refine And.intro (by decide +kernel) ?_)
      | (refine And.intro trivial ?_)
      | (refine Exists.intro _ (And.intro rfl (And.intro rfl (And.intro (Nat.le_of_ble_eq_true rfl) ?_))))
      | (refine Exists.intro _ (And.intro rfl (And.intro rfl (And.intro rfl (And.intro (Nat.le_of_ble_eq_true rfl) ?_)))))
      | (refine And.intro (Exists.intro _ (And.intro rfl rfl)) ?_)
      | (exact fun hW => absurd hW (by decide +kernel))
      | (intro hW; (try simp only [Bool.not_true, Bool.not_false, Bool.not_eq_true', Bool.not_eq_false', decide_eq_true_eq, decide_eq_false_iff_not, reduceCtorEq, Bool.true_eq_false, Bool.false_eq_true, mk_size, List.size_toArray, ByteArray.size_append, ByteArray.size_extract, List.length_cons, List.length_nil, ba_get, ba_empty, Int.toNat_natCast] at hW))
      | (refine And.intro (?_ : _ → _) (?_ : _ → _))
      | (refine FinR.drop 0 (Nat.zero_le _) (Closed.zero _) rfl ?_)
      | (refine FinR.keep ?_)
      | (refine And.intro (det3_agg rfl) ?_)
      | (refine fL_mk ?_)
      | (refine And.intro (by (try simp only [mk_size, List.size_toArray, ByteArray.size_append, ByteArray.size_extract, List.length_cons, List.length_nil]); omega) ?_)
      | (refine And.intro (by (try simp only [mk_size, List.size_toArray, ByteArray.size_append, ByteArray.size_extract, List.length_cons, List.length_nil, wrap64_eq]); omega) ?_)
      | fail)
    all_goals first | (exfalso; omega) | exact h0
end Go.Proofs.Ythncpkdhcfaflaa
end

section
/- Contracts: the law of prints that overlap. -/
set_option linter.unusedVariables false
set_option linter.unusedSimpArgs false
set_option maxRecDepth 100000
set_option maxHeartbeats 4000000
namespace Go.Proofs.Ythncpkdhcfaflaa
open Go Go.RowKit Go.Proofs.Ythncpkdhcfaflaa.Abs
variable {W0 : World} {σ : List Blk}
theorem sh_prs (k : Nat) (l : List (List Int)) : shB k [prsB l] = [prsB l] := by simp only [shB, List.map_cons, List.map_nil, prsB, jc_sh]
theorem sh_lyprs (k : Nat) (xs l : List (List Int)) : shB k [lyB xs, prsB l] = [lyB xs, prsB l] := by simp only [shB, List.map_cons, List.map_nil, prsB, lyB, sh_lyC, jc_sh]
theorem c_sOverF (a : AV) (xs : List (List Int)) (ha : Sli W0 [] 9 enI a xs) (hx : ∀ x ∈ xs, x.length = 9) (hl : xs.length ≤ 1048576) (hb : listB xs = false) (K : Cont) (h0 : K (.tup [.sl 0 0 0 0 0, Bo false]) [prsB []]) : ACall Try.prog W0 14 [a] [] K := by
  obtain ⟨va, rfl⟩ := sli_lit ha
  refine by14 (Nat.le_of_ble_eq_true rfl) ?_
  repeat' ((conv => whnf); first
    | (refine And.intro rfl ?_)
    | (refine And.intro (by decide +kernel) ?_)
    | (refine And.intro trivial ?_)
    | (refine d_l8List (ha := sli_up ha) (hx := hx) (hl := hl) (h0 := ?_) ..; rw [hb])
    | (refine Exists.intro _ (And.intro rfl (And.intro rfl (And.intro (Nat.le_of_ble_eq_true rfl) ?_))))
    | (refine Exists.intro _ (And.intro rfl (And.intro rfl (And.intro rfl (And.intro (Nat.le_of_ble_eq_true rfl) ?_)))))
    | (refine And.intro (Exists.intro _ (And.intro rfl rfl)) ?_)
    | (exact fun hW => absurd hW (by decide +kernel))
    | (intro hW; (try simp only [Bool.not_true, Bool.not_false, Bool.not_eq_true', Bool.not_eq_false', decide_eq_true_eq, decide_eq_false_iff_not, reduceCtorEq, Bool.true_eq_false, Bool.false_eq_true, mk_size, List.size_toArray, ByteArray.size_append, ByteArray.size_extract, List.length_cons, List.length_nil, ba_get, ba_empty, Int.toNat_natCast] at hW))
    | (refine And.intro (?_ : _ → _) (?_ : _ → _))
    | (refine FinR.drop 0 (Nat.zero_le _) (Closed.zero _) rfl ?_)
    | (refine FinR.keep ?_)
    | (refine And.intro (det3_agg rfl) ?_)
    | (refine fL_mk ?_)
    | (refine And.intro (by (try simp only [mk_size, List.size_toArray, ByteArray.size_append, ByteArray.size_extract, List.length_cons, List.length_nil]); omega) ?_)
    | (refine And.intro (by (try simp only [mk_size, List.size_toArray, ByteArray.size_append, ByteArray.size_extract, List.length_cons, List.length_nil, wrap64_eq]); omega) ?_)
    | fail)
  all_goals first | (exfalso; omega) | (exfalso; simp_all; done) | exact h0
theorem c_OverF (a : AV) (xs : List (List Int)) (ha : Sli W0 [] 9 enI a xs) (hx : ∀ x ∈ xs, x.length = 9) (hl : xs.length ≤ 1048576) (hb : listB xs = false) (K : Cont) (h0 : K (.tup [nilA, Bo false]) []) : ACall Try.prog W0 16 [a] [] K := by
  obtain ⟨va, rfl⟩ := sli_lit ha
  refine by16 (Nat.le_of_ble_eq_true rfl) ?_
  have h6 : xs.all pOk = true → decide (xs.length ≤ 6) = false := by
    intro h; simp only [listB, h, Bool.and_true] at hb; exact hb
  repeat' ((conv => whnf); first
    | (refine And.intro rfl ?_)
    | (refine And.intro (by decide +kernel) ?_)
    | (refine And.intro trivial ?_)
    | (refine c_layersOf (ha := ha) (hx := hx) (hl := by omega) (h1 := fun hall cp => ?_) (h2 := fun hf => ?_) .. <;> try rw [h6 hall])
    | (refine Exists.intro _ (And.intro rfl (And.intro rfl (And.intro (Nat.le_of_ble_eq_true rfl) ?_))))
    | (refine Exists.intro _ (And.intro rfl (And.intro rfl (And.intro rfl (And.intro (Nat.le_of_ble_eq_true rfl) ?_)))))
    | (refine And.intro (Exists.intro _ (And.intro rfl rfl)) ?_)
    | (exact fun hW => absurd hW (by decide +kernel))
    | (intro hW; (try simp only [Bool.not_true, Bool.not_false, Bool.not_eq_true', Bool.not_eq_false', decide_eq_true_eq, decide_eq_false_iff_not, reduceCtorEq, Bool.true_eq_false, Bool.false_eq_true, mk_size, List.size_toArray, ByteArray.size_append, ByteArray.size_extract, List.length_cons, List.length_nil, ba_get, ba_empty, Int.toNat_natCast] at hW))
    | (refine And.intro (?_ : _ → _) (?_ : _ → _))
    | (refine FinR.drop 0 (Nat.zero_le _) (Closed.zero _) rfl ?_)
    | (refine FinR.keep ?_)
    | (refine And.intro (det3_agg rfl) ?_)
    | (refine fL_mk ?_)
    | (refine And.intro (by (try simp only [mk_size, List.size_toArray, ByteArray.size_append, ByteArray.size_extract, List.length_cons, List.length_nil]); omega) ?_)
    | (refine And.intro (by (try simp only [mk_size, List.size_toArray, ByteArray.size_append, ByteArray.size_extract, List.length_cons, List.length_nil, wrap64_eq]); omega) ?_)
    | fail)
  all_goals first | (exfalso; omega) | (exfalso; simp_all; done) | exact h0
theorem d_sOverF (a : AV) (xs : List (List Int)) (ha : Sli W0 σ 9 enI a xs) (hx : ∀ x ∈ xs, x.length = 9) (hl : xs.length ≤ 1048576) (hb : listB xs = false) (K : Cont) (h0 : K (.tup [.sl (σ.length + 0) 0 0 0 0, Bo false]) (σ ++ [prsB []])) : ACall Try.prog W0 14 [a] σ K :=
  lift_S1 (ι := Unit) (fun _ => .tup [.sl 0 0 0 0 0, Bo false]) (fun _ => [prsB []]) (by kernel_rfl) ha (fun W1 a' h K hK => c_sOverF a' xs h hx hl hb K (hK ())) K (fun _ => h0)
theorem d_OverF (a : AV) (xs : List (List Int)) (ha : Sli W0 σ 9 enI a xs) (hx : ∀ x ∈ xs, x.length = 9) (hl : xs.length ≤ 1048576) (hb : listB xs = false) (K : Cont) (h0 : K (.tup [nilA, Bo false]) σ) : ACall Try.prog W0 16 [a] σ K :=
  lift_S (by kernel_rfl) (fun _ => rfl) ha (fun W1 a' h K hK => c_OverF a' xs h hx hl hb K hK) K h0
theorem d_sOverT (a : AV) (xs : List (List Int)) (ha : Sli W0 σ 9 enI a xs) (hx : ∀ x ∈ xs, x.length = 9) (hb : listB xs = true) (K : Cont)
    (h0 : ∀ cap, K (.tup [.sl (σ.length + 0) (prs (ovQ xs) xs.length xs.length).length 0 (prs (ovQ xs) xs.length xs.length).length cap, Bo true]) (σ ++ [prsB (prs (ovQ xs) xs.length xs.length)])) : ACall Try.prog W0 14 [a] σ K :=
  lift_S1 (ι := Nat) (fun cap => .tup [.sl 0 (prs (ovQ xs) xs.length xs.length).length 0 (prs (ovQ xs) xs.length xs.length).length cap, Bo true]) (fun _ => [prsB (prs (ovQ xs) xs.length xs.length)]) (by kernel_rfl) ha
    (fun W1 a' h K hK => c_sOverT a' xs h hx hb K hK) K (fun cap => by rw [sh_prs]; exact h0 cap)
theorem d_OverT (a : AV) (xs : List (List Int)) (ha : Sli W0 σ 9 enI a xs) (hx : ∀ x ∈ xs, x.length = 9) (hb : listB xs = true) (K : Cont)
    (h0 : ∀ cap, K (.tup [.sl (σ.length + 1) (prs (ovQ xs) xs.length xs.length).length 0 (prs (ovQ xs) xs.length xs.length).length cap, Bo true]) (σ ++ [lyB xs, prsB (prs (ovQ xs) xs.length xs.length)])) : ACall Try.prog W0 16 [a] σ K :=
  lift_S1 (ι := Nat) (fun cap => .tup [.sl 1 (prs (ovQ xs) xs.length xs.length).length 0 (prs (ovQ xs) xs.length xs.length).length cap, Bo true]) (fun _ => [lyB xs, prsB (prs (ovQ xs) xs.length xs.length)]) (by kernel_rfl) ha
    (fun W1 a' h K hK => c_OverT a' xs h hx hb K hK) K (fun cap => by rw [sh_lyprs]; exact h0 cap)
theorem sli_rowsM2 {b ver n cap s m : Nat} {B : Blk} {k : Int} (hm : m = n * s) (hB : σ[b]? = some (mB B k m)) (hv : B.ver = ver) : Sli W0 σ s enI (.sl b ver 0 n cap) (rowsM k s n) :=
  .own b ver 0 _ cap _ _ hB hv (rowsM_len k s n).symm fun i x hi j v hj => by
    subst hm
    have hlt : i < n := by have := getElem?_lt hi; rwa [rowsM_len] at this
    rw [rowsM_get k s hlt] at hi
    cases hi
    rw [List.getElem?_map, Option.map_eq_some_iff] at hj
    obtain ⟨m, hm, rfl⟩ := hj
    have hj2 : j < s := by have := getElem?_lt hm; rwa [marks_len] at this
    rw [marks_get _ hj2] at hm
    cases hm
    have hb : i * s + j < n * s := by
      have : (i + 1) * s ≤ n * s := Nat.mul_le_mul_right s (by omega)
      rw [Nat.add_mul] at this; omega
    show ((marks k (n * s)).map I ++ B.cells.drop (n * s))[0 + i * s + j]? = _
    rw [Nat.zero_add, List.getElem?_append_left (by rw [List.length_map, marks_len]; exact hb), List.getElem?_map, marks_get k hb]
    show some (I (k + ((i * s + j : Nat) : Int))) = some (I (k + ((i * s : Nat) : Int) + (j : Int)))
    rw [Int.natCast_add, Int.add_assoc]
theorem c_law_OverlapsT (v : Value) (xs : List (List Int)) (ha : Sli W0 [] 9 enI (.lit v) xs) (hx : ∀ x ∈ xs, x.length = 9) (hb : listB xs = true) (K : Cont) (h0 : K (Bo true) []) : ACall Try.prog W0 3 [.lit v] [] K := by
  refine by3 (Nat.le_of_ble_eq_true rfl) ?_
  obtain ⟨hl, hall⟩ := listB_iff.1 hb
  have hz : ¬ ((1048576 : Int) - (xs.length : Nat) < 0) := by omega
  have hsl := prO_len (q := ovQ xs) (n := xs.length) (i := xs.length) (m := 0) hl hl (by omega)
  rw [prO_zero] at hsl
  have h2 := jc_len2 (prs_row (ovQ xs) xs.length xs.length)
  have h9 := jc_len9 hx
  repeat' ((conv => whnf); first
    | (refine And.intro rfl ?_)
    | (refine And.intro (by decide +kernel) ?_)
    | (refine And.intro trivial ?_)
    | (refine d_szPrintS (ha := sli_up ha) (hl := by omega) (hm := by decide) (h0 := ?_) .. <;> try rw [if_neg hz])
    | (refine d_toPrintS (hs := sli_up ha) (hx := hx) (hl := by omega) (h0 := ?_) ..)
    | (refine d_sOverT (ha := sli_rows hx rfl) (hx := hx) (hb := hb) (h0 := fun cap => ?_) ..)
    | (refine d_OverT (ha := sli_rows hx rfl) (hx := hx) (hb := hb) (h0 := fun cap => ?_) ..)
    | (refine d_eqIntA2S (ha := sli_rows (prs_row _ _ _) rfl) (hb' := sli_rows (prs_row _ _ _) rfl) (hx := prs_row _ _ _) (hl := by omega) (h0 := ?_) ..)
    | (refine d_eqPrintS (ha := sli_rows hx rfl) (hb' := sli_rows hx rfl) (hx := hx) (hl := by omega) (h0 := ?_) ..)
    | (refine d_markPrintS (B := prB xs) (hB := rfl) (hv := rfl) (hn := h9) (hn2 := by omega) (hk := by omega) (h0 := ?_) ..)
    | (refine d_markIntA2S (B := prsB (prs (ovQ xs) xs.length xs.length)) (hB := rfl) (hv := rfl) (hn := Nat.le_of_eq h2) (hn2 := by omega) (hk := by omega) (h0 := ?_) ..)
    | (refine d_heldIntA2S (ha := sli_rowsM2 (B := prsB (prs (ovQ xs) xs.length xs.length)) rfl rfl rfl) (hn2 := by omega) (hk := by omega) (h0 := ?_) ..)
    | (refine Exists.intro _ (And.intro rfl (And.intro rfl (And.intro (Nat.le_of_ble_eq_true rfl) ?_))))
    | (refine Exists.intro _ (And.intro rfl (And.intro rfl (And.intro rfl (And.intro (Nat.le_of_ble_eq_true rfl) ?_)))))
    | (refine And.intro (Exists.intro _ (And.intro rfl rfl)) ?_)
    | (exact fun hW => absurd hW (by decide +kernel))
    | (intro hW; (try simp only [Bool.not_true, Bool.not_false, Bool.not_eq_true', Bool.not_eq_false', decide_eq_true_eq, decide_eq_false_iff_not, reduceCtorEq, Bool.true_eq_false, Bool.false_eq_true, mk_size, List.size_toArray, ByteArray.size_append, ByteArray.size_extract, List.length_cons, List.length_nil, ba_get, ba_empty, Int.toNat_natCast] at hW))
    | (refine And.intro (?_ : _ → _) (?_ : _ → _))
    | (refine FinR.drop 0 (Nat.zero_le _) (Closed.zero _) rfl ?_)
    | (refine FinR.keep ?_)
    | (refine And.intro (det3_agg rfl) ?_)
    | (refine fL_mk ?_)
    | (refine And.intro (by (try simp only [mk_size, List.size_toArray, ByteArray.size_append, ByteArray.size_extract, List.length_cons, List.length_nil]); omega) ?_)
    | (refine And.intro (by (try simp only [mk_size, List.size_toArray, ByteArray.size_append, ByteArray.size_extract, List.length_cons, List.length_nil, wrap64_eq]); omega) ?_)
    | fail)
  all_goals first | exact h0 | (exfalso; omega) | (exfalso; simp_all; done) | skip
theorem c_law_OverlapsF (v : Value) (xs : List (List Int)) (ha : Sli W0 [] 9 enI (.lit v) xs) (hx : ∀ x ∈ xs, x.length = 9) (hl : xs.length ≤ 1048576) (hb : listB xs = false) (K : Cont) (h0 : K (Bo true) []) : ACall Try.prog W0 3 [.lit v] [] K := by
  refine by3 (Nat.le_of_ble_eq_true rfl) ?_
  have hz : ¬ ((1048576 : Int) - (xs.length : Nat) < 0) := by omega
  have h9 := jc_len9 hx
  have hnr : ∀ x ∈ ([] : List (List Int)), x.length = 2 := fun x h => by cases h
  repeat' ((conv => whnf); first
    | (refine And.intro rfl ?_)
    | (refine And.intro (by decide +kernel) ?_)
    | (refine And.intro trivial ?_)
    | (refine d_szPrintS (ha := sli_up ha) (hl := by omega) (hm := by decide) (h0 := ?_) .. <;> try rw [if_neg hz])
    | (refine d_toPrintS (hs := sli_up ha) (hx := hx) (hl := by omega) (h0 := ?_) ..)
    | (refine d_sOverF (ha := sli_rows hx rfl) (hx := hx) (hl := hl) (hb := hb) (h0 := ?_) ..)
    | (refine d_OverF (ha := sli_rows hx rfl) (hx := hx) (hl := hl) (hb := hb) (h0 := ?_) ..)
    | (refine d_eqIntA2S (xs := []) (ha := .nil) (hb' := sli_rows (xs := []) hnr rfl) (hx := hnr) (hl := by decide) (h0 := ?_) ..)
    | (refine d_eqPrintS (ha := sli_rows hx rfl) (hb' := sli_rows hx rfl) (hx := hx) (hl := by omega) (h0 := ?_) ..)
    | (refine d_markPrintS (B := prB xs) (hB := rfl) (hv := rfl) (hn := h9) (hn2 := by omega) (hk := by omega) (h0 := ?_) ..)
    | (refine d_markIntA2S0 (h0 := ?_) ..)
    | (refine d_heldIntA2S (n := 0) (ha := .nil) (hn2 := by omega) (hk := by omega) (h0 := ?_) ..)
    | (refine Exists.intro _ (And.intro rfl (And.intro rfl (And.intro (Nat.le_of_ble_eq_true rfl) ?_))))
    | (refine Exists.intro _ (And.intro rfl (And.intro rfl (And.intro rfl (And.intro (Nat.le_of_ble_eq_true rfl) ?_)))))
    | (refine And.intro (Exists.intro _ (And.intro rfl rfl)) ?_)
    | (exact fun hW => absurd hW (by decide +kernel))
    | (intro hW; (try simp only [Bool.not_true, Bool.not_false, Bool.not_eq_true', Bool.not_eq_false', decide_eq_true_eq, decide_eq_false_iff_not, reduceCtorEq, Bool.true_eq_false, Bool.false_eq_true, mk_size, List.size_toArray, ByteArray.size_append, ByteArray.size_extract, List.length_cons, List.length_nil, ba_get, ba_empty, Int.toNat_natCast] at hW))
    | (refine And.intro (?_ : _ → _) (?_ : _ → _))
    | (refine FinR.drop 0 (Nat.zero_le _) (Closed.zero _) rfl ?_)
    | (refine FinR.keep ?_)
    | (refine And.intro (det3_agg rfl) ?_)
    | (refine fL_mk ?_)
    | (refine And.intro (by (try simp only [mk_size, List.size_toArray, ByteArray.size_append, ByteArray.size_extract, List.length_cons, List.length_nil]); omega) ?_)
    | (refine And.intro (by (try simp only [mk_size, List.size_toArray, ByteArray.size_append, ByteArray.size_extract, List.length_cons, List.length_nil, wrap64_eq]); omega) ?_)
    | fail)
  all_goals first | exact h0 | (exfalso; omega) | (exfalso; simp_all; done) | skip
theorem c_law_Overlaps (v : Value) (xs : List (List Int)) (ha : Sli W0 [] 9 enI (.lit v) xs) (hxx : ∀ x ∈ xs, x.length = 9 ∧ ∀ n ∈ x, IntKind.i64.has n) (hm : xs.length ≤ maxLen) (K : Cont) (h0 : K (Bo true) []) : ACall Try.prog W0 3 [.lit v] [] K := by
  have hm' : xs.length ≤ 9223372036854775807 := hm
  have hx : ∀ x ∈ xs, x.length = 9 := fun x h => (hxx x h).1
  by_cases hl : xs.length ≤ 1048576
  · cases hb : listB xs with
    | true => exact c_law_OverlapsT v xs ha hx hb K h0
    | false => exact c_law_OverlapsF v xs ha hx hl hb K h0
  · refine by3 (Nat.le_of_ble_eq_true rfl) ?_
    have hz : ((1048576 : Int) - (xs.length : Nat) < 0) := by omega
    repeat' ((conv => whnf); first
      | (refine And.intro rfl ?_)
      | (refine And.intro (by decide +kernel) ?_)
      | (refine And.intro trivial ?_)
      | (refine d_szPrintS (ha := sli_up ha) (hl := hm') (hm := by decide) (h0 := ?_) .. <;> try rw [if_pos hz])
      | (refine Exists.intro _ (And.intro rfl (And.intro rfl (And.intro (Nat.le_of_ble_eq_true rfl) ?_))))
      | (refine Exists.intro _ (And.intro rfl (And.intro rfl (And.intro rfl (And.intro (Nat.le_of_ble_eq_true rfl) ?_)))))
      | (refine And.intro (Exists.intro _ (And.intro rfl rfl)) ?_)
      | (exact fun hW => absurd hW (by decide +kernel))
      | (intro hW; (try simp only [Bool.not_true, Bool.not_false, Bool.not_eq_true', Bool.not_eq_false', decide_eq_true_eq, decide_eq_false_iff_not, reduceCtorEq, Bool.true_eq_false, Bool.false_eq_true, mk_size, List.size_toArray, ByteArray.size_append, ByteArray.size_extract, List.length_cons, List.length_nil, ba_get, ba_empty, Int.toNat_natCast] at hW))
      | (refine And.intro (?_ : _ → _) (?_ : _ → _))
      | (refine FinR.drop 0 (Nat.zero_le _) (Closed.zero _) rfl ?_)
      | (refine FinR.keep ?_)
      | (refine And.intro (det3_agg rfl) ?_)
      | (refine fL_mk ?_)
      | (refine And.intro (by (try simp only [mk_size, List.size_toArray, ByteArray.size_append, ByteArray.size_extract, List.length_cons, List.length_nil]); omega) ?_)
      | (refine And.intro (by (try simp only [mk_size, List.size_toArray, ByteArray.size_append, ByteArray.size_extract, List.length_cons, List.length_nil, wrap64_eq]); omega) ?_)
      | fail)
    all_goals first | exact h0 | (exfalso; omega) | (exfalso; simp_all; done)
end Go.Proofs.Ythncpkdhcfaflaa
end
