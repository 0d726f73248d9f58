import Derived.Test.YtjekjbkllhompaaZT3
section
/- Contracts: lists of sheets and of steps that the laws make and compare. -/
set_option linter.unusedVariables false
set_option linter.unusedSimpArgs false
set_option maxRecDepth 100000
set_option maxHeartbeats 4000000
namespace Go.Proofs.Ytjekjbkllhompaa
open Go Go.RowKit Go.Proofs.Ytjekjbkllhompaa.Abs
variable {W0 : World} {σ : List Blk}
abbrev Ste (k s x y : Int) : AV := .agg [I k, I s, I x, I y]
theorem c_toStep (k s x y : Int) (K : Cont) (h0 : K (Ste k s x y) []) : ACall Try.prog W0 25 [Ste k s x y] [] K := by
  refine by25 (Nat.le_of_ble_eq_true rfl) ?_
  repeat' ((conv => whnf); first
    | (refine And.intro rfl ?_)
    | (refine And.intro (by decide +kernel) ?_)
    | (refine And.intro trivial ?_)
    | (refine d_toIntA2 (h0 := ?_) ..)
    | (refine Exists.intro _ (And.intro (fun τ => callW_fn (d_toIntA2 (h0 := And.intro rfl rfl) ..)) ?_))
    | (refine Exists.intro _ (And.intro (callW_fn (d_toIntA2 (h0 := And.intro rfl rfl) ..)) (And.intro trivial ?_)))
    | (refine Exists.intro _ (And.intro (callW_fn (d_toIntA2 (h0 := And.intro rfl rfl) ..)) ?_))
    | (refine Exists.intro _ (And.intro (fun τ _ => callW_fn (d_toIntA2 (h0 := And.intro rfl rfl) ..)) ?_))
    | (refine Exists.intro _ (And.intro rfl (And.intro rfl (And.intro (Nat.le_of_ble_eq_true rfl) ?_))))
    | (refine Exists.intro _ (And.intro rfl (And.intro rfl (And.intro rfl (And.intro (Nat.le_of_ble_eq_true rfl) ?_)))))
    | (refine And.intro (Exists.intro _ (And.intro rfl rfl)) ?_)
    | (exact fun hW => absurd hW (by decide +kernel))
    | (intro hW; (try simp only [Bool.not_true, Bool.not_false, Bool.not_eq_true', Bool.not_eq_false', decide_eq_true_eq, decide_eq_false_iff_not, reduceCtorEq, Bool.true_eq_false, Bool.false_eq_true, mk_size, List.size_toArray, ByteArray.size_append, ByteArray.size_extract, List.length_cons, List.length_nil, ba_get, ba_empty, Int.toNat_natCast] at hW))
    | (refine And.intro (?_ : _ → _) (?_ : _ → _))
    | (refine FinR.drop 0 (Nat.zero_le _) (Closed.zero _) rfl ?_)
    | (refine FinR.keep ?_)
    | (refine And.intro (det3_agg rfl) ?_)
    | (refine fL_mk ?_)
    | (refine And.intro (by (try simp only [mk_size, List.size_toArray, ByteArray.size_append, ByteArray.size_extract, List.length_cons, List.length_nil]); omega) ?_)
    | (refine And.intro (by (try simp only [mk_size, List.size_toArray, ByteArray.size_append, ByteArray.size_extract, List.length_cons, List.length_nil, wrap64_eq]); omega) ?_)
    | fail)
  all_goals first | exact h0 | (refine Eq.mp (congrArg (fun v => K v []) ?_) h0; clear h0; simp_all <;> omega)
theorem d_toStep (k s x y : Int) (K : Cont) (h0 : K (Ste k s x y) σ) : ACall Try.prog W0 25 [Ste k s x y] σ K :=
  ACall.lift rfl (fun _ => rfl) (fun W1 K _ hK => c_toStep k s x y K hK) h0
theorem c_eqStep (k s x y : Int) (K : Cont) (h0 : K (Bo true) []) : ACall Try.prog W0 31 [Ste k s x y, Ste k s x y] [] K := by
  refine by31 (Nat.le_of_ble_eq_true rfl) ?_
  repeat' ((conv => whnf); first
    | (refine And.intro rfl ?_)
    | (refine And.intro (by decide +kernel) ?_)
    | (refine And.intro trivial ?_)
    | (refine d_eqIntA2 (h0 := ?_) ..)
    | (refine Exists.intro _ (And.intro (fun τ => callW_fn (d_eqIntA2 (h0 := And.intro rfl rfl) ..)) ?_))
    | (refine Exists.intro _ (And.intro (callW_fn (d_eqIntA2 (h0 := And.intro rfl rfl) ..)) (And.intro trivial ?_)))
    | (refine Exists.intro _ (And.intro (callW_fn (d_eqIntA2 (h0 := And.intro rfl rfl) ..)) ?_))
    | (refine Exists.intro _ (And.intro (fun τ _ => callW_fn (d_eqIntA2 (h0 := And.intro rfl rfl) ..)) ?_))
    | (refine Exists.intro _ (And.intro rfl (And.intro rfl (And.intro (Nat.le_of_ble_eq_true rfl) ?_))))
    | (refine Exists.intro _ (And.intro rfl (And.intro rfl (And.intro rfl (And.intro (Nat.le_of_ble_eq_true rfl) ?_)))))
    | (refine And.intro (Exists.intro _ (And.intro rfl rfl)) ?_)
    | (exact fun hW => absurd hW (by decide +kernel))
    | (intro hW; (try simp only [Bool.not_true, Bool.not_false, Bool.not_eq_true', Bool.not_eq_false', decide_eq_true_eq, decide_eq_false_iff_not, reduceCtorEq, Bool.true_eq_false, Bool.false_eq_true, mk_size, List.size_toArray, ByteArray.size_append, ByteArray.size_extract, List.length_cons, List.length_nil, ba_get, ba_empty, Int.toNat_natCast] at hW))
    | (refine And.intro (?_ : _ → _) (?_ : _ → _))
    | (refine FinR.drop 0 (Nat.zero_le _) (Closed.zero _) rfl ?_)
    | (refine FinR.keep ?_)
    | (refine And.intro (det3_agg rfl) ?_)
    | (refine fL_mk ?_)
    | (refine And.intro (by (try simp only [mk_size, List.size_toArray, ByteArray.size_append, ByteArray.size_extract, List.length_cons, List.length_nil]); omega) ?_)
    | (refine And.intro (by (try simp only [mk_size, List.size_toArray, ByteArray.size_append, ByteArray.size_extract, List.length_cons, List.length_nil, wrap64_eq]); omega) ?_)
    | fail)
  all_goals first | exact h0 | (exfalso; simp_all; done)
theorem d_eqStep (k s x y : Int) (K : Cont) (h0 : K (Bo true) σ) : ACall Try.prog W0 31 [Ste k s x y, Ste k s x y] σ K :=
  ACall.lift rfl (fun _ => rfl) (fun W1 K _ hK => c_eqStep k s x y K hK) h0
theorem row6x {xs : List (List Int)} (hx : ∀ x ∈ xs, x.length = 6) {n : Nat} (hlt : n < xs.length) : ∃ c0 c1 c2 c3 c4 c5, xs[n]? = some [c0, c1, c2, c3, c4, c5] := by
  have hxi : xs[n]? = some xs[n] := List.getElem?_eq_getElem hlt
  have := hx _ (List.mem_of_getElem? hxi)
  rw [hxi]
  match hh : xs[n], this with
  | [c0, c1, c2, c3, c4, c5], _ => exact ⟨c0, c1, c2, c3, c4, c5, rfl⟩
theorem c_toSheetS (a : AV) (xs : List (List Int)) (hs : Sli W0 [] 6 enI a xs) (hx : ∀ x ∈ xs, x.length = 6) (hl : xs.length ≤ 1048576) (K : Cont) (h0 : K (.sl 0 0 0 xs.length xs.length) [⟨jc xs, 0, 32, 6, true, true⟩]) : ACall Try.prog W0 14 [a] [] K := by
  refine by14 (Nat.le_of_ble_eq_true rfl) ?_
  obtain ⟨o, n, cap, rfl, hn, hc, hm, hf⟩ := sli_form hs
  subst hn
  have hmk : (48 : Int) * (xs.length : Int) ≤ 281474976710656 := by omega
  have hmk2 : ((xs.length : Nat) : Int).toNat ≤ maxLen := by unfold maxLen; omega
  repeat' ((conv => whnf); first
    | (refine And.intro (Int.natCast_nonneg xs.length) (And.intro (Int.le_refl _) (And.intro hmk (And.intro (by omega) (And.intro hmk2 ?_)))))
    | (refine And.intro rfl ?_)
    | (refine And.intro (by decide +kernel) ?_)
    | (refine And.intro trivial ?_)
    | (refine Exists.intro _ (And.intro rfl (And.intro rfl (And.intro (Nat.le_of_ble_eq_true rfl) ?_))))
    | (refine Exists.intro _ (And.intro rfl (And.intro rfl (And.intro rfl (And.intro (Nat.le_of_ble_eq_true rfl) ?_)))))
    | (refine And.intro (Exists.intro _ (And.intro rfl rfl)) ?_)
    | (exact fun hW => absurd hW (by decide +kernel))
    | (intro hW; (try simp only [Bool.not_true, Bool.not_false, Bool.not_eq_true', Bool.not_eq_false', decide_eq_true_eq, decide_eq_false_iff_not, reduceCtorEq, Bool.true_eq_false, Bool.false_eq_true, mk_size, List.size_toArray, ByteArray.size_append, ByteArray.size_extract, List.length_cons, List.length_nil, ba_get, ba_empty, Int.toNat_natCast] at hW))
    | (refine And.intro (?_ : _ → _) (?_ : _ → _))
    | (refine FinR.drop 0 (Nat.zero_le _) (Closed.zero _) rfl ?_)
    | (refine FinR.keep ?_)
    | (refine And.intro (det3_agg rfl) ?_)
    | (refine fL_mk ?_)
    | (refine And.intro (by (try simp only [mk_size, List.size_toArray, ByteArray.size_append, ByteArray.size_extract, List.length_cons, List.length_nil]); omega) ?_)
    | (refine And.intro (by (try simp only [mk_size, List.size_toArray, ByteArray.size_append, ByteArray.size_extract, List.length_cons, List.length_nil, wrap64_eq]); omega) ?_)
    | fail)
  refine LoopR.live (fun i : Nat => [(0, .lit (.slice o xs.length cap)), (3, .sl 0 0 0 xs.length xs.length), (4, I i)]) (fun i => [⟨jst xs i [I 0, I 0, I 0, I 0, I 0, I 0], 0, 32, 6, true, true⟩]) (fun i => i ≤ xs.length) (fun i => xs.length - i) 0 ⟨rfl, rfl, rfl, trivial⟩ (.keep rfl) (Nat.zero_le _) ?_
  intro i hi
  by_cases hlt : i < xs.length
  · obtain ⟨c0, c1, c2, c3, c4, c5, hxi⟩ := row6x hx hlt
    obtain ⟨ad, rfl, hb, hxx⟩ := hf i _ hxi
    have hld := fun C h => ldIn (W0 := W0) (s := 6) (enc := enI) hb hxx (k := i) hxi rfl (C := C) h
    have hlen : 0 + ((i : Nat) : Int).toNat * 6 + 6 ≤ (jst xs i [I 0, I 0, I 0, I 0, I 0, I 0]).length := by rw [jst_len (s := 6) hx rfl hi, Int.toNat_natCast]; omega
    have hst := jst_step (s := 6) (zc := [I 0, I 0, I 0, I 0, I 0, I 0]) hx rfl hxi
    repeat' ((conv => whnf); first
      | (refine Exists.intro _ (And.intro rfl (And.intro rfl (And.intro rfl (And.intro hlen ?_)))))
      | (refine And.intro rfl ?_)
      | (refine And.intro (by decide +kernel) ?_)
      | (refine And.intro trivial ?_)
      | (refine hld _ ?_)
      | (refine d_toSheet (h0 := ?_) ..)
      | (refine Exists.intro _ (And.intro (fun τ => callW_fn (d_toSheet (h0 := And.intro rfl rfl) ..)) ?_))
      | (refine Exists.intro _ (And.intro (callW_fn (d_toSheet (h0 := And.intro rfl rfl) ..)) (And.intro trivial ?_)))
      | (refine Exists.intro _ (And.intro (callW_fn (d_toSheet (h0 := And.intro rfl rfl) ..)) ?_))
      | (refine Exists.intro _ (And.intro (fun τ _ => callW_fn (d_toSheet (h0 := And.intro rfl rfl) ..)) ?_))
      | (refine Exists.intro _ (And.intro rfl (And.intro rfl (And.intro (Nat.le_of_ble_eq_true rfl) ?_))))
      | (refine Exists.intro _ (And.intro rfl (And.intro rfl (And.intro rfl (And.intro (Nat.le_of_ble_eq_true rfl) ?_)))))
      | (refine And.intro (Exists.intro _ (And.intro rfl rfl)) ?_)
      | (exact fun hW => absurd hW (by decide +kernel))
      | (intro hW; (try simp only [Bool.not_true, Bool.not_false, Bool.not_eq_true', Bool.not_eq_false', decide_eq_true_eq, decide_eq_false_iff_not, reduceCtorEq, Bool.true_eq_false, Bool.false_eq_true, mk_size, List.size_toArray, ByteArray.size_append, ByteArray.size_extract, List.length_cons, List.length_nil, ba_get, ba_empty, Int.toNat_natCast] at hW))
      | (refine And.intro (?_ : _ → _) (?_ : _ → _))
      | (refine FinR.drop 0 (Nat.zero_le _) (Closed.zero _) rfl ?_)
      | (refine FinR.keep ?_)
      | (refine And.intro (det3_agg rfl) ?_)
      | (refine fL_mk ?_)
      | (refine And.intro (by (try simp only [mk_size, List.size_toArray, ByteArray.size_append, ByteArray.size_extract, List.length_cons, List.length_nil]); omega) ?_)
      | (refine And.intro (by (try simp only [mk_size, List.size_toArray, ByteArray.size_append, ByteArray.size_extract, List.length_cons, List.length_nil, wrap64_eq]); omega) ?_)
      | fail)
    all_goals first | (exfalso; omega) | skip
    refine Again.go (i + 1) ⟨rfl, rfl, slI' (wsucc' i (by omega)), trivial⟩ (.keep ?_) (by omega) (by omega)
    show _ = [_]
    rw [← hst]
    simp only [Int.toNat_natCast, Nat.zero_add]
    rfl
  · obtain rfl : i = xs.length := by omega
    have e : jst xs xs.length [I 0, I 0, I 0, I 0, I 0, I 0] = jc xs := by simp [jst, rep]
    rw [e]
    repeat' ((conv => whnf); first
      | (refine And.intro rfl ?_)
      | (refine And.intro (by decide +kernel) ?_)
      | (refine And.intro trivial ?_)
      | (refine Exists.intro _ (And.intro rfl (And.intro rfl (And.intro (Nat.le_of_ble_eq_true rfl) ?_))))
      | (refine Exists.intro _ (And.intro rfl (And.intro rfl (And.intro rfl (And.intro (Nat.le_of_ble_eq_true rfl) ?_)))))
      | (refine And.intro (Exists.intro _ (And.intro rfl rfl)) ?_)
      | (exact fun hW => absurd hW (by decide +kernel))
      | (intro hW; (try simp only [Bool.not_true, Bool.not_false, Bool.not_eq_true', Bool.not_eq_false', decide_eq_true_eq, decide_eq_false_iff_not, reduceCtorEq, Bool.true_eq_false, Bool.false_eq_true, mk_size, List.size_toArray, ByteArray.size_append, ByteArray.size_extract, List.length_cons, List.length_nil, ba_get, ba_empty, Int.toNat_natCast] at hW))
      | (refine And.intro (?_ : _ → _) (?_ : _ → _))
      | (refine FinR.drop 0 (Nat.zero_le _) (Closed.zero _) rfl ?_)
      | (refine FinR.keep ?_)
      | (refine And.intro (det3_agg rfl) ?_)
      | (refine fL_mk ?_)
      | (refine And.intro (by (try simp only [mk_size, List.size_toArray, ByteArray.size_append, ByteArray.size_extract, List.length_cons, List.length_nil]); omega) ?_)
      | (refine And.intro (by (try simp only [mk_size, List.size_toArray, ByteArray.size_append, ByteArray.size_extract, List.length_cons, List.length_nil, wrap64_eq]); omega) ?_)
      | fail)
    all_goals first | (exfalso; omega) | exact h0
theorem d_toSheetS (a : AV) (xs : List (List Int)) (hs : Sli W0 σ 6 enI a xs) (hx : ∀ x ∈ xs, x.length = 6) (hl : xs.length ≤ 1048576) (K : Cont) (h0 : K (.sl (σ.length + 0) 0 0 xs.length xs.length) (σ ++ [⟨jc xs, 0, 32, 6, true, true⟩])) : ACall Try.prog W0 14 [a] σ K :=
  lift_S1 (ι := Unit) (fun _ => .sl 0 0 0 xs.length xs.length) (fun _ => [⟨jc xs, 0, 32, 6, true, true⟩]) (by kernel_rfl) hs (fun W1 a' h K hK => c_toSheetS a' xs h hx hl K (hK ())) K (fun _ => by
    rw [show shB σ.length [(⟨jc xs, 0, 32, 6, true, true⟩ : Blk)] = [⟨jc xs, 0, 32, 6, true, true⟩] by simp [shB, jc_sh]]; exact h0)
theorem c_szSheetS (a : AV) (xs : List (List Int)) (m : Int) (ha : Sli W0 [] 6 enI a xs) (hl : xs.length ≤ 9223372036854775807) (hm : 0 ≤ m ∧ m ≤ 1048576) (K : Cont) (h0 : K (I (if m - (xs.length : Nat) < 0 then -1 else m - (xs.length : Nat))) []) : ACall Try.prog W0 9 [a, I m] [] K := by
  refine by9 (Nat.le_of_ble_eq_true rfl) ?_
  have e1 : IntKind.i64.wrap (m - (xs.length : Nat)) = m - (xs.length : Nat) := wrap_i64 _ (by omega) (by omega)
  obtain ⟨o, n, cap, rfl, hn, hc, hm', hf⟩ := sli_form ha
  subst hn
  repeat' ((conv => whnf); first
    | (refine And.intro rfl ?_)
    | (refine And.intro (by decide +kernel) ?_)
    | (refine And.intro trivial ?_)
    | (refine Exists.intro _ (And.intro rfl (And.intro rfl (And.intro (Nat.le_of_ble_eq_true rfl) ?_))))
    | (refine Exists.intro _ (And.intro rfl (And.intro rfl (And.intro rfl (And.intro (Nat.le_of_ble_eq_true rfl) ?_)))))
    | (refine And.intro (Exists.intro _ (And.intro rfl rfl)) ?_)
    | (exact fun hW => absurd hW (by decide +kernel))
    | (intro hW; (try simp only [Bool.not_true, Bool.not_false, Bool.not_eq_true', Bool.not_eq_false', decide_eq_true_eq, decide_eq_false_iff_not, reduceCtorEq, Bool.true_eq_false, Bool.false_eq_true, mk_size, List.size_toArray, ByteArray.size_append, ByteArray.size_extract, List.length_cons, List.length_nil, ba_get, ba_empty, Int.toNat_natCast] at hW))
    | (refine And.intro (?_ : _ → _) (?_ : _ → _))
    | (refine FinR.drop 0 (Nat.zero_le _) (Closed.zero _) rfl ?_)
    | (refine FinR.keep ?_)
    | (refine And.intro (det3_agg rfl) ?_)
    | (refine fL_mk ?_)
    | (refine And.intro (by (try simp only [mk_size, List.size_toArray, ByteArray.size_append, ByteArray.size_extract, List.length_cons, List.length_nil]); omega) ?_)
    | (refine And.intro (by (try simp only [mk_size, List.size_toArray, ByteArray.size_append, ByteArray.size_extract, List.length_cons, List.length_nil, wrap64_eq]); omega) ?_)
    | fail)
  all_goals (rw [e1] at *)
  all_goals (refine kI' h0 ?_; first | rw [if_pos (by omega)] | rw [if_neg (by omega)])
theorem d_szSheetS (a : AV) (xs : List (List Int)) (m : Int) (ha : Sli W0 σ 6 enI a xs) (hl : xs.length ≤ 9223372036854775807) (hm : 0 ≤ m ∧ m ≤ 1048576) (K : Cont) (h0 : K (I (if m - (xs.length : Nat) < 0 then -1 else m - (xs.length : Nat))) σ) : ACall Try.prog W0 9 [a, I m] σ K :=
  lift_Sp (by kernel_rfl) rfl (fun _ => rfl) ha (fun W1 a' h K hK => c_szSheetS a' xs m h hl hm K hK) K h0
theorem c_eqSheetS (a b : AV) (xs : List (List Int)) (ha : Sli W0 [] 6 enI a xs) (hb' : Sli W0 [] 6 enI b xs) (hx : ∀ x ∈ xs, x.length = 6) (hl : xs.length ≤ 1048576) (K : Cont) (h0 : K (Bo true) []) : ACall Try.prog W0 19 [a, b] [] K := by
  refine by19 (Nat.le_of_ble_eq_true rfl) ?_
  obtain ⟨o, n, cap, rfl, hn, hc, hm, hf⟩ := sli_form ha
  obtain ⟨o2, n2, cap2, rfl, hn2, hc2, hm2, hf2⟩ := sli_form hb'
  subst hn
  have hnl : xs.length = n2 := hn2.symm
  subst hn2
  repeat' ((conv => whnf); first
    | (refine And.intro rfl ?_)
    | (refine And.intro (by decide +kernel) ?_)
    | (refine And.intro trivial ?_)
    | (refine Exists.intro _ (And.intro rfl (And.intro rfl (And.intro (Nat.le_of_ble_eq_true rfl) ?_))))
    | (refine Exists.intro _ (And.intro rfl (And.intro rfl (And.intro rfl (And.intro (Nat.le_of_ble_eq_true rfl) ?_)))))
    | (refine And.intro (Exists.intro _ (And.intro rfl rfl)) ?_)
    | (exact fun hW => absurd hW (by decide +kernel))
    | (intro hW; (try simp only [Bool.not_true, Bool.not_false, Bool.not_eq_true', Bool.not_eq_false', decide_eq_true_eq, decide_eq_false_iff_not, reduceCtorEq, Bool.true_eq_false, Bool.false_eq_true, mk_size, List.size_toArray, ByteArray.size_append, ByteArray.size_extract, List.length_cons, List.length_nil, ba_get, ba_empty, Int.toNat_natCast] at hW))
    | (refine And.intro (?_ : _ → _) (?_ : _ → _))
    | (refine FinR.drop 0 (Nat.zero_le _) (Closed.zero _) rfl ?_)
    | (refine FinR.keep ?_)
    | (refine And.intro (det3_agg rfl) ?_)
    | (refine fL_mk ?_)
    | (refine And.intro (by (try simp only [mk_size, List.size_toArray, ByteArray.size_append, ByteArray.size_extract, List.length_cons, List.length_nil]); omega) ?_)
    | (refine And.intro (by (try simp only [mk_size, List.size_toArray, ByteArray.size_append, ByteArray.size_extract, List.length_cons, List.length_nil, wrap64_eq]); omega) ?_)
    | fail)
  all_goals first | (exfalso; omega) | (exfalso; simp_all; done) | skip
  refine LoopR.live (fun i : Nat => [(0, .lit (.slice o xs.length cap)), (1, .lit (.slice o2 xs.length cap2)), (5, I i)]) (fun i => []) (fun i => i ≤ xs.length) (fun i => xs.length - i) 0 ⟨rfl, rfl, rfl, trivial⟩ (.keep rfl) (Nat.zero_le _) ?_
  intro i hi
  by_cases hlt : i < xs.length
  · obtain ⟨c0, c1, c2, c3, c4, c5, hxi⟩ := row6x hx hlt
    obtain ⟨ad, rfl, hb, hxx⟩ := hf i _ hxi
    obtain ⟨ad2, rfl, hb2, hxx2⟩ := hf2 i _ hxi
    have hld := fun C h => ldIn (W0 := W0) (s := 6) (enc := enI) hb hxx (k := i) hxi rfl (C := C) h
    have hld2 := fun C h => ldIn (W0 := W0) (s := 6) (enc := enI) hb2 hxx2 (k := i) hxi rfl (C := C) h
    repeat' ((conv => whnf); first
      | (refine And.intro rfl ?_)
      | (refine And.intro (by decide +kernel) ?_)
      | (refine And.intro trivial ?_)
      | (refine hld _ ?_)
      | (refine hld2 _ ?_)
      | (refine d_eqSheet (h0 := ?_) ..)
      | (refine Exists.intro _ (And.intro (fun τ => callW_fn (d_eqSheet (h0 := And.intro rfl rfl) ..)) ?_))
      | (refine Exists.intro _ (And.intro (callW_fn (d_eqSheet (h0 := And.intro rfl rfl) ..)) (And.intro trivial ?_)))
      | (refine Exists.intro _ (And.intro (callW_fn (d_eqSheet (h0 := And.intro rfl rfl) ..)) ?_))
      | (refine Exists.intro _ (And.intro (fun τ _ => callW_fn (d_eqSheet (h0 := And.intro rfl rfl) ..)) ?_))
      | (refine And.intro rfl (hld _ ?_))
      | (refine And.intro rfl (hld2 _ ?_))
      | (refine Exists.intro _ (And.intro rfl (And.intro rfl (And.intro (Nat.le_of_ble_eq_true rfl) ?_))))
      | (refine Exists.intro _ (And.intro rfl (And.intro rfl (And.intro rfl (And.intro (Nat.le_of_ble_eq_true rfl) ?_)))))
      | (refine And.intro (Exists.intro _ (And.intro rfl rfl)) ?_)
      | (exact fun hW => absurd hW (by decide +kernel))
      | (intro hW; (try simp only [Bool.not_true, Bool.not_false, Bool.not_eq_true', Bool.not_eq_false', decide_eq_true_eq, decide_eq_false_iff_not, reduceCtorEq, Bool.true_eq_false, Bool.false_eq_true, mk_size, List.size_toArray, ByteArray.size_append, ByteArray.size_extract, List.length_cons, List.length_nil, ba_get, ba_empty, Int.toNat_natCast] at hW))
      | (refine And.intro (?_ : _ → _) (?_ : _ → _))
      | (refine FinR.drop 0 (Nat.zero_le _) (Closed.zero _) rfl ?_)
      | (refine FinR.keep ?_)
      | (refine And.intro (det3_agg rfl) ?_)
      | (refine fL_mk ?_)
      | (refine And.intro (by (try simp only [mk_size, List.size_toArray, ByteArray.size_append, ByteArray.size_extract, List.length_cons, List.length_nil]); omega) ?_)
      | (refine And.intro (by (try simp only [mk_size, List.size_toArray, ByteArray.size_append, ByteArray.size_extract, List.length_cons, List.length_nil, wrap64_eq]); omega) ?_)
      | fail)
    all_goals first | (exfalso; omega) | (exfalso; simp_all [eq6]; done) | skip
    exact Again.go (i + 1) ⟨rfl, rfl, slI' (wsucc' i (by omega)), trivial⟩ (.keep rfl) (by omega) (by omega)
  · obtain rfl : i = xs.length := by omega
    repeat' ((conv => whnf); first
      | (refine And.intro rfl ?_)
      | (refine And.intro (by decide +kernel) ?_)
      | (refine And.intro trivial ?_)
      | (refine Exists.intro _ (And.intro rfl (And.intro rfl (And.intro (Nat.le_of_ble_eq_true rfl) ?_))))
      | (refine Exists.intro _ (And.intro rfl (And.intro rfl (And.intro rfl (And.intro (Nat.le_of_ble_eq_true rfl) ?_)))))
      | (refine And.intro (Exists.intro _ (And.intro rfl rfl)) ?_)
      | (exact fun hW => absurd hW (by decide +kernel))
      | (intro hW; (try simp only [Bool.not_true, Bool.not_false, Bool.not_eq_true', Bool.not_eq_false', decide_eq_true_eq, decide_eq_false_iff_not, reduceCtorEq, Bool.true_eq_false, Bool.false_eq_true, mk_size, List.size_toArray, ByteArray.size_append, ByteArray.size_extract, List.length_cons, List.length_nil, ba_get, ba_empty, Int.toNat_natCast] at hW))
      | (refine And.intro (?_ : _ → _) (?_ : _ → _))
      | (refine FinR.drop 0 (Nat.zero_le _) (Closed.zero _) rfl ?_)
      | (refine FinR.keep ?_)
      | (refine And.intro (det3_agg rfl) ?_)
      | (refine fL_mk ?_)
      | (refine And.intro (by (try simp only [mk_size, List.size_toArray, ByteArray.size_append, ByteArray.size_extract, List.length_cons, List.length_nil]); omega) ?_)
      | (refine And.intro (by (try simp only [mk_size, List.size_toArray, ByteArray.size_append, ByteArray.size_extract, List.length_cons, List.length_nil, wrap64_eq]); omega) ?_)
      | fail)
    all_goals first | (exfalso; omega) | exact h0
theorem d_eqSheetS (a b : AV) (xs : List (List Int)) (ha : Sli W0 σ 6 enI a xs) (hb' : Sli W0 σ 6 enI b xs) (hx : ∀ x ∈ xs, x.length = 6) (hl : xs.length ≤ 1048576) (K : Cont) (h0 : K (Bo true) σ) : ACall Try.prog W0 19 [a, b] σ K :=
  lift_Ss (by kernel_rfl) (fun _ => rfl) ha hb' (fun W1 a' b' h h' K hK => c_eqSheetS a' b' xs h h' hx hl K hK) K h0
theorem row4x {xs : List (List Int)} (hx : ∀ x ∈ xs, x.length = 4) {n : Nat} (hlt : n < xs.length) : ∃ c0 c1 c2 c3, xs[n]? = some [c0, c1, c2, c3] := by
  have hxi : xs[n]? = some xs[n] := List.getElem?_eq_getElem hlt
  have := hx _ (List.mem_of_getElem? hxi)
  rw [hxi]
  match hh : xs[n], this with
  | [c0, c1, c2, c3], _ => exact ⟨c0, c1, c2, c3, rfl⟩
theorem c_toStepS (a : AV) (xs : List (List Int)) (hs : Sli W0 [] 4 enI a xs) (hx : ∀ x ∈ xs, x.length = 4) (hl : xs.length ≤ 1048576) (K : Cont) (h0 : K (.sl 0 0 0 xs.length xs.length) [⟨jc xs, 0, 50, 4, true, true⟩]) : ACall Try.prog W0 15 [a] [] K := by
  refine by15 (Nat.le_of_ble_eq_true rfl) ?_
  obtain ⟨o, n, cap, rfl, hn, hc, hm, hf⟩ := sli_form hs
  subst hn
  have hmk : (32 : Int) * (xs.length : Int) ≤ 281474976710656 := by omega
  have hmk2 : ((xs.length : Nat) : Int).toNat ≤ maxLen := by unfold maxLen; omega
  repeat' ((conv => whnf); first
    | (refine And.intro (Int.natCast_nonneg xs.length) (And.intro (Int.le_refl _) (And.intro hmk (And.intro (by omega) (And.intro hmk2 ?_)))))
    | (refine And.intro rfl ?_)
    | (refine And.intro (by decide +kernel) ?_)
    | (refine And.intro trivial ?_)
    | (refine Exists.intro _ (And.intro rfl (And.intro rfl (And.intro (Nat.le_of_ble_eq_true rfl) ?_))))
    | (refine Exists.intro _ (And.intro rfl (And.intro rfl (And.intro rfl (And.intro (Nat.le_of_ble_eq_true rfl) ?_)))))
    | (refine And.intro (Exists.intro _ (And.intro rfl rfl)) ?_)
    | (exact fun hW => absurd hW (by decide +kernel))
    | (intro hW; (try simp only [Bool.not_true, Bool.not_false, Bool.not_eq_true', Bool.not_eq_false', decide_eq_true_eq, decide_eq_false_iff_not, reduceCtorEq, Bool.true_eq_false, Bool.false_eq_true, mk_size, List.size_toArray, ByteArray.size_append, ByteArray.size_extract, List.length_cons, List.length_nil, ba_get, ba_empty, Int.toNat_natCast] at hW))
    | (refine And.intro (?_ : _ → _) (?_ : _ → _))
    | (refine FinR.drop 0 (Nat.zero_le _) (Closed.zero _) rfl ?_)
    | (refine FinR.keep ?_)
    | (refine And.intro (det3_agg rfl) ?_)
    | (refine fL_mk ?_)
    | (refine And.intro (by (try simp only [mk_size, List.size_toArray, ByteArray.size_append, ByteArray.size_extract, List.length_cons, List.length_nil]); omega) ?_)
    | (refine And.intro (by (try simp only [mk_size, List.size_toArray, ByteArray.size_append, ByteArray.size_extract, List.length_cons, List.length_nil, wrap64_eq]); omega) ?_)
    | fail)
  refine LoopR.live (fun i : Nat => [(0, .lit (.slice o xs.length cap)), (3, .sl 0 0 0 xs.length xs.length), (4, I i)]) (fun i => [⟨jst xs i [I 0, I 0, I 0, I 0], 0, 50, 4, true, true⟩]) (fun i => i ≤ xs.length) (fun i => xs.length - i) 0 ⟨rfl, rfl, rfl, trivial⟩ (.keep rfl) (Nat.zero_le _) ?_
  intro i hi
  by_cases hlt : i < xs.length
  · obtain ⟨c0, c1, c2, c3, hxi⟩ := row4x hx hlt
    obtain ⟨ad, rfl, hb, hxx⟩ := hf i _ hxi
    have hld := fun C h => ldIn (W0 := W0) (s := 4) (enc := enI) hb hxx (k := i) hxi rfl (C := C) h
    have hlen : 0 + ((i : Nat) : Int).toNat * 4 + 4 ≤ (jst xs i [I 0, I 0, I 0, I 0]).length := by rw [jst_len (s := 4) hx rfl hi, Int.toNat_natCast]; omega
    have hst := jst_step (s := 4) (zc := [I 0, I 0, I 0, I 0]) hx rfl hxi
    repeat' ((conv => whnf); first
      | (refine Exists.intro _ (And.intro rfl (And.intro rfl (And.intro rfl (And.intro hlen ?_)))))
      | (refine And.intro rfl ?_)
      | (refine And.intro (by decide +kernel) ?_)
      | (refine And.intro trivial ?_)
      | (refine hld _ ?_)
      | (refine d_toStep (h0 := ?_) ..)
      | (refine Exists.intro _ (And.intro (fun τ => callW_fn (d_toStep (h0 := And.intro rfl rfl) ..)) ?_))
      | (refine Exists.intro _ (And.intro (callW_fn (d_toStep (h0 := And.intro rfl rfl) ..)) (And.intro trivial ?_)))
      | (refine Exists.intro _ (And.intro (callW_fn (d_toStep (h0 := And.intro rfl rfl) ..)) ?_))
      | (refine Exists.intro _ (And.intro (fun τ _ => callW_fn (d_toStep (h0 := And.intro rfl rfl) ..)) ?_))
      | (refine Exists.intro _ (And.intro rfl (And.intro rfl (And.intro (Nat.le_of_ble_eq_true rfl) ?_))))
      | (refine Exists.intro _ (And.intro rfl (And.intro rfl (And.intro rfl (And.intro (Nat.le_of_ble_eq_true rfl) ?_)))))
      | (refine And.intro (Exists.intro _ (And.intro rfl rfl)) ?_)
      | (exact fun hW => absurd hW (by decide +kernel))
      | (intro hW; (try simp only [Bool.not_true, Bool.not_false, Bool.not_eq_true', Bool.not_eq_false', decide_eq_true_eq, decide_eq_false_iff_not, reduceCtorEq, Bool.true_eq_false, Bool.false_eq_true, mk_size, List.size_toArray, ByteArray.size_append, ByteArray.size_extract, List.length_cons, List.length_nil, ba_get, ba_empty, Int.toNat_natCast] at hW))
      | (refine And.intro (?_ : _ → _) (?_ : _ → _))
      | (refine FinR.drop 0 (Nat.zero_le _) (Closed.zero _) rfl ?_)
      | (refine FinR.keep ?_)
      | (refine And.intro (det3_agg rfl) ?_)
      | (refine fL_mk ?_)
      | (refine And.intro (by (try simp only [mk_size, List.size_toArray, ByteArray.size_append, ByteArray.size_extract, List.length_cons, List.length_nil]); omega) ?_)
      | (refine And.intro (by (try simp only [mk_size, List.size_toArray, ByteArray.size_append, ByteArray.size_extract, List.length_cons, List.length_nil, wrap64_eq]); omega) ?_)
      | fail)
    all_goals first | (exfalso; omega) | skip
    refine Again.go (i + 1) ⟨rfl, rfl, slI' (wsucc' i (by omega)), trivial⟩ (.keep ?_) (by omega) (by omega)
    show _ = [_]
    rw [← hst]
    simp only [Int.toNat_natCast, Nat.zero_add]
    rfl
  · obtain rfl : i = xs.length := by omega
    have e : jst xs xs.length [I 0, I 0, I 0, I 0] = jc xs := by simp [jst, rep]
    rw [e]
    repeat' ((conv => whnf); first
      | (refine And.intro rfl ?_)
      | (refine And.intro (by decide +kernel) ?_)
      | (refine And.intro trivial ?_)
      | (refine Exists.intro _ (And.intro rfl (And.intro rfl (And.intro (Nat.le_of_ble_eq_true rfl) ?_))))
      | (refine Exists.intro _ (And.intro rfl (And.intro rfl (And.intro rfl (And.intro (Nat.le_of_ble_eq_true rfl) ?_)))))
      | (refine And.intro (Exists.intro _ (And.intro rfl rfl)) ?_)
      | (exact fun hW => absurd hW (by decide +kernel))
      | (intro hW; (try simp only [Bool.not_true, Bool.not_false, Bool.not_eq_true', Bool.not_eq_false', decide_eq_true_eq, decide_eq_false_iff_not, reduceCtorEq, Bool.true_eq_false, Bool.false_eq_true, mk_size, List.size_toArray, ByteArray.size_append, ByteArray.size_extract, List.length_cons, List.length_nil, ba_get, ba_empty, Int.toNat_natCast] at hW))
      | (refine And.intro (?_ : _ → _) (?_ : _ → _))
      | (refine FinR.drop 0 (Nat.zero_le _) (Closed.zero _) rfl ?_)
      | (refine FinR.keep ?_)
      | (refine And.intro (det3_agg rfl) ?_)
      | (refine fL_mk ?_)
      | (refine And.intro (by (try simp only [mk_size, List.size_toArray, ByteArray.size_append, ByteArray.size_extract, List.length_cons, List.length_nil]); omega) ?_)
      | (refine And.intro (by (try simp only [mk_size, List.size_toArray, ByteArray.size_append, ByteArray.size_extract, List.length_cons, List.length_nil, wrap64_eq]); omega) ?_)
      | fail)
    all_goals first | (exfalso; omega) | exact h0
theorem d_toStepS (a : AV) (xs : List (List Int)) (hs : Sli W0 σ 4 enI a xs) (hx : ∀ x ∈ xs, x.length = 4) (hl : xs.length ≤ 1048576) (K : Cont) (h0 : K (.sl (σ.length + 0) 0 0 xs.length xs.length) (σ ++ [⟨jc xs, 0, 50, 4, true, true⟩])) : ACall Try.prog W0 15 [a] σ K :=
  lift_S1 (ι := Unit) (fun _ => .sl 0 0 0 xs.length xs.length) (fun _ => [⟨jc xs, 0, 50, 4, true, true⟩]) (by kernel_rfl) hs (fun W1 a' h K hK => c_toStepS a' xs h hx hl K (hK ())) K (fun _ => by
    rw [show shB σ.length [(⟨jc xs, 0, 50, 4, true, true⟩ : Blk)] = [⟨jc xs, 0, 50, 4, true, true⟩] by simp [shB, jc_sh]]; exact h0)
theorem c_szStepS (a : AV) (xs : List (List Int)) (m : Int) (ha : Sli W0 [] 4 enI a xs) (hl : xs.length ≤ 9223372036854775807) (hm : 0 ≤ m ∧ m ≤ 1048576) (K : Cont) (h0 : K (I (if m - (xs.length : Nat) < 0 then -1 else m - (xs.length : Nat))) []) : ACall Try.prog W0 10 [a, I m] [] K := by
  refine by10 (Nat.le_of_ble_eq_true rfl) ?_
  have e1 : IntKind.i64.wrap (m - (xs.length : Nat)) = m - (xs.length : Nat) := wrap_i64 _ (by omega) (by omega)
  obtain ⟨o, n, cap, rfl, hn, hc, hm', hf⟩ := sli_form ha
  subst hn
  repeat' ((conv => whnf); first
    | (refine And.intro rfl ?_)
    | (refine And.intro (by decide +kernel) ?_)
    | (refine And.intro trivial ?_)
    | (refine Exists.intro _ (And.intro rfl (And.intro rfl (And.intro (Nat.le_of_ble_eq_true rfl) ?_))))
    | (refine Exists.intro _ (And.intro rfl (And.intro rfl (And.intro rfl (And.intro (Nat.le_of_ble_eq_true rfl) ?_)))))
    | (refine And.intro (Exists.intro _ (And.intro rfl rfl)) ?_)
    | (exact fun hW => absurd hW (by decide +kernel))
    | (intro hW; (try simp only [Bool.not_true, Bool.not_false, Bool.not_eq_true', Bool.not_eq_false', decide_eq_true_eq, decide_eq_false_iff_not, reduceCtorEq, Bool.true_eq_false, Bool.false_eq_true, mk_size, List.size_toArray, ByteArray.size_append, ByteArray.size_extract, List.length_cons, List.length_nil, ba_get, ba_empty, Int.toNat_natCast] at hW))
    | (refine And.intro (?_ : _ → _) (?_ : _ → _))
    | (refine FinR.drop 0 (Nat.zero_le _) (Closed.zero _) rfl ?_)
    | (refine FinR.keep ?_)
    | (refine And.intro (det3_agg rfl) ?_)
    | (refine fL_mk ?_)
    | (refine And.intro (by (try simp only [mk_size, List.size_toArray, ByteArray.size_append, ByteArray.size_extract, List.length_cons, List.length_nil]); omega) ?_)
    | (refine And.intro (by (try simp only [mk_size, List.size_toArray, ByteArray.size_append, ByteArray.size_extract, List.length_cons, List.length_nil, wrap64_eq]); omega) ?_)
    | fail)
  all_goals (rw [e1] at *)
  all_goals (refine kI' h0 ?_; first | rw [if_pos (by omega)] | rw [if_neg (by omega)])
theorem d_szStepS (a : AV) (xs : List (List Int)) (m : Int) (ha : Sli W0 σ 4 enI a xs) (hl : xs.length ≤ 9223372036854775807) (hm : 0 ≤ m ∧ m ≤ 1048576) (K : Cont) (h0 : K (I (if m - (xs.length : Nat) < 0 then -1 else m - (xs.length : Nat))) σ) : ACall Try.prog W0 10 [a, I m] σ K :=
  lift_Sp (by kernel_rfl) rfl (fun _ => rfl) ha (fun W1 a' h K hK => c_szStepS a' xs m h hl hm K hK) K h0
theorem c_eqStepS (a b : AV) (xs : List (List Int)) (ha : Sli W0 [] 4 enI a xs) (hb' : Sli W0 [] 4 enI b xs) (hx : ∀ x ∈ xs, x.length = 4) (hl : xs.length ≤ 1048576) (K : Cont) (h0 : K (Bo true) []) : ACall Try.prog W0 20 [a, b] [] K := by
  refine by20 (Nat.le_of_ble_eq_true rfl) ?_
  obtain ⟨o, n, cap, rfl, hn, hc, hm, hf⟩ := sli_form ha
  obtain ⟨o2, n2, cap2, rfl, hn2, hc2, hm2, hf2⟩ := sli_form hb'
  subst hn
  have hnl : xs.length = n2 := hn2.symm
  subst hn2
  repeat' ((conv => whnf); first
    | (refine And.intro rfl ?_)
    | (refine And.intro (by decide +kernel) ?_)
    | (refine And.intro trivial ?_)
    | (refine Exists.intro _ (And.intro rfl (And.intro rfl (And.intro (Nat.le_of_ble_eq_true rfl) ?_))))
    | (refine Exists.intro _ (And.intro rfl (And.intro rfl (And.intro rfl (And.intro (Nat.le_of_ble_eq_true rfl) ?_)))))
    | (refine And.intro (Exists.intro _ (And.intro rfl rfl)) ?_)
    | (exact fun hW => absurd hW (by decide +kernel))
    | (intro hW; (try simp only [Bool.not_true, Bool.not_false, Bool.not_eq_true', Bool.not_eq_false', decide_eq_true_eq, decide_eq_false_iff_not, reduceCtorEq, Bool.true_eq_false, Bool.false_eq_true, mk_size, List.size_toArray, ByteArray.size_append, ByteArray.size_extract, List.length_cons, List.length_nil, ba_get, ba_empty, Int.toNat_natCast] at hW))
    | (refine And.intro (?_ : _ → _) (?_ : _ → _))
    | (refine FinR.drop 0 (Nat.zero_le _) (Closed.zero _) rfl ?_)
    | (refine FinR.keep ?_)
    | (refine And.intro (det3_agg rfl) ?_)
    | (refine fL_mk ?_)
    | (refine And.intro (by (try simp only [mk_size, List.size_toArray, ByteArray.size_append, ByteArray.size_extract, List.length_cons, List.length_nil]); omega) ?_)
    | (refine And.intro (by (try simp only [mk_size, List.size_toArray, ByteArray.size_append, ByteArray.size_extract, List.length_cons, List.length_nil, wrap64_eq]); omega) ?_)
    | fail)
  all_goals first | (exfalso; omega) | (exfalso; simp_all; done) | skip
  refine LoopR.live (fun i : Nat => [(0, .lit (.slice o xs.length cap)), (1, .lit (.slice o2 xs.length cap2)), (5, I i)]) (fun i => []) (fun i => i ≤ xs.length) (fun i => xs.length - i) 0 ⟨rfl, rfl, rfl, trivial⟩ (.keep rfl) (Nat.zero_le _) ?_
  intro i hi
  by_cases hlt : i < xs.length
  · obtain ⟨c0, c1, c2, c3, hxi⟩ := row4x hx hlt
    obtain ⟨ad, rfl, hb, hxx⟩ := hf i _ hxi
    obtain ⟨ad2, rfl, hb2, hxx2⟩ := hf2 i _ hxi
    have hld := fun C h => ldIn (W0 := W0) (s := 4) (enc := enI) hb hxx (k := i) hxi rfl (C := C) h
    have hld2 := fun C h => ldIn (W0 := W0) (s := 4) (enc := enI) hb2 hxx2 (k := i) hxi rfl (C := C) h
    repeat' ((conv => whnf); first
      | (refine And.intro rfl ?_)
      | (refine And.intro (by decide +kernel) ?_)
      | (refine And.intro trivial ?_)
      | (refine hld _ ?_)
      | (refine hld2 _ ?_)
      | (refine d_eqStep (h0 := ?_) ..)
      | (refine Exists.intro _ (And.intro (fun τ => callW_fn (d_eqStep (h0 := And.intro rfl rfl) ..)) ?_))
      | (refine Exists.intro _ (And.intro (callW_fn (d_eqStep (h0 := And.intro rfl rfl) ..)) (And.intro trivial ?_)))
      | (refine Exists.intro _ (And.intro (callW_fn (d_eqStep (h0 := And.intro rfl rfl) ..)) ?_))
      | (refine Exists.intro _ (And.intro (fun τ _ => callW_fn (d_eqStep (h0 := And.intro rfl rfl) ..)) ?_))
      | (refine And.intro rfl (hld _ ?_))
      | (refine And.intro rfl (hld2 _ ?_))
      | (refine Exists.intro _ (And.intro rfl (And.intro rfl (And.intro (Nat.le_of_ble_eq_true rfl) ?_))))
      | (refine Exists.intro _ (And.intro rfl (And.intro rfl (And.intro rfl (And.intro (Nat.le_of_ble_eq_true rfl) ?_)))))
      | (refine And.intro (Exists.intro _ (And.intro rfl rfl)) ?_)
      | (exact fun hW => absurd hW (by decide +kernel))
      | (intro hW; (try simp only [Bool.not_true, Bool.not_false, Bool.not_eq_true', Bool.not_eq_false', decide_eq_true_eq, decide_eq_false_iff_not, reduceCtorEq, Bool.true_eq_false, Bool.false_eq_true, mk_size, List.size_toArray, ByteArray.size_append, ByteArray.size_extract, List.length_cons, List.length_nil, ba_get, ba_empty, Int.toNat_natCast] at hW))
      | (refine And.intro (?_ : _ → _) (?_ : _ → _))
      | (refine FinR.drop 0 (Nat.zero_le _) (Closed.zero _) rfl ?_)
      | (refine FinR.keep ?_)
      | (refine And.intro (det3_agg rfl) ?_)
      | (refine fL_mk ?_)
      | (refine And.intro (by (try simp only [mk_size, List.size_toArray, ByteArray.size_append, ByteArray.size_extract, List.length_cons, List.length_nil]); omega) ?_)
      | (refine And.intro (by (try simp only [mk_size, List.size_toArray, ByteArray.size_append, ByteArray.size_extract, List.length_cons, List.length_nil, wrap64_eq]); omega) ?_)
      | fail)
    all_goals first | (exfalso; omega) | (exfalso; simp_all; done) | skip
    exact Again.go (i + 1) ⟨rfl, rfl, slI' (wsucc' i (by omega)), trivial⟩ (.keep rfl) (by omega) (by omega)
  · obtain rfl : i = xs.length := by omega
    repeat' ((conv => whnf); first
      | (refine And.intro rfl ?_)
      | (refine And.intro (by decide +kernel) ?_)
      | (refine And.intro trivial ?_)
      | (refine Exists.intro _ (And.intro rfl (And.intro rfl (And.intro (Nat.le_of_ble_eq_true rfl) ?_))))
      | (refine Exists.intro _ (And.intro rfl (And.intro rfl (And.intro rfl (And.intro (Nat.le_of_ble_eq_true rfl) ?_)))))
      | (refine And.intro (Exists.intro _ (And.intro rfl rfl)) ?_)
      | (exact fun hW => absurd hW (by decide +kernel))
      | (intro hW; (try simp only [Bool.not_true, Bool.not_false, Bool.not_eq_true', Bool.not_eq_false', decide_eq_true_eq, decide_eq_false_iff_not, reduceCtorEq, Bool.true_eq_false, Bool.false_eq_true, mk_size, List.size_toArray, ByteArray.size_append, ByteArray.size_extract, List.length_cons, List.length_nil, ba_get, ba_empty, Int.toNat_natCast] at hW))
      | (refine And.intro (?_ : _ → _) (?_ : _ → _))
      | (refine FinR.drop 0 (Nat.zero_le _) (Closed.zero _) rfl ?_)
      | (refine FinR.keep ?_)
      | (refine And.intro (det3_agg rfl) ?_)
      | (refine fL_mk ?_)
      | (refine And.intro (by (try simp only [mk_size, List.size_toArray, ByteArray.size_append, ByteArray.size_extract, List.length_cons, List.length_nil]); omega) ?_)
      | (refine And.intro (by (try simp only [mk_size, List.size_toArray, ByteArray.size_append, ByteArray.size_extract, List.length_cons, List.length_nil, wrap64_eq]); omega) ?_)
      | fail)
    all_goals first | (exfalso; omega) | exact h0
theorem d_eqStepS (a b : AV) (xs : List (List Int)) (ha : Sli W0 σ 4 enI a xs) (hb' : Sli W0 σ 4 enI b xs) (hx : ∀ x ∈ xs, x.length = 4) (hl : xs.length ≤ 1048576) (K : Cont) (h0 : K (Bo true) σ) : ACall Try.prog W0 20 [a, b] σ K :=
  lift_Ss (by kernel_rfl) (fun _ => rfl) ha hb' (fun W1 a' b' h h' K hK => c_eqStepS a' b' xs h h' hx hl K hK) K h0
end Go.Proofs.Ytjekjbkllhompaa
end

section
/- Contracts: plans as values; which are valid. -/
set_option linter.unusedVariables false
set_option linter.unusedSimpArgs false
set_option maxRecDepth 100000
set_option maxHeartbeats 4000000
namespace Go.Proofs.Ytjekjbkllhompaa
open Go Go.RowKit Go.Proofs.Ytjekjbkllhompaa.Abs
variable {W0 : World} {σ : List Blk}
abbrev PlA (a b c d e f : Int) (s1 s2 : AV) : AV := .agg [I a, I b, I c, I d, I e, I f, s1, s2]
theorem sli_r31 {α : Type} {s : Nat} {enc : α → List Value} {a : AV} {xs : List α} {ι : Abs.Loc} {x : Value} (h : Sli W0 σ s enc a xs) (hr : rel1 ι σ a x) : rel3 ι σ a x := by
  cases h <;> exact hr
theorem rels_pure {ι : Abs.Loc} : ∀ {l : List AV} {vs : List Value}, l.all pure3 = true → Rels (rel3 ι σ) l vs → Rels (rel3 [] []) l vs
  | [], vs, _, h => by rw [h.nil_inv]; exact Rels.nil
  | a :: l, vs, hp, h => by
    simp only [List.all_cons, Bool.and_eq_true] at hp
    obtain ⟨b, m, rfl, h1, h2⟩ := Rels.uncons h
    exact Rels.cons (rel3_pure hp.1 h1) (rels_pure hp.2 h2)
theorem plA_conc {a b c d e f : Int} {s1 s2 : AV} {xs ys : List (List Int)} {ι : Abs.Loc} {W1 : World} {x : Value} (h1 : Sli W0 σ 6 enI s1 xs) (h2 : Sli W0 σ 4 enI s2 ys) (hh : HRel W0 ι σ W1) (hr : rel3 ι σ (PlA a b c d e f s1 s2) x) :
    ∃ t1 t2, Sli W1 [] 6 enI t1 xs ∧ Sli W1 [] 4 enI t2 ys ∧ rel3 [] [] (PlA a b c d e f t1 t2) x := by
  obtain ⟨l, rfl, hl⟩ := (show ∃ l : List Value, x = .agg l.toArray ∧ Rels (crel ι σ) [I a, I b, I c, I d, I e, I f, s1, s2] l from hr)
  obtain ⟨x0, l0, rfl, q0, r0⟩ := Rels.uncons hl
  obtain ⟨x1, l1, rfl, q1, r1⟩ := Rels.uncons r0
  obtain ⟨x2, l2, rfl, q2, r2⟩ := Rels.uncons r1
  obtain ⟨x3, l3, rfl, q3, r3⟩ := Rels.uncons r2
  obtain ⟨x4, l4, rfl, q4, r4⟩ := Rels.uncons r3
  obtain ⟨x5, l5, rfl, q5, r5⟩ := Rels.uncons r4
  obtain ⟨x6, l6, rfl, q6, r6⟩ := Rels.uncons r5
  obtain ⟨x7, l7, rfl, q7, r7⟩ := Rels.uncons r6
  obtain rfl := r7.nil_inv
  obtain ⟨t1, ht1, hs1⟩ := h1.conc hh ⟨x6, sli_r31 h1 q6.1⟩
  obtain ⟨t2, ht2, hs2⟩ := h2.conc hh ⟨x7, sli_r31 h2 q7.1⟩
  obtain ⟨v1, rfl⟩ := sli_lit hs1
  obtain ⟨v2, rfl⟩ := sli_lit hs2
  refine ⟨_, _, hs1, hs2, _, rfl, ?_⟩
  exact Rels.cons ⟨q0.1, q0.2⟩ (Rels.cons ⟨q1.1, q1.2⟩ (Rels.cons ⟨q2.1, q2.2⟩ (Rels.cons ⟨q3.1, q3.2⟩ (Rels.cons ⟨q4.1, q4.2⟩ (Rels.cons ⟨q5.1, q5.2⟩ (Rels.cons ⟨ht1 _ (sli_r31 h1 q6.1), q6.2⟩ (Rels.cons ⟨ht2 _ (sli_r31 h2 q7.1), q7.2⟩ Rels.nil)))))))
theorem lift_Pl {g : FuncId} {a b c d e f : Int} {s1 s2 : AV} {rest : List AV} {xs ys : List (List Int)} {ι : Type} (r : ι → AV) (β : ι → List Blk) (hok : callOK Try.prog g = true) (hrest : rest.all pure3 = true) (h1 : Sli W0 σ 6 enI s1 xs) (h2 : Sli W0 σ 4 enI s2 ys)
    (h : ∀ (W1 : World) (v1 v2 : Value), Sli W1 [] 6 enI (.lit v1) xs → Sli W1 [] 4 enI (.lit v2) ys → ∀ K : Cont, (∀ i, K (r i) (β i)) → ACall Try.prog W1 g (PlA a b c d e f (.lit v1) (.lit v2) :: rest) [] K) (K : Cont) (h0 : ∀ i, K (sh3 σ.length (r i)) (σ ++ shB σ.length (β i))) : ACall Try.prog W0 g (PlA a b c d e f s1 s2 :: rest) σ K := by
  refine ACall.frameA (K0 := fun v σ' => ∃ i, v = r i ∧ σ' = β i) hok (fun W1 ι vs hh hrr => ?_) ?_
  · obtain ⟨v1, vs', rfl, hr1, hr2⟩ := Rels.uncons hrr
    obtain ⟨t1, t2, q1, q2, q3⟩ := plA_conc h1 h2 hh hr1
    obtain ⟨u1, rfl⟩ := sli_lit q1
    obtain ⟨u2, rfl⟩ := sli_lit q2
    exact ⟨_ :: rest, Rels.cons q3 (rels_pure hrest hr2), h W1 u1 u2 q1 q2 _ (fun i => ⟨i, rfl, rfl⟩)⟩
  · rintro v σ' ⟨i, rfl, rfl⟩; exact h0 i
/-! steps and plans that are valid -/
def stOk (m : Nat) (r : List Int) : Bool := inB (r.getD 0 0) 1 3 && inB (r.getD 1 0) 0 ((m : Int) - 1) && cellB (r.getD 2 0) (r.getD 3 0)
def shRow (r : List Int) : Bool := shB6 (r.getD 0 0) (r.getD 1 0) (r.getD 2 0) (r.getD 3 0) (r.getD 4 0) (r.getD 5 0)
def planB (a b c d e f : Int) (xs ys : List (List Int)) : Bool := shB6 a b c d e f && decide (xs.length ≤ 4) && decide (ys.length ≤ 40) && xs.all shRow && ys.all (stOk xs.length)
theorem planB_iff {a b c d e f : Int} {xs ys : List (List Int)} : planB a b c d e f xs ys = true ↔ shB6 a b c d e f = true ∧ xs.length ≤ 4 ∧ ys.length ≤ 40 ∧ xs.all shRow = true ∧ ys.all (stOk xs.length) = true := by
  simp [planB, and_assoc]
theorem all_takeG {α : Type} {p : α → Bool} {xs : List α} {i : Nat} {x : α} (h : xs[i]? = some x) : (xs.take (i + 1)).all p = ((xs.take i).all p && p x) := by
  rw [take_snoc h, List.all_append]; simp
theorem all_badG {α : Type} {p : α → Bool} {xs : List α} {i : Nat} {x : α} (h : xs[i]? = some x) (hx : p x = false) : xs.all p = false := by
  rw [Bool.eq_false_iff]; intro hc
  rw [List.all_eq_true.1 hc x (List.mem_of_getElem? h)] at hx; cases hx
theorem stOk_eq (m : Nat) (k s x y : Int) : stOk m [k, s, x, y] = (inB k 1 3 && inB s 0 ((m : Int) - 1) && cellB x y) := rfl
theorem c_l11Step (k s x y : Int) (m : Nat) (hm : m ≤ 1048576) (K : Cont) (h0 : K (Bo (stOk m [k, s, x, y])) []) : ACall Try.prog W0 22 [Ste k s x y, I m] [] K := by
  rw [stOk_eq] at h0
  have ew : IntKind.i64.wrap ((m : Int) - 1) = (m : Int) - 1 := wrap_i64 _ (by omega) (by omega)
  refine by22 (Nat.le_of_ble_eq_true rfl) ?_
  repeat' ((conv => whnf); first
    | (refine And.intro rfl ?_)
    | (refine And.intro (by decide +kernel) ?_)
    | (refine And.intro trivial ?_)
    | (refine d_l1In (h0 := ?_) ..)
    | (refine Exists.intro _ (And.intro (fun τ => callW_fn (d_l1In (h0 := And.intro rfl rfl) ..)) ?_))
    | (refine Exists.intro _ (And.intro (callW_fn (d_l1In (h0 := And.intro rfl rfl) ..)) (And.intro trivial ?_)))
    | (refine Exists.intro _ (And.intro (callW_fn (d_l1In (h0 := And.intro rfl rfl) ..)) ?_))
    | (refine Exists.intro _ (And.intro (fun τ _ => callW_fn (d_l1In (h0 := And.intro rfl rfl) ..)) ?_))
    | (refine d_l2Cell (h0 := ?_) ..)
    | (refine Exists.intro _ (And.intro (fun τ => callW_fn (d_l2Cell (h0 := And.intro rfl rfl) ..)) ?_))
    | (refine Exists.intro _ (And.intro (callW_fn (d_l2Cell (h0 := And.intro rfl rfl) ..)) (And.intro trivial ?_)))
    | (refine Exists.intro _ (And.intro (callW_fn (d_l2Cell (h0 := And.intro rfl rfl) ..)) ?_))
    | (refine Exists.intro _ (And.intro (fun τ _ => callW_fn (d_l2Cell (h0 := And.intro rfl rfl) ..)) ?_))
    | (refine Exists.intro _ (And.intro rfl (And.intro rfl (And.intro (Nat.le_of_ble_eq_true rfl) ?_))))
    | (refine Exists.intro _ (And.intro rfl (And.intro rfl (And.intro rfl (And.intro (Nat.le_of_ble_eq_true rfl) ?_)))))
    | (refine And.intro (Exists.intro _ (And.intro rfl rfl)) ?_)
    | (exact fun hW => absurd hW (by decide +kernel))
    | (intro hW; (try simp only [Bool.not_true, Bool.not_false, Bool.not_eq_true', Bool.not_eq_false', decide_eq_true_eq, decide_eq_false_iff_not, reduceCtorEq, Bool.true_eq_false, Bool.false_eq_true, mk_size, List.size_toArray, ByteArray.size_append, ByteArray.size_extract, List.length_cons, List.length_nil, ba_get, ba_empty, Int.toNat_natCast] at hW))
    | (refine And.intro (?_ : _ → _) (?_ : _ → _))
    | (refine FinR.drop 0 (Nat.zero_le _) (Closed.zero _) rfl ?_)
    | (refine FinR.keep ?_)
    | (refine And.intro (det3_agg rfl) ?_)
    | (refine fL_mk ?_)
    | (refine And.intro (by (try simp only [mk_size, List.size_toArray, ByteArray.size_append, ByteArray.size_extract, List.length_cons, List.length_nil]); omega) ?_)
    | (refine And.intro (by (try simp only [mk_size, List.size_toArray, ByteArray.size_append, ByteArray.size_extract, List.length_cons, List.length_nil, wrap64_eq]); omega) ?_)
    | fail)
  all_goals (refine kB' h0 ?_; clear h0; simp_all)
theorem d_l11Step (k s x y : Int) (m : Nat) (hm : m ≤ 1048576) (K : Cont) (h0 : K (Bo (stOk m [k, s, x, y])) σ) : ACall Try.prog W0 22 [Ste k s x y, I m] σ K :=
  ACall.lift rfl (fun _ => rfl) (fun W1 K _ hK => c_l11Step k s x y m hm K hK) h0
theorem c_isStep (k s x y : Int) (m : Nat) (hm : m ≤ 1048576) (K : Cont) (h0 : K (Bo (stOk m [k, s, x, y])) []) : ACall Try.prog W0 36 [Ste k s x y, I m] [] K := by
  rw [stOk_eq] at h0
  refine by36 (Nat.le_of_ble_eq_true rfl) ?_
  repeat' ((conv => whnf); first
    | (refine And.intro rfl ?_)
    | (refine And.intro (by decide +kernel) ?_)
    | (refine And.intro trivial ?_)
    | (refine d_isCell (h0 := ?_) ..)
    | (refine Exists.intro _ (And.intro (fun τ => callW_fn (d_isCell (h0 := And.intro rfl rfl) ..)) ?_))
    | (refine Exists.intro _ (And.intro (callW_fn (d_isCell (h0 := And.intro rfl rfl) ..)) (And.intro trivial ?_)))
    | (refine Exists.intro _ (And.intro (callW_fn (d_isCell (h0 := And.intro rfl rfl) ..)) ?_))
    | (refine Exists.intro _ (And.intro (fun τ _ => callW_fn (d_isCell (h0 := And.intro rfl rfl) ..)) ?_))
    | (refine Exists.intro _ (And.intro rfl (And.intro rfl (And.intro (Nat.le_of_ble_eq_true rfl) ?_))))
    | (refine Exists.intro _ (And.intro rfl (And.intro rfl (And.intro rfl (And.intro (Nat.le_of_ble_eq_true rfl) ?_)))))
    | (refine And.intro (Exists.intro _ (And.intro rfl rfl)) ?_)
    | (exact fun hW => absurd hW (by decide +kernel))
    | (intro hW; (try simp only [Bool.not_true, Bool.not_false, Bool.not_eq_true', Bool.not_eq_false', decide_eq_true_eq, decide_eq_false_iff_not, reduceCtorEq, Bool.true_eq_false, Bool.false_eq_true, mk_size, List.size_toArray, ByteArray.size_append, ByteArray.size_extract, List.length_cons, List.length_nil, ba_get, ba_empty, Int.toNat_natCast] at hW))
    | (refine And.intro (?_ : _ → _) (?_ : _ → _))
    | (refine FinR.drop 0 (Nat.zero_le _) (Closed.zero _) rfl ?_)
    | (refine FinR.keep ?_)
    | (refine And.intro (det3_agg rfl) ?_)
    | (refine fL_mk ?_)
    | (refine And.intro (by (try simp only [mk_size, List.size_toArray, ByteArray.size_append, ByteArray.size_extract, List.length_cons, List.length_nil]); omega) ?_)
    | (refine And.intro (by (try simp only [mk_size, List.size_toArray, ByteArray.size_append, ByteArray.size_extract, List.length_cons, List.length_nil, wrap64_eq]); omega) ?_)
    | fail)
  all_goals (refine kB' h0 ?_; clear h0; simp_all [inB] <;> intros <;> omega)
theorem d_isStep (k s x y : Int) (m : Nat) (hm : m ≤ 1048576) (K : Cont) (h0 : K (Bo (stOk m [k, s, x, y])) σ) : ACall Try.prog W0 36 [Ste k s x y, I m] σ K :=
  ACall.lift rfl (fun _ => rfl) (fun W1 K _ hK => c_isStep k s x y m hm K hK) h0
def plBx (a b c d e f : Int) (s1 s2 : AV) (e' : TypeId) : Blk := ⟨[I a, I b, I c, I d, I e, I f, s1, s2], 0, e', 0, false, false⟩
theorem c_l11Plan (a b c d e f : Int) (v1 v2 : Value) (xs ys : List (List Int)) (h1 : Sli W0 [] 6 enI (.lit v1) xs) (h2 : Sli W0 [] 4 enI (.lit v2) ys) (hx : ∀ x ∈ xs, x.length = 6) (hy : ∀ x ∈ ys, x.length = 4) (hl : xs.length ≤ 1048576) (hl2 : ys.length ≤ 1048576) (K : Cont) (h0 : K (Bo (planB a b c d e f xs ys)) []) : ACall Try.prog W0 11 [PlA a b c d e f (.lit v1) (.lit v2)] [] K := by
  refine by11 (Nat.le_of_ble_eq_true rfl) ?_
  obtain ⟨o1, n1, cap1, hv1, hn1, hc1, hm1, hf1⟩ := sli_form h1
  obtain ⟨o2, n2, cap2, hv2, hn2, hc2, hm2, hf2⟩ := sli_form h2
  cases hv1; cases hv2
  subst hn1; subst hn2
  by_cases hg : shB6 a b c d e f = true ∧ xs.length ≤ 4 ∧ ys.length ≤ 40
  · obtain ⟨hs, hx4, hy40⟩ := hg
    repeat' ((conv => whnf); first
      | (refine And.intro rfl ?_)
      | (refine And.intro (by decide +kernel) ?_)
      | (refine And.intro trivial ?_)
      | (refine d_l2Sheet (h0 := ?_) ..)
      | (refine Exists.intro _ (And.intro (fun τ => callW_fn (d_l2Sheet (h0 := And.intro rfl rfl) ..)) ?_))
      | (refine Exists.intro _ (And.intro (callW_fn (d_l2Sheet (h0 := And.intro rfl rfl) ..)) (And.intro trivial ?_)))
      | (refine Exists.intro _ (And.intro (callW_fn (d_l2Sheet (h0 := And.intro rfl rfl) ..)) ?_))
      | (refine Exists.intro _ (And.intro (fun τ _ => callW_fn (d_l2Sheet (h0 := And.intro rfl rfl) ..)) ?_))
      | (refine Exists.intro _ (And.intro rfl (And.intro rfl (And.intro (Nat.le_of_ble_eq_true rfl) ?_))))
      | (refine Exists.intro _ (And.intro rfl (And.intro rfl (And.intro rfl (And.intro (Nat.le_of_ble_eq_true rfl) ?_)))))
      | (refine And.intro (Exists.intro _ (And.intro rfl rfl)) ?_)
      | (exact fun hW => absurd hW (by decide +kernel))
      | (intro hW; (try simp only [Bool.not_true, Bool.not_false, Bool.not_eq_true', Bool.not_eq_false', decide_eq_true_eq, decide_eq_false_iff_not, reduceCtorEq, Bool.true_eq_false, Bool.false_eq_true, mk_size, List.size_toArray, ByteArray.size_append, ByteArray.size_extract, List.length_cons, List.length_nil, ba_get, ba_empty, Int.toNat_natCast] at hW))
      | (refine And.intro (?_ : _ → _) (?_ : _ → _))
      | (refine FinR.drop 0 (Nat.zero_le _) (Closed.zero _) rfl ?_)
      | (refine FinR.keep ?_)
      | (refine And.intro (det3_agg rfl) ?_)
      | (refine fL_mk ?_)
      | (refine And.intro (by (try simp only [mk_size, List.size_toArray, ByteArray.size_append, ByteArray.size_extract, List.length_cons, List.length_nil]); omega) ?_)
      | (refine And.intro (by (try simp only [mk_size, List.size_toArray, ByteArray.size_append, ByteArray.size_extract, List.length_cons, List.length_nil, wrap64_eq]); omega) ?_)
      | fail)
    all_goals first | (exfalso; omega) | (exfalso; simp_all; done) | skip
    refine LoopR.live (fun i : Nat => [(1, .ptr 0 0 0), (3, I i)]) (fun i => [plBx a b c d e f (.lit (.slice o1 xs.length cap1)) (.lit (.slice o2 ys.length cap2)) 36]) (fun i => i ≤ xs.length ∧ (xs.take i).all shRow = true) (fun i => xs.length - i) 0 ⟨rfl, rfl, trivial⟩ (.keep rfl) ⟨Nat.zero_le _, rfl⟩ ?_
    rintro i ⟨hi, hal⟩
    by_cases hlt : i < xs.length
    · obtain ⟨c0, c1, c2, c3, c4, c5, hxi⟩ := row6x hx hlt
      obtain ⟨ad, rfl, hb, hxx⟩ := hf1 i _ hxi
      have hld := fun C h => ldIn (W0 := W0) (s := 6) (enc := enI) hb hxx (k := i) hxi rfl (C := C) h
      have hsn := all_takeG (p := shRow) hxi
      cases hr : shRow [c0, c1, c2, c3, c4, c5] with
      | true =>
        have hr' : shB6 c0 c1 c2 c3 c4 c5 = true := hr
        repeat' ((conv => whnf); first
          | (refine And.intro rfl ?_)
          | (refine And.intro (by decide +kernel) ?_)
          | (refine And.intro trivial ?_)
          | (refine hld _ ?_)
          | (refine d_l2Sheet (h0 := ?_) ..)
          | (refine Exists.intro _ (And.intro (fun τ => callW_fn (d_l2Sheet (h0 := And.intro rfl rfl) ..)) ?_))
          | (refine Exists.intro _ (And.intro (callW_fn (d_l2Sheet (h0 := And.intro rfl rfl) ..)) (And.intro trivial ?_)))
          | (refine Exists.intro _ (And.intro (callW_fn (d_l2Sheet (h0 := And.intro rfl rfl) ..)) ?_))
          | (refine Exists.intro _ (And.intro (fun τ _ => callW_fn (d_l2Sheet (h0 := And.intro rfl rfl) ..)) ?_))
          | (refine Exists.intro _ (And.intro rfl (And.intro rfl (And.intro (Nat.le_of_ble_eq_true rfl) ?_))))
          | (refine Exists.intro _ (And.intro rfl (And.intro rfl (And.intro rfl (And.intro (Nat.le_of_ble_eq_true rfl) ?_)))))
          | (refine And.intro (Exists.intro _ (And.intro rfl rfl)) ?_)
          | (exact fun hW => absurd hW (by decide +kernel))
          | (intro hW; (try simp only [Bool.not_true, Bool.not_false, Bool.not_eq_true', Bool.not_eq_false', decide_eq_true_eq, decide_eq_false_iff_not, reduceCtorEq, Bool.true_eq_false, Bool.false_eq_true, mk_size, List.size_toArray, ByteArray.size_append, ByteArray.size_extract, List.length_cons, List.length_nil, ba_get, ba_empty, Int.toNat_natCast] at hW))
          | (refine And.intro (?_ : _ → _) (?_ : _ → _))
          | (refine FinR.drop 0 (Nat.zero_le _) (Closed.zero _) rfl ?_)
          | (refine FinR.keep ?_)
          | (refine And.intro (det3_agg rfl) ?_)
          | (refine fL_mk ?_)
          | (refine And.intro (by (try simp only [mk_size, List.size_toArray, ByteArray.size_append, ByteArray.size_extract, List.length_cons, List.length_nil]); omega) ?_)
          | (refine And.intro (by (try simp only [mk_size, List.size_toArray, ByteArray.size_append, ByteArray.size_extract, List.length_cons, List.length_nil, wrap64_eq]); omega) ?_)
          | fail)
        all_goals first | (exfalso; omega) | (exfalso; simp_all; done) | skip
        exact Again.go (i + 1) ⟨rfl, slI' (wsucc' i (by omega)), trivial⟩ (.keep rfl) ⟨by omega, by rw [hsn, hal, hr]; rfl⟩ (by omega)
      | false =>
        have hr' : shB6 c0 c1 c2 c3 c4 c5 = false := hr
        have hpf : planB a b c d e f xs ys = false := by simp [planB, all_badG hxi hr]
        rw [hpf] at h0
        repeat' ((conv => whnf); first
          | (refine And.intro rfl ?_)
          | (refine And.intro (by decide +kernel) ?_)
          | (refine And.intro trivial ?_)
          | (refine hld _ ?_)
          | (refine d_l2Sheet (h0 := ?_) ..)
          | (refine Exists.intro _ (And.intro (fun τ => callW_fn (d_l2Sheet (h0 := And.intro rfl rfl) ..)) ?_))
          | (refine Exists.intro _ (And.intro (callW_fn (d_l2Sheet (h0 := And.intro rfl rfl) ..)) (And.intro trivial ?_)))
          | (refine Exists.intro _ (And.intro (callW_fn (d_l2Sheet (h0 := And.intro rfl rfl) ..)) ?_))
          | (refine Exists.intro _ (And.intro (fun τ _ => callW_fn (d_l2Sheet (h0 := And.intro rfl rfl) ..)) ?_))
          | (refine Exists.intro _ (And.intro rfl (And.intro rfl (And.intro (Nat.le_of_ble_eq_true rfl) ?_))))
          | (refine Exists.intro _ (And.intro rfl (And.intro rfl (And.intro rfl (And.intro (Nat.le_of_ble_eq_true rfl) ?_)))))
          | (refine And.intro (Exists.intro _ (And.intro rfl rfl)) ?_)
          | (exact fun hW => absurd hW (by decide +kernel))
          | (intro hW; (try simp only [Bool.not_true, Bool.not_false, Bool.not_eq_true', Bool.not_eq_false', decide_eq_true_eq, decide_eq_false_iff_not, reduceCtorEq, Bool.true_eq_false, Bool.false_eq_true, mk_size, List.size_toArray, ByteArray.size_append, ByteArray.size_extract, List.length_cons, List.length_nil, ba_get, ba_empty, Int.toNat_natCast] at hW))
          | (refine And.intro (?_ : _ → _) (?_ : _ → _))
          | (refine FinR.drop 0 (Nat.zero_le _) (Closed.zero _) rfl ?_)
          | (refine FinR.keep ?_)
          | (refine And.intro (det3_agg rfl) ?_)
          | (refine fL_mk ?_)
          | (refine And.intro (by (try simp only [mk_size, List.size_toArray, ByteArray.size_append, ByteArray.size_extract, List.length_cons, List.length_nil]); omega) ?_)
          | (refine And.intro (by (try simp only [mk_size, List.size_toArray, ByteArray.size_append, ByteArray.size_extract, List.length_cons, List.length_nil, wrap64_eq]); omega) ?_)
          | fail)
        all_goals first | (exfalso; omega) | (exfalso; simp_all; done) | exact h0
    · obtain rfl : i = xs.length := by omega
      rw [List.take_length] at hal
      repeat' ((conv => whnf); first
        | (refine And.intro rfl ?_)
        | (refine And.intro (by decide +kernel) ?_)
        | (refine And.intro trivial ?_)
        | (refine Exists.intro _ (And.intro rfl (And.intro rfl (And.intro (Nat.le_of_ble_eq_true rfl) ?_))))
        | (refine Exists.intro _ (And.intro rfl (And.intro rfl (And.intro rfl (And.intro (Nat.le_of_ble_eq_true rfl) ?_)))))
        | (refine And.intro (Exists.intro _ (And.intro rfl rfl)) ?_)
        | (exact fun hW => absurd hW (by decide +kernel))
        | (intro hW; (try simp only [Bool.not_true, Bool.not_false, Bool.not_eq_true', Bool.not_eq_false', decide_eq_true_eq, decide_eq_false_iff_not, reduceCtorEq, Bool.true_eq_false, Bool.false_eq_true, mk_size, List.size_toArray, ByteArray.size_append, ByteArray.size_extract, List.length_cons, List.length_nil, ba_get, ba_empty, Int.toNat_natCast] at hW))
        | (refine And.intro (?_ : _ → _) (?_ : _ → _))
        | (refine FinR.drop 0 (Nat.zero_le _) (Closed.zero _) rfl ?_)
        | (refine FinR.keep ?_)
        | (refine And.intro (det3_agg rfl) ?_)
        | (refine fL_mk ?_)
        | (refine And.intro (by (try simp only [mk_size, List.size_toArray, ByteArray.size_append, ByteArray.size_extract, List.length_cons, List.length_nil]); omega) ?_)
        | (refine And.intro (by (try simp only [mk_size, List.size_toArray, ByteArray.size_append, ByteArray.size_extract, List.length_cons, List.length_nil, wrap64_eq]); omega) ?_)
        | fail)
      all_goals first | (exfalso; omega) | skip
      refine LoopR.live (fun j : Nat => [(1, .ptr 0 0 0), (4, I j)]) (fun j => [plBx a b c d e f (.lit (.slice o1 xs.length cap1)) (.lit (.slice o2 ys.length cap2)) 36]) (fun j => j ≤ ys.length ∧ (ys.take j).all (stOk xs.length) = true) (fun j => ys.length - j) 0 ⟨rfl, rfl, trivial⟩ (.keep rfl) ⟨Nat.zero_le _, rfl⟩ ?_
      rintro j ⟨hj, hal2⟩
      by_cases hlt2 : j < ys.length
      · obtain ⟨c0, c1, c2, c3, hyj⟩ := row4x hy hlt2
        obtain ⟨ad, rfl, hb, hxx⟩ := hf2 j _ hyj
        have hld := fun C h => ldIn (W0 := W0) (s := 4) (enc := enI) hb hxx (k := j) hyj rfl (C := C) h
        have hsn := all_takeG (p := stOk xs.length) hyj
        cases hr : stOk xs.length [c0, c1, c2, c3] with
        | true =>
          repeat' ((conv => whnf); first
            | (refine And.intro rfl ?_)
            | (refine And.intro (by decide +kernel) ?_)
            | (refine And.intro trivial ?_)
            | (refine hld _ ?_)
            | (refine d_l11Step (hm := hl) (h0 := ?_) ..)
            | (refine Exists.intro _ (And.intro (fun τ => callW_fn (d_l11Step (hm := hl) (h0 := And.intro rfl rfl) ..)) ?_))
            | (refine Exists.intro _ (And.intro (callW_fn (d_l11Step (hm := hl) (h0 := And.intro rfl rfl) ..)) (And.intro trivial ?_)))
            | (refine Exists.intro _ (And.intro (callW_fn (d_l11Step (hm := hl) (h0 := And.intro rfl rfl) ..)) ?_))
            | (refine Exists.intro _ (And.intro (fun τ _ => callW_fn (d_l11Step (hm := hl) (h0 := And.intro rfl rfl) ..)) ?_))
            | (refine Exists.intro _ (And.intro rfl (And.intro rfl (And.intro (Nat.le_of_ble_eq_true rfl) ?_))))
            | (refine Exists.intro _ (And.intro rfl (And.intro rfl (And.intro rfl (And.intro (Nat.le_of_ble_eq_true rfl) ?_)))))
            | (refine And.intro (Exists.intro _ (And.intro rfl rfl)) ?_)
            | (exact fun hW => absurd hW (by decide +kernel))
            | (intro hW; (try simp only [Bool.not_true, Bool.not_false, Bool.not_eq_true', Bool.not_eq_false', decide_eq_true_eq, decide_eq_false_iff_not, reduceCtorEq, Bool.true_eq_false, Bool.false_eq_true, mk_size, List.size_toArray, ByteArray.size_append, ByteArray.size_extract, List.length_cons, List.length_nil, ba_get, ba_empty, Int.toNat_natCast] at hW))
            | (refine And.intro (?_ : _ → _) (?_ : _ → _))
            | (refine FinR.drop 0 (Nat.zero_le _) (Closed.zero _) rfl ?_)
            | (refine FinR.keep ?_)
            | (refine And.intro (det3_agg rfl) ?_)
            | (refine fL_mk ?_)
            | (refine And.intro (by (try simp only [mk_size, List.size_toArray, ByteArray.size_append, ByteArray.size_extract, List.length_cons, List.length_nil]); omega) ?_)
            | (refine And.intro (by (try simp only [mk_size, List.size_toArray, ByteArray.size_append, ByteArray.size_extract, List.length_cons, List.length_nil, wrap64_eq]); omega) ?_)
            | fail)
          all_goals first | (exfalso; omega) | (exfalso; simp_all; done) | skip
          exact Again.go (j + 1) ⟨rfl, slI' (wsucc' j (by omega)), trivial⟩ (.keep rfl) ⟨by omega, by rw [hsn, hal2, hr]; rfl⟩ (by omega)
        | false =>
          have hpf : planB a b c d e f xs ys = false := by simp [planB, all_badG hyj hr]
          rw [hpf] at h0
          repeat' ((conv => whnf); first
            | (refine And.intro rfl ?_)
            | (refine And.intro (by decide +kernel) ?_)
            | (refine And.intro trivial ?_)
            | (refine hld _ ?_)
            | (refine d_l11Step (hm := hl) (h0 := ?_) ..)
            | (refine Exists.intro _ (And.intro (fun τ => callW_fn (d_l11Step (hm := hl) (h0 := And.intro rfl rfl) ..)) ?_))
            | (refine Exists.intro _ (And.intro (callW_fn (d_l11Step (hm := hl) (h0 := And.intro rfl rfl) ..)) (And.intro trivial ?_)))
            | (refine Exists.intro _ (And.intro (callW_fn (d_l11Step (hm := hl) (h0 := And.intro rfl rfl) ..)) ?_))
            | (refine Exists.intro _ (And.intro (fun τ _ => callW_fn (d_l11Step (hm := hl) (h0 := And.intro rfl rfl) ..)) ?_))
            | (refine Exists.intro _ (And.intro rfl (And.intro rfl (And.intro (Nat.le_of_ble_eq_true rfl) ?_))))
            | (refine Exists.intro _ (And.intro rfl (And.intro rfl (And.intro rfl (And.intro (Nat.le_of_ble_eq_true rfl) ?_)))))
            | (refine And.intro (Exists.intro _ (And.intro rfl rfl)) ?_)
            | (exact fun hW => absurd hW (by decide +kernel))
            | (intro hW; (try simp only [Bool.not_true, Bool.not_false, Bool.not_eq_true', Bool.not_eq_false', decide_eq_true_eq, decide_eq_false_iff_not, reduceCtorEq, Bool.true_eq_false, Bool.false_eq_true, mk_size, List.size_toArray, ByteArray.size_append, ByteArray.size_extract, List.length_cons, List.length_nil, ba_get, ba_empty, Int.toNat_natCast] at hW))
            | (refine And.intro (?_ : _ → _) (?_ : _ → _))
            | (refine FinR.drop 0 (Nat.zero_le _) (Closed.zero _) rfl ?_)
            | (refine FinR.keep ?_)
            | (refine And.intro (det3_agg rfl) ?_)
            | (refine fL_mk ?_)
            | (refine And.intro (by (try simp only [mk_size, List.size_toArray, ByteArray.size_append, ByteArray.size_extract, List.length_cons, List.length_nil]); omega) ?_)
            | (refine And.intro (by (try simp only [mk_size, List.size_toArray, ByteArray.size_append, ByteArray.size_extract, List.length_cons, List.length_nil, wrap64_eq]); omega) ?_)
            | fail)
          all_goals first | (exfalso; omega) | (exfalso; simp_all; done) | exact h0
      · obtain rfl : j = ys.length := by omega
        rw [List.take_length] at hal2
        rw [planB_iff.2 ⟨hs, hx4, hy40, hal, hal2⟩] at h0
        repeat' ((conv => whnf); first
          | (refine And.intro rfl ?_)
          | (refine And.intro (by decide +kernel) ?_)
          | (refine And.intro trivial ?_)
          | (refine Exists.intro _ (And.intro rfl (And.intro rfl (And.intro (Nat.le_of_ble_eq_true rfl) ?_))))
          | (refine Exists.intro _ (And.intro rfl (And.intro rfl (And.intro rfl (And.intro (Nat.le_of_ble_eq_true rfl) ?_)))))
          | (refine And.intro (Exists.intro _ (And.intro rfl rfl)) ?_)
          | (exact fun hW => absurd hW (by decide +kernel))
          | (intro hW; (try simp only [Bool.not_true, Bool.not_false, Bool.not_eq_true', Bool.not_eq_false', decide_eq_true_eq, decide_eq_false_iff_not, reduceCtorEq, Bool.true_eq_false, Bool.false_eq_true, mk_size, List.size_toArray, ByteArray.size_append, ByteArray.size_extract, List.length_cons, List.length_nil, ba_get, ba_empty, Int.toNat_natCast] at hW))
          | (refine And.intro (?_ : _ → _) (?_ : _ → _))
          | (refine FinR.drop 0 (Nat.zero_le _) (Closed.zero _) rfl ?_)
          | (refine FinR.keep ?_)
          | (refine And.intro (det3_agg rfl) ?_)
          | (refine fL_mk ?_)
          | (refine And.intro (by (try simp only [mk_size, List.size_toArray, ByteArray.size_append, ByteArray.size_extract, List.length_cons, List.length_nil]); omega) ?_)
          | (refine And.intro (by (try simp only [mk_size, List.size_toArray, ByteArray.size_append, ByteArray.size_extract, List.length_cons, List.length_nil, wrap64_eq]); omega) ?_)
          | fail)
        all_goals first | (exfalso; omega) | exact h0
  · have hpf : planB a b c d e f xs ys = false := by
      rw [Bool.eq_false_iff]; intro h
      have := planB_iff.1 h
      exact hg ⟨this.1, this.2.1, this.2.2.1⟩
    rw [hpf] at h0
    cases hs : shB6 a b c d e f with
    | true =>
      have hg2 : 4 < xs.length ∨ 40 < ys.length := by
        by_cases h4 : xs.length ≤ 4
        · right
          by_cases h5 : ys.length ≤ 40
          · exact absurd ⟨hs, h4, h5⟩ hg
          · omega
        · left; omega
      repeat' ((conv => whnf); first
        | (refine And.intro rfl ?_)
        | (refine And.intro (by decide +kernel) ?_)
        | (refine And.intro trivial ?_)
        | (refine d_l2Sheet (h0 := ?_) ..)
        | (refine Exists.intro _ (And.intro (fun τ => callW_fn (d_l2Sheet (h0 := And.intro rfl rfl) ..)) ?_))
        | (refine Exists.intro _ (And.intro (callW_fn (d_l2Sheet (h0 := And.intro rfl rfl) ..)) (And.intro trivial ?_)))
        | (refine Exists.intro _ (And.intro (callW_fn (d_l2Sheet (h0 := And.intro rfl rfl) ..)) ?_))
        | (refine Exists.intro _ (And.intro (fun τ _ => callW_fn (d_l2Sheet (h0 := And.intro rfl rfl) ..)) ?_))
        | (refine Exists.intro _ (And.intro rfl (And.intro rfl (And.intro (Nat.le_of_ble_eq_true rfl) ?_))))
        | (refine Exists.intro _ (And.intro rfl (And.intro rfl (And.intro rfl (And.intro (Nat.le_of_ble_eq_true rfl) ?_)))))
        | (refine And.intro (Exists.intro _ (And.intro rfl rfl)) ?_)
        | (exact fun hW => absurd hW (by decide +kernel))
        | (intro hW; (try simp only [Bool.not_true, Bool.not_false, Bool.not_eq_true', Bool.not_eq_false', decide_eq_true_eq, decide_eq_false_iff_not, reduceCtorEq, Bool.true_eq_false, Bool.false_eq_true, mk_size, List.size_toArray, ByteArray.size_append, ByteArray.size_extract, List.length_cons, List.length_nil, ba_get, ba_empty, Int.toNat_natCast] at hW))
        | (refine And.intro (?_ : _ → _) (?_ : _ → _))
        | (refine FinR.drop 0 (Nat.zero_le _) (Closed.zero _) rfl ?_)
        | (refine FinR.keep ?_)
        | (refine And.intro (det3_agg rfl) ?_)
        | (refine fL_mk ?_)
        | (refine And.intro (by (try simp only [mk_size, List.size_toArray, ByteArray.size_append, ByteArray.size_extract, List.length_cons, List.length_nil]); omega) ?_)
        | (refine And.intro (by (try simp only [mk_size, List.size_toArray, ByteArray.size_append, ByteArray.size_extract, List.length_cons, List.length_nil, wrap64_eq]); omega) ?_)
        | fail)
      all_goals first | (exfalso; omega) | (exfalso; simp_all; done) | exact h0
    | false =>
      repeat' ((conv => whnf); first
        | (refine And.intro rfl ?_)
        | (refine And.intro (by decide +kernel) ?_)
        | (refine And.intro trivial ?_)
        | (refine d_l2Sheet (h0 := ?_) ..)
        | (refine Exists.intro _ (And.intro (fun τ => callW_fn (d_l2Sheet (h0 := And.intro rfl rfl) ..)) ?_))
        | (refine Exists.intro _ (And.intro (callW_fn (d_l2Sheet (h0 := And.intro rfl rfl) ..)) (And.intro trivial ?_)))
        | (refine Exists.intro _ (And.intro (callW_fn (d_l2Sheet (h0 := And.intro rfl rfl) ..)) ?_))
        | (refine Exists.intro _ (And.intro (fun τ _ => callW_fn (d_l2Sheet (h0 := And.intro rfl rfl) ..)) ?_))
        | (refine Exists.intro _ (And.intro rfl (And.intro rfl (And.intro (Nat.le_of_ble_eq_true rfl) ?_))))
        | (refine Exists.intro _ (And.intro rfl (And.intro rfl (And.intro rfl (And.intro (Nat.le_of_ble_eq_true rfl) ?_)))))
        | (refine And.intro (Exists.intro _ (And.intro rfl rfl)) ?_)
        | (exact fun hW => absurd hW (by decide +kernel))
        | (intro hW; (try simp only [Bool.not_true, Bool.not_false, Bool.not_eq_true', Bool.not_eq_false', decide_eq_true_eq, decide_eq_false_iff_not, reduceCtorEq, Bool.true_eq_false, Bool.false_eq_true, mk_size, List.size_toArray, ByteArray.size_append, ByteArray.size_extract, List.length_cons, List.length_nil, ba_get, ba_empty, Int.toNat_natCast] at hW))
        | (refine And.intro (?_ : _ → _) (?_ : _ → _))
        | (refine FinR.drop 0 (Nat.zero_le _) (Closed.zero _) rfl ?_)
        | (refine FinR.keep ?_)
        | (refine And.intro (det3_agg rfl) ?_)
        | (refine fL_mk ?_)
        | (refine And.intro (by (try simp only [mk_size, List.size_toArray, ByteArray.size_append, ByteArray.size_extract, List.length_cons, List.length_nil]); omega) ?_)
        | (refine And.intro (by (try simp only [mk_size, List.size_toArray, ByteArray.size_append, ByteArray.size_extract, List.length_cons, List.length_nil, wrap64_eq]); omega) ?_)
        | fail)
      all_goals first | (exfalso; omega) | (exfalso; simp_all; done) | exact h0
end Go.Proofs.Ytjekjbkllhompaa
end

section
/- Contracts: plans by sets. -/
set_option linter.unusedVariables false
set_option linter.unusedSimpArgs false
set_option maxRecDepth 100000
set_option maxHeartbeats 4000000
namespace Go.Proofs.Ytjekjbkllhompaa
open Go Go.RowKit Go.Proofs.Ytjekjbkllhompaa.Abs
variable {W0 : World} {σ : List Blk}
/-- what a step of a kind does -/
def doA : Nat → AV
  | 1 => .lit (.func (.func 39) #[] #[])
  | 2 => .lit (.func (.func 40) #[] #[])
  | _ => .lit (.func (.func 41) #[] #[])
abbrev doB (k : Nat) : Blk := ⟨[doA k], 0, 89, 0, false, false⟩
abbrev uB (m : Nat) : Blk := ⟨[U m], 0, 80, 0, false, false⟩
abbrev cloA (a b : Nat) : AV := .fn (.func 42) [] [.ptr a 0 0, .ptr b 0 0]
abbrev plB (n : Nat) (s : AV) : Blk := ⟨[U n, s], 0, 86, 0, false, false⟩
/-- the steps of a plan by sets: kinds and pressed stamps -/
inductive StepsSt (σ : List Blk) : AV → List (Nat × Nat) → Prop
  | nil : StepsSt σ nilA []
  | own (r ver cap : Nat) (cs : List AV) (fs : List (Nat × Nat)) (hr : σ[r]? = some ⟨cs, ver, 91, 1, true, true⟩) (hl : cs.length = fs.length)
      (hc : ∀ (j k m : Nat), fs[j]? = some (k, m) → ∃ a b, cs[j]? = some (cloA a b) ∧ σ[a]? = some (doB k) ∧ σ[b]? = some (uB m)) : StepsSt σ (.sl r ver 0 fs.length cap) fs
structure PlanSt (σ : List Blk) (p n : Nat) (fs : List (Nat × Nat)) : Prop where
  ex : ∃ s, σ[p]? = some (plB n s) ∧ StepsSt σ s fs
theorem ne_e {σ : List Blk} {a b : Nat} {X Y : Blk} (h : σ[a]? = some X) (h' : σ[b]? = some Y) (he : X.e ≠ Y.e) : a ≠ b := fun e => he (by subst e; rw [h] at h'; rw [Option.some.inj h'])
theorem plan_step0 {σ : List Blk} {A : Blk} {n m k cap : Nat} {s : AV} (h2 : σ[2]? = some (plB n s)) :
    PlanSt ((σ ++ [A] ++ [uB m] ++ [doB k] ++ [(⟨[cloA (σ ++ [A] ++ [uB m]).length (σ ++ [A]).length], 0, 91, 1, true, true⟩ : Blk)]).set 2 (plB n (.sl (σ ++ [A] ++ [uB m] ++ [doB k]).length 0 0 1 cap))) 2 n [(k, m)] := by
  have hlt := getElem?_lt h2
  have hl1 : (σ ++ [A]).length = σ.length + 1 := by simp
  have hl2 : (σ ++ [A] ++ [uB m]).length = σ.length + 2 := by simp
  have hl3 : (σ ++ [A] ++ [uB m] ++ [doB k]).length = σ.length + 3 := by simp
  refine ⟨_, get_set (getx1 (getx1 (getx1 (getx1 h2)))), ?_⟩
  refine .own _ 0 cap _ [(k, m)] (get_ne getl (by omega)) rfl fun j k' m' hj => ?_
  cases j with
  | zero =>
    simp only [List.getElem?_cons_zero, Option.some.injEq, Prod.mk.injEq] at hj
    obtain ⟨rfl, rfl⟩ := hj
    exact ⟨_, _, rfl, get_ne (getx1 getl) (by omega), get_ne (getx1 (getx1 getl)) (by omega)⟩
  | succ j => simp at hj
theorem plan_stepS {σ : List Blk} {A : Blk} {n m k cap r ver : Nat} {s : AV} {cs : List AV} {fs : List (Nat × Nat)} (h2 : σ[2]? = some (plB n s)) (hr : σ[r]? = some ⟨cs, ver, 91, 1, true, true⟩) (hl : cs.length = fs.length)
    (hc : ∀ (j k m : Nat), fs[j]? = some (k, m) → ∃ a b, cs[j]? = some (cloA a b) ∧ σ[a]? = some (doB k) ∧ σ[b]? = some (uB m)) :
    PlanSt (((σ ++ [A] ++ [uB m] ++ [doB k]).set r ⟨cs ++ [cloA (σ ++ [A] ++ [uB m]).length (σ ++ [A]).length], ver + 1, 91, 1, true, true⟩).set 2 (plB n (.sl r (ver + 1) 0 (fs.length + 1) cap))) 2 n (fs ++ [(k, m)]) := by
  have hlt := getElem?_lt h2
  have hltr := getElem?_lt hr
  have hl1 : (σ ++ [A]).length = σ.length + 1 := by simp
  have hl2 : (σ ++ [A] ++ [uB m]).length = σ.length + 2 := by simp
  have hne : r ≠ 2 := ne_e hr h2 (show (91 : Nat) ≠ 86 by decide)
  refine ⟨_, get_set (get_ne (getx1 (getx1 (getx1 h2))) hne), ?_⟩
  have e : (fs ++ [(k, m)]).length = fs.length + 1 := by simp
  rw [← e]
  refine .own r (ver + 1) cap _ _ (get_ne (get_set (getx1 (getx1 (getx1 hr)))) (fun e => hne e.symm)) (by simp [hl]) fun j k' m' hj => ?_
  by_cases hj2 : j < fs.length
  · rw [List.getElem?_append_left hj2] at hj
    obtain ⟨a, b, q1, q2, q3⟩ := hc j k' m' hj
    have ha : a ≠ r := ne_e q2 hr (show (89 : Nat) ≠ 91 by decide)
    have hb : b ≠ r := ne_e q3 hr (show (80 : Nat) ≠ 91 by decide)
    have ha2 : a ≠ 2 := ne_e q2 h2 (show (89 : Nat) ≠ 86 by decide)
    have hb2 : b ≠ 2 := ne_e q3 h2 (show (80 : Nat) ≠ 86 by decide)
    refine ⟨a, b, ?_, get_ne (get_ne (getx1 (getx1 (getx1 q2))) ha.symm) ha2.symm, get_ne (get_ne (getx1 (getx1 (getx1 q3))) hb.symm) hb2.symm⟩
    rw [List.getElem?_append_left (by omega)]; exact q1
  · have hj3 : j = fs.length := by
      have := getElem?_lt hj
      simp at this; omega
    subst hj3
    rw [List.getElem?_append_right (Nat.le_refl _), Nat.sub_self] at hj
    simp only [List.getElem?_cons_zero, Option.some.injEq, Prod.mk.injEq] at hj
    obtain ⟨rfl, rfl⟩ := hj
    refine ⟨_, _, ?_, get_ne (get_ne getl (by omega)) (by omega), get_ne (get_ne (getx1 getl) (by omega)) (by omega)⟩
    rw [List.getElem?_append_right (by omega), hl, Nat.sub_self]; rfl
/-- sets of sheets, steps by sets -/
def stN (r : List Int) : Nat := setN (r.getD 0 0).toNat (r.getD 1 0).toNat (r.getD 2 0).toNat (r.getD 3 0).toNat (r.getD 4 0).toNat (r.getD 5 0).toNat
def fsOf (xs ys : List (List Int)) : List (Nat × Nat) := ys.map fun r => ((r.getD 0 0).toNat, prN (stN (xs.getD (r.getD 1 0).toNat [])) (r.getD 2 0).toNat (r.getD 3 0).toNat)
theorem st_parts {a b c d e f : Int} (h : shB6 a b c d e f = true) : ∃ n : Nat, n < 2 ^ 36 ∧ (rowN n 0 : Nat) = a ∧ (rowN n 1 : Nat) = b ∧ (rowN n 2 : Nat) = c ∧ (rowN n 3 : Nat) = d ∧ (rowN n 4 : Nat) = e ∧ (rowN n 5 : Nat) = f ∧ stN [a, b, c, d, e, f] = n := by
  obtain ⟨n, hn, rfl, rfl, rfl, rfl, rfl, rfl⟩ := shN_of h
  refine ⟨n, hn, rfl, rfl, rfl, rfl, rfl, rfl, ?_⟩
  simp only [stN, List.getD_cons_zero, List.getD_cons_succ, Int.toNat_natCast, setN_rows hn]
abbrev stB (l : List Nat) : Blk := ⟨l.map (fun n : Nat => U n), l.length, 80, 1, true, true⟩
theorem stB_get {l : List Nat} {i off : Nat} {n : Nat} (h : l[i]? = some n) (ho : off = i) : mkAV false (((l.map (fun n : Nat => U n)).drop off).take 1) = U n := by
  subst ho
  rw [← List.map_drop, ← List.map_take, List.drop_eq_getElem_cons (getElem?_lt h), (List.getElem?_eq_some_iff.1 h).2]; rfl
end Go.Proofs.Ytjekjbkllhompaa
end

section
/- Contracts: plans by sets: the program's planOf. -/
set_option linter.unusedVariables false
set_option linter.unusedSimpArgs false
set_option maxRecDepth 100000
set_option maxHeartbeats 4000000
namespace Go.Proofs.Ytjekjbkllhompaa
open Go Go.RowKit Go.Proofs.Ytjekjbkllhompaa.Abs
variable {W0 : World} {σ : List Blk}
abbrev nilP : AV := .lit (.pointer none)
structure PX where
  i : Nat
  σ : List Blk
theorem c_planOfG (a b c d e f : Int) (v1 v2 : Value) (xs ys : List (List Int)) (h1 : Sli W0 [] 6 enI (.lit v1) xs) (h2 : Sli W0 [] 4 enI (.lit v2) ys) (hx : ∀ x ∈ xs, x.length = 6) (hy : ∀ x ∈ ys, x.length = 4) (hs : shB6 a b c d e f = true) (hx4 : xs.length ≤ 4) (hy40 : ys.length ≤ 40) (K : Cont)
    (h0 : planB a b c d e f xs ys = true → ∀ σ', PlanSt σ' 2 (stN [a, b, c, d, e, f]) (fsOf xs ys) → K (.tup [.ptr 2 0 0, Bo true]) σ') (h00 : planB a b c d e f xs ys = false → K (.tup [nilP, Bo false]) []) : ACall Try.prog W0 26 [PlA a b c d e f (.lit v1) (.lit v2)] [] K := by
  obtain ⟨n, hn, rfl, rfl, rfl, rfl, rfl, rfl, hst⟩ := st_parts hs
  rw [hst] at h0
  refine by26 (Nat.le_of_ble_eq_true rfl) ?_
  obtain ⟨o1, n1, cap1, hv1, hn1, hc1, hm1, hf1⟩ := sli_form h1
  obtain ⟨o2, n2, cap2, hv2, hn2, hc2, hm2, hf2⟩ := sli_form h2
  cases hv1; cases hv2
  subst hn1; subst hn2
  repeat' ((conv => whnf); first
    | (refine And.intro rfl ?_)
    | (refine And.intro (by decide +kernel) ?_)
    | (refine And.intro trivial ?_)
    | (refine d_setOfN (n := n) (hn := hn) (h0 := ?_) ..)
    | (refine Exists.intro _ (And.intro rfl (And.intro rfl (And.intro (Nat.le_of_ble_eq_true rfl) ?_))))
    | (refine Exists.intro _ (And.intro rfl (And.intro rfl (And.intro rfl (And.intro (Nat.le_of_ble_eq_true rfl) ?_)))))
    | (refine And.intro (Exists.intro _ (And.intro rfl rfl)) ?_)
    | (exact fun hW => absurd hW (by decide +kernel))
    | (intro hW; (try simp only [Bool.not_true, Bool.not_false, Bool.not_eq_true', Bool.not_eq_false', decide_eq_true_eq, decide_eq_false_iff_not, reduceCtorEq, Bool.true_eq_false, Bool.false_eq_true, mk_size, List.size_toArray, ByteArray.size_append, ByteArray.size_extract, List.length_cons, List.length_nil, ba_get, ba_empty, Int.toNat_natCast] at hW))
    | (refine And.intro (?_ : _ → _) (?_ : _ → _))
    | (refine FinR.drop 0 (Nat.zero_le _) (Closed.zero _) rfl ?_)
    | (refine FinR.keep ?_)
    | (refine And.intro (det3_agg rfl) ?_)
    | (refine fL_mk ?_)
    | (refine And.intro (by (try simp only [mk_size, List.size_toArray, ByteArray.size_append, ByteArray.size_extract, List.length_cons, List.length_nil]); omega) ?_)
    | (refine And.intro (by (try simp only [mk_size, List.size_toArray, ByteArray.size_append, ByteArray.size_extract, List.length_cons, List.length_nil, wrap64_eq]); omega) ?_)
    | fail)
  all_goals first | (exfalso; omega) | (exfalso; simp_all; done) | skip
  refine LoopR.live (fun y : Nat × Nat => [(1, .ptr 0 0 0), (4, U n), (6, .sl 1 ((xs.take y.1).map stN).length 0 ((xs.take y.1).map stN).length y.2), (38, .lit (.slice o1 xs.length cap1)), (39, I xs.length), (40, I y.1)]) (fun y => [plBx (rowN n 0 : Nat) (rowN n 1 : Nat) (rowN n 2 : Nat) (rowN n 3 : Nat) (rowN n 4 : Nat) (rowN n 5 : Nat) (.lit (.slice o1 xs.length cap1)) (.lit (.slice o2 ys.length cap2)) 36, stB ((xs.take y.1).map stN)]) (fun y => y.1 ≤ xs.length ∧ (xs.take y.1).all shRow = true) (fun y => xs.length - y.1) (0, 0) ⟨rfl, rfl, rfl, rfl, rfl, rfl, trivial⟩ (.keep rfl) ⟨Nat.zero_le _, rfl⟩ ?_
  rintro ⟨i, cp⟩ ⟨hi, hxa⟩
  dsimp only at hi hxa
  have hml : ((xs.take i).map stN).length = i := by rw [List.length_map, List.length_take, Nat.min_eq_left hi]
  by_cases hlt : i < xs.length
  · obtain ⟨c0, c1, c2, c3, c4, c5, hxi⟩ := row6x hx hlt
    obtain ⟨ad, rfl, hb, hxx⟩ := hf1 i _ hxi
    have hld := fun C h => ldIn (W0 := W0) (s := 6) (enc := enI) hb hxx (k := i) hxi rfl (C := C) h
    cases hrr : shRow [c0, c1, c2, c3, c4, c5] with
    | false =>
      have hr : shB6 c0 c1 c2 c3 c4 c5 = false := hrr
      have h0 := h00 (by simp [planB, all_badG hxi hrr])
      repeat' ((conv => whnf); first
        | (refine And.intro rfl ?_)
        | (refine And.intro (by decide +kernel) ?_)
        | (refine And.intro trivial ?_)
        | (refine hld _ ?_)
        | (refine d_setOfF (hb := hr) (h0 := ?_) ..)
        | (refine Exists.intro _ (And.intro rfl (And.intro rfl (And.intro (Nat.le_of_ble_eq_true rfl) ?_))))
        | (refine Exists.intro _ (And.intro rfl (And.intro rfl (And.intro rfl (And.intro (Nat.le_of_ble_eq_true rfl) ?_)))))
        | (refine And.intro (Exists.intro _ (And.intro rfl rfl)) ?_)
        | (exact fun hW => absurd hW (by decide +kernel))
        | (intro hW; (try simp only [Bool.not_true, Bool.not_false, Bool.not_eq_true', Bool.not_eq_false', decide_eq_true_eq, decide_eq_false_iff_not, reduceCtorEq, Bool.true_eq_false, Bool.false_eq_true, mk_size, List.size_toArray, ByteArray.size_append, ByteArray.size_extract, List.length_cons, List.length_nil, ba_get, ba_empty, Int.toNat_natCast] at hW))
        | (refine And.intro (?_ : _ → _) (?_ : _ → _))
        | (refine FinR.drop 0 (Nat.zero_le _) (Closed.zero _) rfl ?_)
        | (refine FinR.keep ?_)
        | (refine And.intro (det3_agg rfl) ?_)
        | (refine fL_mk ?_)
        | (refine And.intro (by (try simp only [mk_size, List.size_toArray, ByteArray.size_append, ByteArray.size_extract, List.length_cons, List.length_nil]); omega) ?_)
        | (refine And.intro (by (try simp only [mk_size, List.size_toArray, ByteArray.size_append, ByteArray.size_extract, List.length_cons, List.length_nil, wrap64_eq]); omega) ?_)
        | fail)
      all_goals first | (exfalso; omega) | (exfalso; simp_all; done) | exact h0
    | true =>
      have hr : shB6 c0 c1 c2 c3 c4 c5 = true := hrr
      obtain ⟨m, hm, rfl, rfl, rfl, rfl, rfl, rfl, hsm⟩ := st_parts hr
      have hsn : (xs.take (i + 1)).map stN = (xs.take i).map stN ++ [m] := by rw [take_snoc hxi, List.map_append, List.map_cons, hsm]; rfl
      repeat' ((conv => whnf); first
        | (refine And.intro rfl ?_)
        | (refine And.intro (by decide +kernel) ?_)
        | (refine And.intro trivial ?_)
        | (refine hld _ ?_)
        | (refine d_setOfN (n := m) (hn := hm) (h0 := ?_) ..)
        | (refine Exists.intro _ (And.intro rfl (And.intro rfl (And.intro rfl (And.intro rfl (And.intro rfl (And.intro rfl (And.intro (by decide) (And.intro (by simp [List.length_map]) (And.intro rfl (And.intro (by (try dsimp only); unfold maxLen; omega) (And.intro (by (try dsimp only); omega) (fun cap' hcap1 hcap2 => ?_)))))))))))))
        | (refine Exists.intro _ (And.intro rfl (And.intro rfl (And.intro (Nat.le_of_ble_eq_true rfl) ?_))))
        | (refine Exists.intro _ (And.intro rfl (And.intro rfl (And.intro rfl (And.intro (Nat.le_of_ble_eq_true rfl) ?_)))))
        | (refine And.intro (Exists.intro _ (And.intro rfl rfl)) ?_)
        | (exact fun hW => absurd hW (by decide +kernel))
        | (intro hW; (try simp only [Bool.not_true, Bool.not_false, Bool.not_eq_true', Bool.not_eq_false', decide_eq_true_eq, decide_eq_false_iff_not, reduceCtorEq, Bool.true_eq_false, Bool.false_eq_true, mk_size, List.size_toArray, ByteArray.size_append, ByteArray.size_extract, List.length_cons, List.length_nil, ba_get, ba_empty, Int.toNat_natCast] at hW))
        | (refine And.intro (?_ : _ → _) (?_ : _ → _))
        | (refine FinR.drop 0 (Nat.zero_le _) (Closed.zero _) rfl ?_)
        | (refine FinR.keep ?_)
        | (refine And.intro (det3_agg rfl) ?_)
        | (refine fL_mk ?_)
        | (refine And.intro (by (try simp only [mk_size, List.size_toArray, ByteArray.size_append, ByteArray.size_extract, List.length_cons, List.length_nil]); omega) ?_)
        | (refine And.intro (by (try simp only [mk_size, List.size_toArray, ByteArray.size_append, ByteArray.size_extract, List.length_cons, List.length_nil, wrap64_eq]); omega) ?_)
        | fail)
      all_goals first | (exfalso; omega) | (exfalso; simp_all; done) | skip
      refine Again.go (i + 1, _) ⟨rfl, rfl, (by show AV.sl _ _ _ _ _ = AV.sl _ _ _ _ _; rw [hsn, List.length_append]; rfl), rfl, rfl, slI' (wsucc' i (by omega)), trivial⟩ (.drop 2 (Nat.zero_le _) ?_ (closCons rfl (closCons (List.all_eq_true.2 fun v hv => by obtain ⟨w, _, rfl⟩ := List.mem_map.1 hv; rfl) (closNil 2))) rfl) ⟨by dsimp only; omega, by dsimp only; rw [all_takeG hxi, hxa, hrr]; rfl⟩ (by dsimp only; omega)
      dsimp only [stB]
      rw [hsn, List.length_append, List.map_append]; rfl
  · obtain rfl : i = xs.length := by omega
    rw [List.take_length] at hml hxa ⊢
    repeat' ((conv => whnf); first
      | (refine And.intro rfl ?_)
      | (refine And.intro (by decide +kernel) ?_)
      | (refine And.intro trivial ?_)
      | (refine Exists.intro _ (And.intro rfl (And.intro rfl (And.intro (Nat.le_of_ble_eq_true rfl) ?_))))
      | (refine Exists.intro _ (And.intro rfl (And.intro rfl (And.intro rfl (And.intro (Nat.le_of_ble_eq_true rfl) ?_)))))
      | (refine And.intro (Exists.intro _ (And.intro rfl rfl)) ?_)
      | (exact fun hW => absurd hW (by decide +kernel))
      | (intro hW; (try simp only [Bool.not_true, Bool.not_false, Bool.not_eq_true', Bool.not_eq_false', decide_eq_true_eq, decide_eq_false_iff_not, reduceCtorEq, Bool.true_eq_false, Bool.false_eq_true, mk_size, List.size_toArray, ByteArray.size_append, ByteArray.size_extract, List.length_cons, List.length_nil, ba_get, ba_empty, Int.toNat_natCast] at hW))
      | (refine And.intro (?_ : _ → _) (?_ : _ → _))
      | (refine FinR.drop 0 (Nat.zero_le _) (Closed.zero _) rfl ?_)
      | (refine FinR.keep ?_)
      | (refine And.intro (det3_agg rfl) ?_)
      | (refine fL_mk ?_)
      | (refine And.intro (by (try simp only [mk_size, List.size_toArray, ByteArray.size_append, ByteArray.size_extract, List.length_cons, List.length_nil]); omega) ?_)
      | (refine And.intro (by (try simp only [mk_size, List.size_toArray, ByteArray.size_append, ByteArray.size_extract, List.length_cons, List.length_nil, wrap64_eq]); omega) ?_)
      | fail)
    all_goals first | (exfalso; omega) | skip
    refine LoopR.live (fun y : PX => [(6, .sl 1 (xs.map stN).length 0 (xs.map stN).length cp), (11, .ptr 2 0 0), (60, .lit (.slice o2 ys.length cap2)), (61, I ys.length), (62, I y.i)]) (fun y => y.σ) (fun y => y.i ≤ ys.length ∧ y.σ[1]? = some (stB (xs.map stN)) ∧ PlanSt y.σ 2 n ((fsOf xs ys).take y.i) ∧ (ys.take y.i).all (stOk xs.length) = true) (fun y => ys.length - y.i) ⟨0, _⟩ ⟨rfl, rfl, rfl, rfl, rfl, trivial⟩ (.keep rfl) ⟨Nat.zero_le _, rfl, ⟨nilA, rfl, .nil⟩, rfl⟩ ?_
    rintro ⟨j, σ⟩ ⟨hj, h1, hps, hya⟩
    dsimp only at hj h1 hps hya
    by_cases hlt2 : j < ys.length
    · obtain ⟨k, s, x, y, hyj⟩ := row4x hy hlt2
      obtain ⟨ad, rfl, hb, hxx⟩ := hf2 j _ hyj
      have hld := fun C h => ldIn (W0 := W0) (s := 4) (enc := enI) hb hxx (k := j) hyj rfl (C := C) h
      have hmm : (xs.map stN).length ≤ 1048576 := by omega
      cases hok : stOk xs.length [k, s, x, y] with
      | false =>
        have h0 := h00 (by simp [planB, all_badG hyj hok])
        rw [← hml] at hok
        repeat' ((conv => whnf); first
          | (refine Exists.intro _ (And.intro getl (And.intro rfl (And.intro rfl (And.intro (Nat.le_of_ble_eq_true rfl) ?_)))); rw [set_last])
          | (refine And.intro rfl ?_)
          | (refine And.intro (by decide +kernel) ?_)
          | (refine And.intro trivial ?_)
          | (refine fS_mk ?_)
          | (refine hld _ ?_)
          | (refine d_isStep (m := (xs.map stN).length) (hm := hmm) (h0 := ?_) ..)
          | (refine Exists.intro _ (And.intro (fun τ => callW_fn (d_isStep (m := (xs.map stN).length) (hm := hmm) (h0 := And.intro rfl rfl) ..)) ?_))
          | (refine Exists.intro _ (And.intro (callW_fn (d_isStep (m := (xs.map stN).length) (hm := hmm) (h0 := And.intro rfl rfl) ..)) (And.intro trivial ?_)))
          | (refine Exists.intro _ (And.intro (callW_fn (d_isStep (m := (xs.map stN).length) (hm := hmm) (h0 := And.intro rfl rfl) ..)) ?_))
          | (refine Exists.intro _ (And.intro (fun τ _ => callW_fn (d_isStep (m := (xs.map stN).length) (hm := hmm) (h0 := And.intro rfl rfl) ..)) ?_))
          | (refine Exists.intro _ (And.intro getl (And.intro rfl (And.intro (Nat.le_of_ble_eq_true rfl) ?_))))
          | (refine Exists.intro _ (And.intro (getx1 getl) (And.intro rfl (And.intro (Nat.le_of_ble_eq_true rfl) ?_))))
          | (refine Exists.intro _ (And.intro (getx1 (getx1 getl)) (And.intro rfl (And.intro (Nat.le_of_ble_eq_true rfl) ?_))))
          | (refine Exists.intro _ (And.intro (getx1 h1) (And.intro rfl (And.intro (Nat.le_of_ble_eq_true rfl) ?_))))
          | (refine Exists.intro _ (And.intro (getx1 (getx1 h1)) (And.intro rfl (And.intro (Nat.le_of_ble_eq_true rfl) ?_))))
          | (refine Exists.intro _ (And.intro (getx1 (getx1 (getx1 h1))) (And.intro rfl (And.intro (Nat.le_of_ble_eq_true rfl) ?_))))
          | (refine And.intro ⟨_, getl, rfl⟩ ?_)
          | (refine And.intro ⟨_, (getx1 getl), rfl⟩ ?_)
          | (refine And.intro ⟨_, (getx1 (getx1 getl)), rfl⟩ ?_)
          | (refine And.intro ⟨_, (getx1 h1), rfl⟩ ?_)
          | (refine And.intro ⟨_, (getx1 (getx1 h1)), rfl⟩ ?_)
          | (refine And.intro ⟨_, (getx1 (getx1 (getx1 h1))), rfl⟩ ?_)
          | (refine Exists.intro _ (And.intro rfl (And.intro rfl (And.intro (Nat.le_of_ble_eq_true rfl) ?_))))
          | (refine Exists.intro _ (And.intro rfl (And.intro rfl (And.intro rfl (And.intro (Nat.le_of_ble_eq_true rfl) ?_)))))
          | (refine And.intro (Exists.intro _ (And.intro rfl rfl)) ?_)
          | (exact fun hW => absurd hW (by decide +kernel))
          | (intro hW; (try simp only [Bool.not_true, Bool.not_false, Bool.not_eq_true', Bool.not_eq_false', decide_eq_true_eq, decide_eq_false_iff_not, reduceCtorEq, Bool.true_eq_false, Bool.false_eq_true, mk_size, List.size_toArray, ByteArray.size_append, ByteArray.size_extract, List.length_cons, List.length_nil, ba_get, ba_empty, Int.toNat_natCast] at hW))
          | (refine And.intro (?_ : _ → _) (?_ : _ → _))
          | (refine FinR.drop 0 (Nat.zero_le _) (Closed.zero _) rfl ?_)
          | (refine FinR.keep ?_)
          | (refine And.intro (det3_agg rfl) ?_)
          | (refine fL_mk ?_)
          | (refine And.intro (by (try simp only [mk_size, List.size_toArray, ByteArray.size_append, ByteArray.size_extract, List.length_cons, List.length_nil]); omega) ?_)
          | (refine And.intro (by (try simp only [mk_size, List.size_toArray, ByteArray.size_append, ByteArray.size_extract, List.length_cons, List.length_nil, wrap64_eq]); omega) ?_)
          | fail)
        all_goals first | (exfalso; omega) | (exfalso; simp_all; done) | exact h0 | (exfalso; rw [hok] at hW; cases hW; done)
      | true =>
        have hnx : (ys.take (j + 1)).all (stOk xs.length) = true := by rw [all_takeG hyj, hya, hok]; rfl
        have hok2 := hok
        rw [stOk_eq] at hok2
        simp only [Bool.and_eq_true] at hok2
        obtain ⟨⟨hk, hsx⟩, hce⟩ := hok2
        have hk3 := (inB_iff _ _ _).1 hk
        have hs3 := (inB_iff _ _ _).1 hsx
        obtain ⟨u, v, rfl, rfl, hu, hv⟩ : ∃ u v : Nat, x = u ∧ y = v ∧ u < 6 ∧ v < 6 := by
          have := cellB_iff.1 hce
          exact ⟨x.toNat, y.toNat, by omega, by omega, by omega, by omega⟩
        have hxs := xget (xs := xs) (k := s) (by omega)
        have hq : shRow (xs.getD s.toNat []) = true := List.all_eq_true.1 hxa _ (List.mem_of_getElem? hxs)
        have hq6 := hx _ (List.mem_of_getElem? hxs)
        obtain ⟨m, hm, hsm⟩ : ∃ m : Nat, m < 2 ^ 36 ∧ stN (xs.getD s.toNat []) = m := by
          match hz : xs.getD s.toNat [], hq6, hq with
          | [c0, c1, c2, c3, c4, c5], _, hq =>
            obtain ⟨m, hm, _, _, _, _, _, _, hsm⟩ := st_parts hq
            exact ⟨m, hm, hsm⟩
        have hsg : (xs.map stN)[s.toNat]? = some m := by rw [List.getElem?_map, hxs, Option.map_some, hsm]
        have hfs : (fsOf xs ys).take (j + 1) = (fsOf xs ys).take j ++ [(k.toNat, prN m u v)] := by
          refine take_snoc ?_
          rw [fsOf, List.getElem?_map, hyj]
          show some (k.toNat, prN (stN (xs.getD s.toNat [])) u v) = _
          rw [hsm]
        have hpr : ∀ {W : World} {σ : List Blk} (K : Cont), K (U (prN m u v : Nat)) σ → ACall Try.prog W 37 [U m, I (v * 6 + u : Nat)] σ K := by
          intro W σ K hK
          refine d_pressed m (v * 6 + u) hm (by omega) K ?_
          rw [show (v * 6 + u) % 6 = u by omega, show (v * 6 + u) / 6 = v by omega]
          exact hK
        have hget := stB_get hsg (off := 0 + s.toNat * 1) (by omega)
        have hgle : 0 + s.toNat * 1 + 1 ≤ ((xs.map stN).map (fun n : Nat => U n)).length := by rw [List.length_map, List.length_map]; omega
        rw [← hml] at hok hs3
        obtain ⟨st, h2, hst2⟩ := hps.ex
        have hps0 : ∀ k', k.toNat = k' → 1 ≤ k' ∧ k' ≤ 3 := by intro k' e; omega
        obtain ⟨k', rfl, hk1, hk2⟩ : ∃ k' : Nat, k = k' ∧ 1 ≤ k' ∧ k' ≤ 3 := ⟨k.toNat, by omega, by omega, by omega⟩
        rw [Int.toNat_natCast] at hfs
        generalize (fsOf xs ys).take j = fs at hst2 hps hfs
        clear hps0
        cases hst2 with
        | nil =>
          obtain rfl | rfl | rfl : k' = 1 ∨ k' = 2 ∨ k' = 3 := by omega
          · skip
            repeat' ((conv => whnf); first
              | (refine And.intro rfl (Exists.intro (stB (xs.map stN)) (And.intro (getx1 h1) (And.intro rfl (And.intro hgle ?_)))); rw [show (stB (xs.map stN)).cells = (xs.map stN).map (fun n : Nat => U n) from rfl, hget])
              | (refine Exists.intro _ (And.intro getl (And.intro rfl (And.intro rfl (And.intro (Nat.le_of_ble_eq_true rfl) ?_)))); rw [set_last])
              | (refine And.intro rfl ?_)
              | (refine And.intro (by decide +kernel) ?_)
              | (refine And.intro trivial ?_)
              | (refine fS_mk ?_)
              | (refine hld _ ?_)
              | (refine d_isStep (m := (xs.map stN).length) (hm := hmm) (h0 := ?_) ..)
              | (refine Exists.intro _ (And.intro (fun τ => callW_fn (d_isStep (m := (xs.map stN).length) (hm := hmm) (h0 := And.intro rfl rfl) ..)) ?_))
              | (refine Exists.intro _ (And.intro (callW_fn (d_isStep (m := (xs.map stN).length) (hm := hmm) (h0 := And.intro rfl rfl) ..)) (And.intro trivial ?_)))
              | (refine Exists.intro _ (And.intro (callW_fn (d_isStep (m := (xs.map stN).length) (hm := hmm) (h0 := And.intro rfl rfl) ..)) ?_))
              | (refine Exists.intro _ (And.intro (fun τ _ => callW_fn (d_isStep (m := (xs.map stN).length) (hm := hmm) (h0 := And.intro rfl rfl) ..)) ?_))
              | (refine Exists.intro _ (And.intro (fun τ => callW_fn (d_number (hx := by omega) (hy := by omega) (h0 := And.intro rfl rfl) ..)) ?_))
              | (refine Exists.intro _ (And.intro (fun τ => callW_fn (hpr _ (And.intro rfl rfl))) ?_))
              | (refine Exists.intro _ (And.intro getl (And.intro rfl (And.intro (Nat.le_of_ble_eq_true rfl) ?_))))
              | (refine Exists.intro _ (And.intro (getx1 getl) (And.intro rfl (And.intro (Nat.le_of_ble_eq_true rfl) ?_))))
              | (refine Exists.intro _ (And.intro (getx1 (getx1 getl)) (And.intro rfl (And.intro (Nat.le_of_ble_eq_true rfl) ?_))))
              | (refine Exists.intro _ (And.intro (getx1 h1) (And.intro rfl (And.intro (Nat.le_of_ble_eq_true rfl) ?_))))
              | (refine Exists.intro _ (And.intro (getx1 (getx1 h1)) (And.intro rfl (And.intro (Nat.le_of_ble_eq_true rfl) ?_))))
              | (refine Exists.intro _ (And.intro (getx1 (getx1 (getx1 h1))) (And.intro rfl (And.intro (Nat.le_of_ble_eq_true rfl) ?_))))
              | (refine Exists.intro _ (And.intro (getx1 h2) (And.intro rfl (And.intro (Nat.le_of_ble_eq_true rfl) ?_))))
              | (refine Exists.intro _ (And.intro (getx1 (getx1 h2)) (And.intro rfl (And.intro (Nat.le_of_ble_eq_true rfl) ?_))))
              | (refine Exists.intro _ (And.intro (getx1 (getx1 (getx1 h2))) (And.intro rfl (And.intro (Nat.le_of_ble_eq_true rfl) ?_))))
              | (refine And.intro ⟨_, getl, rfl⟩ ?_)
              | (refine And.intro ⟨_, (getx1 getl), rfl⟩ ?_)
              | (refine And.intro ⟨_, (getx1 (getx1 getl)), rfl⟩ ?_)
              | (refine And.intro ⟨_, (getx1 h1), rfl⟩ ?_)
              | (refine And.intro ⟨_, (getx1 (getx1 h1)), rfl⟩ ?_)
              | (refine And.intro ⟨_, (getx1 (getx1 (getx1 h1))), rfl⟩ ?_)
              | (refine And.intro ⟨_, (getx1 h2), rfl⟩ ?_)
              | (refine And.intro ⟨_, (getx1 (getx1 h2)), rfl⟩ ?_)
              | (refine And.intro ⟨_, (getx1 (getx1 (getx1 h2))), rfl⟩ ?_)
              | (refine And.intro ⟨_, (getx1 (getx1 (getx1 (getx1 h2)))), rfl⟩ ?_)
              | (refine Exists.intro _ (And.intro (getx1 (getx1 (getx1 (getx1 h2)))) (And.intro rfl (And.intro rfl (And.intro (Nat.le_of_ble_eq_true rfl) ?_)))))
              | (refine Exists.intro _ (And.intro rfl (And.intro rfl (And.intro (Nat.le_of_ble_eq_true rfl) ?_))))
              | (refine Exists.intro _ (And.intro rfl (And.intro rfl (And.intro rfl (And.intro (Nat.le_of_ble_eq_true rfl) ?_)))))
              | (refine And.intro (Exists.intro _ (And.intro rfl rfl)) ?_)
              | (exact fun hW => absurd hW (by decide +kernel))
              | (intro hW; (try simp only [Bool.not_true, Bool.not_false, Bool.not_eq_true', Bool.not_eq_false', decide_eq_true_eq, decide_eq_false_iff_not, reduceCtorEq, Bool.true_eq_false, Bool.false_eq_true, mk_size, List.size_toArray, ByteArray.size_append, ByteArray.size_extract, List.length_cons, List.length_nil, ba_get, ba_empty, Int.toNat_natCast] at hW))
              | (refine And.intro (?_ : _ → _) (?_ : _ → _))
              | (refine FinR.drop 0 (Nat.zero_le _) (Closed.zero _) rfl ?_)
              | (refine FinR.keep ?_)
              | (refine And.intro (det3_agg rfl) ?_)
              | (refine fL_mk ?_)
              | (refine And.intro (by (try simp only [mk_size, List.size_toArray, ByteArray.size_append, ByteArray.size_extract, List.length_cons, List.length_nil]); omega) ?_)
              | (refine And.intro (by (try simp only [mk_size, List.size_toArray, ByteArray.size_append, ByteArray.size_extract, List.length_cons, List.length_nil, wrap64_eq]); omega) ?_)
              | fail)
            all_goals first | (exfalso; omega) | (exfalso; simp_all; done) | (exfalso; rw [hok] at hW; cases hW; done) | skip
            refine Again.go ⟨j + 1, _⟩ ⟨rfl, rfl, rfl, rfl, slI' (wsucc' j (by omega)), trivial⟩ (.keep rfl) ⟨by dsimp only; omega, get_ne (getx1 (getx1 (getx1 (getx1 h1)))) (by decide), ?_, hnx⟩ (by dsimp only; omega)
            dsimp only
            rw [hfs]
            exact plan_step0 (m := prN m u v) (k := 1) (s := nilA) h2
          · skip
            repeat' ((conv => whnf); first
              | (refine And.intro rfl (Exists.intro (stB (xs.map stN)) (And.intro (getx1 h1) (And.intro rfl (And.intro hgle ?_)))); rw [show (stB (xs.map stN)).cells = (xs.map stN).map (fun n : Nat => U n) from rfl, hget])
              | (refine Exists.intro _ (And.intro getl (And.intro rfl (And.intro rfl (And.intro (Nat.le_of_ble_eq_true rfl) ?_)))); rw [set_last])
              | (refine And.intro rfl ?_)
              | (refine And.intro (by decide +kernel) ?_)
              | (refine And.intro trivial ?_)
              | (refine fS_mk ?_)
              | (refine hld _ ?_)
              | (refine d_isStep (m := (xs.map stN).length) (hm := hmm) (h0 := ?_) ..)
              | (refine Exists.intro _ (And.intro (fun τ => callW_fn (d_isStep (m := (xs.map stN).length) (hm := hmm) (h0 := And.intro rfl rfl) ..)) ?_))
              | (refine Exists.intro _ (And.intro (callW_fn (d_isStep (m := (xs.map stN).length) (hm := hmm) (h0 := And.intro rfl rfl) ..)) (And.intro trivial ?_)))
              | (refine Exists.intro _ (And.intro (callW_fn (d_isStep (m := (xs.map stN).length) (hm := hmm) (h0 := And.intro rfl rfl) ..)) ?_))
              | (refine Exists.intro _ (And.intro (fun τ _ => callW_fn (d_isStep (m := (xs.map stN).length) (hm := hmm) (h0 := And.intro rfl rfl) ..)) ?_))
              | (refine Exists.intro _ (And.intro (fun τ => callW_fn (d_number (hx := by omega) (hy := by omega) (h0 := And.intro rfl rfl) ..)) ?_))
              | (refine Exists.intro _ (And.intro (fun τ => callW_fn (hpr _ (And.intro rfl rfl))) ?_))
              | (refine Exists.intro _ (And.intro getl (And.intro rfl (And.intro (Nat.le_of_ble_eq_true rfl) ?_))))
              | (refine Exists.intro _ (And.intro (getx1 getl) (And.intro rfl (And.intro (Nat.le_of_ble_eq_true rfl) ?_))))
              | (refine Exists.intro _ (And.intro (getx1 (getx1 getl)) (And.intro rfl (And.intro (Nat.le_of_ble_eq_true rfl) ?_))))
              | (refine Exists.intro _ (And.intro (getx1 h1) (And.intro rfl (And.intro (Nat.le_of_ble_eq_true rfl) ?_))))
              | (refine Exists.intro _ (And.intro (getx1 (getx1 h1)) (And.intro rfl (And.intro (Nat.le_of_ble_eq_true rfl) ?_))))
              | (refine Exists.intro _ (And.intro (getx1 (getx1 (getx1 h1))) (And.intro rfl (And.intro (Nat.le_of_ble_eq_true rfl) ?_))))
              | (refine Exists.intro _ (And.intro (getx1 h2) (And.intro rfl (And.intro (Nat.le_of_ble_eq_true rfl) ?_))))
              | (refine Exists.intro _ (And.intro (getx1 (getx1 h2)) (And.intro rfl (And.intro (Nat.le_of_ble_eq_true rfl) ?_))))
              | (refine Exists.intro _ (And.intro (getx1 (getx1 (getx1 h2))) (And.intro rfl (And.intro (Nat.le_of_ble_eq_true rfl) ?_))))
              | (refine And.intro ⟨_, getl, rfl⟩ ?_)
              | (refine And.intro ⟨_, (getx1 getl), rfl⟩ ?_)
              | (refine And.intro ⟨_, (getx1 (getx1 getl)), rfl⟩ ?_)
              | (refine And.intro ⟨_, (getx1 h1), rfl⟩ ?_)
              | (refine And.intro ⟨_, (getx1 (getx1 h1)), rfl⟩ ?_)
              | (refine And.intro ⟨_, (getx1 (getx1 (getx1 h1))), rfl⟩ ?_)
              | (refine And.intro ⟨_, (getx1 h2), rfl⟩ ?_)
              | (refine And.intro ⟨_, (getx1 (getx1 h2)), rfl⟩ ?_)
              | (refine And.intro ⟨_, (getx1 (getx1 (getx1 h2))), rfl⟩ ?_)
              | (refine And.intro ⟨_, (getx1 (getx1 (getx1 (getx1 h2)))), rfl⟩ ?_)
              | (refine Exists.intro _ (And.intro (getx1 (getx1 (getx1 (getx1 h2)))) (And.intro rfl (And.intro rfl (And.intro (Nat.le_of_ble_eq_true rfl) ?_)))))
              | (refine Exists.intro _ (And.intro rfl (And.intro rfl (And.intro (Nat.le_of_ble_eq_true rfl) ?_))))
              | (refine Exists.intro _ (And.intro rfl (And.intro rfl (And.intro rfl (And.intro (Nat.le_of_ble_eq_true rfl) ?_)))))
              | (refine And.intro (Exists.intro _ (And.intro rfl rfl)) ?_)
              | (exact fun hW => absurd hW (by decide +kernel))
              | (intro hW; (try simp only [Bool.not_true, Bool.not_false, Bool.not_eq_true', Bool.not_eq_false', decide_eq_true_eq, decide_eq_false_iff_not, reduceCtorEq, Bool.true_eq_false, Bool.false_eq_true, mk_size, List.size_toArray, ByteArray.size_append, ByteArray.size_extract, List.length_cons, List.length_nil, ba_get, ba_empty, Int.toNat_natCast] at hW))
              | (refine And.intro (?_ : _ → _) (?_ : _ → _))
              | (refine FinR.drop 0 (Nat.zero_le _) (Closed.zero _) rfl ?_)
              | (refine FinR.keep ?_)
              | (refine And.intro (det3_agg rfl) ?_)
              | (refine fL_mk ?_)
              | (refine And.intro (by (try simp only [mk_size, List.size_toArray, ByteArray.size_append, ByteArray.size_extract, List.length_cons, List.length_nil]); omega) ?_)
              | (refine And.intro (by (try simp only [mk_size, List.size_toArray, ByteArray.size_append, ByteArray.size_extract, List.length_cons, List.length_nil, wrap64_eq]); omega) ?_)
              | fail)
            all_goals first | (exfalso; omega) | (exfalso; simp_all; done) | (exfalso; rw [hok] at hW; cases hW; done) | skip
            refine Again.go ⟨j + 1, _⟩ ⟨rfl, rfl, rfl, rfl, slI' (wsucc' j (by omega)), trivial⟩ (.keep rfl) ⟨by dsimp only; omega, get_ne (getx1 (getx1 (getx1 (getx1 h1)))) (by decide), ?_, hnx⟩ (by dsimp only; omega)
            dsimp only
            rw [hfs]
            exact plan_step0 (m := prN m u v) (k := 2) (s := nilA) h2
          · skip
            repeat' ((conv => whnf); first
              | (refine And.intro rfl (Exists.intro (stB (xs.map stN)) (And.intro (getx1 h1) (And.intro rfl (And.intro hgle ?_)))); rw [show (stB (xs.map stN)).cells = (xs.map stN).map (fun n : Nat => U n) from rfl, hget])
              | (refine Exists.intro _ (And.intro getl (And.intro rfl (And.intro rfl (And.intro (Nat.le_of_ble_eq_true rfl) ?_)))); rw [set_last])
              | (refine And.intro rfl ?_)
              | (refine And.intro (by decide +kernel) ?_)
              | (refine And.intro trivial ?_)
              | (refine fS_mk ?_)
              | (refine hld _ ?_)
              | (refine d_isStep (m := (xs.map stN).length) (hm := hmm) (h0 := ?_) ..)
              | (refine Exists.intro _ (And.intro (fun τ => callW_fn (d_isStep (m := (xs.map stN).length) (hm := hmm) (h0 := And.intro rfl rfl) ..)) ?_))
              | (refine Exists.intro _ (And.intro (callW_fn (d_isStep (m := (xs.map stN).length) (hm := hmm) (h0 := And.intro rfl rfl) ..)) (And.intro trivial ?_)))
              | (refine Exists.intro _ (And.intro (callW_fn (d_isStep (m := (xs.map stN).length) (hm := hmm) (h0 := And.intro rfl rfl) ..)) ?_))
              | (refine Exists.intro _ (And.intro (fun τ _ => callW_fn (d_isStep (m := (xs.map stN).length) (hm := hmm) (h0 := And.intro rfl rfl) ..)) ?_))
              | (refine Exists.intro _ (And.intro (fun τ => callW_fn (d_number (hx := by omega) (hy := by omega) (h0 := And.intro rfl rfl) ..)) ?_))
              | (refine Exists.intro _ (And.intro (fun τ => callW_fn (hpr _ (And.intro rfl rfl))) ?_))
              | (refine Exists.intro _ (And.intro getl (And.intro rfl (And.intro (Nat.le_of_ble_eq_true rfl) ?_))))
              | (refine Exists.intro _ (And.intro (getx1 getl) (And.intro rfl (And.intro (Nat.le_of_ble_eq_true rfl) ?_))))
              | (refine Exists.intro _ (And.intro (getx1 (getx1 getl)) (And.intro rfl (And.intro (Nat.le_of_ble_eq_true rfl) ?_))))
              | (refine Exists.intro _ (And.intro (getx1 h1) (And.intro rfl (And.intro (Nat.le_of_ble_eq_true rfl) ?_))))
              | (refine Exists.intro _ (And.intro (getx1 (getx1 h1)) (And.intro rfl (And.intro (Nat.le_of_ble_eq_true rfl) ?_))))
              | (refine Exists.intro _ (And.intro (getx1 (getx1 (getx1 h1))) (And.intro rfl (And.intro (Nat.le_of_ble_eq_true rfl) ?_))))
              | (refine Exists.intro _ (And.intro (getx1 h2) (And.intro rfl (And.intro (Nat.le_of_ble_eq_true rfl) ?_))))
              | (refine Exists.intro _ (And.intro (getx1 (getx1 h2)) (And.intro rfl (And.intro (Nat.le_of_ble_eq_true rfl) ?_))))
              | (refine Exists.intro _ (And.intro (getx1 (getx1 (getx1 h2))) (And.intro rfl (And.intro (Nat.le_of_ble_eq_true rfl) ?_))))
              | (refine And.intro ⟨_, getl, rfl⟩ ?_)
              | (refine And.intro ⟨_, (getx1 getl), rfl⟩ ?_)
              | (refine And.intro ⟨_, (getx1 (getx1 getl)), rfl⟩ ?_)
              | (refine And.intro ⟨_, (getx1 h1), rfl⟩ ?_)
              | (refine And.intro ⟨_, (getx1 (getx1 h1)), rfl⟩ ?_)
              | (refine And.intro ⟨_, (getx1 (getx1 (getx1 h1))), rfl⟩ ?_)
              | (refine And.intro ⟨_, (getx1 h2), rfl⟩ ?_)
              | (refine And.intro ⟨_, (getx1 (getx1 h2)), rfl⟩ ?_)
              | (refine And.intro ⟨_, (getx1 (getx1 (getx1 h2))), rfl⟩ ?_)
              | (refine And.intro ⟨_, (getx1 (getx1 (getx1 (getx1 h2)))), rfl⟩ ?_)
              | (refine Exists.intro _ (And.intro (getx1 (getx1 (getx1 (getx1 h2)))) (And.intro rfl (And.intro rfl (And.intro (Nat.le_of_ble_eq_true rfl) ?_)))))
              | (refine Exists.intro _ (And.intro rfl (And.intro rfl (And.intro (Nat.le_of_ble_eq_true rfl) ?_))))
              | (refine Exists.intro _ (And.intro rfl (And.intro rfl (And.intro rfl (And.intro (Nat.le_of_ble_eq_true rfl) ?_)))))
              | (refine And.intro (Exists.intro _ (And.intro rfl rfl)) ?_)
              | (exact fun hW => absurd hW (by decide +kernel))
              | (intro hW; (try simp only [Bool.not_true, Bool.not_false, Bool.not_eq_true', Bool.not_eq_false', decide_eq_true_eq, decide_eq_false_iff_not, reduceCtorEq, Bool.true_eq_false, Bool.false_eq_true, mk_size, List.size_toArray, ByteArray.size_append, ByteArray.size_extract, List.length_cons, List.length_nil, ba_get, ba_empty, Int.toNat_natCast] at hW))
              | (refine And.intro (?_ : _ → _) (?_ : _ → _))
              | (refine FinR.drop 0 (Nat.zero_le _) (Closed.zero _) rfl ?_)
              | (refine FinR.keep ?_)
              | (refine And.intro (det3_agg rfl) ?_)
              | (refine fL_mk ?_)
              | (refine And.intro (by (try simp only [mk_size, List.size_toArray, ByteArray.size_append, ByteArray.size_extract, List.length_cons, List.length_nil]); omega) ?_)
              | (refine And.intro (by (try simp only [mk_size, List.size_toArray, ByteArray.size_append, ByteArray.size_extract, List.length_cons, List.length_nil, wrap64_eq]); omega) ?_)
              | fail)
            all_goals first | (exfalso; omega) | (exfalso; simp_all; done) | (exfalso; rw [hok] at hW; cases hW; done) | skip
            refine Again.go ⟨j + 1, _⟩ ⟨rfl, rfl, rfl, rfl, slI' (wsucc' j (by omega)), trivial⟩ (.keep rfl) ⟨by dsimp only; omega, get_ne (getx1 (getx1 (getx1 (getx1 h1)))) (by decide), ?_, hnx⟩ (by dsimp only; omega)
            dsimp only
            rw [hfs]
            exact plan_step0 (m := prN m u v) (k := 3) (s := nilA) h2
        | own r ver cap cs fs hr hl hc =>
          have hr2 : r ≠ 2 := ne_e hr h2 (show (91 : Nat) ≠ 86 by decide)
          have hr1 : r ≠ 1 := ne_e hr h1 (show (91 : Nat) ≠ 80 by decide)
          have hfl : fs.length ≤ 40 := by
            have := congrArg List.length hfs
            rw [List.length_append, List.length_take] at this
            have e : ([((k' : Nat), prN m u v)] : List (Nat × Nat)).length = 1 := rfl
            rw [fsOf, List.length_map] at this
            omega
          obtain rfl | rfl | rfl : k' = 1 ∨ k' = 2 ∨ k' = 3 := by omega
          · skip
            repeat' ((conv => whnf); first
              | (refine And.intro rfl (Exists.intro (stB (xs.map stN)) (And.intro (getx1 h1) (And.intro rfl (And.intro hgle ?_)))); rw [show (stB (xs.map stN)).cells = (xs.map stN).map (fun n : Nat => U n) from rfl, hget])
              | (refine Exists.intro _ (And.intro getl (And.intro rfl (And.intro rfl (And.intro (Nat.le_of_ble_eq_true rfl) ?_)))); rw [set_last])
              | (refine Exists.intro _ (And.intro (getx1 (getx1 (getx1 hr))) (And.intro rfl (And.intro rfl (And.intro rfl (And.intro rfl (And.intro rfl (And.intro (by decide) (And.intro (by rw [Nat.mul_one]; exact hl.symm) (And.intro rfl (And.intro (by unfold maxLen; omega) (And.intro (by omega) (fun cap' hcap1 hcap2 => ?_)))))))))))))
              | (refine And.intro rfl ?_)
              | (refine And.intro (by decide +kernel) ?_)
              | (refine And.intro trivial ?_)
              | (refine fS_mk ?_)
              | (refine hld _ ?_)
              | (refine d_isStep (m := (xs.map stN).length) (hm := hmm) (h0 := ?_) ..)
              | (refine Exists.intro _ (And.intro (fun τ => callW_fn (d_isStep (m := (xs.map stN).length) (hm := hmm) (h0 := And.intro rfl rfl) ..)) ?_))
              | (refine Exists.intro _ (And.intro (callW_fn (d_isStep (m := (xs.map stN).length) (hm := hmm) (h0 := And.intro rfl rfl) ..)) (And.intro trivial ?_)))
              | (refine Exists.intro _ (And.intro (callW_fn (d_isStep (m := (xs.map stN).length) (hm := hmm) (h0 := And.intro rfl rfl) ..)) ?_))
              | (refine Exists.intro _ (And.intro (fun τ _ => callW_fn (d_isStep (m := (xs.map stN).length) (hm := hmm) (h0 := And.intro rfl rfl) ..)) ?_))
              | (refine Exists.intro _ (And.intro (fun τ => callW_fn (d_number (hx := by omega) (hy := by omega) (h0 := And.intro rfl rfl) ..)) ?_))
              | (refine Exists.intro _ (And.intro (fun τ => callW_fn (hpr _ (And.intro rfl rfl))) ?_))
              | (refine Exists.intro _ (And.intro getl (And.intro rfl (And.intro (Nat.le_of_ble_eq_true rfl) ?_))))
              | (refine Exists.intro _ (And.intro (getx1 getl) (And.intro rfl (And.intro (Nat.le_of_ble_eq_true rfl) ?_))))
              | (refine Exists.intro _ (And.intro (getx1 (getx1 getl)) (And.intro rfl (And.intro (Nat.le_of_ble_eq_true rfl) ?_))))
              | (refine Exists.intro _ (And.intro (getx1 h1) (And.intro rfl (And.intro (Nat.le_of_ble_eq_true rfl) ?_))))
              | (refine Exists.intro _ (And.intro (getx1 (getx1 h1)) (And.intro rfl (And.intro (Nat.le_of_ble_eq_true rfl) ?_))))
              | (refine Exists.intro _ (And.intro (getx1 (getx1 (getx1 h1))) (And.intro rfl (And.intro (Nat.le_of_ble_eq_true rfl) ?_))))
              | (refine Exists.intro _ (And.intro (getx1 h2) (And.intro rfl (And.intro (Nat.le_of_ble_eq_true rfl) ?_))))
              | (refine Exists.intro _ (And.intro (getx1 (getx1 h2)) (And.intro rfl (And.intro (Nat.le_of_ble_eq_true rfl) ?_))))
              | (refine Exists.intro _ (And.intro (getx1 (getx1 (getx1 h2))) (And.intro rfl (And.intro (Nat.le_of_ble_eq_true rfl) ?_))))
              | (refine And.intro ⟨_, getl, rfl⟩ ?_)
              | (refine And.intro ⟨_, (getx1 getl), rfl⟩ ?_)
              | (refine And.intro ⟨_, (getx1 (getx1 getl)), rfl⟩ ?_)
              | (refine And.intro ⟨_, (getx1 h1), rfl⟩ ?_)
              | (refine And.intro ⟨_, (getx1 (getx1 h1)), rfl⟩ ?_)
              | (refine And.intro ⟨_, (getx1 (getx1 (getx1 h1))), rfl⟩ ?_)
              | (refine And.intro ⟨_, (getx1 h2), rfl⟩ ?_)
              | (refine And.intro ⟨_, (getx1 (getx1 h2)), rfl⟩ ?_)
              | (refine And.intro ⟨_, (getx1 (getx1 (getx1 h2))), rfl⟩ ?_)
              | (refine And.intro ⟨_, (get_ne (getx1 (getx1 (getx1 h2))) hr2), rfl⟩ ?_)
              | (refine Exists.intro _ (And.intro (get_ne (getx1 (getx1 (getx1 h2))) hr2) (And.intro rfl (And.intro rfl (And.intro (Nat.le_of_ble_eq_true rfl) ?_)))))
              | (refine Exists.intro _ (And.intro rfl (And.intro rfl (And.intro (Nat.le_of_ble_eq_true rfl) ?_))))
              | (refine Exists.intro _ (And.intro rfl (And.intro rfl (And.intro rfl (And.intro (Nat.le_of_ble_eq_true rfl) ?_)))))
              | (refine And.intro (Exists.intro _ (And.intro rfl rfl)) ?_)
              | (exact fun hW => absurd hW (by decide +kernel))
              | (intro hW; (try simp only [Bool.not_true, Bool.not_false, Bool.not_eq_true', Bool.not_eq_false', decide_eq_true_eq, decide_eq_false_iff_not, reduceCtorEq, Bool.true_eq_false, Bool.false_eq_true, mk_size, List.size_toArray, ByteArray.size_append, ByteArray.size_extract, List.length_cons, List.length_nil, ba_get, ba_empty, Int.toNat_natCast] at hW))
              | (refine And.intro (?_ : _ → _) (?_ : _ → _))
              | (refine FinR.drop 0 (Nat.zero_le _) (Closed.zero _) rfl ?_)
              | (refine FinR.keep ?_)
              | (refine And.intro (det3_agg rfl) ?_)
              | (refine fL_mk ?_)
              | (refine And.intro (by (try simp only [mk_size, List.size_toArray, ByteArray.size_append, ByteArray.size_extract, List.length_cons, List.length_nil]); omega) ?_)
              | (refine And.intro (by (try simp only [mk_size, List.size_toArray, ByteArray.size_append, ByteArray.size_extract, List.length_cons, List.length_nil, wrap64_eq]); omega) ?_)
              | fail)
            all_goals first | (exfalso; omega) | (exfalso; simp_all; done) | (exfalso; rw [hok] at hW; cases hW; done) | skip
            refine Again.go ⟨j + 1, _⟩ ⟨rfl, rfl, rfl, rfl, slI' (wsucc' j (by omega)), trivial⟩ (.keep rfl) ⟨by dsimp only; omega, get_ne (get_ne (getx1 (getx1 (getx1 h1))) hr1) (by decide), ?_, hnx⟩ (by dsimp only; omega)
            dsimp only
            rw [hfs]
            exact plan_stepS (m := prN m u v) (k := 1) h2 hr hl hc
          · skip
            repeat' ((conv => whnf); first
              | (refine And.intro rfl (Exists.intro (stB (xs.map stN)) (And.intro (getx1 h1) (And.intro rfl (And.intro hgle ?_)))); rw [show (stB (xs.map stN)).cells = (xs.map stN).map (fun n : Nat => U n) from rfl, hget])
              | (refine Exists.intro _ (And.intro getl (And.intro rfl (And.intro rfl (And.intro (Nat.le_of_ble_eq_true rfl) ?_)))); rw [set_last])
              | (refine Exists.intro _ (And.intro (getx1 (getx1 (getx1 hr))) (And.intro rfl (And.intro rfl (And.intro rfl (And.intro rfl (And.intro rfl (And.intro (by decide) (And.intro (by rw [Nat.mul_one]; exact hl.symm) (And.intro rfl (And.intro (by unfold maxLen; omega) (And.intro (by omega) (fun cap' hcap1 hcap2 => ?_)))))))))))))
              | (refine And.intro rfl ?_)
              | (refine And.intro (by decide +kernel) ?_)
              | (refine And.intro trivial ?_)
              | (refine fS_mk ?_)
              | (refine hld _ ?_)
              | (refine d_isStep (m := (xs.map stN).length) (hm := hmm) (h0 := ?_) ..)
              | (refine Exists.intro _ (And.intro (fun τ => callW_fn (d_isStep (m := (xs.map stN).length) (hm := hmm) (h0 := And.intro rfl rfl) ..)) ?_))
              | (refine Exists.intro _ (And.intro (callW_fn (d_isStep (m := (xs.map stN).length) (hm := hmm) (h0 := And.intro rfl rfl) ..)) (And.intro trivial ?_)))
              | (refine Exists.intro _ (And.intro (callW_fn (d_isStep (m := (xs.map stN).length) (hm := hmm) (h0 := And.intro rfl rfl) ..)) ?_))
              | (refine Exists.intro _ (And.intro (fun τ _ => callW_fn (d_isStep (m := (xs.map stN).length) (hm := hmm) (h0 := And.intro rfl rfl) ..)) ?_))
              | (refine Exists.intro _ (And.intro (fun τ => callW_fn (d_number (hx := by omega) (hy := by omega) (h0 := And.intro rfl rfl) ..)) ?_))
              | (refine Exists.intro _ (And.intro (fun τ => callW_fn (hpr _ (And.intro rfl rfl))) ?_))
              | (refine Exists.intro _ (And.intro getl (And.intro rfl (And.intro (Nat.le_of_ble_eq_true rfl) ?_))))
              | (refine Exists.intro _ (And.intro (getx1 getl) (And.intro rfl (And.intro (Nat.le_of_ble_eq_true rfl) ?_))))
              | (refine Exists.intro _ (And.intro (getx1 (getx1 getl)) (And.intro rfl (And.intro (Nat.le_of_ble_eq_true rfl) ?_))))
              | (refine Exists.intro _ (And.intro (getx1 h1) (And.intro rfl (And.intro (Nat.le_of_ble_eq_true rfl) ?_))))
              | (refine Exists.intro _ (And.intro (getx1 (getx1 h1)) (And.intro rfl (And.intro (Nat.le_of_ble_eq_true rfl) ?_))))
              | (refine Exists.intro _ (And.intro (getx1 (getx1 (getx1 h1))) (And.intro rfl (And.intro (Nat.le_of_ble_eq_true rfl) ?_))))
              | (refine Exists.intro _ (And.intro (getx1 h2) (And.intro rfl (And.intro (Nat.le_of_ble_eq_true rfl) ?_))))
              | (refine Exists.intro _ (And.intro (getx1 (getx1 h2)) (And.intro rfl (And.intro (Nat.le_of_ble_eq_true rfl) ?_))))
              | (refine Exists.intro _ (And.intro (getx1 (getx1 (getx1 h2))) (And.intro rfl (And.intro (Nat.le_of_ble_eq_true rfl) ?_))))
              | (refine And.intro ⟨_, getl, rfl⟩ ?_)
              | (refine And.intro ⟨_, (getx1 getl), rfl⟩ ?_)
              | (refine And.intro ⟨_, (getx1 (getx1 getl)), rfl⟩ ?_)
              | (refine And.intro ⟨_, (getx1 h1), rfl⟩ ?_)
              | (refine And.intro ⟨_, (getx1 (getx1 h1)), rfl⟩ ?_)
              | (refine And.intro ⟨_, (getx1 (getx1 (getx1 h1))), rfl⟩ ?_)
              | (refine And.intro ⟨_, (getx1 h2), rfl⟩ ?_)
              | (refine And.intro ⟨_, (getx1 (getx1 h2)), rfl⟩ ?_)
              | (refine And.intro ⟨_, (getx1 (getx1 (getx1 h2))), rfl⟩ ?_)
              | (refine And.intro ⟨_, (get_ne (getx1 (getx1 (getx1 h2))) hr2), rfl⟩ ?_)
              | (refine Exists.intro _ (And.intro (get_ne (getx1 (getx1 (getx1 h2))) hr2) (And.intro rfl (And.intro rfl (And.intro (Nat.le_of_ble_eq_true rfl) ?_)))))
              | (refine Exists.intro _ (And.intro rfl (And.intro rfl (And.intro (Nat.le_of_ble_eq_true rfl) ?_))))
              | (refine Exists.intro _ (And.intro rfl (And.intro rfl (And.intro rfl (And.intro (Nat.le_of_ble_eq_true rfl) ?_)))))
              | (refine And.intro (Exists.intro _ (And.intro rfl rfl)) ?_)
              | (exact fun hW => absurd hW (by decide +kernel))
              | (intro hW; (try simp only [Bool.not_true, Bool.not_false, Bool.not_eq_true', Bool.not_eq_false', decide_eq_true_eq, decide_eq_false_iff_not, reduceCtorEq, Bool.true_eq_false, Bool.false_eq_true, mk_size, List.size_toArray, ByteArray.size_append, ByteArray.size_extract, List.length_cons, List.length_nil, ba_get, ba_empty, Int.toNat_natCast] at hW))
              | (refine And.intro (?_ : _ → _) (?_ : _ → _))
              | (refine FinR.drop 0 (Nat.zero_le _) (Closed.zero _) rfl ?_)
              | (refine FinR.keep ?_)
              | (refine And.intro (det3_agg rfl) ?_)
              | (refine fL_mk ?_)
              | (refine And.intro (by (try simp only [mk_size, List.size_toArray, ByteArray.size_append, ByteArray.size_extract, List.length_cons, List.length_nil]); omega) ?_)
              | (refine And.intro (by (try simp only [mk_size, List.size_toArray, ByteArray.size_append, ByteArray.size_extract, List.length_cons, List.length_nil, wrap64_eq]); omega) ?_)
              | fail)
            all_goals first | (exfalso; omega) | (exfalso; simp_all; done) | (exfalso; rw [hok] at hW; cases hW; done) | skip
            refine Again.go ⟨j + 1, _⟩ ⟨rfl, rfl, rfl, rfl, slI' (wsucc' j (by omega)), trivial⟩ (.keep rfl) ⟨by dsimp only; omega, get_ne (get_ne (getx1 (getx1 (getx1 h1))) hr1) (by decide), ?_, hnx⟩ (by dsimp only; omega)
            dsimp only
            rw [hfs]
            exact plan_stepS (m := prN m u v) (k := 2) h2 hr hl hc
          · skip
            repeat' ((conv => whnf); first
              | (refine And.intro rfl (Exists.intro (stB (xs.map stN)) (And.intro (getx1 h1) (And.intro rfl (And.intro hgle ?_)))); rw [show (stB (xs.map stN)).cells = (xs.map stN).map (fun n : Nat => U n) from rfl, hget])
              | (refine Exists.intro _ (And.intro getl (And.intro rfl (And.intro rfl (And.intro (Nat.le_of_ble_eq_true rfl) ?_)))); rw [set_last])
              | (refine Exists.intro _ (And.intro (getx1 (getx1 (getx1 hr))) (And.intro rfl (And.intro rfl (And.intro rfl (And.intro rfl (And.intro rfl (And.intro (by decide) (And.intro (by rw [Nat.mul_one]; exact hl.symm) (And.intro rfl (And.intro (by unfold maxLen; omega) (And.intro (by omega) (fun cap' hcap1 hcap2 => ?_)))))))))))))
              | (refine And.intro rfl ?_)
              | (refine And.intro (by decide +kernel) ?_)
              | (refine And.intro trivial ?_)
              | (refine fS_mk ?_)
              | (refine hld _ ?_)
              | (refine d_isStep (m := (xs.map stN).length) (hm := hmm) (h0 := ?_) ..)
              | (refine Exists.intro _ (And.intro (fun τ => callW_fn (d_isStep (m := (xs.map stN).length) (hm := hmm) (h0 := And.intro rfl rfl) ..)) ?_))
              | (refine Exists.intro _ (And.intro (callW_fn (d_isStep (m := (xs.map stN).length) (hm := hmm) (h0 := And.intro rfl rfl) ..)) (And.intro trivial ?_)))
              | (refine Exists.intro _ (And.intro (callW_fn (d_isStep (m := (xs.map stN).length) (hm := hmm) (h0 := And.intro rfl rfl) ..)) ?_))
              | (refine Exists.intro _ (And.intro (fun τ _ => callW_fn (d_isStep (m := (xs.map stN).length) (hm := hmm) (h0 := And.intro rfl rfl) ..)) ?_))
              | (refine Exists.intro _ (And.intro (fun τ => callW_fn (d_number (hx := by omega) (hy := by omega) (h0 := And.intro rfl rfl) ..)) ?_))
              | (refine Exists.intro _ (And.intro (fun τ => callW_fn (hpr _ (And.intro rfl rfl))) ?_))
              | (refine Exists.intro _ (And.intro getl (And.intro rfl (And.intro (Nat.le_of_ble_eq_true rfl) ?_))))
              | (refine Exists.intro _ (And.intro (getx1 getl) (And.intro rfl (And.intro (Nat.le_of_ble_eq_true rfl) ?_))))
              | (refine Exists.intro _ (And.intro (getx1 (getx1 getl)) (And.intro rfl (And.intro (Nat.le_of_ble_eq_true rfl) ?_))))
              | (refine Exists.intro _ (And.intro (getx1 h1) (And.intro rfl (And.intro (Nat.le_of_ble_eq_true rfl) ?_))))
              | (refine Exists.intro _ (And.intro (getx1 (getx1 h1)) (And.intro rfl (And.intro (Nat.le_of_ble_eq_true rfl) ?_))))
              | (refine Exists.intro _ (And.intro (getx1 (getx1 (getx1 h1))) (And.intro rfl (And.intro (Nat.le_of_ble_eq_true rfl) ?_))))
              | (refine Exists.intro _ (And.intro (getx1 h2) (And.intro rfl (And.intro (Nat.le_of_ble_eq_true rfl) ?_))))
              | (refine Exists.intro _ (And.intro (getx1 (getx1 h2)) (And.intro rfl (And.intro (Nat.le_of_ble_eq_true rfl) ?_))))
              | (refine Exists.intro _ (And.intro (getx1 (getx1 (getx1 h2))) (And.intro rfl (And.intro (Nat.le_of_ble_eq_true rfl) ?_))))
              | (refine And.intro ⟨_, getl, rfl⟩ ?_)
              | (refine And.intro ⟨_, (getx1 getl), rfl⟩ ?_)
              | (refine And.intro ⟨_, (getx1 (getx1 getl)), rfl⟩ ?_)
              | (refine And.intro ⟨_, (getx1 h1), rfl⟩ ?_)
              | (refine And.intro ⟨_, (getx1 (getx1 h1)), rfl⟩ ?_)
              | (refine And.intro ⟨_, (getx1 (getx1 (getx1 h1))), rfl⟩ ?_)
              | (refine And.intro ⟨_, (getx1 h2), rfl⟩ ?_)
              | (refine And.intro ⟨_, (getx1 (getx1 h2)), rfl⟩ ?_)
              | (refine And.intro ⟨_, (getx1 (getx1 (getx1 h2))), rfl⟩ ?_)
              | (refine And.intro ⟨_, (get_ne (getx1 (getx1 (getx1 h2))) hr2), rfl⟩ ?_)
              | (refine Exists.intro _ (And.intro (get_ne (getx1 (getx1 (getx1 h2))) hr2) (And.intro rfl (And.intro rfl (And.intro (Nat.le_of_ble_eq_true rfl) ?_)))))
              | (refine Exists.intro _ (And.intro rfl (And.intro rfl (And.intro (Nat.le_of_ble_eq_true rfl) ?_))))
              | (refine Exists.intro _ (And.intro rfl (And.intro rfl (And.intro rfl (And.intro (Nat.le_of_ble_eq_true rfl) ?_)))))
              | (refine And.intro (Exists.intro _ (And.intro rfl rfl)) ?_)
              | (exact fun hW => absurd hW (by decide +kernel))
              | (intro hW; (try simp only [Bool.not_true, Bool.not_false, Bool.not_eq_true', Bool.not_eq_false', decide_eq_true_eq, decide_eq_false_iff_not, reduceCtorEq, Bool.true_eq_false, Bool.false_eq_true, mk_size, List.size_toArray, ByteArray.size_append, ByteArray.size_extract, List.length_cons, List.length_nil, ba_get, ba_empty, Int.toNat_natCast] at hW))
              | (refine And.intro (?_ : _ → _) (?_ : _ → _))
              | (refine FinR.drop 0 (Nat.zero_le _) (Closed.zero _) rfl ?_)
              | (refine FinR.keep ?_)
              | (refine And.intro (det3_agg rfl) ?_)
              | (refine fL_mk ?_)
              | (refine And.intro (by (try simp only [mk_size, List.size_toArray, ByteArray.size_append, ByteArray.size_extract, List.length_cons, List.length_nil]); omega) ?_)
              | (refine And.intro (by (try simp only [mk_size, List.size_toArray, ByteArray.size_append, ByteArray.size_extract, List.length_cons, List.length_nil, wrap64_eq]); omega) ?_)
              | fail)
            all_goals first | (exfalso; omega) | (exfalso; simp_all; done) | (exfalso; rw [hok] at hW; cases hW; done) | skip
            refine Again.go ⟨j + 1, _⟩ ⟨rfl, rfl, rfl, rfl, slI' (wsucc' j (by omega)), trivial⟩ (.keep rfl) ⟨by dsimp only; omega, get_ne (get_ne (getx1 (getx1 (getx1 h1))) hr1) (by decide), ?_, hnx⟩ (by dsimp only; omega)
            dsimp only
            rw [hfs]
            exact plan_stepS (m := prN m u v) (k := 3) h2 hr hl hc
    · obtain rfl : j = ys.length := by omega
      have e : (fsOf xs ys).take ys.length = fsOf xs ys := List.take_of_length_le (by rw [fsOf, List.length_map]; exact Nat.le_refl _)
      rw [e] at hps
      rw [List.take_length] at hya
      have h00 := h0 (planB_iff.2 ⟨hs, hx4, hy40, hxa, hya⟩) σ hps
      repeat' ((conv => whnf); first
        | (refine And.intro rfl ?_)
        | (refine And.intro (by decide +kernel) ?_)
        | (refine And.intro trivial ?_)
        | (refine Exists.intro _ (And.intro rfl (And.intro rfl (And.intro (Nat.le_of_ble_eq_true rfl) ?_))))
        | (refine Exists.intro _ (And.intro rfl (And.intro rfl (And.intro rfl (And.intro (Nat.le_of_ble_eq_true rfl) ?_)))))
        | (refine And.intro (Exists.intro _ (And.intro rfl rfl)) ?_)
        | (exact fun hW => absurd hW (by decide +kernel))
        | (intro hW; (try simp only [Bool.not_true, Bool.not_false, Bool.not_eq_true', Bool.not_eq_false', decide_eq_true_eq, decide_eq_false_iff_not, reduceCtorEq, Bool.true_eq_false, Bool.false_eq_true, mk_size, List.size_toArray, ByteArray.size_append, ByteArray.size_extract, List.length_cons, List.length_nil, ba_get, ba_empty, Int.toNat_natCast] at hW))
        | (refine And.intro (?_ : _ → _) (?_ : _ → _))
        | (refine FinR.drop 0 (Nat.zero_le _) (Closed.zero _) rfl ?_)
        | (refine FinR.keep ?_)
        | (refine And.intro (det3_agg rfl) ?_)
        | (refine fL_mk ?_)
        | (refine And.intro (by (try simp only [mk_size, List.size_toArray, ByteArray.size_append, ByteArray.size_extract, List.length_cons, List.length_nil]); omega) ?_)
        | (refine And.intro (by (try simp only [mk_size, List.size_toArray, ByteArray.size_append, ByteArray.size_extract, List.length_cons, List.length_nil, wrap64_eq]); omega) ?_)
        | fail)
      all_goals first | (exfalso; omega) | exact h00
end Go.Proofs.Ytjekjbkllhompaa
end

section
/- Contracts: the program's planOf; IsPlan; plans that the laws make and compare. -/
set_option linter.unusedVariables false
set_option linter.unusedSimpArgs false
set_option maxRecDepth 100000
set_option maxHeartbeats 4000000
namespace Go.Proofs.Ytjekjbkllhompaa
open Go Go.RowKit Go.Proofs.Ytjekjbkllhompaa.Abs
variable {W0 : World} {σ : List Blk}
theorem c_planOf (a b c d e f : Int) (v1 v2 : Value) (xs ys : List (List Int)) (h1 : Sli W0 [] 6 enI (.lit v1) xs) (h2 : Sli W0 [] 4 enI (.lit v2) ys) (hx : ∀ x ∈ xs, x.length = 6) (hy : ∀ x ∈ ys, x.length = 4) (K : Cont)
    (h0 : planB a b c d e f xs ys = true → ∀ σ', PlanSt σ' 2 (stN [a, b, c, d, e, f]) (fsOf xs ys) → K (.tup [.ptr 2 0 0, Bo true]) σ') (h00 : planB a b c d e f xs ys = false → K (.tup [nilP, Bo false]) []) : ACall Try.prog W0 26 [PlA a b c d e f (.lit v1) (.lit v2)] [] K := by
  by_cases hg : shB6 a b c d e f = true ∧ xs.length ≤ 4 ∧ ys.length ≤ 40
  · exact c_planOfG a b c d e f v1 v2 xs ys h1 h2 hx hy hg.1 hg.2.1 hg.2.2 K h0 h00
  · have hpf : planB a b c d e f xs ys = false := by
      rw [Bool.eq_false_iff]; intro h
      have := planB_iff.1 h
      exact hg ⟨this.1, this.2.1, this.2.2.1⟩
    have hnp := h00 hpf
    refine by26 (Nat.le_of_ble_eq_true rfl) ?_
    obtain ⟨o1, n1, cap1, hv1, hn1, hc1, hm1, hf1⟩ := sli_form h1
    obtain ⟨o2, n2, cap2, hv2, hn2, hc2, hm2, hf2⟩ := sli_form h2
    cases hv1; cases hv2
    subst hn1; subst hn2
    cases hs : shB6 a b c d e f with
    | true =>
      obtain ⟨n, hn, rfl, rfl, rfl, rfl, rfl, rfl, hst⟩ := st_parts hs
      have hg2 : 4 < xs.length ∨ 40 < ys.length := by
        by_cases h4 : xs.length ≤ 4
        · right
          by_cases h5 : ys.length ≤ 40
          · exact absurd ⟨hs, h4, h5⟩ hg
          · omega
        · left; omega
      repeat' ((conv => whnf); first
        | (refine And.intro rfl ?_)
        | (refine And.intro (by decide +kernel) ?_)
        | (refine And.intro trivial ?_)
        | (refine d_setOfN (n := n) (hn := hn) (h0 := ?_) ..)
        | (refine Exists.intro _ (And.intro rfl (And.intro rfl (And.intro (Nat.le_of_ble_eq_true rfl) ?_))))
        | (refine Exists.intro _ (And.intro rfl (And.intro rfl (And.intro rfl (And.intro (Nat.le_of_ble_eq_true rfl) ?_)))))
        | (refine And.intro (Exists.intro _ (And.intro rfl rfl)) ?_)
        | (exact fun hW => absurd hW (by decide +kernel))
        | (intro hW; (try simp only [Bool.not_true, Bool.not_false, Bool.not_eq_true', Bool.not_eq_false', decide_eq_true_eq, decide_eq_false_iff_not, reduceCtorEq, Bool.true_eq_false, Bool.false_eq_true, mk_size, List.size_toArray, ByteArray.size_append, ByteArray.size_extract, List.length_cons, List.length_nil, ba_get, ba_empty, Int.toNat_natCast] at hW))
        | (refine And.intro (?_ : _ → _) (?_ : _ → _))
        | (refine FinR.drop 0 (Nat.zero_le _) (Closed.zero _) rfl ?_)
        | (refine FinR.keep ?_)
        | (refine And.intro (det3_agg rfl) ?_)
        | (refine fL_mk ?_)
        | (refine And.intro (by (try simp only [mk_size, List.size_toArray, ByteArray.size_append, ByteArray.size_extract, List.length_cons, List.length_nil]); omega) ?_)
        | (refine And.intro (by (try simp only [mk_size, List.size_toArray, ByteArray.size_append, ByteArray.size_extract, List.length_cons, List.length_nil, wrap64_eq]); omega) ?_)
        | fail)
      all_goals first | (exfalso; omega) | (exfalso; simp_all; done) | exact hnp
    | false =>
      repeat' ((conv => whnf); first
        | (refine And.intro rfl ?_)
        | (refine And.intro (by decide +kernel) ?_)
        | (refine And.intro trivial ?_)
        | (refine d_setOfF (hb := hs) (h0 := ?_) ..)
        | (refine Exists.intro _ (And.intro rfl (And.intro rfl (And.intro (Nat.le_of_ble_eq_true rfl) ?_))))
        | (refine Exists.intro _ (And.intro rfl (And.intro rfl (And.intro rfl (And.intro (Nat.le_of_ble_eq_true rfl) ?_)))))
        | (refine And.intro (Exists.intro _ (And.intro rfl rfl)) ?_)
        | (exact fun hW => absurd hW (by decide +kernel))
        | (intro hW; (try simp only [Bool.not_true, Bool.not_false, Bool.not_eq_true', Bool.not_eq_false', decide_eq_true_eq, decide_eq_false_iff_not, reduceCtorEq, Bool.true_eq_false, Bool.false_eq_true, mk_size, List.size_toArray, ByteArray.size_append, ByteArray.size_extract, List.length_cons, List.length_nil, ba_get, ba_empty, Int.toNat_natCast] at hW))
        | (refine And.intro (?_ : _ → _) (?_ : _ → _))
        | (refine FinR.drop 0 (Nat.zero_le _) (Closed.zero _) rfl ?_)
        | (refine FinR.keep ?_)
        | (refine And.intro (det3_agg rfl) ?_)
        | (refine fL_mk ?_)
        | (refine And.intro (by (try simp only [mk_size, List.size_toArray, ByteArray.size_append, ByteArray.size_extract, List.length_cons, List.length_nil]); omega) ?_)
        | (refine And.intro (by (try simp only [mk_size, List.size_toArray, ByteArray.size_append, ByteArray.size_extract, List.length_cons, List.length_nil, wrap64_eq]); omega) ?_)
        | fail)
      all_goals first | (exfalso; omega) | (exfalso; simp_all; done) | exact hnp
/-! plans moved -/
theorem StepsSt.sh {σ τ : List Blk} {s : AV} {fs : List (Nat × Nat)} (h : StepsSt τ s fs) : StepsSt (σ ++ shB σ.length τ) (sh1 σ.length s) fs := by
  cases h with
  | nil => exact .nil
  | own r ver cap cs fs hr hl hc =>
    refine .own (σ.length + r) ver cap (cs.map (sh1 σ.length)) fs (get_sh hr) (by rw [List.length_map]; exact hl) fun j k m hj => ?_
    obtain ⟨a, b, q1, q2, q3⟩ := hc j k m hj
    refine ⟨σ.length + a, σ.length + b, by rw [List.getElem?_map, q1]; rfl, ?_, get_sh q3⟩
    have := get_sh (σ := σ) q2
    rw [this]
    show some (⟨[sh1 σ.length (doA k)], _, _, _, _, _⟩ : Blk) = _
    have e : sh1 σ.length (doA k) = doA k := by unfold doA; split <;> rfl
    rw [e]
theorem PlanSt.sh {σ τ : List Blk} {p n : Nat} {fs : List (Nat × Nat)} (h : PlanSt τ p n fs) : PlanSt (σ ++ shB σ.length τ) (σ.length + p) n fs := by
  obtain ⟨s, h1, h2⟩ := h.ex
  exact ⟨sh1 σ.length s, get_sh h1, h2.sh⟩
theorem StepsSt.add {σ τ : List Blk} {s : AV} {fs : List (Nat × Nat)} (h : StepsSt σ s fs) : StepsSt (σ ++ τ) s fs := by
  cases h with
  | nil => exact .nil
  | own r ver cap cs fs hr hl hc =>
    exact .own r ver cap cs fs (getx1 hr) hl fun j k m hj => let ⟨a, b, q1, q2, q3⟩ := hc j k m hj; ⟨a, b, q1, getx1 q2, getx1 q3⟩
theorem PlanSt.add {σ τ : List Blk} {p n : Nat} {fs : List (Nat × Nat)} (h : PlanSt σ p n fs) : PlanSt (σ ++ τ) p n fs := by
  obtain ⟨s, h1, h2⟩ := h.ex
  exact ⟨s, getx1 h1, h2.add⟩
theorem d_planOf (a b c d e f : Int) (s1 s2 : AV) (xs ys : List (List Int)) (h1 : Sli W0 σ 6 enI s1 xs) (h2 : Sli W0 σ 4 enI s2 ys) (hx : ∀ x ∈ xs, x.length = 6) (hy : ∀ x ∈ ys, x.length = 4) (K : Cont)
    (h0 : planB a b c d e f xs ys = true → ∀ τ, PlanSt (σ ++ τ) (σ.length + 2) (stN [a, b, c, d, e, f]) (fsOf xs ys) → K (.tup [.ptr (σ.length + 2) 0 0, Bo true]) (σ ++ τ)) (h00 : planB a b c d e f xs ys = false → K (.tup [nilP, Bo false]) σ) : ACall Try.prog W0 26 [PlA a b c d e f s1 s2] σ K := by
  cases hg : planB a b c d e f xs ys with
  | true =>
    exact lift_Pl (rest := []) (ι := { τ : List Blk // PlanSt τ 2 (stN [a, b, c, d, e, f]) (fsOf xs ys) }) (fun _ => .tup [.ptr 2 0 0, Bo true]) (fun τ => τ.1) (by kernel_rfl) rfl h1 h2
      (fun W1 v1 v2 q1 q2 K hK => c_planOf a b c d e f v1 v2 xs ys q1 q2 hx hy K (fun _ σ' hp => hK ⟨σ', hp⟩) (fun hf => by rw [hg] at hf; cases hf)) K (fun τ => h0 hg _ τ.2.sh)
  | false =>
    exact lift_Pl (rest := []) (ι := Unit) (fun _ => .tup [nilP, Bo false]) (fun τ => []) (by kernel_rfl) rfl h1 h2
      (fun W1 v1 v2 q1 q2 K hK => c_planOf a b c d e f v1 v2 xs ys q1 q2 hx hy K (fun hf => by rw [hg] at hf; cases hf) (fun _ => hK ())) K (fun τ => by
        rw [show shB σ.length [] = [] from rfl, List.append_nil]; exact h00 hg)
theorem d_l11Plan (a b c d e f : Int) (s1 s2 : AV) (xs ys : List (List Int)) (h1 : Sli W0 σ 6 enI s1 xs) (h2 : Sli W0 σ 4 enI s2 ys) (hx : ∀ x ∈ xs, x.length = 6) (hy : ∀ x ∈ ys, x.length = 4) (hl : xs.length ≤ 1048576) (hl2 : ys.length ≤ 1048576) (K : Cont) (h0 : K (Bo (planB a b c d e f xs ys)) σ) : ACall Try.prog W0 11 [PlA a b c d e f s1 s2] σ K :=
  lift_Pl (rest := []) (ι := Unit) (fun _ => Bo (planB a b c d e f xs ys)) (fun τ => []) (by kernel_rfl) rfl h1 h2 (fun W1 v1 v2 q1 q2 K hK => c_l11Plan a b c d e f v1 v2 xs ys q1 q2 hx hy hl hl2 K (hK ())) K (fun _ => by
    rw [show shB σ.length [] = [] from rfl, List.append_nil]; exact h0)
theorem c_IsPlan (a b c d e f : Int) (v1 v2 : Value) (xs ys : List (List Int)) (h1 : Sli W0 [] 6 enI (.lit v1) xs) (h2 : Sli W0 [] 4 enI (.lit v2) ys) (hx : ∀ x ∈ xs, x.length = 6) (hy : ∀ x ∈ ys, x.length = 4) (K : Cont) (h0 : K (Bo (planB a b c d e f xs ys)) []) : ACall Try.prog W0 16 [PlA a b c d e f (.lit v1) (.lit v2)] [] K := by
  refine by16 (Nat.le_of_ble_eq_true rfl) ?_
  repeat' ((conv => whnf); first
    | (refine And.intro rfl ?_)
    | (refine And.intro (by decide +kernel) ?_)
    | (refine And.intro trivial ?_)
    | (refine d_planOf (h1 := sli_up h1) (h2 := sli_up h2) (hx := hx) (hy := hy) (h0 := fun hg τ hp => ?_) (h00 := fun hg => ?_) ..)
    | (refine Exists.intro _ (And.intro rfl (And.intro rfl (And.intro (Nat.le_of_ble_eq_true rfl) ?_))))
    | (refine Exists.intro _ (And.intro rfl (And.intro rfl (And.intro rfl (And.intro (Nat.le_of_ble_eq_true rfl) ?_)))))
    | (refine And.intro (Exists.intro _ (And.intro rfl rfl)) ?_)
    | (exact fun hW => absurd hW (by decide +kernel))
    | (intro hW; (try simp only [Bool.not_true, Bool.not_false, Bool.not_eq_true', Bool.not_eq_false', decide_eq_true_eq, decide_eq_false_iff_not, reduceCtorEq, Bool.true_eq_false, Bool.false_eq_true, mk_size, List.size_toArray, ByteArray.size_append, ByteArray.size_extract, List.length_cons, List.length_nil, ba_get, ba_empty, Int.toNat_natCast] at hW))
    | (refine And.intro (?_ : _ → _) (?_ : _ → _))
    | (refine FinR.drop 0 (Nat.zero_le _) (Closed.zero _) rfl ?_)
    | (refine FinR.keep ?_)
    | (refine And.intro (det3_agg rfl) ?_)
    | (refine fL_mk ?_)
    | (refine And.intro (by (try simp only [mk_size, List.size_toArray, ByteArray.size_append, ByteArray.size_extract, List.length_cons, List.length_nil]); omega) ?_)
    | (refine And.intro (by (try simp only [mk_size, List.size_toArray, ByteArray.size_append, ByteArray.size_extract, List.length_cons, List.length_nil, wrap64_eq]); omega) ?_)
    | fail)
  all_goals (rw [hg] at h0; exact h0)
theorem d_IsPlan (a b c d e f : Int) (s1 s2 : AV) (xs ys : List (List Int)) (h1 : Sli W0 σ 6 enI s1 xs) (h2 : Sli W0 σ 4 enI s2 ys) (hx : ∀ x ∈ xs, x.length = 6) (hy : ∀ x ∈ ys, x.length = 4) (K : Cont) (h0 : K (Bo (planB a b c d e f xs ys)) σ) : ACall Try.prog W0 16 [PlA a b c d e f s1 s2] σ K :=
  lift_Pl (rest := []) (ι := Unit) (fun _ => Bo (planB a b c d e f xs ys)) (fun τ => []) (by kernel_rfl) rfl h1 h2 (fun W1 v1 v2 q1 q2 K hK => c_IsPlan a b c d e f v1 v2 xs ys q1 q2 hx hy K (hK ())) K (fun _ => by
    rw [show shB σ.length [] = [] from rfl, List.append_nil]; exact h0)
/-! the laws' plans -/
abbrev shSB (xs : List (List Int)) : Blk := ⟨jc xs, 0, 32, 6, true, true⟩
abbrev stSB (ys : List (List Int)) : Blk := ⟨jc ys, 0, 50, 4, true, true⟩
theorem c_toPlan (a b c d e f : Int) (v1 v2 : Value) (xs ys : List (List Int)) (h1 : Sli W0 [] 6 enI (.lit v1) xs) (h2 : Sli W0 [] 4 enI (.lit v2) ys) (hx : ∀ x ∈ xs, x.length = 6) (hy : ∀ x ∈ ys, x.length = 4) (hl : xs.length ≤ 1048576) (hl2 : ys.length ≤ 1048576) (K : Cont)
    (h0 : ∀ τ, τ.length = 3 → K (PlA a b c d e f (.sl 3 0 0 xs.length xs.length) (.sl 4 0 0 ys.length ys.length)) (τ ++ [shSB xs, stSB ys])) : ACall Try.prog W0 6 [PlA a b c d e f (.lit v1) (.lit v2)] [] K := by
  refine by6 (Nat.le_of_ble_eq_true rfl) ?_
  repeat' ((conv => whnf); first
    | (refine And.intro rfl ?_)
    | (refine And.intro (by decide +kernel) ?_)
    | (refine And.intro trivial ?_)
    | (refine d_toSheet (h0 := ?_) ..)
    | (refine Exists.intro _ (And.intro (fun τ => callW_fn (d_toSheet (h0 := And.intro rfl rfl) ..)) ?_))
    | (refine Exists.intro _ (And.intro (callW_fn (d_toSheet (h0 := And.intro rfl rfl) ..)) (And.intro trivial ?_)))
    | (refine Exists.intro _ (And.intro (callW_fn (d_toSheet (h0 := And.intro rfl rfl) ..)) ?_))
    | (refine Exists.intro _ (And.intro (fun τ _ => callW_fn (d_toSheet (h0 := And.intro rfl rfl) ..)) ?_))
    | (refine d_toSheetS (hs := sli_up h1) (hx := hx) (hl := hl) (h0 := ?_) ..)
    | (refine d_toStepS (hs := sli_up h2) (hx := hy) (hl := hl2) (h0 := ?_) ..)
    | (refine Exists.intro _ (And.intro rfl (And.intro rfl (And.intro (Nat.le_of_ble_eq_true rfl) ?_))))
    | (refine Exists.intro _ (And.intro rfl (And.intro rfl (And.intro rfl (And.intro (Nat.le_of_ble_eq_true rfl) ?_)))))
    | (refine And.intro (Exists.intro _ (And.intro rfl rfl)) ?_)
    | (exact fun hW => absurd hW (by decide +kernel))
    | (intro hW; (try simp only [Bool.not_true, Bool.not_false, Bool.not_eq_true', Bool.not_eq_false', decide_eq_true_eq, decide_eq_false_iff_not, reduceCtorEq, Bool.true_eq_false, Bool.false_eq_true, mk_size, List.size_toArray, ByteArray.size_append, ByteArray.size_extract, List.length_cons, List.length_nil, ba_get, ba_empty, Int.toNat_natCast] at hW))
    | (refine And.intro (?_ : _ → _) (?_ : _ → _))
    | (refine FinR.drop 0 (Nat.zero_le _) (Closed.zero _) rfl ?_)
    | (refine FinR.keep ?_)
    | (refine And.intro (det3_agg rfl) ?_)
    | (refine fL_mk ?_)
    | (refine And.intro (by (try simp only [mk_size, List.size_toArray, ByteArray.size_append, ByteArray.size_extract, List.length_cons, List.length_nil]); omega) ?_)
    | (refine And.intro (by (try simp only [mk_size, List.size_toArray, ByteArray.size_append, ByteArray.size_extract, List.length_cons, List.length_nil, wrap64_eq]); omega) ?_)
    | fail)
  all_goals exact h0 [_, _, _] rfl
theorem len3 {τ : List Blk} (h : τ.length = 3) : ∃ A B C, τ = [A, B, C] := by
  match τ, h with
  | [A, B, C], _ => exact ⟨A, B, C, rfl⟩
/-- a plan that a law made: new, its slices behind three blocks -/
theorem d_toPlan (a b c d e f : Int) (s1 s2 : AV) (xs ys : List (List Int)) (h1 : Sli W0 σ 6 enI s1 xs) (h2 : Sli W0 σ 4 enI s2 ys) (hx : ∀ x ∈ xs, x.length = 6) (hy : ∀ x ∈ ys, x.length = 4) (hl : xs.length ≤ 1048576) (hl2 : ys.length ≤ 1048576) (K : Cont)
    (h0 : ∀ A B C, K (PlA a b c d e f (.sl (σ.length + 3) 0 0 xs.length xs.length) (.sl (σ.length + 4) 0 0 ys.length ys.length)) (σ ++ [A, B, C, shSB xs, stSB ys])) : ACall Try.prog W0 6 [PlA a b c d e f s1 s2] σ K :=
  lift_Pl (rest := []) (ι := { τ : List Blk // τ.length = 3 }) (fun _ => PlA a b c d e f (.sl 3 0 0 xs.length xs.length) (.sl 4 0 0 ys.length ys.length)) (fun τ => τ.1 ++ [shSB xs, stSB ys]) (by kernel_rfl) rfl h1 h2
    (fun W1 v1 v2 q1 q2 K hK => c_toPlan a b c d e f v1 v2 xs ys q1 q2 hx hy hl hl2 K (fun τ hτ => hK ⟨τ, hτ⟩)) K (fun τ => by
      obtain ⟨τ, hτ⟩ := τ
      obtain ⟨A, B, C, rfl⟩ := len3 hτ
      show K _ (σ ++ [_, _, _, (⟨(jc xs).map (sh1 σ.length), _, _, _, _, _⟩ : Blk), (⟨(jc ys).map (sh1 σ.length), _, _, _, _, _⟩ : Blk)])
      rw [jc_sh, jc_sh]
      exact h0 _ _ _)
theorem c_szPlan (a b c d e f : Int) (v1 v2 : Value) (xs ys : List (List Int)) (m : Int) (h1 : Sli W0 [] 6 enI (.lit v1) xs) (h2 : Sli W0 [] 4 enI (.lit v2) ys) (hl : xs.length ≤ 9223372036854775807) (hl2 : ys.length ≤ 9223372036854775807) (hm : 0 ≤ m ∧ m ≤ 1048576) (K : Cont) (h0 : 0 ≤ m - xs.length - ys.length → K (I (m - xs.length - ys.length)) []) (h00 : m - xs.length - ys.length < 0 → K (I (-1)) []) : ACall Try.prog W0 4 [PlA a b c d e f (.lit v1) (.lit v2), I m] [] K := by
  refine by4 (Nat.le_of_ble_eq_true rfl) ?_
  by_cases hz : m - (xs.length : Nat) < 0
  · have hn := h00 (by omega)
    repeat' ((conv => whnf); first
      | (refine And.intro rfl ?_)
      | (refine And.intro (by decide +kernel) ?_)
      | (refine And.intro trivial ?_)
      | (refine d_szSheetS (ha := sli_up h1) (hl := hl) (hm := hm) (h0 := ?_) ..; rw [if_pos hz])
      | (refine Exists.intro _ (And.intro rfl (And.intro rfl (And.intro (Nat.le_of_ble_eq_true rfl) ?_))))
      | (refine Exists.intro _ (And.intro rfl (And.intro rfl (And.intro rfl (And.intro (Nat.le_of_ble_eq_true rfl) ?_)))))
      | (refine And.intro (Exists.intro _ (And.intro rfl rfl)) ?_)
      | (exact fun hW => absurd hW (by decide +kernel))
      | (intro hW; (try simp only [Bool.not_true, Bool.not_false, Bool.not_eq_true', Bool.not_eq_false', decide_eq_true_eq, decide_eq_false_iff_not, reduceCtorEq, Bool.true_eq_false, Bool.false_eq_true, mk_size, List.size_toArray, ByteArray.size_append, ByteArray.size_extract, List.length_cons, List.length_nil, ba_get, ba_empty, Int.toNat_natCast] at hW))
      | (refine And.intro (?_ : _ → _) (?_ : _ → _))
      | (refine FinR.drop 0 (Nat.zero_le _) (Closed.zero _) rfl ?_)
      | (refine FinR.keep ?_)
      | (refine And.intro (det3_agg rfl) ?_)
      | (refine fL_mk ?_)
      | (refine And.intro (by (try simp only [mk_size, List.size_toArray, ByteArray.size_append, ByteArray.size_extract, List.length_cons, List.length_nil]); omega) ?_)
      | (refine And.intro (by (try simp only [mk_size, List.size_toArray, ByteArray.size_append, ByteArray.size_extract, List.length_cons, List.length_nil, wrap64_eq]); omega) ?_)
      | fail)
    all_goals first | exact hn | (exfalso; omega)
  · by_cases hz2 : m - (xs.length : Nat) - (ys.length : Nat) < 0
    · have hn := h00 hz2
      repeat' ((conv => whnf); first
        | (refine And.intro rfl ?_)
        | (refine And.intro (by decide +kernel) ?_)
        | (refine And.intro trivial ?_)
        | (refine d_szSheetS (ha := sli_up h1) (hl := hl) (hm := hm) (h0 := ?_) ..; rw [if_neg hz])
        | (refine d_szStepS (ha := sli_up h2) (hl := hl2) (hm := by omega) (h0 := ?_) ..; rw [if_pos hz2])
        | (refine Exists.intro _ (And.intro rfl (And.intro rfl (And.intro (Nat.le_of_ble_eq_true rfl) ?_))))
        | (refine Exists.intro _ (And.intro rfl (And.intro rfl (And.intro rfl (And.intro (Nat.le_of_ble_eq_true rfl) ?_)))))
        | (refine And.intro (Exists.intro _ (And.intro rfl rfl)) ?_)
        | (exact fun hW => absurd hW (by decide +kernel))
        | (intro hW; (try simp only [Bool.not_true, Bool.not_false, Bool.not_eq_true', Bool.not_eq_false', decide_eq_true_eq, decide_eq_false_iff_not, reduceCtorEq, Bool.true_eq_false, Bool.false_eq_true, mk_size, List.size_toArray, ByteArray.size_append, ByteArray.size_extract, List.length_cons, List.length_nil, ba_get, ba_empty, Int.toNat_natCast] at hW))
        | (refine And.intro (?_ : _ → _) (?_ : _ → _))
        | (refine FinR.drop 0 (Nat.zero_le _) (Closed.zero _) rfl ?_)
        | (refine FinR.keep ?_)
        | (refine And.intro (det3_agg rfl) ?_)
        | (refine fL_mk ?_)
        | (refine And.intro (by (try simp only [mk_size, List.size_toArray, ByteArray.size_append, ByteArray.size_extract, List.length_cons, List.length_nil]); omega) ?_)
        | (refine And.intro (by (try simp only [mk_size, List.size_toArray, ByteArray.size_append, ByteArray.size_extract, List.length_cons, List.length_nil, wrap64_eq]); omega) ?_)
        | fail)
      all_goals first | exact hn | (exfalso; omega)
    · have hn := h0 (by omega)
      repeat' ((conv => whnf); first
        | (refine And.intro rfl ?_)
        | (refine And.intro (by decide +kernel) ?_)
        | (refine And.intro trivial ?_)
        | (refine d_szSheetS (ha := sli_up h1) (hl := hl) (hm := hm) (h0 := ?_) ..; rw [if_neg hz])
        | (refine d_szStepS (ha := sli_up h2) (hl := hl2) (hm := by omega) (h0 := ?_) ..; rw [if_neg hz2])
        | (refine Exists.intro _ (And.intro rfl (And.intro rfl (And.intro (Nat.le_of_ble_eq_true rfl) ?_))))
        | (refine Exists.intro _ (And.intro rfl (And.intro rfl (And.intro rfl (And.intro (Nat.le_of_ble_eq_true rfl) ?_)))))
        | (refine And.intro (Exists.intro _ (And.intro rfl rfl)) ?_)
        | (exact fun hW => absurd hW (by decide +kernel))
        | (intro hW; (try simp only [Bool.not_true, Bool.not_false, Bool.not_eq_true', Bool.not_eq_false', decide_eq_true_eq, decide_eq_false_iff_not, reduceCtorEq, Bool.true_eq_false, Bool.false_eq_true, mk_size, List.size_toArray, ByteArray.size_append, ByteArray.size_extract, List.length_cons, List.length_nil, ba_get, ba_empty, Int.toNat_natCast] at hW))
        | (refine And.intro (?_ : _ → _) (?_ : _ → _))
        | (refine FinR.drop 0 (Nat.zero_le _) (Closed.zero _) rfl ?_)
        | (refine FinR.keep ?_)
        | (refine And.intro (det3_agg rfl) ?_)
        | (refine fL_mk ?_)
        | (refine And.intro (by (try simp only [mk_size, List.size_toArray, ByteArray.size_append, ByteArray.size_extract, List.length_cons, List.length_nil]); omega) ?_)
        | (refine And.intro (by (try simp only [mk_size, List.size_toArray, ByteArray.size_append, ByteArray.size_extract, List.length_cons, List.length_nil, wrap64_eq]); omega) ?_)
        | fail)
      all_goals first | exact hn | (exfalso; omega)
theorem d_szPlan (a b c d e f : Int) (s1 s2 : AV) (xs ys : List (List Int)) (m : Int) (h1 : Sli W0 σ 6 enI s1 xs) (h2 : Sli W0 σ 4 enI s2 ys) (hl : xs.length ≤ 9223372036854775807) (hl2 : ys.length ≤ 9223372036854775807) (hm : 0 ≤ m ∧ m ≤ 1048576) (K : Cont) (h0 : 0 ≤ m - xs.length - ys.length → K (I (m - xs.length - ys.length)) σ) (h00 : m - xs.length - ys.length < 0 → K (I (-1)) σ) : ACall Try.prog W0 4 [PlA a b c d e f s1 s2, I m] σ K := by
  by_cases hz : m - xs.length - ys.length < 0
  · exact lift_Pl (rest := [I m]) (ι := Unit) (fun _ => I (-1)) (fun _ => []) (by kernel_rfl) rfl h1 h2 (fun W1 v1 v2 q1 q2 K hK => c_szPlan a b c d e f v1 v2 xs ys m q1 q2 hl hl2 hm K (fun h => by omega) (fun _ => hK ())) K (fun _ => by
      rw [show shB σ.length [] = [] from rfl, List.append_nil]; exact h00 hz)
  · exact lift_Pl (rest := [I m]) (ι := Unit) (fun _ => I (m - xs.length - ys.length)) (fun _ => []) (by kernel_rfl) rfl h1 h2 (fun W1 v1 v2 q1 q2 K hK => c_szPlan a b c d e f v1 v2 xs ys m q1 q2 hl hl2 hm K (fun _ => hK ()) (fun h => by omega)) K (fun _ => by
      rw [show shB σ.length [] = [] from rfl, List.append_nil]; exact h0 (by omega))
theorem c_eqPlan (a b c d e f : Int) (v1 v2 u1 u2 : Value) (xs ys : List (List Int)) (h1 : Sli W0 [] 6 enI (.lit v1) xs) (h2 : Sli W0 [] 4 enI (.lit v2) ys) (g1 : Sli W0 [] 6 enI (.lit u1) xs) (g2 : Sli W0 [] 4 enI (.lit u2) ys) (hx : ∀ x ∈ xs, x.length = 6) (hy : ∀ x ∈ ys, x.length = 4) (hl : xs.length ≤ 1048576) (hl2 : ys.length ≤ 1048576) (K : Cont) (h0 : K (Bo true) []) : ACall Try.prog W0 8 [PlA a b c d e f (.lit v1) (.lit v2), PlA a b c d e f (.lit u1) (.lit u2)] [] K := by
  refine by8 (Nat.le_of_ble_eq_true rfl) ?_
  repeat' ((conv => whnf); first
    | (refine And.intro rfl ?_)
    | (refine And.intro (by decide +kernel) ?_)
    | (refine And.intro trivial ?_)
    | (refine d_eqSheet (h0 := ?_) ..)
    | (refine Exists.intro _ (And.intro (fun τ => callW_fn (d_eqSheet (h0 := And.intro rfl rfl) ..)) ?_))
    | (refine Exists.intro _ (And.intro (callW_fn (d_eqSheet (h0 := And.intro rfl rfl) ..)) (And.intro trivial ?_)))
    | (refine Exists.intro _ (And.intro (callW_fn (d_eqSheet (h0 := And.intro rfl rfl) ..)) ?_))
    | (refine Exists.intro _ (And.intro (fun τ _ => callW_fn (d_eqSheet (h0 := And.intro rfl rfl) ..)) ?_))
    | (refine d_eqSheetS (ha := sli_up h1) (hb' := sli_up g1) (hx := hx) (hl := hl) (h0 := ?_) ..)
    | (refine d_eqStepS (ha := sli_up h2) (hb' := sli_up g2) (hx := hy) (hl := hl2) (h0 := ?_) ..)
    | (refine Exists.intro _ (And.intro rfl (And.intro rfl (And.intro (Nat.le_of_ble_eq_true rfl) ?_))))
    | (refine Exists.intro _ (And.intro rfl (And.intro rfl (And.intro rfl (And.intro (Nat.le_of_ble_eq_true rfl) ?_)))))
    | (refine And.intro (Exists.intro _ (And.intro rfl rfl)) ?_)
    | (exact fun hW => absurd hW (by decide +kernel))
    | (intro hW; (try simp only [Bool.not_true, Bool.not_false, Bool.not_eq_true', Bool.not_eq_false', decide_eq_true_eq, decide_eq_false_iff_not, reduceCtorEq, Bool.true_eq_false, Bool.false_eq_true, mk_size, List.size_toArray, ByteArray.size_append, ByteArray.size_extract, List.length_cons, List.length_nil, ba_get, ba_empty, Int.toNat_natCast] at hW))
    | (refine And.intro (?_ : _ → _) (?_ : _ → _))
    | (refine FinR.drop 0 (Nat.zero_le _) (Closed.zero _) rfl ?_)
    | (refine FinR.keep ?_)
    | (refine And.intro (det3_agg rfl) ?_)
    | (refine fL_mk ?_)
    | (refine And.intro (by (try simp only [mk_size, List.size_toArray, ByteArray.size_append, ByteArray.size_extract, List.length_cons, List.length_nil]); omega) ?_)
    | (refine And.intro (by (try simp only [mk_size, List.size_toArray, ByteArray.size_append, ByteArray.size_extract, List.length_cons, List.length_nil, wrap64_eq]); omega) ?_)
    | fail)
  all_goals first | exact h0 | (exfalso; simp_all [eq6]; done)
theorem lift_PlPl {g : FuncId} {a b c d e f a' b' c' d' e' f' : Int} {s1 s2 t1 t2 : AV} {xs ys zs ws : List (List Int)} {r : AV} (hok : callOK Try.prog g = true) (hr : ∀ k, sh3 k r = r) (h1 : Sli W0 σ 6 enI s1 xs) (h2 : Sli W0 σ 4 enI s2 ys) (g1 : Sli W0 σ 6 enI t1 zs) (g2 : Sli W0 σ 4 enI t2 ws)
    (h : ∀ (W1 : World) (v1 v2 u1 u2 : Value), Sli W1 [] 6 enI (.lit v1) xs → Sli W1 [] 4 enI (.lit v2) ys → Sli W1 [] 6 enI (.lit u1) zs → Sli W1 [] 4 enI (.lit u2) ws → ∀ K : Cont, K r [] → ACall Try.prog W1 g [PlA a b c d e f (.lit v1) (.lit v2), PlA a' b' c' d' e' f' (.lit u1) (.lit u2)] [] K) (K : Cont) (h0 : K r σ) : ACall Try.prog W0 g [PlA a b c d e f s1 s2, PlA a' b' c' d' e' f' t1 t2] σ K := by
  refine ACall.frameA (K0 := fun v σ' => v = r ∧ σ' = []) hok (fun W1 ι vs hh hrr => ?_) ?_
  · obtain ⟨v1, vs', rfl, hr1, hr2⟩ := Rels.uncons hrr
    obtain ⟨v2, vs'', rfl, hr3, hr4⟩ := Rels.uncons hr2
    obtain rfl := hr4.nil_inv
    obtain ⟨q1, q2, p1, p2, p3⟩ := plA_conc h1 h2 hh hr1
    obtain ⟨w1, w2, o1, o2, o3⟩ := plA_conc g1 g2 hh hr3
    obtain ⟨u1, rfl⟩ := sli_lit p1
    obtain ⟨u2, rfl⟩ := sli_lit p2
    obtain ⟨u3, rfl⟩ := sli_lit o1
    obtain ⟨u4, rfl⟩ := sli_lit o2
    exact ⟨[_, _], Rels.cons p3 (Rels.cons o3 Rels.nil), h W1 _ _ _ _ p1 p2 o1 o2 _ ⟨rfl, rfl⟩⟩
  · rintro v σ' ⟨rfl, rfl⟩
    have e : σ ++ shB σ.length [] = σ := by simp [shB]
    rw [e, hr]; exact h0
theorem d_eqPlan (a b c d e f : Int) (s1 s2 t1 t2 : AV) (xs ys : List (List Int)) (h1 : Sli W0 σ 6 enI s1 xs) (h2 : Sli W0 σ 4 enI s2 ys) (g1 : Sli W0 σ 6 enI t1 xs) (g2 : Sli W0 σ 4 enI t2 ys) (hx : ∀ x ∈ xs, x.length = 6) (hy : ∀ x ∈ ys, x.length = 4) (hl : xs.length ≤ 1048576) (hl2 : ys.length ≤ 1048576) (K : Cont) (h0 : K (Bo true) σ) : ACall Try.prog W0 8 [PlA a b c d e f s1 s2, PlA a b c d e f t1 t2] σ K :=
  lift_PlPl (by kernel_rfl) (fun _ => rfl) h1 h2 g1 g2 (fun W1 v1 v2 u1 u2 q1 q2 q3 q4 K hK => c_eqPlan a b c d e f v1 v2 u1 u2 xs ys q1 q2 q3 q4 hx hy hl hl2 K hK) K h0
end Go.Proofs.Ytjekjbkllhompaa
end

section
/- Contracts: plans that run. -/
set_option linter.unusedVariables false
set_option linter.unusedSimpArgs false
set_option maxRecDepth 100000
set_option maxHeartbeats 4000000
namespace Go.Proofs.Ytjekjbkllhompaa
open Go Go.RowKit Go.Proofs.Ytjekjbkllhompaa.Abs
variable {W0 : World} {σ : List Blk}
/-- steps that are valid -/
def FsOk (fs : List (Nat × Nat)) : Prop := ∀ s ∈ fs, (1 ≤ s.1 ∧ s.1 ≤ 3) ∧ s.2 < 2 ^ 36
theorem FsOk.take {fs : List (Nat × Nat)} (h : FsOk fs) (i : Nat) : FsOk (fs.take i) := fun s hs => h s (List.mem_of_mem_take hs)
abbrev ruB (l : List Nat) : Blk := ⟨l.map (fun n : Nat => U n), l.length - 1, 80, 1, true, true⟩
end Go.Proofs.Ytjekjbkllhompaa
end

section
/- Contracts: sheets of a plan, by both sides. -/
set_option linter.unusedVariables false
set_option linter.unusedSimpArgs false
set_option maxRecDepth 100000
set_option maxHeartbeats 4000000
namespace Go.Proofs.Ytjekjbkllhompaa
open Go Go.RowKit Go.Proofs.Ytjekjbkllhompaa.Abs
variable {W0 : World} {σ : List Blk}
theorem st_row {r : List Int} (h6 : r.length = 6) (h : shRow r = true) : ∃ n : Nat, n < 2 ^ 36 ∧ r = shR n ∧ stN r = n := by
  match r, h6, h with
  | [a, b, c, d, e, f], _, h =>
    obtain ⟨n, hn, rfl, rfl, rfl, rfl, rfl, rfl, hs⟩ := st_parts h
    exact ⟨n, hn, rfl, hs⟩
/-- a step of a valid plan by its parts -/
theorem step_parts {xs ys : List (List Int)} (hx : ∀ x ∈ xs, x.length = 6) (hy : ∀ x ∈ ys, x.length = 4) (hxa : xs.all shRow = true) (hya : ys.all (stOk xs.length) = true) {i : Nat} (hi : i < ys.length) :
    ∃ (k s : Int) (m u v : Nat), ys[i]? = some [k, s, (u : Int), (v : Int)] ∧ (1 ≤ k ∧ k ≤ 3) ∧ (0 ≤ s ∧ s < xs.length) ∧ u < 6 ∧ v < 6 ∧ m < 2 ^ 36 ∧ xs[s.toNat]? = some (shR m) ∧ (fsOf xs ys)[i]? = some (k.toNat, prN m u v) := by
  obtain ⟨k, s, x, y, hyi⟩ := row4x hy hi
  have hok := List.all_eq_true.1 hya _ (List.mem_of_getElem? hyi)
  rw [stOk_eq] at hok
  simp only [Bool.and_eq_true] at hok
  obtain ⟨⟨hk, ht⟩, hc⟩ := hok
  have hk3 := (inB_iff _ _ _).1 hk
  have hs3 := (inB_iff _ _ _).1 ht
  obtain ⟨u, v, rfl, rfl, hu, hv⟩ : ∃ u v : Nat, x = u ∧ y = v ∧ u < 6 ∧ v < 6 := by
    have := cellB_iff.1 hc
    exact ⟨x.toNat, y.toNat, by omega, by omega, by omega, by omega⟩
  have hxs := xget (xs := xs) (k := s) (by omega)
  have hmem := List.mem_of_getElem? hxs
  obtain ⟨m, hm, hr, hst⟩ := st_row (hx _ hmem) (List.all_eq_true.1 hxa _ hmem)
  refine ⟨k, s, m, u, v, hyi, hk3, by omega, hu, hv, hm, by rw [hxs, hr], ?_⟩
  rw [fsOf, List.getElem?_map, hyi]
  show some (k.toNat, prN (stN (xs.getD s.toNat [])) u v) = _
  rw [hst]
end Go.Proofs.Ytjekjbkllhompaa
end

section
/- Contracts: texts of plans, by the reference. -/
set_option linter.unusedVariables false
set_option linter.unusedSimpArgs false
set_option maxRecDepth 100000
set_option maxHeartbeats 4000000
namespace Go.Proofs.Ytjekjbkllhompaa
open Go Go.RowKit Go.Proofs.Ytjekjbkllhompaa.Abs
variable {W0 : World} {σ : List Blk}
theorem digsT_at : ∀ n : Fin 10, (⟨#[48, 49, 50, 51, 52, 53, 54, 55, 56, 57]⟩ : ByteArray).extract n.val (n.val + 1) = strOfNums [((48 + n.val : Nat) : Int)] := by decide +kernel
abbrev Sx (s : ByteArray) : AV := .lit (.string s)
theorem c_l1NumD (n : Nat) (hn : n ≤ 9) (K : Cont) (h0 : K (Sx (strOfNums [((48 + n : Nat) : Int)])) []) : ACall Try.prog W0 23 [I n] [] K := by
  refine by23 (Nat.le_of_ble_eq_true rfl) ?_
  have e1 : IntKind.i64.wrap (((n : Nat) : Int) + 1) = ((n + 1 : Nat) : Int) := wsucc' n (by omega)
  have h0' : K (Sx ((⟨#[48, 49, 50, 51, 52, 53, 54, 55, 56, 57]⟩ : ByteArray).extract n (n + 1))) [] := by rw [digsT_at ⟨n, by omega⟩]; exact h0
  repeat' ((conv => whnf); first
    | (rw [e1])
    | (refine And.intro rfl ?_)
    | (refine And.intro (by decide +kernel) ?_)
    | (refine And.intro trivial ?_)
    | (refine Exists.intro _ (And.intro rfl (And.intro rfl (And.intro (Nat.le_of_ble_eq_true rfl) ?_))))
    | (refine Exists.intro _ (And.intro rfl (And.intro rfl (And.intro rfl (And.intro (Nat.le_of_ble_eq_true rfl) ?_)))))
    | (refine And.intro (Exists.intro _ (And.intro rfl rfl)) ?_)
    | (exact fun hW => absurd hW (by decide +kernel))
    | (intro hW; (try simp only [Bool.not_true, Bool.not_false, Bool.not_eq_true', Bool.not_eq_false', decide_eq_true_eq, decide_eq_false_iff_not, reduceCtorEq, Bool.true_eq_false, Bool.false_eq_true, mk_size, List.size_toArray, ByteArray.size_append, ByteArray.size_extract, List.length_cons, List.length_nil, ba_get, ba_empty, Int.toNat_natCast] at hW))
    | (refine And.intro (?_ : _ → _) (?_ : _ → _))
    | (refine FinR.drop 0 (Nat.zero_le _) (Closed.zero _) rfl ?_)
    | (refine FinR.keep ?_)
    | (refine And.intro (det3_agg rfl) ?_)
    | (refine fL_mk ?_)
    | (refine And.intro (by (try simp only [mk_size, List.size_toArray, ByteArray.size_append, ByteArray.size_extract, List.length_cons, List.length_nil]); omega) ?_)
    | (refine And.intro (by (try simp only [mk_size, List.size_toArray, ByteArray.size_append, ByteArray.size_extract, List.length_cons, List.length_nil, wrap64_eq]); omega) ?_)
    | fail)
  all_goals first | (exfalso; omega) | exact h0' | skip
theorem d_l1NumD (n : Nat) (hn : n ≤ 9) (K : Cont) (h0 : K (Sx (strOfNums [((48 + n : Nat) : Int)])) σ) : ACall Try.prog W0 23 [I n] σ K :=
  ACall.lift rfl (fun _ => rfl) (fun W1 K _ hK => c_l1NumD n hn K hK) h0
theorem spS : (⟨#[32]⟩ : ByteArray).size = 1 := rfl
theorem wT_parts (k s u v : Int) : wT [k, s, u, v] = ((strOfNums [kcI k] ++ strOfNums [48 + s]) ++ strOfNums [48 + u]) ++ strOfNums [48 + v] := by
  rw [← nums_append, ← nums_append, ← nums_append]; rfl
theorem c_l11Text (v1 : Value) (xs ys : List (List Int)) (ha : Sli W0 [] 4 enI (.lit v1) ys) (hx : ∀ x ∈ xs, x.length = 6) (hy : ∀ x ∈ ys, x.length = 4) (hxa : xs.all shRow = true) (hx4 : xs.length ≤ 4) (hya : ys.all (stOk xs.length) = true) (hl : ys.length ≤ 1048576) (K : Cont) (h0 : K (Sx (jn (ys.map wT) ys.length)) []) : ACall Try.prog W0 12 [.lit v1] [] K := by
  refine by12 (Nat.le_of_ble_eq_true rfl) ?_
  obtain ⟨o, n, cap, hv1, hn, hc, hm, hf⟩ := sli_form ha
  cases hv1
  subst hn
  obtain ⟨ws, hws⟩ : ∃ ws, ws = ys.map wT := ⟨_, rfl⟩
  rw [← hws] at h0
  have hwl : ws.length = ys.length := by rw [hws, List.length_map]
  have hw4 : ∀ w ∈ ws, w.size = 4 := fun w hw => by rw [hws] at hw; obtain ⟨r, _, rfl⟩ := List.mem_map.1 hw; exact wT_size r
  repeat' ((conv => whnf); first
    | (refine And.intro rfl ?_)
    | (refine And.intro (by decide +kernel) ?_)
    | (refine And.intro trivial ?_)
    | (refine Exists.intro _ (And.intro rfl (And.intro rfl (And.intro (Nat.le_of_ble_eq_true rfl) ?_))))
    | (refine Exists.intro _ (And.intro rfl (And.intro rfl (And.intro rfl (And.intro (Nat.le_of_ble_eq_true rfl) ?_)))))
    | (refine And.intro (Exists.intro _ (And.intro rfl rfl)) ?_)
    | (exact fun hW => absurd hW (by decide +kernel))
    | (intro hW; (try simp only [Bool.not_true, Bool.not_false, Bool.not_eq_true', Bool.not_eq_false', decide_eq_true_eq, decide_eq_false_iff_not, reduceCtorEq, Bool.true_eq_false, Bool.false_eq_true, mk_size, List.size_toArray, ByteArray.size_append, ByteArray.size_extract, List.length_cons, List.length_nil, ba_get, ba_empty, Int.toNat_natCast] at hW))
    | (refine And.intro (?_ : _ → _) (?_ : _ → _))
    | (refine FinR.drop 0 (Nat.zero_le _) (Closed.zero _) rfl ?_)
    | (refine FinR.keep ?_)
    | (refine And.intro (det3_agg rfl) ?_)
    | (refine fL_mk ?_)
    | (refine And.intro (by (try simp only [mk_size, List.size_toArray, ByteArray.size_append, ByteArray.size_extract, List.length_cons, List.length_nil]); omega) ?_)
    | (refine And.intro (by (try simp only [mk_size, List.size_toArray, ByteArray.size_append, ByteArray.size_extract, List.length_cons, List.length_nil, wrap64_eq]); omega) ?_)
    | fail)
  refine LoopR.live (fun i : Nat => [(0, .lit (.slice o ys.length cap)), (3, Sx (jn ws i)), (4, I i)]) (fun i => []) (fun i => i ≤ ys.length) (fun i => ys.length - i) 0 ⟨rfl, rfl, rfl, trivial⟩ (.keep rfl) (Nat.zero_le _) ?_
  intro i hi
  have hsz := jn_size hw4 i (by omega)
  by_cases hlt : i < ys.length
  · obtain ⟨k, s, m, u, v, hyi, hk3, hs3, hu, hv, hm', hxs, hfs⟩ := step_parts hx hy hxa hya hlt
    obtain ⟨sn, rfl⟩ := Int.eq_ofNat_of_zero_le hs3.1
    have hsn : sn < 4 := by omega
    obtain ⟨ad, e, hb, hxx⟩ := hf _ _ hyi
    cases e
    obtain ⟨X, hXd⟩ : ∃ X, X = (if 0 < i then jn ws i ++ spB else jn ws i) := ⟨_, rfl⟩
    have hj : ∀ (k' c : Int), ys[i]? = some [k', (sn : Int), (u : Int), (v : Int)] → kcI k' = c → jn ws (i + 1) = (((X ++ strOfNums [c]) ++ strOfNums [((48 + sn : Nat) : Int)]) ++ strOfNums [((48 + u : Nat) : Int)]) ++ strOfNums [((48 + v : Nat) : Int)] := fun k' c hk hcc => by
      have hg : ws.getD i ⟨#[]⟩ = wT [k', (sn : Int), (u : Int), (v : Int)] := by rw [hws, List.getD_eq_getElem?_getD, List.getElem?_map, hk]; rfl
      have e1 : ((48 + sn : Nat) : Int) = 48 + (sn : Int) := by omega
      have e2 : ((48 + u : Nat) : Int) = 48 + (u : Int) := by omega
      have e3 : ((48 + v : Nat) : Int) = 48 + (v : Int) := by omega
      show (if 0 < i then jn ws i ++ spB else jn ws i) ++ ws.getD i ⟨#[]⟩ = _
      rw [← hXd, hg, wT_parts, hcc, e1, e2, e3]
      simp only [ByteArray.append_assoc]
    have hld := fun C h => ldIn (W0 := W0) (s := 4) (enc := enI) hb hxx (k := i) hyi rfl (C := C) h
    obtain rfl | rfl | rfl : k = 1 ∨ k = 2 ∨ k = 3 := by omega
    · have hexs : ((⟨#[116, 105, 119]⟩ : ByteArray).extract (IntKind.i64.wrap ((1 : Int) - 1)).toNat ((1 : Int)).toNat).size = 1 := by decide +kernel
      have hext : (⟨#[116, 105, 119]⟩ : ByteArray).extract (IntKind.i64.wrap ((1 : Int) - 1)).toNat ((1 : Int)).toNat = strOfNums [116] := by decide +kernel
      have hjk : jn ws (i + 1) = (((X ++ strOfNums [116]) ++ strOfNums [((48 + sn : Nat) : Int)]) ++ strOfNums [((48 + u : Nat) : Int)]) ++ strOfNums [((48 + v : Nat) : Int)] := hj 1 116 hyi rfl
      by_cases hi0 : 0 < i
      · have hX : X = jn ws i ++ spB := by rw [hXd, if_pos hi0]
        have hXs : (jn ws i ++ spB).size = (jn ws i).size + 1 := by rw [ByteArray.size_append]; rfl
        repeat' ((conv => whnf); first
          | (refine And.intro rfl ?_)
          | (refine And.intro (by decide +kernel) ?_)
          | (refine And.intro trivial ?_)
          | (refine hld _ ?_)
          | (refine d_l1NumD (hn := by omega) (h0 := ?_) ..)
          | (refine Exists.intro _ (And.intro (fun τ => callW_fn (d_l1NumD (hn := by omega) (h0 := And.intro rfl rfl) ..)) ?_))
          | (refine Exists.intro _ (And.intro (callW_fn (d_l1NumD (hn := by omega) (h0 := And.intro rfl rfl) ..)) (And.intro trivial ?_)))
          | (refine Exists.intro _ (And.intro (callW_fn (d_l1NumD (hn := by omega) (h0 := And.intro rfl rfl) ..)) ?_))
          | (refine Exists.intro _ (And.intro (fun τ _ => callW_fn (d_l1NumD (hn := by omega) (h0 := And.intro rfl rfl) ..)) ?_))
          | (refine And.intro (by simp only [ByteArray.size_append, strOfNums_size, hexs, List.length_cons, List.length_nil, spS]; omega) ?_)
          | (refine Exists.intro _ (And.intro rfl (And.intro rfl (And.intro (Nat.le_of_ble_eq_true rfl) ?_))))
          | (refine Exists.intro _ (And.intro rfl (And.intro rfl (And.intro rfl (And.intro (Nat.le_of_ble_eq_true rfl) ?_)))))
          | (refine And.intro (Exists.intro _ (And.intro rfl rfl)) ?_)
          | (exact fun hW => absurd hW (by decide +kernel))
          | (intro hW; (try simp only [Bool.not_true, Bool.not_false, Bool.not_eq_true', Bool.not_eq_false', decide_eq_true_eq, decide_eq_false_iff_not, reduceCtorEq, Bool.true_eq_false, Bool.false_eq_true, mk_size, List.size_toArray, ByteArray.size_append, ByteArray.size_extract, List.length_cons, List.length_nil, ba_get, ba_empty, Int.toNat_natCast] at hW))
          | (refine And.intro (?_ : _ → _) (?_ : _ → _))
          | (refine FinR.drop 0 (Nat.zero_le _) (Closed.zero _) rfl ?_)
          | (refine FinR.keep ?_)
          | (refine And.intro (det3_agg rfl) ?_)
          | (refine fL_mk ?_)
          | (refine And.intro (by (try simp only [mk_size, List.size_toArray, ByteArray.size_append, ByteArray.size_extract, List.length_cons, List.length_nil]); omega) ?_)
          | (refine And.intro (by (try simp only [mk_size, List.size_toArray, ByteArray.size_append, ByteArray.size_extract, List.length_cons, List.length_nil, wrap64_eq]); omega) ?_)
          | fail)
        all_goals first | (exfalso; omega) | skip
        all_goals exact Again.go (i + 1) ⟨rfl, (by show Sx _ = Sx _; rw [hjk, hX, ← hext] <;> rfl), slI' (wsucc' i (by omega)), trivial⟩ (.drop 0 (Nat.zero_le _) rfl (fun B hB => by cases hB) rfl) (by omega) (by omega)
      · have hX : X = jn ws i := by rw [hXd, if_neg hi0]
        repeat' ((conv => whnf); first
          | (refine And.intro rfl ?_)
          | (refine And.intro (by decide +kernel) ?_)
          | (refine And.intro trivial ?_)
          | (refine hld _ ?_)
          | (refine d_l1NumD (hn := by omega) (h0 := ?_) ..)
          | (refine Exists.intro _ (And.intro (fun τ => callW_fn (d_l1NumD (hn := by omega) (h0 := And.intro rfl rfl) ..)) ?_))
          | (refine Exists.intro _ (And.intro (callW_fn (d_l1NumD (hn := by omega) (h0 := And.intro rfl rfl) ..)) (And.intro trivial ?_)))
          | (refine Exists.intro _ (And.intro (callW_fn (d_l1NumD (hn := by omega) (h0 := And.intro rfl rfl) ..)) ?_))
          | (refine Exists.intro _ (And.intro (fun τ _ => callW_fn (d_l1NumD (hn := by omega) (h0 := And.intro rfl rfl) ..)) ?_))
          | (refine And.intro (by simp only [ByteArray.size_append, strOfNums_size, hexs, List.length_cons, List.length_nil]; omega) ?_)
          | (refine Exists.intro _ (And.intro rfl (And.intro rfl (And.intro (Nat.le_of_ble_eq_true rfl) ?_))))
          | (refine Exists.intro _ (And.intro rfl (And.intro rfl (And.intro rfl (And.intro (Nat.le_of_ble_eq_true rfl) ?_)))))
          | (refine And.intro (Exists.intro _ (And.intro rfl rfl)) ?_)
          | (exact fun hW => absurd hW (by decide +kernel))
          | (intro hW; (try simp only [Bool.not_true, Bool.not_false, Bool.not_eq_true', Bool.not_eq_false', decide_eq_true_eq, decide_eq_false_iff_not, reduceCtorEq, Bool.true_eq_false, Bool.false_eq_true, mk_size, List.size_toArray, ByteArray.size_append, ByteArray.size_extract, List.length_cons, List.length_nil, ba_get, ba_empty, Int.toNat_natCast] at hW))
          | (refine And.intro (?_ : _ → _) (?_ : _ → _))
          | (refine FinR.drop 0 (Nat.zero_le _) (Closed.zero _) rfl ?_)
          | (refine FinR.keep ?_)
          | (refine And.intro (det3_agg rfl) ?_)
          | (refine fL_mk ?_)
          | (refine And.intro (by (try simp only [mk_size, List.size_toArray, ByteArray.size_append, ByteArray.size_extract, List.length_cons, List.length_nil]); omega) ?_)
          | (refine And.intro (by (try simp only [mk_size, List.size_toArray, ByteArray.size_append, ByteArray.size_extract, List.length_cons, List.length_nil, wrap64_eq]); omega) ?_)
          | fail)
        all_goals first | (exfalso; omega) | skip
        all_goals exact Again.go (i + 1) ⟨rfl, (by show Sx _ = Sx _; rw [hjk, hX, ← hext] <;> rfl), slI' (wsucc' i (by omega)), trivial⟩ (.drop 0 (Nat.zero_le _) rfl (fun B hB => by cases hB) rfl) (by omega) (by omega)
    · have hexs : ((⟨#[116, 105, 119]⟩ : ByteArray).extract (IntKind.i64.wrap ((2 : Int) - 1)).toNat ((2 : Int)).toNat).size = 1 := by decide +kernel
      have hext : (⟨#[116, 105, 119]⟩ : ByteArray).extract (IntKind.i64.wrap ((2 : Int) - 1)).toNat ((2 : Int)).toNat = strOfNums [105] := by decide +kernel
      have hjk : jn ws (i + 1) = (((X ++ strOfNums [105]) ++ strOfNums [((48 + sn : Nat) : Int)]) ++ strOfNums [((48 + u : Nat) : Int)]) ++ strOfNums [((48 + v : Nat) : Int)] := hj 2 105 hyi rfl
      by_cases hi0 : 0 < i
      · have hX : X = jn ws i ++ spB := by rw [hXd, if_pos hi0]
        have hXs : (jn ws i ++ spB).size = (jn ws i).size + 1 := by rw [ByteArray.size_append]; rfl
        repeat' ((conv => whnf); first
          | (refine And.intro rfl ?_)
          | (refine And.intro (by decide +kernel) ?_)
          | (refine And.intro trivial ?_)
          | (refine hld _ ?_)
          | (refine d_l1NumD (hn := by omega) (h0 := ?_) ..)
          | (refine Exists.intro _ (And.intro (fun τ => callW_fn (d_l1NumD (hn := by omega) (h0 := And.intro rfl rfl) ..)) ?_))
          | (refine Exists.intro _ (And.intro (callW_fn (d_l1NumD (hn := by omega) (h0 := And.intro rfl rfl) ..)) (And.intro trivial ?_)))
          | (refine Exists.intro _ (And.intro (callW_fn (d_l1NumD (hn := by omega) (h0 := And.intro rfl rfl) ..)) ?_))
          | (refine Exists.intro _ (And.intro (fun τ _ => callW_fn (d_l1NumD (hn := by omega) (h0 := And.intro rfl rfl) ..)) ?_))
          | (refine And.intro (by simp only [ByteArray.size_append, strOfNums_size, hexs, List.length_cons, List.length_nil, spS]; omega) ?_)
          | (refine Exists.intro _ (And.intro rfl (And.intro rfl (And.intro (Nat.le_of_ble_eq_true rfl) ?_))))
          | (refine Exists.intro _ (And.intro rfl (And.intro rfl (And.intro rfl (And.intro (Nat.le_of_ble_eq_true rfl) ?_)))))
          | (refine And.intro (Exists.intro _ (And.intro rfl rfl)) ?_)
          | (exact fun hW => absurd hW (by decide +kernel))
          | (intro hW; (try simp only [Bool.not_true, Bool.not_false, Bool.not_eq_true', Bool.not_eq_false', decide_eq_true_eq, decide_eq_false_iff_not, reduceCtorEq, Bool.true_eq_false, Bool.false_eq_true, mk_size, List.size_toArray, ByteArray.size_append, ByteArray.size_extract, List.length_cons, List.length_nil, ba_get, ba_empty, Int.toNat_natCast] at hW))
          | (refine And.intro (?_ : _ → _) (?_ : _ → _))
          | (refine FinR.drop 0 (Nat.zero_le _) (Closed.zero _) rfl ?_)
          | (refine FinR.keep ?_)
          | (refine And.intro (det3_agg rfl) ?_)
          | (refine fL_mk ?_)
          | (refine And.intro (by (try simp only [mk_size, List.size_toArray, ByteArray.size_append, ByteArray.size_extract, List.length_cons, List.length_nil]); omega) ?_)
          | (refine And.intro (by (try simp only [mk_size, List.size_toArray, ByteArray.size_append, ByteArray.size_extract, List.length_cons, List.length_nil, wrap64_eq]); omega) ?_)
          | fail)
        all_goals first | (exfalso; omega) | skip
        all_goals exact Again.go (i + 1) ⟨rfl, (by show Sx _ = Sx _; rw [hjk, hX, ← hext] <;> rfl), slI' (wsucc' i (by omega)), trivial⟩ (.drop 0 (Nat.zero_le _) rfl (fun B hB => by cases hB) rfl) (by omega) (by omega)
      · have hX : X = jn ws i := by rw [hXd, if_neg hi0]
        repeat' ((conv => whnf); first
          | (refine And.intro rfl ?_)
          | (refine And.intro (by decide +kernel) ?_)
          | (refine And.intro trivial ?_)
          | (refine hld _ ?_)
          | (refine d_l1NumD (hn := by omega) (h0 := ?_) ..)
          | (refine Exists.intro _ (And.intro (fun τ => callW_fn (d_l1NumD (hn := by omega) (h0 := And.intro rfl rfl) ..)) ?_))
          | (refine Exists.intro _ (And.intro (callW_fn (d_l1NumD (hn := by omega) (h0 := And.intro rfl rfl) ..)) (And.intro trivial ?_)))
          | (refine Exists.intro _ (And.intro (callW_fn (d_l1NumD (hn := by omega) (h0 := And.intro rfl rfl) ..)) ?_))
          | (refine Exists.intro _ (And.intro (fun τ _ => callW_fn (d_l1NumD (hn := by omega) (h0 := And.intro rfl rfl) ..)) ?_))
          | (refine And.intro (by simp only [ByteArray.size_append, strOfNums_size, hexs, List.length_cons, List.length_nil]; omega) ?_)
          | (refine Exists.intro _ (And.intro rfl (And.intro rfl (And.intro (Nat.le_of_ble_eq_true rfl) ?_))))
          | (refine Exists.intro _ (And.intro rfl (And.intro rfl (And.intro rfl (And.intro (Nat.le_of_ble_eq_true rfl) ?_)))))
          | (refine And.intro (Exists.intro _ (And.intro rfl rfl)) ?_)
          | (exact fun hW => absurd hW (by decide +kernel))
          | (intro hW; (try simp only [Bool.not_true, Bool.not_false, Bool.not_eq_true', Bool.not_eq_false', decide_eq_true_eq, decide_eq_false_iff_not, reduceCtorEq, Bool.true_eq_false, Bool.false_eq_true, mk_size, List.size_toArray, ByteArray.size_append, ByteArray.size_extract, List.length_cons, List.length_nil, ba_get, ba_empty, Int.toNat_natCast] at hW))
          | (refine And.intro (?_ : _ → _) (?_ : _ → _))
          | (refine FinR.drop 0 (Nat.zero_le _) (Closed.zero _) rfl ?_)
          | (refine FinR.keep ?_)
          | (refine And.intro (det3_agg rfl) ?_)
          | (refine fL_mk ?_)
          | (refine And.intro (by (try simp only [mk_size, List.size_toArray, ByteArray.size_append, ByteArray.size_extract, List.length_cons, List.length_nil]); omega) ?_)
          | (refine And.intro (by (try simp only [mk_size, List.size_toArray, ByteArray.size_append, ByteArray.size_extract, List.length_cons, List.length_nil, wrap64_eq]); omega) ?_)
          | fail)
        all_goals first | (exfalso; omega) | skip
        all_goals exact Again.go (i + 1) ⟨rfl, (by show Sx _ = Sx _; rw [hjk, hX, ← hext] <;> rfl), slI' (wsucc' i (by omega)), trivial⟩ (.drop 0 (Nat.zero_le _) rfl (fun B hB => by cases hB) rfl) (by omega) (by omega)
    · have hexs : ((⟨#[116, 105, 119]⟩ : ByteArray).extract (IntKind.i64.wrap ((3 : Int) - 1)).toNat ((3 : Int)).toNat).size = 1 := by decide +kernel
      have hext : (⟨#[116, 105, 119]⟩ : ByteArray).extract (IntKind.i64.wrap ((3 : Int) - 1)).toNat ((3 : Int)).toNat = strOfNums [119] := by decide +kernel
      have hjk : jn ws (i + 1) = (((X ++ strOfNums [119]) ++ strOfNums [((48 + sn : Nat) : Int)]) ++ strOfNums [((48 + u : Nat) : Int)]) ++ strOfNums [((48 + v : Nat) : Int)] := hj 3 119 hyi rfl
      by_cases hi0 : 0 < i
      · have hX : X = jn ws i ++ spB := by rw [hXd, if_pos hi0]
        have hXs : (jn ws i ++ spB).size = (jn ws i).size + 1 := by rw [ByteArray.size_append]; rfl
        repeat' ((conv => whnf); first
          | (refine And.intro rfl ?_)
          | (refine And.intro (by decide +kernel) ?_)
          | (refine And.intro trivial ?_)
          | (refine hld _ ?_)
          | (refine d_l1NumD (hn := by omega) (h0 := ?_) ..)
          | (refine Exists.intro _ (And.intro (fun τ => callW_fn (d_l1NumD (hn := by omega) (h0 := And.intro rfl rfl) ..)) ?_))
          | (refine Exists.intro _ (And.intro (callW_fn (d_l1NumD (hn := by omega) (h0 := And.intro rfl rfl) ..)) (And.intro trivial ?_)))
          | (refine Exists.intro _ (And.intro (callW_fn (d_l1NumD (hn := by omega) (h0 := And.intro rfl rfl) ..)) ?_))
          | (refine Exists.intro _ (And.intro (fun τ _ => callW_fn (d_l1NumD (hn := by omega) (h0 := And.intro rfl rfl) ..)) ?_))
          | (refine And.intro (by simp only [ByteArray.size_append, strOfNums_size, hexs, List.length_cons, List.length_nil, spS]; omega) ?_)
          | (refine Exists.intro _ (And.intro rfl (And.intro rfl (And.intro (Nat.le_of_ble_eq_true rfl) ?_))))
          | (refine Exists.intro _ (And.intro rfl (And.intro rfl (And.intro rfl (And.intro (Nat.le_of_ble_eq_true rfl) ?_)))))
          | (refine And.intro (Exists.intro _ (And.intro rfl rfl)) ?_)
          | (exact fun hW => absurd hW (by decide +kernel))
          | (intro hW; (try simp only [Bool.not_true, Bool.not_false, Bool.not_eq_true', Bool.not_eq_false', decide_eq_true_eq, decide_eq_false_iff_not, reduceCtorEq, Bool.true_eq_false, Bool.false_eq_true, mk_size, List.size_toArray, ByteArray.size_append, ByteArray.size_extract, List.length_cons, List.length_nil, ba_get, ba_empty, Int.toNat_natCast] at hW))
          | (refine And.intro (?_ : _ → _) (?_ : _ → _))
          | (refine FinR.drop 0 (Nat.zero_le _) (Closed.zero _) rfl ?_)
          | (refine FinR.keep ?_)
          | (refine And.intro (det3_agg rfl) ?_)
          | (refine fL_mk ?_)
          | (refine And.intro (by (try simp only [mk_size, List.size_toArray, ByteArray.size_append, ByteArray.size_extract, List.length_cons, List.length_nil]); omega) ?_)
          | (refine And.intro (by (try simp only [mk_size, List.size_toArray, ByteArray.size_append, ByteArray.size_extract, List.length_cons, List.length_nil, wrap64_eq]); omega) ?_)
          | fail)
        all_goals first | (exfalso; omega) | skip
        all_goals exact Again.go (i + 1) ⟨rfl, (by show Sx _ = Sx _; rw [hjk, hX, ← hext] <;> rfl), slI' (wsucc' i (by omega)), trivial⟩ (.drop 0 (Nat.zero_le _) rfl (fun B hB => by cases hB) rfl) (by omega) (by omega)
      · have hX : X = jn ws i := by rw [hXd, if_neg hi0]
        repeat' ((conv => whnf); first
          | (refine And.intro rfl ?_)
          | (refine And.intro (by decide +kernel) ?_)
          | (refine And.intro trivial ?_)
          | (refine hld _ ?_)
          | (refine d_l1NumD (hn := by omega) (h0 := ?_) ..)
          | (refine Exists.intro _ (And.intro (fun τ => callW_fn (d_l1NumD (hn := by omega) (h0 := And.intro rfl rfl) ..)) ?_))
          | (refine Exists.intro _ (And.intro (callW_fn (d_l1NumD (hn := by omega) (h0 := And.intro rfl rfl) ..)) (And.intro trivial ?_)))
          | (refine Exists.intro _ (And.intro (callW_fn (d_l1NumD (hn := by omega) (h0 := And.intro rfl rfl) ..)) ?_))
          | (refine Exists.intro _ (And.intro (fun τ _ => callW_fn (d_l1NumD (hn := by omega) (h0 := And.intro rfl rfl) ..)) ?_))
          | (refine And.intro (by simp only [ByteArray.size_append, strOfNums_size, hexs, List.length_cons, List.length_nil]; omega) ?_)
          | (refine Exists.intro _ (And.intro rfl (And.intro rfl (And.intro (Nat.le_of_ble_eq_true rfl) ?_))))
          | (refine Exists.intro _ (And.intro rfl (And.intro rfl (And.intro rfl (And.intro (Nat.le_of_ble_eq_true rfl) ?_)))))
          | (refine And.intro (Exists.intro _ (And.intro rfl rfl)) ?_)
          | (exact fun hW => absurd hW (by decide +kernel))
          | (intro hW; (try simp only [Bool.not_true, Bool.not_false, Bool.not_eq_true', Bool.not_eq_false', decide_eq_true_eq, decide_eq_false_iff_not, reduceCtorEq, Bool.true_eq_false, Bool.false_eq_true, mk_size, List.size_toArray, ByteArray.size_append, ByteArray.size_extract, List.length_cons, List.length_nil, ba_get, ba_empty, Int.toNat_natCast] at hW))
          | (refine And.intro (?_ : _ → _) (?_ : _ → _))
          | (refine FinR.drop 0 (Nat.zero_le _) (Closed.zero _) rfl ?_)
          | (refine FinR.keep ?_)
          | (refine And.intro (det3_agg rfl) ?_)
          | (refine fL_mk ?_)
          | (refine And.intro (by (try simp only [mk_size, List.size_toArray, ByteArray.size_append, ByteArray.size_extract, List.length_cons, List.length_nil]); omega) ?_)
          | (refine And.intro (by (try simp only [mk_size, List.size_toArray, ByteArray.size_append, ByteArray.size_extract, List.length_cons, List.length_nil, wrap64_eq]); omega) ?_)
          | fail)
        all_goals first | (exfalso; omega) | skip
        all_goals exact Again.go (i + 1) ⟨rfl, (by show Sx _ = Sx _; rw [hjk, hX, ← hext] <;> rfl), slI' (wsucc' i (by omega)), trivial⟩ (.drop 0 (Nat.zero_le _) rfl (fun B hB => by cases hB) rfl) (by omega) (by omega)
  · obtain rfl : i = ys.length := by omega
    repeat' ((conv => whnf); first
      | (refine And.intro rfl ?_)
      | (refine And.intro (by decide +kernel) ?_)
      | (refine And.intro trivial ?_)
      | (refine Exists.intro _ (And.intro rfl (And.intro rfl (And.intro (Nat.le_of_ble_eq_true rfl) ?_))))
      | (refine Exists.intro _ (And.intro rfl (And.intro rfl (And.intro rfl (And.intro (Nat.le_of_ble_eq_true rfl) ?_)))))
      | (refine And.intro (Exists.intro _ (And.intro rfl rfl)) ?_)
      | (exact fun hW => absurd hW (by decide +kernel))
      | (intro hW; (try simp only [Bool.not_true, Bool.not_false, Bool.not_eq_true', Bool.not_eq_false', decide_eq_true_eq, decide_eq_false_iff_not, reduceCtorEq, Bool.true_eq_false, Bool.false_eq_true, mk_size, List.size_toArray, ByteArray.size_append, ByteArray.size_extract, List.length_cons, List.length_nil, ba_get, ba_empty, Int.toNat_natCast] at hW))
      | (refine And.intro (?_ : _ → _) (?_ : _ → _))
      | (refine FinR.drop 0 (Nat.zero_le _) (Closed.zero _) rfl ?_)
      | (refine FinR.keep ?_)
      | (refine And.intro (det3_agg rfl) ?_)
      | (refine fL_mk ?_)
      | (refine And.intro (by (try simp only [mk_size, List.size_toArray, ByteArray.size_append, ByteArray.size_extract, List.length_cons, List.length_nil]); omega) ?_)
      | (refine And.intro (by (try simp only [mk_size, List.size_toArray, ByteArray.size_append, ByteArray.size_extract, List.length_cons, List.length_nil, wrap64_eq]); omega) ?_)
      | fail)
    all_goals first | (exfalso; omega) | exact h0
end Go.Proofs.Ytjekjbkllhompaa
end
