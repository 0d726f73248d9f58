import Derived.Test.YtlmplfgnhibfcaaDoorZN3
section
/- Contracts: a record is decoded. -/
set_option linter.unusedVariables false
set_option linter.unusedSimpArgs false
set_option maxRecDepth 100000
set_option maxHeartbeats 4000000
namespace Go.Proofs.YtlmplfgnhibfcaaDoor
open Go Go.RowKit Go.Proofs.YtlmplfgnhibfcaaDoor.Abs
variable {W0 : World} {σ : List Blk}
theorem d_l1SplitH (s : ByteArray) (b : UInt8) (hs : s.size < 100000000) (K : Cont) (h0 : ∀ rest ver cap, (rest.length = 0 ↔ (tl s).any (· == b) = false) → K (.sl σ.length ver 0 (rest.length + 1) cap) (σ ++ [⟨.lit (.string (bs (bef b (tl s)))) :: tcells rest, ver, 9, 1, true, true⟩])) : ACall Tryd.prog W0 21 [St s, B8 b] σ K := by
  refine d_l1Split s b hs K fun ver cap => ?_
  rw [split_head]
  refine h0 _ ver cap ?_
  cases h : (tl s).any (· == b) with
  | false => simp
  | true => simp [splitL_ne]
theorem d_l1SplitB (l : Bs) (b : UInt8) (hs : l.length < 100000000) (K : Cont) (h0 : ∀ rest ver cap, (rest.length = 0 ↔ l.any (· == b) = false) → K (.sl σ.length ver 0 (rest.length + 1) cap) (σ ++ [⟨.lit (.string (bs (bef b l))) :: tcells rest, ver, 9, 1, true, true⟩])) : ACall Tryd.prog W0 21 [St (bs l), B8 b] σ K :=
  d_l1SplitH (bs l) b (by simp only [mk_size, List.size_toArray]; exact hs) K h0
theorem index_bef (l : Bs) (c : UInt8) : Lib.indexByte l c = if l.any (· == c) then ((bef c l).length : Int) else -1 := by
  induction l with
  | nil => rfl
  | cons b l ih =>
    rw [index_cons, List.any_cons]
    cases h : b == c with
    | true => simp [bef, List.takeWhile_cons, h]
    | false =>
      have e1 : bef c (b :: l) = b :: bef c l := by simp [bef, List.takeWhile_cons, h]
      rw [ih, e1]
      cases h2 : l.any (· == c) with
      | true =>
        have h3 : ((((bef c l).length : Nat) : Int) == -1) = false := by rw [Bool.eq_false_iff]; intro e; have := eq_of_beq e; omega
        simp [h3]
      | false => simp
theorem bef_len_le (b : UInt8) (l : Bs) : (bef b l).length ≤ l.length := by unfold bef; exact (List.takeWhile_sublist _).length_le
theorem bef_take (b : UInt8) (l : Bs) : l.take (bef b l).length = bef b l := by
  rcases bef_cases b l with ⟨_, h2⟩ | ⟨_, h2⟩
  · rw [h2]; simp
  · have e := congrArg (List.take (bef b l).length) h2
    rw [e]; simp
theorem bef_lt {b : UInt8} {l : Bs} (h : l.any (· == b) = true) : (bef b l).length < l.length := by
  rcases bef_cases b l with ⟨h1, _⟩ | ⟨_, h2⟩
  · rw [h1] at h; cases h
  · conv => rhs; rw [h2]
    simp
theorem c_Cut1T (s : ByteArray) (c : UInt8) (h : (tl s).any (· == c) = true) (hs : s.size < 4611686018427387904) (K : Cont) (h0 : K (.tup [St (bs (bef c (tl s))), St (bs (aft c (tl s))), Bo true]) []) : ACall Tryd.prog W0 36 [St s, St ⟨#[c]⟩] [] K := by
  refine by36 (Nat.le_of_ble_eq_true rfl) ?_
  have e1 : Lib.indexByte (tl s) c = ((bef c (tl s)).length : Int) := by rw [index_bef, if_pos h]
  have e2 := bef_lt h
  have tls := tl_len s
  have e3 : IntKind.i64.wrap (((bef c (tl s)).length : Int) + ((⟨#[c]⟩ : ByteArray).size : Nat)) = (((bef c (tl s)).length + 1 : Nat) : Int) := iN _ (by omega)
  repeat' ((conv => whnf); first | (refine Exists.intro ([] : List Nat) ?_) | (refine And.intro rfl ?_) | (refine And.intro (by decide +kernel) ?_) | (refine And.intro trivial ?_) | (refine d_Index1 (h0 := ?_) ..; rw [e1]) | (refine And.intro (by rw [e3]; omega) ?_) | (refine Exists.intro _ (And.intro rfl (And.intro rfl (And.intro (Nat.le_of_ble_eq_true rfl) ?_)))) | (refine Exists.intro _ (And.intro rfl (And.intro rfl (And.intro rfl (And.intro (Nat.le_of_ble_eq_true rfl) ?_))))) | (refine And.intro (Exists.intro _ (And.intro rfl rfl)) ?_) | (exact fun hW => absurd hW (by decide +kernel)) | (intro hW; (try simp only [Bool.not_true, Bool.not_false, Bool.not_eq_true', Bool.not_eq_false', decide_eq_true_eq, decide_eq_false_iff_not, reduceCtorEq, Bool.true_eq_false, Bool.false_eq_true, mk_size, List.size_toArray, ByteArray.size_append, ByteArray.size_extract, List.length_cons, List.length_nil, ba_get, ba_empty, Int.toNat_natCast] at hW)) | (refine And.intro (?_ : _ → _) (?_ : _ → _)) | (refine FinR.drop 0 (Nat.zero_le _) (Closed.zero _) rfl ?_) | (refine FinR.keep ?_) | (refine And.intro (det3_agg rfl) ?_) | (refine fL_mk ?_) | (refine And.intro (by (try simp only [mk_size, List.size_toArray, ByteArray.size_append, ByteArray.size_extract, List.length_cons, List.length_nil]); omega) ?_) | (refine And.intro (by (try simp only [mk_size, List.size_toArray, ByteArray.size_append, ByteArray.size_extract, List.length_cons, List.length_nil, wrap64_eq]); omega) ?_) | fail)
  · refine kX h0 ?_ rfl
    rw [e3, Lib.extract_eq, Lib.extract_eq]
    show AV.tup [St _, St _, Bo true] = AV.tup [St (bs (((tl s).drop 0).take ((bef c (tl s)).length - 0))), St (bs (((tl s).drop ((bef c (tl s)).length + 1)).take (s.size - ((bef c (tl s)).length + 1)))), Bo true]
    rw [List.drop_zero, Nat.sub_zero, bef_take, List.take_of_length_le (by rw [List.length_drop]; omega)]; rfl
  · exfalso; omega
theorem d_Cut1T (s : ByteArray) (c : UInt8) (h : (tl s).any (· == c) = true) (hs : s.size < 4611686018427387904) (K : Cont) (h0 : K (.tup [St (bs (bef c (tl s))), St (bs (aft c (tl s))), Bo true]) σ) : ACall Tryd.prog W0 36 [St s, St ⟨#[c]⟩] σ K :=
  ACall.lift rfl (fun _ => rfl) (fun W1 K _ hK => c_Cut1T s c h hs K hK) h0
theorem c_Cut1F (s : ByteArray) (c : UInt8) (h : (tl s).any (· == c) = false) (K : Cont) (h0 : K (.tup [St s, St ⟨#[]⟩, Bo false]) []) : ACall Tryd.prog W0 36 [St s, St ⟨#[c]⟩] [] K := by
  refine by36 (Nat.le_of_ble_eq_true rfl) ?_
  have e1 : Lib.indexByte (tl s) c = -1 := by rw [index_bef, h]; rfl
  repeat' ((conv => whnf); first | (refine Exists.intro ([] : List Nat) ?_) | (refine And.intro rfl ?_) | (refine And.intro (by decide +kernel) ?_) | (refine And.intro trivial ?_) | (refine d_Index1 (h0 := ?_) ..; rw [e1]) | (refine Exists.intro _ (And.intro rfl (And.intro rfl (And.intro (Nat.le_of_ble_eq_true rfl) ?_)))) | (refine Exists.intro _ (And.intro rfl (And.intro rfl (And.intro rfl (And.intro (Nat.le_of_ble_eq_true rfl) ?_))))) | (refine And.intro (Exists.intro _ (And.intro rfl rfl)) ?_) | (exact fun hW => absurd hW (by decide +kernel)) | (intro hW; (try simp only [Bool.not_true, Bool.not_false, Bool.not_eq_true', Bool.not_eq_false', decide_eq_true_eq, decide_eq_false_iff_not, reduceCtorEq, Bool.true_eq_false, Bool.false_eq_true, mk_size, List.size_toArray, ByteArray.size_append, ByteArray.size_extract, List.length_cons, List.length_nil, ba_get, ba_empty, Int.toNat_natCast] at hW)) | (refine And.intro (?_ : _ → _) (?_ : _ → _)) | (refine FinR.drop 0 (Nat.zero_le _) (Closed.zero _) rfl ?_) | (refine FinR.keep ?_) | (refine And.intro (det3_agg rfl) ?_) | (refine fL_mk ?_) | (refine And.intro (by (try simp only [mk_size, List.size_toArray, ByteArray.size_append, ByteArray.size_extract, List.length_cons, List.length_nil]); omega) ?_) | (refine And.intro (by (try simp only [mk_size, List.size_toArray, ByteArray.size_append, ByteArray.size_extract, List.length_cons, List.length_nil, wrap64_eq]); omega) ?_) | fail)
  all_goals first | exact h0 | (exfalso; omega)
theorem d_Cut1F (s : ByteArray) (c : UInt8) (h : (tl s).any (· == c) = false) (K : Cont) (h0 : K (.tup [St s, St ⟨#[]⟩, Bo false]) σ) : ACall Tryd.prog W0 36 [St s, St ⟨#[c]⟩] σ K :=
  ACall.lift rfl (fun _ => rfl) (fun W1 K _ hK => c_Cut1F s c h K hK) h0
theorem c_sCutT (s : ByteArray) (c : UInt8) (h : (tl s).any (· == c) = true) (hs : s.size < 4611686018427387904) (K : Cont) (h0 : K (.tup [St (bs (bef c (tl s))), St (bs (aft c (tl s))), Bo true]) []) : ACall Tryd.prog W0 29 [St s, St ⟨#[c]⟩] [] K := by
  refine by29 (Nat.le_of_ble_eq_true rfl) ?_
  repeat' ((conv => whnf); first | (refine Exists.intro ([] : List Nat) ?_) | (refine And.intro rfl ?_) | (refine And.intro (by decide +kernel) ?_) | (refine And.intro trivial ?_) | (refine d_Cut1T (h := h) (hs := hs) (h0 := ?_) ..) | (refine Exists.intro _ (And.intro rfl (And.intro rfl (And.intro (Nat.le_of_ble_eq_true rfl) ?_)))) | (refine Exists.intro _ (And.intro rfl (And.intro rfl (And.intro rfl (And.intro (Nat.le_of_ble_eq_true rfl) ?_))))) | (refine And.intro (Exists.intro _ (And.intro rfl rfl)) ?_) | (exact fun hW => absurd hW (by decide +kernel)) | (intro hW; (try simp only [Bool.not_true, Bool.not_false, Bool.not_eq_true', Bool.not_eq_false', decide_eq_true_eq, decide_eq_false_iff_not, reduceCtorEq, Bool.true_eq_false, Bool.false_eq_true, mk_size, List.size_toArray, ByteArray.size_append, ByteArray.size_extract, List.length_cons, List.length_nil, ba_get, ba_empty, Int.toNat_natCast] at hW)) | (refine And.intro (?_ : _ → _) (?_ : _ → _)) | (refine FinR.drop 0 (Nat.zero_le _) (Closed.zero _) rfl ?_) | (refine FinR.keep ?_) | (refine And.intro (det3_agg rfl) ?_) | (refine fL_mk ?_) | (refine And.intro (by (try simp only [mk_size, List.size_toArray, ByteArray.size_append, ByteArray.size_extract, List.length_cons, List.length_nil]); omega) ?_) | (refine And.intro (by (try simp only [mk_size, List.size_toArray, ByteArray.size_append, ByteArray.size_extract, List.length_cons, List.length_nil, wrap64_eq]); omega) ?_) | fail)
  all_goals exact h0
theorem d_sCutT (s : ByteArray) (c : UInt8) (h : (tl s).any (· == c) = true) (hs : s.size < 4611686018427387904) (K : Cont) (h0 : K (.tup [St (bs (bef c (tl s))), St (bs (aft c (tl s))), Bo true]) σ) : ACall Tryd.prog W0 29 [St s, St ⟨#[c]⟩] σ K :=
  ACall.lift rfl (fun _ => rfl) (fun W1 K _ hK => c_sCutT s c h hs K hK) h0
theorem c_sCutF (s : ByteArray) (c : UInt8) (h : (tl s).any (· == c) = false) (K : Cont) (h0 : K (.tup [St s, St ⟨#[]⟩, Bo false]) []) : ACall Tryd.prog W0 29 [St s, St ⟨#[c]⟩] [] K := by
  refine by29 (Nat.le_of_ble_eq_true rfl) ?_
  repeat' ((conv => whnf); first | (refine Exists.intro ([] : List Nat) ?_) | (refine And.intro rfl ?_) | (refine And.intro (by decide +kernel) ?_) | (refine And.intro trivial ?_) | (refine d_Cut1F (h := h) (h0 := ?_) ..) | (refine Exists.intro _ (And.intro rfl (And.intro rfl (And.intro (Nat.le_of_ble_eq_true rfl) ?_)))) | (refine Exists.intro _ (And.intro rfl (And.intro rfl (And.intro rfl (And.intro (Nat.le_of_ble_eq_true rfl) ?_))))) | (refine And.intro (Exists.intro _ (And.intro rfl rfl)) ?_) | (exact fun hW => absurd hW (by decide +kernel)) | (intro hW; (try simp only [Bool.not_true, Bool.not_false, Bool.not_eq_true', Bool.not_eq_false', decide_eq_true_eq, decide_eq_false_iff_not, reduceCtorEq, Bool.true_eq_false, Bool.false_eq_true, mk_size, List.size_toArray, ByteArray.size_append, ByteArray.size_extract, List.length_cons, List.length_nil, ba_get, ba_empty, Int.toNat_natCast] at hW)) | (refine And.intro (?_ : _ → _) (?_ : _ → _)) | (refine FinR.drop 0 (Nat.zero_le _) (Closed.zero _) rfl ?_) | (refine FinR.keep ?_) | (refine And.intro (det3_agg rfl) ?_) | (refine fL_mk ?_) | (refine And.intro (by (try simp only [mk_size, List.size_toArray, ByteArray.size_append, ByteArray.size_extract, List.length_cons, List.length_nil]); omega) ?_) | (refine And.intro (by (try simp only [mk_size, List.size_toArray, ByteArray.size_append, ByteArray.size_extract, List.length_cons, List.length_nil, wrap64_eq]); omega) ?_) | fail)
  all_goals exact h0
theorem d_sCutF (s : ByteArray) (c : UInt8) (h : (tl s).any (· == c) = false) (K : Cont) (h0 : K (.tup [St s, St ⟨#[]⟩, Bo false]) σ) : ACall Tryd.prog W0 29 [St s, St ⟨#[c]⟩] σ K :=
  ACall.lift rfl (fun _ => rfl) (fun W1 K _ hK => c_sCutF s c h K hK) h0
/-- what a valid line is made of -/
theorem tl_body (k : Nat) (c r : ByteArray) : tl (bodyB k c r) = (tl (numB k) ++ [32]) ++ (tl c ++ 64 :: tl r) := by
  simp only [bodyB, tl_append, tl_mk]; simp
theorem tl_seal (s : ByteArray) : tl (sealB s) = tl s ++ 35 :: tl (numB (sumN (tl s))) := by
  simp only [sealB, tl_append, tl_mk]; simp
theorem line_seal {k : Nat} {c r s : ByteArray} (h : lineB k c r = s ++ ⟨#[10]⟩) : sealB (bodyB k c r) = s := by
  apply tl_ext
  have := congrArg tl h
  simp only [lineB, tl_append] at this
  exact List.append_cancel_right this
theorem seal_bef {s : ByteArray} (h : (tl s).any (· == 35) = false) : bef 35 (tl (sealB s)) = tl s := by
  rw [tl_seal]; exact (bef_of h).1
theorem dec_line {k : Nat} {c r s : ByteArray} (hv : recB c r = true) (he : lineB k c r = s ++ ⟨#[10]⟩) : bef 35 (tl s) = (tl (numB k) ++ [32]) ++ (tl c ++ 64 :: tl r) ∧ bef 64 (tl c ++ 64 :: tl r) = tl c ∧ aft 64 (tl c ++ 64 :: tl r) = tl r := by
  rw [← line_seal he, seal_bef (body_no hv), tl_body]
  have := bef_of (t := tl r) (recB_parts hv).2.2.2.1
  exact ⟨rfl, this.1, this.2.1⟩
theorem c_l12Decode (s : ByteArray) (k : Nat) (hk : k < 60) (hs : s.size < 1000000) (K : Cont) (h0 : ∀ c r b, (b = true → recB c r = true ∧ lineB k c r = s ++ ⟨#[10]⟩) → (b = false → ¬ ∃ c r, recB c r = true ∧ lineB k c r = s ++ ⟨#[10]⟩) → K (.tup [Rc c r, Bo b]) []) : ACall Tryd.prog W0 22 [St s, I k] [] K := by
  refine by22 (Nat.le_of_ble_eq_true rfl) ?_
  have tls := tl_len s
  have hb1 := bef_len_le 35 (tl s)
  have hn := numB_size6 (n := k) (by omega)
  have hn' := numB_pos k
  have ea : (numB k ++ ⟨#[32]⟩ : ByteArray).size = (numB k).size + 1 := by simp only [ByteArray.size_append, mk_size, List.size_toArray, List.length_cons, List.length_nil]
  have eb : (bs (bef 35 (tl s))).size = (bef 35 (tl s)).length := by simp only [mk_size, List.size_toArray]
  obtain ⟨rest1, hrest1⟩ : ∃ x, x = (bef 35 (tl s)).drop ((numB k).size + 1) := ⟨_, rfl⟩
  have ex1 : (bs (bef 35 (tl s))).extract (((numB k ++ ⟨#[32]⟩ : ByteArray).size : Nat) : Int).toNat (((bs (bef 35 (tl s))).size : Nat) : Int).toNat = bs rest1 := by
    rw [Lib.extract_eq, Int.toNat_natCast, Int.toNat_natCast, ea, eb, hrest1, List.take_of_length_le (by rw [List.length_drop]; exact Nat.le_refl _)]
  have hb2 := bef_len_le 64 rest1
  have hb3 : rest1.length = (bef 35 (tl s)).length - ((numB k).size + 1) := by rw [hrest1, List.length_drop]
  have eD : ∀ c r, recB c r = true → lineB k c r = s ++ ⟨#[10]⟩ → (numB k).size + 1 ≤ (bef 35 (tl s)).length ∧ (bs (bef 35 (tl s))).extract 0 ((numB k).size + 1) = numB k ++ ⟨#[32]⟩ ∧ rest1 = tl c ++ 64 :: tl r ∧ bef 64 rest1 = tl c ∧ aft 64 rest1 = tl r := by
    intro c r hv he
    obtain ⟨h1, h2, h3⟩ := dec_line hv he
    have hl : (tl (numB k) ++ [32]).length = (numB k).size + 1 := by simp [tl_len]
    have e1 : rest1 = tl c ++ 64 :: tl r := by rw [hrest1, h1, ← hl]; simp
    refine ⟨by rw [h1, ← hl]; simp, ?_, e1, by rw [e1]; exact h2, by rw [e1]; exact h3⟩
    apply tl_ext
    rw [tl_extract, tl_bs, h1, List.drop_zero, Nat.sub_zero, ← hl, List.take_left, tl_append]; rfl
  repeat' ((conv => whnf); first | (refine Exists.intro ([] : List Nat) ?_) | (refine And.intro rfl ?_) | (refine And.intro (by decide +kernel) ?_) | (refine And.intro trivial ?_) | (refine d_l1Num (hn := by omega) (h0 := ?_) ..) | (rw [ex1]; refine d_l1SplitB (l := rest1) (b := 64) (hs := by omega) (h0 := fun rest' ver' cap' hr' => ?_) ..) | (refine d_l1SplitH (s := s) (b := 35) (hs := by omega) (h0 := fun rest ver cap hr => ?_) ..) | (refine d_l12Record (hc := by simp only [mk_size, List.size_toArray, ByteArray.size_extract]; omega) (hr := by simp only [mk_size, List.size_toArray, ByteArray.size_extract]; omega) (h0 := ?_) ..) | (refine Exists.intro _ (And.intro (fun τ => callW_fn (d_l12Record (hc := by simp only [mk_size, List.size_toArray, ByteArray.size_extract]; omega) (hr := by simp only [mk_size, List.size_toArray, ByteArray.size_extract]; omega) (h0 := And.intro rfl rfl) ..)) ?_)) | (refine Exists.intro _ (And.intro (callW_fn (d_l12Record (hc := by simp only [mk_size, List.size_toArray, ByteArray.size_extract]; omega) (hr := by simp only [mk_size, List.size_toArray, ByteArray.size_extract]; omega) (h0 := And.intro rfl rfl) ..)) (And.intro trivial ?_))) | (refine Exists.intro _ (And.intro (callW_fn (d_l12Record (hc := by simp only [mk_size, List.size_toArray, ByteArray.size_extract]; omega) (hr := by simp only [mk_size, List.size_toArray, ByteArray.size_extract]; omega) (h0 := And.intro rfl rfl) ..)) ?_)) | (refine Exists.intro _ (And.intro (fun τ _ => callW_fn (d_l12Record (hc := by simp only [mk_size, List.size_toArray, ByteArray.size_extract]; omega) (hr := by simp only [mk_size, List.size_toArray, ByteArray.size_extract]; omega) (h0 := And.intro rfl rfl) ..)) ?_)) | (refine d_l12Line (hk := by omega) (hc := by simp only [mk_size, List.size_toArray, ByteArray.size_extract]; omega) (hr := by simp only [mk_size, List.size_toArray, ByteArray.size_extract]; omega) (h0 := ?_) ..) | (refine Exists.intro _ (And.intro (fun τ => callW_fn (d_l12Line (hk := by omega) (hc := by simp only [mk_size, List.size_toArray, ByteArray.size_extract]; omega) (hr := by simp only [mk_size, List.size_toArray, ByteArray.size_extract]; omega) (h0 := And.intro rfl rfl) ..)) ?_)) | (refine Exists.intro _ (And.intro (callW_fn (d_l12Line (hk := by omega) (hc := by simp only [mk_size, List.size_toArray, ByteArray.size_extract]; omega) (hr := by simp only [mk_size, List.size_toArray, ByteArray.size_extract]; omega) (h0 := And.intro rfl rfl) ..)) (And.intro trivial ?_))) | (refine Exists.intro _ (And.intro (callW_fn (d_l12Line (hk := by omega) (hc := by simp only [mk_size, List.size_toArray, ByteArray.size_extract]; omega) (hr := by simp only [mk_size, List.size_toArray, ByteArray.size_extract]; omega) (h0 := And.intro rfl rfl) ..)) ?_)) | (refine Exists.intro _ (And.intro (fun τ _ => callW_fn (d_l12Line (hk := by omega) (hc := by simp only [mk_size, List.size_toArray, ByteArray.size_extract]; omega) (hr := by simp only [mk_size, List.size_toArray, ByteArray.size_extract]; omega) (h0 := And.intro rfl rfl) ..)) ?_)) | (refine Exists.intro _ (And.intro rfl (And.intro rfl (And.intro (Nat.le_of_ble_eq_true rfl) ?_)))) | (refine Exists.intro _ (And.intro rfl (And.intro rfl (And.intro rfl (And.intro (Nat.le_of_ble_eq_true rfl) ?_))))) | (refine And.intro (Exists.intro _ (And.intro rfl rfl)) ?_) | (exact fun hW => absurd hW (by decide +kernel)) | (intro hW; (try simp only [Bool.not_true, Bool.not_false, Bool.not_eq_true', Bool.not_eq_false', decide_eq_true_eq, decide_eq_false_iff_not, reduceCtorEq, Bool.true_eq_false, Bool.false_eq_true, mk_size, List.size_toArray, ByteArray.size_append, ByteArray.size_extract, List.length_cons, List.length_nil, ba_get, ba_empty, Int.toNat_natCast] at hW)) | (refine And.intro (?_ : _ → _) (?_ : _ → _)) | (refine FinR.drop 0 (Nat.zero_le _) (Closed.zero _) rfl ?_) | (refine FinR.keep ?_) | (refine And.intro (det3_agg rfl) ?_) | (refine fL_mk ?_) | (refine And.intro (by (try simp only [mk_size, List.size_toArray, ByteArray.size_append, ByteArray.size_extract, List.length_cons, List.length_nil]); omega) ?_) | (refine And.intro (by (try simp only [mk_size, List.size_toArray, ByteArray.size_append, ByteArray.size_extract, List.length_cons, List.length_nil, wrap64_eq]); omega) ?_) | fail)
  · rename_i e1
    refine h0 _ _ false (fun e => by cases e) fun _ ⟨c, r, hv, he⟩ => ?_
    obtain ⟨d1, d2, _⟩ := eD c r hv he
    have d2' : (bs (bef 35 (tl s))).extract (Int.toNat 0) ((numB k).size + (0 + 1)) = numB k ++ ⟨#[32]⟩ := d2
    rw [d2', beq_self_eq_true] at hW; cases hW
  · refine h0 _ _ false (fun e => by cases e) fun _ ⟨c, r, hv, he⟩ => ?_
    obtain ⟨_, _, d3, d4, _⟩ := eD c r hv he
    have h1 := congrArg List.length d3
    have h2 := congrArg List.length d4
    simp only [List.length_append, List.length_cons] at h1
    omega
  · rename_i e1 _ _ e2 e3 _ _ _ _ _
    have eX : (bs rest1).extract (IntKind.i64.wrap (((bef 64 rest1).length : Int) + 1)).toNat rest1.length = bs (aft 64 rest1) := by
      rw [iN _ (by omega), Lib.extract_eq]
      show bs ((rest1.drop ((bef 64 rest1).length + 1)).take (rest1.length - ((bef 64 rest1).length + 1))) = _
      rw [List.take_of_length_le (by rw [List.length_drop]; exact Nat.le_refl _)]; rfl
    refine h0 (bs (bef 64 rest1)) _ _ (fun e => ⟨e3, ?_⟩) fun e ⟨c, r, hv, he⟩ => ?_
    · have := eq_of_beq e
      rw [toList_tl, toList_tl] at this
      exact tl_ext this
    · obtain ⟨_, _, _, d4, d5⟩ := eD c r hv he
      rw [d4] at eX e
      rw [d5] at eX
      have e' : ((lineB k (bs (tl c)) ((bs rest1).extract (IntKind.i64.wrap (((tl c).length : Int) + 1)).toNat rest1.length)).toList == (s ++ ⟨#[10]⟩).toList) = false := e
      rw [eX, bs_tl, bs_tl, he, beq_self_eq_true] at e'; cases e'
  · rename_i e1 _ _ e2 e3 _ _ _ _ _
    have eX : (bs rest1).extract (IntKind.i64.wrap (((bef 64 rest1).length : Int) + 1)).toNat rest1.length = bs (aft 64 rest1) := by
      rw [iN _ (by omega), Lib.extract_eq]
      show bs ((rest1.drop ((bef 64 rest1).length + 1)).take (rest1.length - ((bef 64 rest1).length + 1))) = _
      rw [List.take_of_length_le (by rw [List.length_drop]; exact Nat.le_refl _)]; rfl
    refine h0 (bs (bef 64 rest1)) _ false (fun e => by cases e) fun e ⟨c, r, hv, he⟩ => ?_
    obtain ⟨_, _, _, d4, d5⟩ := eD c r hv he
    rw [eX, d4, d5, bs_tl, bs_tl, hv] at e3; cases e3
  · refine h0 _ _ false (fun e => by cases e) fun _ ⟨c, r, hv, he⟩ => ?_
    obtain ⟨d1, _⟩ := eD c r hv he
    rename_i e1 _ _
    omega
end Go.Proofs.YtlmplfgnhibfcaaDoor
end

section
/- Plain laws: which records a text begins with. -/
set_option linter.unusedVariables false
namespace Go.Proofs.YtlmplfgnhibfcaaDoor
open Go Go.RowKit Go.Proofs.YtlmplfgnhibfcaaDoor.Abs
abbrev Rec := ByteArray × ByteArray
def encL : Nat → List Rec → Bs
  | _, [] => []
  | k, e :: es => tl (lineB k e.1 e.2) ++ encL (k + 1) es
theorem encL_snoc : ∀ (es : List Rec) (k : Nat) (e : Rec), encL k (es ++ [e]) = encL k es ++ tl (lineB (k + es.length) e.1 e.2)
  | [], k, e => by simp [encL]
  | a :: es, k, e => by
    simp only [List.cons_append, encL, List.length_cons]
    rw [encL_snoc es (k + 1) e, List.append_assoc, show k + 1 + es.length = k + (es.length + 1) by omega]
/-- no further record -/
def Last (k : Nat) (t : Bs) : Prop := ¬ ∃ c r t', k < 60 ∧ recB c r = true ∧ t = tl (lineB k c r) ++ t'
structure Reads (l : Bs) (es : List Rec) (n : Nat) : Prop where
  len : n = (encL 0 es).length
  pre : ∃ t, l = encL 0 es ++ t ∧ Last es.length t
  val : ∀ e ∈ es, recB e.1 e.2 = true
  max : es.length ≤ 60
theorem seal_no10 {k : Nat} {c r : ByteArray} (h : recB c r = true) : (tl (sealB (bodyB k c r))).any (· == 10) = false := by
  obtain ⟨_, h1, _, _, h2, _⟩ := recB_parts h
  rw [tl_seal, tl_body]
  simp only [List.any_append, List.any_cons, num_no _ 10 (by decide), plain_no h1 10 (by decide), plain_no h2 10 (by decide)]
  decide
theorem tl_line (k : Nat) (c r : ByteArray) : tl (lineB k c r) = tl (sealB (bodyB k c r)) ++ [10] := by rw [lineB, tl_append]; rfl
theorem line_bef {k : Nat} {c r : ByteArray} (h : recB c r = true) (t : Bs) : bef 10 (tl (lineB k c r) ++ t) = tl (sealB (bodyB k c r)) ∧ aft 10 (tl (lineB k c r) ++ t) = t ∧ (tl (lineB k c r) ++ t).any (· == 10) = true := by
  rw [tl_line, List.append_assoc]
  exact bef_of (seal_no10 h)
theorem line_eq {k : Nat} {c r : ByteArray} {t t' : Bs} (h : recB c r = true) (e : t = tl (lineB k c r) ++ t') : lineB k c r = bs (bef 10 t) ++ ⟨#[10]⟩ ∧ t.any (· == 10) = true := by
  obtain ⟨h1, _, h3⟩ := line_bef (k := k) h t'
  rw [← e] at h1 h3
  refine ⟨tl_ext ?_, h3⟩
  show tl (lineB k c r) = tl (bs (bef 10 t) ++ ⟨#[10]⟩)
  rw [tl_line, tl_append, tl_bs, h1]; rfl
theorem line_inj {k : Nat} {c r c' r' : ByteArray} {t t' : Bs} (h : recB c r = true) (h' : recB c' r' = true) (e : tl (lineB k c r) ++ t = tl (lineB k c' r') ++ t') : c = c' ∧ r = r' ∧ t = t' := by
  have h1 := line_bef (k := k) h t
  have h2 := line_bef (k := k) h' t'
  rw [e] at h1
  have e1 : sealB (bodyB k c r) = sealB (bodyB k c' r') := tl_ext (h1.1.symm.trans h2.1)
  have d1 := dec_line (k := k) (s := sealB (bodyB k c r)) h rfl
  have d2 := dec_line (k := k) (s := sealB (bodyB k c' r')) h' rfl
  rw [e1] at d1
  have e3 := List.append_cancel_left (d1.1.symm.trans d2.1)
  refine ⟨tl_ext ?_, tl_ext ?_, h1.2.1.symm.trans h2.2.1⟩
  · rw [← d1.2.1, ← d2.2.1, e3]
  · rw [← d1.2.2, ← d2.2.2, e3]
theorem enc_inj : ∀ {es es' : List Rec} {k : Nat} {t t' : Bs}, (∀ e ∈ es, recB e.1 e.2 = true) → (∀ e ∈ es', recB e.1 e.2 = true) → k + es.length ≤ 60 → k + es'.length ≤ 60 → Last (k + es.length) t → Last (k + es'.length) t' → encL k es ++ t = encL k es' ++ t' → es = es'
  | [], [], _, _, _, _, _, _, _, _, _, _ => rfl
  | [], e :: es', k, t, t', _, h', _, m', l, _, he => (l ⟨e.1, e.2, encL (k + 1) es' ++ t', by simp only [List.length_nil, List.length_cons] at m' ⊢; omega, h' e List.mem_cons_self, by simpa [encL] using he⟩).elim
  | e :: es, [], k, t, t', h, _, m, _, _, l', he => (l' ⟨e.1, e.2, encL (k + 1) es ++ t, by simp only [List.length_nil, List.length_cons] at m ⊢; omega, h e List.mem_cons_self, by simpa [encL] using he.symm⟩).elim
  | e :: es, e' :: es', k, t, t', h, h', m, m', l, l', he => by
    simp only [encL, List.append_assoc] at he
    obtain ⟨h1, h2, h3⟩ := line_inj (h e List.mem_cons_self) (h' e' List.mem_cons_self) he
    have e1 : e = e' := Prod.ext h1 h2
    simp only [List.length_cons] at m m' l l'
    rw [e1, enc_inj (fun x hx => h x (List.mem_cons_of_mem _ hx)) (fun x hx => h' x (List.mem_cons_of_mem _ hx)) (k := k + 1) (by omega) (by omega) (by rw [show k + 1 + es.length = k + (es.length + 1) by omega]; exact l) (by rw [show k + 1 + es'.length = k + (es'.length + 1) by omega]; exact l') h3]
/-- **What a text begins with is told once.** -/
theorem Reads.uniq {l : Bs} {es es' : List Rec} {n n' : Nat} (h : Reads l es n) (h' : Reads l es' n') : es = es' ∧ n = n' := by
  obtain ⟨t, e, ht⟩ := h.pre
  obtain ⟨t', e', ht'⟩ := h'.pre
  have := enc_inj (k := 0) h.val h'.val (by have := h.max; omega) (by have := h'.max; omega) (by rw [Nat.zero_add]; exact ht) (by rw [Nat.zero_add]; exact ht') (e.symm.trans e')
  subst this
  exact ⟨rfl, h.len.trans h'.len.symm⟩
/-- the cells of records -/
def rcells (es : List Rec) : List AV := es.flatMap fun e => [.lit (.string e.1), .lit (.string e.2)]
theorem rcells_len (es : List Rec) : (rcells es).length = es.length * 2 := by
  induction es with
  | nil => rfl
  | cons e es ih => simp only [rcells, List.flatMap_cons, List.length_append, List.length_cons, List.length_nil] at ih ⊢; omega
theorem rcells_bel (k : Nat) (es : List Rec) : (rcells es).all (bel1 k) = true := by
  rw [List.all_eq_true]
  intro x hx
  simp only [rcells, List.mem_flatMap] at hx
  obtain ⟨e, _, hx⟩ := hx
  simp only [List.mem_cons, List.mem_nil_iff, or_false] at hx
  rcases hx with rfl | rfl <;> rfl
theorem rcells_sh (k : Nat) (es : List Rec) : (rcells es).map (sh1 k) = rcells es := by
  unfold rcells; rw [List.map_flatMap]; rfl
theorem closed1 {k : Nat} {c : List AV} {v : Nat} {e z : Nat} {r m : Bool} (h : c.all (bel1 k) = true) : Closed k [(⟨c, v, e, z, r, m⟩ : Blk)] := by
  intro B hB
  rw [List.mem_singleton.1 hB]; exact h
end Go.Proofs.YtlmplfgnhibfcaaDoor
end

section
/- Contracts: the records that a text begins with, by the reference. -/
set_option linter.unusedVariables false
set_option linter.unusedSimpArgs false
set_option maxRecDepth 100000
set_option maxHeartbeats 4000000
namespace Go.Proofs.YtlmplfgnhibfcaaDoor
open Go Go.RowKit Go.Proofs.YtlmplfgnhibfcaaDoor.Abs
variable {W0 : World} {σ : List Blk}
theorem d_l12Decode (s : ByteArray) (k : Nat) (hk : k < 60) (hs : s.size < 1000000) (K : Cont) (h0 : ∀ c r b, (b = true → recB c r = true ∧ lineB k c r = s ++ ⟨#[10]⟩) → (b = false → ¬ ∃ c r, recB c r = true ∧ lineB k c r = s ++ ⟨#[10]⟩) → K (.tup [Rc c r, Bo b]) σ) : ACall Tryd.prog W0 22 [St s, I k] σ K := by
  refine ACall.frame (K0 := fun v σ' => ∃ c r b, (b = true → recB c r = true ∧ lineB k c r = s ++ ⟨#[10]⟩) ∧ (b = false → ¬ ∃ c r, recB c r = true ∧ lineB k c r = s ++ ⟨#[10]⟩) ∧ v = .tup [Rc c r, Bo b] ∧ σ' = []) rfl (fun W1 _ => c_l12Decode s k hk hs _ fun c r b h1 h2 => ⟨c, r, b, h1, h2, rfl, rfl⟩) ?_
  rintro v σ' ⟨c, r, b, h1, h2, rfl, rfl⟩
  have := h0 c r b h1 h2
  have e : σ ++ shB σ.length [] = σ := by simp [shB]
  rw [e]; exact this
theorem wrap_sum (n m : Nat) (h : n + m < 1000000000) : IntKind.i64.wrap (IntKind.i64.wrap ((n : Int) + (m : Int)) + 1) = ((n + m + 1 : Nat) : Int) := by
  simp only [wrap64_eq]; omega
structure OpX where
  es : List Rec
  n : Nat
  ver : Nat
  cap : Nat
theorem c_l12Open (s : ByteArray) (hs : s.size < 1000000) (K : Cont) (h0 : ∀ es n ver cap, Reads (tl s) es n → K (.tup [.sl 0 ver 0 es.length cap, I (n : Nat)]) [⟨rcells es, ver, 44, 2, true, true⟩]) : ACall Tryd.prog W0 15 [St s] [] K := by
  refine by15 (Nat.le_of_ble_eq_true rfl) ?_
  have tls := tl_len s
  repeat' ((conv => whnf); first | (refine Exists.intro ([] : List Nat) ?_) | (refine And.intro rfl ?_) | (refine And.intro (by decide +kernel) ?_) | (refine And.intro trivial ?_) | (refine Exists.intro _ (And.intro rfl (And.intro rfl (And.intro (Nat.le_of_ble_eq_true rfl) ?_)))) | (refine Exists.intro _ (And.intro rfl (And.intro rfl (And.intro rfl (And.intro (Nat.le_of_ble_eq_true rfl) ?_))))) | (refine And.intro (Exists.intro _ (And.intro rfl rfl)) ?_) | (exact fun hW => absurd hW (by decide +kernel)) | (intro hW; (try simp only [Bool.not_true, Bool.not_false, Bool.not_eq_true', Bool.not_eq_false', decide_eq_true_eq, decide_eq_false_iff_not, reduceCtorEq, Bool.true_eq_false, Bool.false_eq_true, mk_size, List.size_toArray, ByteArray.size_append, ByteArray.size_extract, List.length_cons, List.length_nil, ba_get, ba_empty, Int.toNat_natCast] at hW)) | (refine And.intro (?_ : _ → _) (?_ : _ → _)) | (refine FinR.drop 0 (Nat.zero_le _) (Closed.zero _) rfl ?_) | (refine FinR.keep ?_) | (refine And.intro (det3_agg rfl) ?_) | (refine fL_mk ?_) | (refine And.intro (by (try simp only [mk_size, List.size_toArray, ByteArray.size_append, ByteArray.size_extract, List.length_cons, List.length_nil]); omega) ?_) | (refine And.intro (by (try simp only [mk_size, List.size_toArray, ByteArray.size_append, ByteArray.size_extract, List.length_cons, List.length_nil, wrap64_eq]); omega) ?_) | fail)
  refine LoopR.live (fun x : OpX => [(0, St s), (4, .sl 0 x.ver 0 x.es.length x.cap), (5, I x.n)]) (fun x => [⟨rcells x.es, x.ver, 44, 2, true, true⟩])
    (fun x => x.es.length ≤ 60 ∧ x.n ≤ s.size ∧ x.n = (encL 0 x.es).length ∧ tl s = encL 0 x.es ++ (tl s).drop x.n ∧ ∀ e ∈ x.es, recB e.1 e.2 = true) (fun x => s.size - x.n) ⟨[], 0, 0, 0⟩ ⟨rfl, rfl, rfl, trivial⟩ (.keep rfl) ⟨Nat.zero_le _, Nat.zero_le _, rfl, rfl, fun e he => by cases he⟩ ?_
  rintro ⟨es, n, ver, cap⟩ ⟨h1, h2, h3, h4, h5⟩
  dsimp only at h1 h2 h3 h4 h5
  have hx : s.extract (((n : Nat) : Int)).toNat (((s.size : Nat) : Int)).toNat = bs ((tl s).drop n) := by
    rw [Lib.extract_eq, Int.toNat_natCast, Int.toNat_natCast]
    show bs (((tl s).drop n).take (s.size - n)) = _
    rw [List.take_of_length_le (by rw [List.length_drop]; omega)]
  have hb := bef_len_le 10 ((tl s).drop n)
  have hl : ((tl s).drop n).length = s.size - n := by rw [List.length_drop, tls]
  repeat' ((conv => whnf); first | (refine Exists.intro ([] : List Nat) ?_) | (refine And.intro rfl ?_) | (refine And.intro (by decide +kernel) ?_) | (refine And.intro trivial ?_) | (rw [hx]; refine d_l1SplitB (l := (tl s).drop n) (b := 10) (hs := by omega) (h0 := fun rest ver' cap' hr => ?_) ..) | (refine d_l12Decode (s := bs (bef 10 ((tl s).drop n))) (k := es.length) (hk := by omega) (hs := by simp only [mk_size, List.size_toArray]; omega) (h0 := fun c r b hb1 hb2 => ?_) ..) | (refine Exists.intro _ (And.intro rfl (And.intro rfl (And.intro rfl (And.intro rfl (And.intro rfl (And.intro rfl (And.intro (by decide) (And.intro (by simp [rcells_len]) (And.intro rfl (And.intro (by (try dsimp only); unfold maxLen; omega) (And.intro (by (try dsimp only); omega) (fun cap' hcap1 hcap2 => ?_))))))))))))) | (refine FinR.drop 1 (Nat.zero_le _) (closed1 (rcells_bel _ _)) rfl ?_) | (refine Exists.intro _ (And.intro rfl (And.intro rfl (And.intro (Nat.le_of_ble_eq_true rfl) ?_)))) | (refine Exists.intro _ (And.intro rfl (And.intro rfl (And.intro rfl (And.intro (Nat.le_of_ble_eq_true rfl) ?_))))) | (refine And.intro (Exists.intro _ (And.intro rfl rfl)) ?_) | (exact fun hW => absurd hW (by decide +kernel)) | (intro hW; (try simp only [Bool.not_true, Bool.not_false, Bool.not_eq_true', Bool.not_eq_false', decide_eq_true_eq, decide_eq_false_iff_not, reduceCtorEq, Bool.true_eq_false, Bool.false_eq_true, mk_size, List.size_toArray, ByteArray.size_append, ByteArray.size_extract, List.length_cons, List.length_nil, ba_get, ba_empty, Int.toNat_natCast] at hW)) | (refine And.intro (?_ : _ → _) (?_ : _ → _)) | (refine FinR.drop 0 (Nat.zero_le _) (Closed.zero _) rfl ?_) | (refine FinR.keep ?_) | (refine And.intro (det3_agg rfl) ?_) | (refine fL_mk ?_) | (refine And.intro (by (try simp only [mk_size, List.size_toArray, ByteArray.size_append, ByteArray.size_extract, List.length_cons, List.length_nil]); omega) ?_) | (refine And.intro (by (try simp only [mk_size, List.size_toArray, ByteArray.size_append, ByteArray.size_extract, List.length_cons, List.length_nil, wrap64_eq]); omega) ?_) | fail)
  · exact h0 es n ver cap ⟨h3, ⟨_, h4, fun ⟨c', r', t', hk, hv, e⟩ => hb2 hW ⟨c', r', hv, (line_eq hv e).1⟩⟩, h5, h1⟩
  · rename_i e1 _ e2 e3 _
    obtain ⟨hv, he⟩ := hb1 hW
    have ha : ((tl s).drop n).any (· == 10) = true := by
      cases h : ((tl s).drop n).any (· == 10) with
      | true => rfl
      | false => have := hr.2 h; omega
    have hlt := bef_lt ha
    have hc : (tl s).drop n = bef 10 ((tl s).drop n) ++ 10 :: aft 10 ((tl s).drop n) := by
      rcases bef_cases 10 ((tl s).drop n) with ⟨h, _⟩ | ⟨_, h⟩
      · rw [h] at ha; cases ha
      · exact h
    have htl : tl (lineB es.length c r) = bef 10 ((tl s).drop n) ++ [10] := by rw [he, tl_append]; rfl
    have hen : encL 0 (es ++ [(c, r)]) = encL 0 es ++ (bef 10 ((tl s).drop n) ++ [10]) := by rw [encL_snoc, Nat.zero_add, htl]
    refine Again.go ⟨es ++ [(c, r)], n + (bef 10 ((tl s).drop n)).length + 1, ver + 1, cap'⟩ ⟨rfl, sl_len (by simp), slI (wrap_sum n (bef 10 ((tl s).drop n)).length (by omega)), trivial⟩ (.drop 1 (Nat.zero_le _) (blk_ext ?_ rfl rfl) (closed1 (rcells_bel _ _)) rfl) ⟨by simp; omega, by dsimp only; omega, ?_, ?_, ?_⟩ (by dsimp only; omega)
    · show rcells (es ++ [(c, r)]) = rcells es ++ [AV.lit (.string c), AV.lit (.string r)]
      simp [rcells]
    · dsimp only; rw [hen, h3]; simp only [List.length_append, List.length_cons, List.length_nil]; omega
    · dsimp only
      rw [hen, List.append_assoc]
      conv => lhs; rw [h4]
      congr 1
      have e4 : (tl s).drop (n + (bef 10 ((tl s).drop n)).length + 1) = aft 10 ((tl s).drop n) := by
        unfold aft; rw [List.drop_drop]; congr 1
      rw [e4]
      conv => lhs; rw [hc]
      simp
    · intro e he'
      rcases List.mem_append.1 he' with h | h
      · exact h5 e h
      · rw [List.mem_singleton.1 h]; exact hv
  · refine h0 es n ver cap ⟨h3, ⟨_, h4, fun ⟨c', r', t', hk, hv, e⟩ => ?_⟩, h5, h1⟩
    rename_i e1 e2 e3 e4 _
    have := hr.1 (by omega)
    rw [(line_eq hv e).2] at this; cases this
  · exact h0 es n ver cap ⟨h3, ⟨_, h4, fun ⟨c', r', t', hk, hv, e⟩ => by omega⟩, h5, h1⟩
  · refine h0 es n ver cap ⟨h3, ⟨_, h4, fun ⟨c', r', t', hk, hv, e⟩ => ?_⟩, h5, h1⟩
    rename_i e1 _
    have h6 := (line_eq hv e).2
    rw [List.drop_eq_nil_of_le (by omega)] at h6; cases h6
theorem d_l12Open (s : ByteArray) (hs : s.size < 1000000) (K : Cont) (h0 : ∀ es n ver cap, Reads (tl s) es n → K (.tup [.sl σ.length ver 0 es.length cap, I (n : Nat)]) (σ ++ [⟨rcells es, ver, 44, 2, true, true⟩])) : ACall Tryd.prog W0 15 [St s] σ K := by
  refine ACall.frame (K0 := fun v σ' => ∃ es n ver cap, Reads (tl s) es n ∧ v = .tup [.sl 0 ver 0 es.length cap, I (n : Nat)] ∧ σ' = [⟨rcells es, ver, 44, 2, true, true⟩]) rfl (fun W1 _ => c_l12Open s hs _ fun es n ver cap h => ⟨es, n, ver, cap, h, rfl, rfl⟩) ?_
  rintro v σ' ⟨es, n, ver, cap, h, rfl, rfl⟩
  have := h0 es n ver cap h
  simp only [sh3, sh2, sh1, shB, List.map_cons, List.map_nil, rcells_sh, Nat.add_zero]
  exact this
end Go.Proofs.YtlmplfgnhibfcaaDoor
end

section
/- Contracts: the records that a text begins with, by the program. -/
set_option linter.unusedVariables false
set_option linter.unusedSimpArgs false
set_option maxRecDepth 100000
set_option maxHeartbeats 4000000
namespace Go.Proofs.YtlmplfgnhibfcaaDoor
open Go Go.RowKit Go.Proofs.YtlmplfgnhibfcaaDoor.Abs
variable {W0 : World} {σ : List Blk}
def aftB (c : UInt8) (s : ByteArray) : ByteArray := if (tl s).any (· == c) then bs (aft c (tl s)) else ⟨#[]⟩
theorem d_CutU (s : ByteArray) (c : UInt8) (hs : s.size < 4611686018427387904) (K : Cont) (h0 : K (.tup [St (bs (bef c (tl s))), St (aftB c s), Bo ((tl s).any (· == c))]) σ) : ACall Tryd.prog W0 29 [St s, St ⟨#[c]⟩] σ K := by
  cases h : (tl s).any (· == c) with
  | true =>
    refine d_sCutT s c h hs K ?_
    rw [h] at h0
    have e : aftB c s = bs (aft c (tl s)) := by unfold aftB; rw [if_pos h]
    rw [e] at h0; exact h0
  | false =>
    refine d_sCutF s c h K ?_
    rw [h] at h0
    have e : aftB c s = ⟨#[]⟩ := by unfold aftB; rw [h]; rfl
    have e2 : bef c (tl s) = tl s := by
      rcases bef_cases c (tl s) with ⟨_, h2⟩ | ⟨h1, _⟩
      · exact h2
      · rw [h] at h1; cases h1
    rw [e, e2, bs_tl] at h0; exact h0
theorem aftB_size (c : UInt8) (s : ByteArray) : (aftB c s).size ≤ s.size := by
  unfold aftB
  split
  · rw [← tl_len, tl_bs, aft, List.length_drop, tl_len]; omega
  · exact Nat.zero_le _
theorem d_HasPrefix (s p : ByteArray) (K : Cont) (h0 : K (Bo (Lib.hasPrefix (tl s) (tl p))) σ) : ACall Tryd.prog W0 32 [St s, St p] σ K :=
  ACall.ofCalls1 (vs := [.string s, .string p]) (by kernel_rfl) (fun w _ => (Tryd.strings_HasPrefix s p w).mono fun e w' ⟨h1, h2⟩ => by subst h2; exact ⟨h1, Below.refl _ _⟩) h0
theorem d_AppendU (s : ByteArray) (hs : s.size < 4611686018427387904) (ht : TabP W0) (K : Cont) (h1 : s.size ≤ 4000 ∧ (tl s).any (· == 35) = false ∧ (sealB s).size ≤ 4000 → K (.tup [St (sealB s), Bo true]) σ) (h2 : ¬ (s.size ≤ 4000 ∧ (tl s).any (· == 35) = false ∧ (sealB s).size ≤ 4000) → K (.tup [St ⟨#[]⟩, Bo false]) σ) : ACall Tryd.prog W0 37 [St s] σ K := by
  by_cases h : s.size ≤ 4000 ∧ (tl s).any (· == 35) = false ∧ (sealB s).size ≤ 4000
  · exact d_AppendChecksumT s h.1 h.2.1 h.2.2 ht K (h1 h)
  · exact d_AppendChecksumF s h hs ht K (h2 h)
theorem d_EncodeU (k : Nat) (c r : ByteArray) (hc : c.size < 4611686018427387904) (hr : r.size < 4611686018427387904) (ht : TabP W0) (K : Cont) (h1 : k < 60 ∧ recB c r = true → K (.tup [St (lineB k c r), Bo true]) σ) (h2 : ¬ (k < 60 ∧ recB c r = true) → K (.tup [St ⟨#[]⟩, Bo false]) σ) : ACall Tryd.prog W0 31 [I k, Rc c r] σ K := by
  by_cases h : k < 60 ∧ recB c r = true
  · exact d_EncodeT k c r h.1 h.2 ht K (h1 h)
  · exact d_EncodeF k c r (fun h' => h ⟨by omega, h'.2.2⟩) hc hr ht K (h2 h)
/-- a sealed text -/
def sealedB (t s : ByteArray) : Prop := (t.size ≤ 4000 ∧ (tl t).any (· == 35) = false ∧ (sealB t).size ≤ 4000) ∧ sealB t = s
theorem c_VerifyChecksum (s : ByteArray) (hs : s.size < 1000000) (ht : TabP W0) (K : Cont) (h1 : sealedB (bs (bef 35 (tl s))) s → K (.tup [St (bs (bef 35 (tl s))), Bo true]) []) (h2 : ¬ sealedB (bs (bef 35 (tl s))) s → K (.tup [St ⟨#[]⟩, Bo false]) []) : ACall Tryd.prog W0 30 [St s] [] K := by
  refine by30 (Nat.le_of_ble_eq_true rfl) ?_
  have tls := tl_len s
  have hb := bef_len_le 35 (tl s)
  have hb' : (bs (bef 35 (tl s))).size = (bef 35 (tl s)).length := by simp only [mk_size, List.size_toArray]
  repeat' ((conv => whnf); first | (refine Exists.intro ([] : List Nat) ?_) | (refine And.intro rfl ?_) | (refine And.intro (by decide +kernel) ?_) | (refine And.intro trivial ?_) | (refine d_CutU (c := 35) (hs := by omega) (h0 := ?_) ..) | (refine Exists.intro _ (And.intro (fun τ => callW_fn (d_CutU (c := 35) (hs := by omega) (h0 := And.intro rfl rfl) ..)) ?_)) | (refine Exists.intro _ (And.intro (callW_fn (d_CutU (c := 35) (hs := by omega) (h0 := And.intro rfl rfl) ..)) (And.intro trivial ?_))) | (refine Exists.intro _ (And.intro (callW_fn (d_CutU (c := 35) (hs := by omega) (h0 := And.intro rfl rfl) ..)) ?_)) | (refine Exists.intro _ (And.intro (fun τ _ => callW_fn (d_CutU (c := 35) (hs := by omega) (h0 := And.intro rfl rfl) ..)) ?_)) | (refine d_AppendU (hs := by omega) (ht := ht) (h1 := fun hv => ?_) (h2 := fun hv => ?_) ..) | (refine Exists.intro _ (And.intro rfl (And.intro rfl (And.intro (Nat.le_of_ble_eq_true rfl) ?_)))) | (refine Exists.intro _ (And.intro rfl (And.intro rfl (And.intro rfl (And.intro (Nat.le_of_ble_eq_true rfl) ?_))))) | (refine And.intro (Exists.intro _ (And.intro rfl rfl)) ?_) | (exact fun hW => absurd hW (by decide +kernel)) | (intro hW; (try simp only [Bool.not_true, Bool.not_false, Bool.not_eq_true', Bool.not_eq_false', decide_eq_true_eq, decide_eq_false_iff_not, reduceCtorEq, Bool.true_eq_false, Bool.false_eq_true, mk_size, List.size_toArray, ByteArray.size_append, ByteArray.size_extract, List.length_cons, List.length_nil, ba_get, ba_empty, Int.toNat_natCast] at hW)) | (refine And.intro (?_ : _ → _) (?_ : _ → _)) | (refine FinR.drop 0 (Nat.zero_le _) (Closed.zero _) rfl ?_) | (refine FinR.keep ?_) | (refine And.intro (det3_agg rfl) ?_) | (refine fL_mk ?_) | (refine And.intro (by (try simp only [mk_size, List.size_toArray, ByteArray.size_append, ByteArray.size_extract, List.length_cons, List.length_nil]); omega) ?_) | (refine And.intro (by (try simp only [mk_size, List.size_toArray, ByteArray.size_append, ByteArray.size_extract, List.length_cons, List.length_nil, wrap64_eq]); omega) ?_) | fail)
  · refine h1 ⟨hv, tl_ext ?_⟩
    have := eq_of_beq hW; rwa [toList_tl, toList_tl] at this
  · refine h2 fun hq => ?_
    rw [hq.2, beq_self_eq_true] at hW; cases hW
  · exact h2 fun hq => hv hq.1
theorem d_VerifyChecksum (s : ByteArray) (hs : s.size < 1000000) (ht : TabP W0) (K : Cont) (h1 : sealedB (bs (bef 35 (tl s))) s → K (.tup [St (bs (bef 35 (tl s))), Bo true]) σ) (h2 : ¬ sealedB (bs (bef 35 (tl s))) s → K (.tup [St ⟨#[]⟩, Bo false]) σ) : ACall Tryd.prog W0 30 [St s] σ K := by
  by_cases h : sealedB (bs (bef 35 (tl s))) s
  · exact ACall.lift rfl (fun _ => rfl) (fun W1 K hb hK => c_VerifyChecksum s hs (ht.mono hb) K (fun _ => hK) (fun h' => (h' h).elim)) (h1 h)
  · exact ACall.lift rfl (fun _ => rfl) (fun W1 K hb hK => c_VerifyChecksum s hs (ht.mono hb) K (fun h' => (h h').elim) (fun _ => hK)) (h2 h)
theorem hasPrefix_iff (s p : Bs) : Lib.hasPrefix s p = true ↔ ∃ t, s = p ++ t := by
  unfold Lib.hasPrefix
  rw [List.isPrefixOf_iff_prefix]
  constructor
  · rintro ⟨t, h⟩; exact ⟨t, h.symm⟩
  · rintro ⟨t, h⟩; exact ⟨t, h.symm⟩
theorem any_of_aft {c : UInt8} {l p t : Bs} (h : p.any (· == c) = false) (e : l = p ++ c :: t) : aft c l = t ∧ l.any (· == c) = true ∧ bef c l = p := by
  subst e; have := bef_of (t := t) h; exact ⟨this.2.1, this.2.2, this.1⟩
/-- what the program makes of a record that stands there -/
theorem next_parts {k : Nat} {c r s : ByteArray} {t' : Bs} (hk : k < 60) (hv : recB c r = true) (he : tl s = tl (lineB k c r) ++ t') :
    (tl s).any (· == 10) = true ∧ bs (bef 10 (tl s)) = sealB (bodyB k c r) ∧ bs (bef 35 (tl (sealB (bodyB k c r)))) = bodyB k c r ∧ sealedB (bodyB k c r) (sealB (bodyB k c r)) ∧
      bs (bef 64 (tl (aftB 32 (bodyB k c r)))) = c ∧ aftB 64 (aftB 32 (bodyB k c r)) = r := by
  obtain ⟨h1, h2, h3⟩ := line_bef (k := k) hv t'
  rw [← he] at h1 h2 h3
  obtain ⟨_, _, p3, p4, _, p6⟩ := recB_parts hv
  have b1 := bodyB_size k (by omega) c r
  have b2 := sealB_size (bodyB k c r)
  have q := any_of_aft (c := 32) (l := tl (bodyB k c r)) (num_no k 32 (by decide)) (by rw [tl_body, List.append_assoc]; rfl)
  have e1 : aftB 32 (bodyB k c r) = bs (tl c ++ 64 :: tl r) := by unfold aftB; rw [if_pos q.2.1, q.1]; rfl
  have q2 := any_of_aft (c := 64) (l := tl (bs (tl c ++ 64 :: tl r))) p4 rfl
  refine ⟨h3, by rw [h1, bs_tl], by rw [seal_bef (body_no hv), bs_tl], ⟨⟨by omega, body_no hv, by omega⟩, rfl⟩, ?_, ?_⟩
  · rw [e1, q2.2.2, bs_tl]
  · rw [e1]; unfold aftB; rw [if_pos q2.2.1, q2.1, bs_tl]
theorem c_nextRecord (s : ByteArray) (k : Nat) (hk : k ≤ 60) (hs : s.size < 1000000) (ht : TabP W0) (K : Cont) (h1 : ∀ c r t', k < 60 → recB c r = true → tl s = tl (lineB k c r) ++ t' → K (.tup [Rc c r, St (lineB k c r), Bo true]) []) (h2 : ∀ c r code, Last k (tl s) → K (.tup [Rc c r, St code, Bo false]) []) : ACall Tryd.prog W0 24 [St s, I k] [] K := by
  refine by24 (Nat.le_of_ble_eq_true rfl) ?_
  have tls := tl_len s
  have hb := bef_len_le 10 (tl s)
  have hb' : (bs (bef 10 (tl s))).size = (bef 10 (tl s)).length := by simp only [mk_size, List.size_toArray]
  have hc := bef_len_le 35 (tl (bs (bef 10 (tl s))))
  have hc' : (bs (bef 35 (tl (bs (bef 10 (tl s)))))).size = (bef 35 (tl (bs (bef 10 (tl s))))).length := by simp only [mk_size, List.size_toArray]
  have hd : (tl (bs (bef 10 (tl s)))).length = (bef 10 (tl s)).length := rfl
  obtain ⟨body, hbody⟩ : ∃ x, x = bs (bef 35 (tl (bs (bef 10 (tl s))))) := ⟨_, rfl⟩
  have a1 := aftB_size 32 body
  have a2 := aftB_size 64 (aftB 32 body)
  have a3 := bef_len_le 64 (tl (aftB 32 body))
  have a4 := tl_len (aftB 32 body)
  have a5 : (bs (bef 64 (tl (aftB 32 body)))).size = (bef 64 (tl (aftB 32 body))).length := by simp only [mk_size, List.size_toArray]
  have a6 : body.size < 1000000 := by rw [hbody]; omega
  repeat' ((conv => whnf); first | (refine Exists.intro ([] : List Nat) ?_) | (refine And.intro rfl ?_) | (refine And.intro (by decide +kernel) ?_) | (refine And.intro trivial ?_) | (refine d_CutU (c := 10) (hs := by omega) (h0 := ?_) ..) | (refine Exists.intro _ (And.intro (fun τ => callW_fn (d_CutU (c := 10) (hs := by omega) (h0 := And.intro rfl rfl) ..)) ?_)) | (refine Exists.intro _ (And.intro (callW_fn (d_CutU (c := 10) (hs := by omega) (h0 := And.intro rfl rfl) ..)) (And.intro trivial ?_))) | (refine Exists.intro _ (And.intro (callW_fn (d_CutU (c := 10) (hs := by omega) (h0 := And.intro rfl rfl) ..)) ?_)) | (refine Exists.intro _ (And.intro (fun τ _ => callW_fn (d_CutU (c := 10) (hs := by omega) (h0 := And.intro rfl rfl) ..)) ?_)) | (refine d_VerifyChecksum (hs := by omega) (ht := ht) (h1 := fun hv => ?_) (h2 := fun hv => ?_) .. <;> (try rw [← hbody])) | (refine d_CutU (s := body) (c := 32) (hs := by omega) (h0 := ?_) ..) | (refine d_CutU (s := aftB 32 body) (c := 64) (hs := by omega) (h0 := ?_) ..) | (refine d_EncodeU (hc := by omega) (hr := by omega) (ht := ht) (h1 := fun hv' => ?_) (h2 := fun hv' => ?_) ..) | (refine d_HasPrefix (h0 := ?_) ..) | (refine Exists.intro _ (And.intro (fun τ => callW_fn (d_HasPrefix (h0 := And.intro rfl rfl) ..)) ?_)) | (refine Exists.intro _ (And.intro (callW_fn (d_HasPrefix (h0 := And.intro rfl rfl) ..)) (And.intro trivial ?_))) | (refine Exists.intro _ (And.intro (callW_fn (d_HasPrefix (h0 := And.intro rfl rfl) ..)) ?_)) | (refine Exists.intro _ (And.intro (fun τ _ => callW_fn (d_HasPrefix (h0 := And.intro rfl rfl) ..)) ?_)) | (refine Exists.intro _ (And.intro rfl (And.intro rfl (And.intro (Nat.le_of_ble_eq_true rfl) ?_)))) | (refine Exists.intro _ (And.intro rfl (And.intro rfl (And.intro rfl (And.intro (Nat.le_of_ble_eq_true rfl) ?_))))) | (refine And.intro (Exists.intro _ (And.intro rfl rfl)) ?_) | (exact fun hW => absurd hW (by decide +kernel)) | (intro hW; (try simp only [Bool.not_true, Bool.not_false, Bool.not_eq_true', Bool.not_eq_false', decide_eq_true_eq, decide_eq_false_iff_not, reduceCtorEq, Bool.true_eq_false, Bool.false_eq_true, mk_size, List.size_toArray, ByteArray.size_append, ByteArray.size_extract, List.length_cons, List.length_nil, ba_get, ba_empty, Int.toNat_natCast] at hW)) | (refine And.intro (?_ : _ → _) (?_ : _ → _)) | (refine FinR.drop 0 (Nat.zero_le _) (Closed.zero _) rfl ?_) | (refine FinR.keep ?_) | (refine And.intro (det3_agg rfl) ?_) | (refine fL_mk ?_) | (refine And.intro (by (try simp only [mk_size, List.size_toArray, ByteArray.size_append, ByteArray.size_extract, List.length_cons, List.length_nil]); omega) ?_) | (refine And.intro (by (try simp only [mk_size, List.size_toArray, ByteArray.size_append, ByteArray.size_extract, List.length_cons, List.length_nil, wrap64_eq]); omega) ?_) | fail)
  · have key : ∀ b, b = Lib.hasPrefix (tl s) (tl (lineB k (bs (bef 64 (tl (aftB 32 body)))) (aftB 64 (aftB 32 body)))) → K (.tup [Rc (bs (bef 64 (tl (aftB 32 body)))) (aftB 64 (aftB 32 body)), St (lineB k (bs (bef 64 (tl (aftB 32 body)))) (aftB 64 (aftB 32 body))), Bo b]) [] := by
      intro b hb2
      cases b with
      | true =>
        obtain ⟨t', ht'⟩ := (hasPrefix_iff _ _).1 hb2.symm
        exact h1 _ _ t' hv'.1 hv'.2 ht'
      | false =>
        refine h2 _ _ _ fun ⟨c', r', t', hk', hv0, he⟩ => ?_
        obtain ⟨p1, p2, p3, p4, p5, p6⟩ := next_parts hk' hv0 he
        have eb : body = bodyB k c' r' := by rw [hbody, p2, p3]
        rw [eb, p5, p6, (hasPrefix_iff _ _).2 ⟨t', he⟩] at hb2
        cases hb2
    exact key _ rfl
  · refine h2 _ _ _ fun ⟨c', r', t', hk', hv0, he⟩ => ?_
    obtain ⟨p1, p2, p3, p4, p5, p6⟩ := next_parts hk' hv0 he
    have eb : body = bodyB k c' r' := by rw [hbody, p2, p3]
    rw [eb, p5, p6] at hv'
    exact hv' ⟨hk', hv0⟩
  · rename_i e1 _
    refine h2 _ _ _ fun ⟨c', r', t', hk', hv0, he⟩ => ?_
    obtain ⟨p1, _⟩ := next_parts hk' hv0 he
    rw [p1] at e1; cases e1
  · refine h2 _ _ _ fun ⟨c', r', t', hk', hv0, he⟩ => ?_
    obtain ⟨p1, p2, p3, p4, p5, p6⟩ := next_parts hk' hv0 he
    rw [p2, p3] at hv
    exact hv p4
  · refine h2 _ _ _ fun ⟨c', r', t', hk', hv0, he⟩ => ?_
    obtain ⟨p1, p2, p3, p4, p5, p6⟩ := next_parts hk' hv0 he
    rw [p2, p3] at hv
    exact hv p4
theorem d_nextRecord (s : ByteArray) (k : Nat) (hk : k ≤ 60) (hs : s.size < 1000000) (ht : TabP W0) (K : Cont) (h1 : ∀ c r t', k < 60 → recB c r = true → tl s = tl (lineB k c r) ++ t' → K (.tup [Rc c r, St (lineB k c r), Bo true]) σ) (h2 : ∀ c r code, Last k (tl s) → K (.tup [Rc c r, St code, Bo false]) σ) : ACall Tryd.prog W0 24 [St s, I k] σ K := by
  refine ACall.frame (K0 := fun v σ' => σ' = [] ∧ ((∃ c r t', k < 60 ∧ recB c r = true ∧ tl s = tl (lineB k c r) ++ t' ∧ v = .tup [Rc c r, St (lineB k c r), Bo true]) ∨ ∃ c r code, Last k (tl s) ∧ v = .tup [Rc c r, St code, Bo false])) rfl
    (fun W1 hb => c_nextRecord s k hk hs (ht.mono hb) _ (fun c r t' a b d => ⟨rfl, .inl ⟨c, r, t', a, b, d, rfl⟩⟩) fun c r code a => ⟨rfl, .inr ⟨c, r, code, a, rfl⟩⟩) ?_
  have e : σ ++ shB σ.length [] = σ := by simp [shB]
  rintro v σ' ⟨rfl, ⟨c, r, t', a, b, d, rfl⟩ | ⟨c, r, code, a, rfl⟩⟩
  · rw [e]; exact h1 c r t' a b d
  · rw [e]; exact h2 c r code a
/-- where each record ends -/
def endsL (es : List Rec) : List Nat := (List.range (es.length + 1)).map fun i => (encL 0 (es.take i)).length
theorem endsL_snoc (es : List Rec) (e : Rec) : endsL (es ++ [e]) = endsL es ++ [(encL 0 (es ++ [e])).length] := by
  unfold endsL
  rw [show (es ++ [e]).length + 1 = es.length + 1 + 1 by simp, List.range_succ, List.map_append]
  congr 1
  · apply List.map_congr_left
    intro i hi
    rw [List.take_append_of_le_length (by have := List.mem_range.1 hi; omega)]
  · show [(encL 0 ((es ++ [e]).take (es.length + 1))).length] = _
    rw [List.take_of_length_le (by simp)]
def icells (l : List Nat) : List AV := l.map fun n => .lit (.int .i64 (n : Nat))
theorem icells_len (l : List Nat) : (icells l).length = l.length := by simp [icells]
theorem icells_bel (k : Nat) (l : List Nat) : (icells l).all (bel1 k) = true := by
  rw [List.all_eq_true]; intro x hx; obtain ⟨n, _, rfl⟩ := List.mem_map.1 hx; rfl
theorem icells_sh (k : Nat) (l : List Nat) : (icells l).map (sh1 k) = icells l := by unfold icells; rw [List.map_map]; rfl
theorem closed2 {k : Nat} {c c' : List AV} {v v' : Nat} {e e' z z' : Nat} {r r' m m' : Bool} (h : c.all (bel1 k) = true) (h' : c'.all (bel1 k) = true) : Closed k [(⟨c, v, e, z, r, m⟩ : Blk), ⟨c', v', e', z', r', m'⟩] := by
  intro B hB
  rcases List.mem_cons.1 hB with rfl | hB
  · exact h
  · rw [List.mem_singleton.1 hB]; exact h'
theorem blk2_ext {c c' d d' : List AV} {v v' w w' : Nat} {e z e' z' : Nat} {r m r' m' : Bool} (h1 : c = c') (h2 : v = v') (h3 : d = d') (h4 : w = w') : [(⟨c, v, e, z, r, m⟩ : Blk), ⟨d, w, e', z', r', m'⟩] = [⟨c', v', e, z, r, m⟩, ⟨d', w', e', z', r', m'⟩] := by subst h1; subst h2; subst h3; subst h4; rfl
structure RoX where
  es : List Rec
  v1 : Nat
  c1 : Nat
  v2 : Nat
  c2 : Nat
theorem c_recordsOf (s : ByteArray) (hs : s.size < 1000000) (ht : TabP W0) (K : Cont) (h0 : ∀ es n v1 c1 v2 c2, Reads (tl s) es n → K (.tup [.sl 0 v1 0 es.length c1, .sl 1 v2 0 (es.length + 1) c2]) [⟨rcells es, v1, 44, 2, true, true⟩, ⟨icells (endsL es), v2, 3, 1, true, true⟩]) : ACall Tryd.prog W0 17 [St s] [] K := by
  refine by17 (Nat.le_of_ble_eq_true rfl) ?_
  have tls := tl_len s
  repeat' ((conv => whnf); first | (refine Exists.intro ([] : List Nat) ?_) | (refine And.intro rfl ?_) | (refine And.intro (by decide +kernel) ?_) | (refine And.intro trivial ?_) | (refine Exists.intro _ (And.intro rfl (And.intro rfl (And.intro (Nat.le_of_ble_eq_true rfl) ?_)))) | (refine Exists.intro _ (And.intro rfl (And.intro rfl (And.intro rfl (And.intro (Nat.le_of_ble_eq_true rfl) ?_))))) | (refine And.intro (Exists.intro _ (And.intro rfl rfl)) ?_) | (exact fun hW => absurd hW (by decide +kernel)) | (intro hW; (try simp only [Bool.not_true, Bool.not_false, Bool.not_eq_true', Bool.not_eq_false', decide_eq_true_eq, decide_eq_false_iff_not, reduceCtorEq, Bool.true_eq_false, Bool.false_eq_true, mk_size, List.size_toArray, ByteArray.size_append, ByteArray.size_extract, List.length_cons, List.length_nil, ba_get, ba_empty, Int.toNat_natCast] at hW)) | (refine And.intro (?_ : _ → _) (?_ : _ → _)) | (refine FinR.drop 0 (Nat.zero_le _) (Closed.zero _) rfl ?_) | (refine FinR.keep ?_) | (refine And.intro (det3_agg rfl) ?_) | (refine fL_mk ?_) | (refine And.intro (by (try simp only [mk_size, List.size_toArray, ByteArray.size_append, ByteArray.size_extract, List.length_cons, List.length_nil]); omega) ?_) | (refine And.intro (by (try simp only [mk_size, List.size_toArray, ByteArray.size_append, ByteArray.size_extract, List.length_cons, List.length_nil, wrap64_eq]); omega) ?_) | fail)
  refine LoopR.live (fun x : RoX => [(0, St s), (4, .sl 0 x.v1 0 x.es.length x.c1), (5, .sl 1 x.v2 0 (x.es.length + 1) x.c2), (6, I (encL 0 x.es).length)]) (fun x => [⟨rcells x.es, x.v1, 44, 2, true, true⟩, ⟨icells (endsL x.es), x.v2, 3, 1, true, true⟩])
    (fun x => x.es.length ≤ 60 ∧ (encL 0 x.es).length ≤ s.size ∧ tl s = encL 0 x.es ++ (tl s).drop (encL 0 x.es).length ∧ ∀ e ∈ x.es, recB e.1 e.2 = true) (fun x => s.size - (encL 0 x.es).length) ⟨[], 0, 0, 0, 1⟩ ⟨rfl, rfl, rfl, rfl, trivial⟩ (.keep rfl) ⟨Nat.zero_le _, Nat.zero_le _, rfl, fun e he => by cases he⟩ ?_
  rintro ⟨es, v1, c1, v2, c2⟩ ⟨h1, h2, h4, h5⟩
  dsimp only at h1 h2 h4 h5
  obtain ⟨n, h3⟩ : ∃ n, n = (encL 0 es).length := ⟨_, rfl⟩
  have hx : s.extract (((encL 0 es).length : Nat) : Int).toNat (((s.size : Nat) : Int)).toNat = bs ((tl s).drop (encL 0 es).length) := by
    rw [Lib.extract_eq, Int.toNat_natCast, Int.toNat_natCast]
    show bs (((tl s).drop (encL 0 es).length).take (s.size - (encL 0 es).length)) = _
    rw [List.take_of_length_le (by rw [List.length_drop]; omega)]
  have hl : ((tl s).drop (encL 0 es).length).length = s.size - (encL 0 es).length := by rw [List.length_drop, tls]
  have he : (endsL es).length = es.length + 1 := by simp [endsL]
  repeat' ((conv => whnf); first | (refine Exists.intro ([] : List Nat) ?_) | (refine And.intro rfl ?_) | (refine And.intro (by decide +kernel) ?_) | (refine And.intro trivial ?_) | (rw [hx]; refine d_nextRecord (s := bs ((tl s).drop (encL 0 es).length)) (k := es.length) (hk := by omega) (hs := by simp only [mk_size, List.size_toArray]; omega) (ht := ht) (h1 := fun c r t' hk hv htl => ?_) (h2 := fun c r code hla => ?_) ..) | (refine Exists.intro _ (And.intro rfl (And.intro rfl (And.intro rfl (And.intro rfl (And.intro rfl (And.intro rfl (And.intro (by decide) (And.intro (by simp [rcells_len, icells_len, he]) (And.intro rfl (And.intro (by (try dsimp only); unfold maxLen; omega) (And.intro (by (try dsimp only); omega) (fun cap' hcap1 hcap2 => ?_))))))))))))) | (refine FinR.drop 2 (Nat.zero_le _) (closed2 (rcells_bel _ _) (icells_bel _ _)) rfl ?_) | (refine Exists.intro _ (And.intro rfl (And.intro rfl (And.intro (Nat.le_of_ble_eq_true rfl) ?_)))) | (refine Exists.intro _ (And.intro rfl (And.intro rfl (And.intro rfl (And.intro (Nat.le_of_ble_eq_true rfl) ?_))))) | (refine And.intro (Exists.intro _ (And.intro rfl rfl)) ?_) | (exact fun hW => absurd hW (by decide +kernel)) | (intro hW; (try simp only [Bool.not_true, Bool.not_false, Bool.not_eq_true', Bool.not_eq_false', decide_eq_true_eq, decide_eq_false_iff_not, reduceCtorEq, Bool.true_eq_false, Bool.false_eq_true, mk_size, List.size_toArray, ByteArray.size_append, ByteArray.size_extract, List.length_cons, List.length_nil, ba_get, ba_empty, Int.toNat_natCast] at hW)) | (refine And.intro (?_ : _ → _) (?_ : _ → _)) | (refine FinR.drop 0 (Nat.zero_le _) (Closed.zero _) rfl ?_) | (refine FinR.keep ?_) | (refine And.intro (det3_agg rfl) ?_) | (refine fL_mk ?_) | (refine And.intro (by (try simp only [mk_size, List.size_toArray, ByteArray.size_append, ByteArray.size_extract, List.length_cons, List.length_nil]); omega) ?_) | (refine And.intro (by (try simp only [mk_size, List.size_toArray, ByteArray.size_append, ByteArray.size_extract, List.length_cons, List.length_nil, wrap64_eq]); omega) ?_) | fail)
  · have htl' : (tl s).drop (encL 0 es).length = tl (lineB es.length c r) ++ t' := htl
    have hen : encL 0 (es ++ [(c, r)]) = encL 0 es ++ tl (lineB es.length c r) := by rw [encL_snoc, Nat.zero_add]
    have hle : (encL 0 (es ++ [(c, r)])).length = (encL 0 es).length + (lineB es.length c r).size := by rw [hen, List.length_append, tl_len]
    have hle2 : (encL 0 es).length + (lineB es.length c r).size ≤ s.size := by
      have := congrArg List.length h4
      rw [htl'] at this
      simp only [List.length_append, tl_len] at this
      omega
    have hpos : 1 ≤ (lineB es.length c r).size := by rw [← tl_len, tl_line]; simp
    have hw : IntKind.i64.wrap ((((encL 0 es).length : Nat) : Int) + (((lineB es.length c r).size : Nat) : Int)) = (((encL 0 (es ++ [(c, r)])).length : Nat) : Int) := by
      rw [hle, wrap_i64 _ (by omega) (by omega)]; omega
    refine Again.go ⟨es ++ [(c, r)], v1 + 1, _, v2 + 1, _⟩ ⟨rfl, sl_len (by simp), sl_len (by simp), slI hw, trivial⟩ (.drop 2 (Nat.zero_le _) (blk2_ext ?_ rfl ?_ rfl) (closed2 (rcells_bel _ _) (icells_bel _ _)) rfl) ⟨by simp; omega, by dsimp only; omega, ?_, ?_⟩ (by dsimp only; omega)
    · show rcells (es ++ [(c, r)]) = rcells es ++ [AV.lit (.string c), AV.lit (.string r)]
      simp [rcells]
    · show icells (endsL (es ++ [(c, r)])) = icells (endsL es) ++ [AV.lit (.int .i64 (IntKind.i64.wrap ((((encL 0 es).length : Nat) : Int) + (((lineB es.length c r).size : Nat) : Int))))]
      rw [endsL_snoc, hw]; simp [icells]
    · dsimp only
      rw [hen, List.length_append, ← List.drop_drop, htl', List.drop_left, List.append_assoc, ← htl']
      exact h4
    · intro e he'
      rcases List.mem_append.1 he' with h | h
      · exact h5 e h
      · rw [List.mem_singleton.1 h]; exact hv
  · exact h0 es (encL 0 es).length v1 c1 v2 c2 ⟨rfl, ⟨_, h4, hla⟩, h5, h1⟩
theorem d_recordsOf (s : ByteArray) (hs : s.size < 1000000) (ht : TabP W0) (K : Cont) (h0 : ∀ es n v1 c1 v2 c2, Reads (tl s) es n → K (.tup [.sl σ.length v1 0 es.length c1, .sl (σ.length + 1) v2 0 (es.length + 1) c2]) (σ ++ [⟨rcells es, v1, 44, 2, true, true⟩, ⟨icells (endsL es), v2, 3, 1, true, true⟩])) : ACall Tryd.prog W0 17 [St s] σ K := by
  refine ACall.frame (K0 := fun v σ' => ∃ es n v1 c1 v2 c2, Reads (tl s) es n ∧ v = .tup [.sl 0 v1 0 es.length c1, .sl 1 v2 0 (es.length + 1) c2] ∧ σ' = [⟨rcells es, v1, 44, 2, true, true⟩, ⟨icells (endsL es), v2, 3, 1, true, true⟩]) rfl (fun W1 hb => c_recordsOf s hs (ht.mono hb) _ fun es n v1 c1 v2 c2 h => ⟨es, n, v1, c1, v2, c2, h, rfl, rfl⟩) ?_
  rintro v σ' ⟨es, n, v1, c1, v2, c2, h, rfl, rfl⟩
  have := h0 es n v1 c1 v2 c2 h
  simp only [sh3, sh2, sh1, shB, List.map_cons, List.map_nil, rcells_sh, icells_sh, Nat.add_zero]
  exact this
theorem ends_last {l : Bs} {es : List Rec} {n : Nat} (h : Reads l es n) : (icells (endsL es)).drop es.length = [I (n : Nat)] := by
  rcases List.eq_nil_or_concat es with e | ⟨es', x, e⟩
  · subst e; have := h.len; subst this; rfl
  · rw [List.concat_eq_append] at e
    subst e
    rw [endsL_snoc, icells, List.map_append, List.drop_append, h.len]
    have e1 : (List.map (fun n : Nat => AV.lit (.int .i64 (n : Nat))) (endsL es')).drop (es' ++ [x]).length = [] := List.drop_eq_nil_of_le (by simp [endsL])
    rw [e1]; simp [endsL]
theorem ends_at {l : Bs} {es : List Rec} {n : Nat} (h : Reads l es n) : ((icells (endsL es)).drop (0 + ((es.length : Nat) : Int).toNat * 1)).take 1 = [I (n : Nat)] := by
  rw [Int.toNat_natCast, Nat.zero_add, Nat.mul_one, ends_last h]; rfl
end Go.Proofs.YtlmplfgnhibfcaaDoor
end

section
/- Contracts: valid logs; sync; append. -/
set_option linter.unusedVariables false
set_option linter.unusedSimpArgs false
set_option maxRecDepth 100000
set_option maxHeartbeats 4000000
namespace Go.Proofs.YtlmplfgnhibfcaaDoor
open Go Go.RowKit Go.Proofs.YtlmplfgnhibfcaaDoor.Abs
variable {W0 : World} {σ : List Blk}
def encI (n : Int) : List Value := [.int .i64 n]
theorem c_slIndex (a : AV) (xs : List Int) (x : Int) (hs : Sli W0 [] 1 encI a xs) (hl : xs.length < 4611686018427387904) (K : Cont) (h0 : ∀ r : Int, (0 ≤ r ↔ xs.contains x = true) → K (I r) []) : ACall Tryd.prog W0 28 [a, I x] [] K := by
  refine by28 (Nat.le_of_ble_eq_true rfl) ?_
  cases hs with
  | nil =>
    repeat' ((conv => whnf); first | (refine Exists.intro ([] : List Nat) ?_) | (refine And.intro rfl ?_) | (refine And.intro (by decide +kernel) ?_) | (refine And.intro trivial ?_) | (refine Exists.intro _ (And.intro rfl (And.intro rfl (And.intro (Nat.le_of_ble_eq_true rfl) ?_)))) | (refine Exists.intro _ (And.intro rfl (And.intro rfl (And.intro rfl (And.intro (Nat.le_of_ble_eq_true rfl) ?_))))) | (refine And.intro (Exists.intro _ (And.intro rfl rfl)) ?_) | (exact fun hW => absurd hW (by decide +kernel)) | (intro hW; (try simp only [Bool.not_true, Bool.not_false, Bool.not_eq_true', Bool.not_eq_false', decide_eq_true_eq, decide_eq_false_iff_not, reduceCtorEq, Bool.true_eq_false, Bool.false_eq_true, mk_size, List.size_toArray, ByteArray.size_append, ByteArray.size_extract, List.length_cons, List.length_nil, ba_get, ba_empty, Int.toNat_natCast] at hW)) | (refine And.intro (?_ : _ → _) (?_ : _ → _)) | (refine FinR.drop 0 (Nat.zero_le _) (Closed.zero _) rfl ?_) | (refine FinR.keep ?_) | (refine And.intro (det3_agg rfl) ?_) | (refine fL_mk ?_) | (refine And.intro (by (try simp only [mk_size, List.size_toArray, ByteArray.size_append, ByteArray.size_extract, List.length_cons, List.length_nil]); omega) ?_) | (refine And.intro (by (try simp only [mk_size, List.size_toArray, ByteArray.size_append, ByteArray.size_extract, List.length_cons, List.length_nil, wrap64_eq]); omega) ?_) | fail)
    refine LoopR.unroll 1 ?_
    repeat' ((conv => whnf); first | (refine Exists.intro ([] : List Nat) ?_) | (refine And.intro rfl ?_) | (refine And.intro (by decide +kernel) ?_) | (refine And.intro trivial ?_) | (refine Exists.intro _ (And.intro rfl (And.intro rfl (And.intro (Nat.le_of_ble_eq_true rfl) ?_)))) | (refine Exists.intro _ (And.intro rfl (And.intro rfl (And.intro rfl (And.intro (Nat.le_of_ble_eq_true rfl) ?_))))) | (refine And.intro (Exists.intro _ (And.intro rfl rfl)) ?_) | (exact fun hW => absurd hW (by decide +kernel)) | (intro hW; (try simp only [Bool.not_true, Bool.not_false, Bool.not_eq_true', Bool.not_eq_false', decide_eq_true_eq, decide_eq_false_iff_not, reduceCtorEq, Bool.true_eq_false, Bool.false_eq_true, mk_size, List.size_toArray, ByteArray.size_append, ByteArray.size_extract, List.length_cons, List.length_nil, ba_get, ba_empty, Int.toNat_natCast] at hW)) | (refine And.intro (?_ : _ → _) (?_ : _ → _)) | (refine FinR.drop 0 (Nat.zero_le _) (Closed.zero _) rfl ?_) | (refine FinR.keep ?_) | (refine And.intro (det3_agg rfl) ?_) | (refine fL_mk ?_) | (refine And.intro (by (try simp only [mk_size, List.size_toArray, ByteArray.size_append, ByteArray.size_extract, List.length_cons, List.length_nil]); omega) ?_) | (refine And.intro (by (try simp only [mk_size, List.size_toArray, ByteArray.size_append, ByteArray.size_extract, List.length_cons, List.length_nil, wrap64_eq]); omega) ?_) | fail)
    all_goals first | (exfalso; omega) | exact h0 (-1) (by simp)
  | inn ad n cap xs hn hc hm hb hx =>
    subst hn
    repeat' ((conv => whnf); first | (refine Exists.intro ([] : List Nat) ?_) | (refine And.intro rfl ?_) | (refine And.intro (by decide +kernel) ?_) | (refine And.intro trivial ?_) | (refine Exists.intro _ (And.intro rfl (And.intro rfl (And.intro (Nat.le_of_ble_eq_true rfl) ?_)))) | (refine Exists.intro _ (And.intro rfl (And.intro rfl (And.intro rfl (And.intro (Nat.le_of_ble_eq_true rfl) ?_))))) | (refine And.intro (Exists.intro _ (And.intro rfl rfl)) ?_) | (exact fun hW => absurd hW (by decide +kernel)) | (intro hW; (try simp only [Bool.not_true, Bool.not_false, Bool.not_eq_true', Bool.not_eq_false', decide_eq_true_eq, decide_eq_false_iff_not, reduceCtorEq, Bool.true_eq_false, Bool.false_eq_true, mk_size, List.size_toArray, ByteArray.size_append, ByteArray.size_extract, List.length_cons, List.length_nil, ba_get, ba_empty, Int.toNat_natCast] at hW)) | (refine And.intro (?_ : _ → _) (?_ : _ → _)) | (refine FinR.drop 0 (Nat.zero_le _) (Closed.zero _) rfl ?_) | (refine FinR.keep ?_) | (refine And.intro (det3_agg rfl) ?_) | (refine fL_mk ?_) | (refine And.intro (by (try simp only [mk_size, List.size_toArray, ByteArray.size_append, ByteArray.size_extract, List.length_cons, List.length_nil]); omega) ?_) | (refine And.intro (by (try simp only [mk_size, List.size_toArray, ByteArray.size_append, ByteArray.size_extract, List.length_cons, List.length_nil, wrap64_eq]); omega) ?_) | fail)
    refine LoopR.live (fun i : Nat => [(0, .lit (.slice (some ad) xs.length cap)), (1, I x), (7, I xs.length), (8, I i)]) (fun _ => []) (fun i => i ≤ xs.length ∧ (xs.take i).all (fun y => !(x == y)) = true) (fun i => xs.length - i) 0 ⟨rfl, rfl, rfl, rfl, trivial⟩ (.keep rfl) ⟨Nat.zero_le _, rfl⟩ ?_
    rintro i ⟨hi, ha⟩
    by_cases hlt : i < xs.length
    · have hxi : xs[i]? = some (xs.getD i 0) := by simp [List.getD, hlt]
      have hld := fun C h => ldIn (W0 := W0) (s := 1) (enc := encI) hb hx (k := i) hxi rfl (C := C) h
      repeat' ((conv => whnf); first | (refine Exists.intro ([] : List Nat) ?_) | (refine And.intro rfl ?_) | (refine And.intro (by decide +kernel) ?_) | (refine And.intro trivial ?_) | (refine hld _ ?_) | (refine Exists.intro _ (And.intro rfl (And.intro rfl (And.intro (Nat.le_of_ble_eq_true rfl) ?_)))) | (refine Exists.intro _ (And.intro rfl (And.intro rfl (And.intro rfl (And.intro (Nat.le_of_ble_eq_true rfl) ?_))))) | (refine And.intro (Exists.intro _ (And.intro rfl rfl)) ?_) | (exact fun hW => absurd hW (by decide +kernel)) | (intro hW; (try simp only [Bool.not_true, Bool.not_false, Bool.not_eq_true', Bool.not_eq_false', decide_eq_true_eq, decide_eq_false_iff_not, reduceCtorEq, Bool.true_eq_false, Bool.false_eq_true, mk_size, List.size_toArray, ByteArray.size_append, ByteArray.size_extract, List.length_cons, List.length_nil, ba_get, ba_empty, Int.toNat_natCast] at hW)) | (refine And.intro (?_ : _ → _) (?_ : _ → _)) | (refine FinR.drop 0 (Nat.zero_le _) (Closed.zero _) rfl ?_) | (refine FinR.keep ?_) | (refine And.intro (det3_agg rfl) ?_) | (refine fL_mk ?_) | (refine And.intro (by (try simp only [mk_size, List.size_toArray, ByteArray.size_append, ByteArray.size_extract, List.length_cons, List.length_nil]); omega) ?_) | (refine And.intro (by (try simp only [mk_size, List.size_toArray, ByteArray.size_append, ByteArray.size_extract, List.length_cons, List.length_nil, wrap64_eq]); omega) ?_) | fail)
      all_goals first | (exfalso; omega) | skip
      · refine h0 i ⟨fun _ => ?_, fun _ => by omega⟩
        rw [List.contains_iff_mem]
        have : xs.getD i 0 ∈ xs := List.mem_of_getElem? hxi
        rw [hW]; exact this
      · exact Again.go (i + 1) ⟨rfl, rfl, rfl, slI (iN i (by omega)), trivial⟩ (.keep rfl) ⟨by omega, by rw [all_step (d := 0) hlt, ha]; simp; exact hW⟩ (by omega)
    · skip
      repeat' ((conv => whnf); first | (refine Exists.intro ([] : List Nat) ?_) | (refine And.intro rfl ?_) | (refine And.intro (by decide +kernel) ?_) | (refine And.intro trivial ?_) | (refine Exists.intro _ (And.intro rfl (And.intro rfl (And.intro (Nat.le_of_ble_eq_true rfl) ?_)))) | (refine Exists.intro _ (And.intro rfl (And.intro rfl (And.intro rfl (And.intro (Nat.le_of_ble_eq_true rfl) ?_))))) | (refine And.intro (Exists.intro _ (And.intro rfl rfl)) ?_) | (exact fun hW => absurd hW (by decide +kernel)) | (intro hW; (try simp only [Bool.not_true, Bool.not_false, Bool.not_eq_true', Bool.not_eq_false', decide_eq_true_eq, decide_eq_false_iff_not, reduceCtorEq, Bool.true_eq_false, Bool.false_eq_true, mk_size, List.size_toArray, ByteArray.size_append, ByteArray.size_extract, List.length_cons, List.length_nil, ba_get, ba_empty, Int.toNat_natCast] at hW)) | (refine And.intro (?_ : _ → _) (?_ : _ → _)) | (refine FinR.drop 0 (Nat.zero_le _) (Closed.zero _) rfl ?_) | (refine FinR.keep ?_) | (refine And.intro (det3_agg rfl) ?_) | (refine fL_mk ?_) | (refine And.intro (by (try simp only [mk_size, List.size_toArray, ByteArray.size_append, ByteArray.size_extract, List.length_cons, List.length_nil]); omega) ?_) | (refine And.intro (by (try simp only [mk_size, List.size_toArray, ByteArray.size_append, ByteArray.size_extract, List.length_cons, List.length_nil, wrap64_eq]); omega) ?_) | fail)
      all_goals first | (exfalso; omega) | skip
      refine h0 (-1) ⟨fun h => by omega, fun h => ?_⟩
      have h1 := all_take_true (by omega) ha
      rw [List.contains_iff_mem] at h
      have := List.all_eq_true.1 h1 x h
      simp at this
  | own b ver off n cap B xs hB => simp at hB
theorem d_slContains (a : AV) (xs : List Int) (x : Int) (hs : Sli W0 σ 1 encI a xs) (hl : xs.length < 4611686018427387904) (K : Cont) (h0 : K (Bo (xs.contains x)) σ) : ACall Tryd.prog W0 23 [a, I x] σ K := by
  refine ACall.frameA (K0 := fun v σ' => v = Bo (xs.contains x) ∧ σ' = []) (by kernel_rfl) (fun W1 ι vs hh hr => ?_) ?_
  · obtain ⟨v1, vs', rfl, hr1, hr2⟩ := Rels.uncons hr
    obtain ⟨a', ha, hs'⟩ := hs.conc hh ⟨v1, hr1⟩
    have hs2 := hs'
    refine ⟨[a', I x], Rels.cons (ha _ hr1) (hr2.mono' fun b hb c hbc => rel3_pure (by rw [List.mem_singleton.1 hb]; rfl) hbc), ?_⟩
    refine by23 (Nat.le_of_ble_eq_true rfl) ?_
    cases hs' with
    | nil =>
      repeat' ((conv => whnf); first | (refine Exists.intro ([] : List Nat) ?_) | (refine And.intro rfl ?_) | (refine And.intro (by decide +kernel) ?_) | (refine And.intro trivial ?_) | (refine c_slIndex (hs := hs2) (hl := hl) (h0 := fun r hrr => ?_) ..) | (refine Exists.intro _ (And.intro rfl (And.intro rfl (And.intro (Nat.le_of_ble_eq_true rfl) ?_)))) | (refine Exists.intro _ (And.intro rfl (And.intro rfl (And.intro rfl (And.intro (Nat.le_of_ble_eq_true rfl) ?_))))) | (refine And.intro (Exists.intro _ (And.intro rfl rfl)) ?_) | (exact fun hW => absurd hW (by decide +kernel)) | (intro hW; (try simp only [Bool.not_true, Bool.not_false, Bool.not_eq_true', Bool.not_eq_false', decide_eq_true_eq, decide_eq_false_iff_not, reduceCtorEq, Bool.true_eq_false, Bool.false_eq_true, mk_size, List.size_toArray, ByteArray.size_append, ByteArray.size_extract, List.length_cons, List.length_nil, ba_get, ba_empty, Int.toNat_natCast] at hW)) | (refine And.intro (?_ : _ → _) (?_ : _ → _)) | (refine FinR.drop 0 (Nat.zero_le _) (Closed.zero _) rfl ?_) | (refine FinR.keep ?_) | (refine And.intro (det3_agg rfl) ?_) | (refine fL_mk ?_) | (refine And.intro (by (try simp only [mk_size, List.size_toArray, ByteArray.size_append, ByteArray.size_extract, List.length_cons, List.length_nil]); omega) ?_) | (refine And.intro (by (try simp only [mk_size, List.size_toArray, ByteArray.size_append, ByteArray.size_extract, List.length_cons, List.length_nil, wrap64_eq]); omega) ?_) | fail)
      all_goals exact kB (K := fun v σ' => v = Bo (([] : List Int).contains x) ∧ σ' = []) ⟨rfl, rfl⟩ (by rw [Bool.eq_iff_iff, decide_eq_true_iff]; exact hrr.symm)
    | inn ad n cap xs hn hc hm hb hx =>
      repeat' ((conv => whnf); first | (refine Exists.intro ([] : List Nat) ?_) | (refine And.intro rfl ?_) | (refine And.intro (by decide +kernel) ?_) | (refine And.intro trivial ?_) | (refine c_slIndex (hs := hs2) (hl := hl) (h0 := fun r hrr => ?_) ..) | (refine Exists.intro _ (And.intro rfl (And.intro rfl (And.intro (Nat.le_of_ble_eq_true rfl) ?_)))) | (refine Exists.intro _ (And.intro rfl (And.intro rfl (And.intro rfl (And.intro (Nat.le_of_ble_eq_true rfl) ?_))))) | (refine And.intro (Exists.intro _ (And.intro rfl rfl)) ?_) | (exact fun hW => absurd hW (by decide +kernel)) | (intro hW; (try simp only [Bool.not_true, Bool.not_false, Bool.not_eq_true', Bool.not_eq_false', decide_eq_true_eq, decide_eq_false_iff_not, reduceCtorEq, Bool.true_eq_false, Bool.false_eq_true, mk_size, List.size_toArray, ByteArray.size_append, ByteArray.size_extract, List.length_cons, List.length_nil, ba_get, ba_empty, Int.toNat_natCast] at hW)) | (refine And.intro (?_ : _ → _) (?_ : _ → _)) | (refine FinR.drop 0 (Nat.zero_le _) (Closed.zero _) rfl ?_) | (refine FinR.keep ?_) | (refine And.intro (det3_agg rfl) ?_) | (refine fL_mk ?_) | (refine And.intro (by (try simp only [mk_size, List.size_toArray, ByteArray.size_append, ByteArray.size_extract, List.length_cons, List.length_nil]); omega) ?_) | (refine And.intro (by (try simp only [mk_size, List.size_toArray, ByteArray.size_append, ByteArray.size_extract, List.length_cons, List.length_nil, wrap64_eq]); omega) ?_) | fail)
      all_goals exact kB (K := fun v σ' => v = Bo (xs.contains x) ∧ σ' = []) ⟨rfl, rfl⟩ (by rw [Bool.eq_iff_iff, decide_eq_true_iff]; exact hrr.symm)
    | own b ver off n cap B xs hB => simp at hB
  · rintro v σ' ⟨rfl, rfl⟩
    have e : σ ++ shB σ.length [] = σ := by simp [shB]
    rw [e]; exact h0
/-! ### valid logs -/
theorem encL_append : ∀ (a b : List Rec) (k : Nat), encL k (a ++ b) = encL k a ++ encL (k + a.length) b
  | [], b, k => by simp [encL]
  | e :: a, b, k => by
    simp only [List.cons_append, encL, List.length_cons]
    rw [encL_append a b (k + 1), List.append_assoc, show k + 1 + a.length = k + (a.length + 1) by omega]
theorem line_pos (k : Nat) (c r : ByteArray) : 1 ≤ (tl (lineB k c r)).length := by rw [tl_line]; simp
theorem enc_prefix : ∀ {es' es : List Rec} {k : Nat} {q : Bs}, (∀ e ∈ es, recB e.1 e.2 = true) → (∀ e ∈ es', recB e.1 e.2 = true) → encL k es = encL k es' ++ q → ∃ es2, es = es' ++ es2
  | [], es, _, _, _, _, _ => ⟨es, rfl⟩
  | e' :: es', [], k, q, _, _, he => by
    have h1 := congrArg List.length he
    have h2 := line_pos k e'.1 e'.2
    simp only [encL, List.length_append, List.length_nil] at h1; omega
  | e' :: es', e :: es, k, q, h, h', he => by
    simp only [encL, List.append_assoc] at he
    obtain ⟨h1, h2, h3⟩ := line_inj (h e List.mem_cons_self) (h' e' List.mem_cons_self) he
    obtain ⟨es2, h4⟩ := enc_prefix (fun x hx => h x (List.mem_cons_of_mem _ hx)) (fun x hx => h' x (List.mem_cons_of_mem _ hx)) h3
    exact ⟨es2, by rw [h4, show e = e' from Prod.ext h1 h2]; rfl⟩
theorem last_nil (k : Nat) : Last k [] := fun ⟨c, r, t', _, _, he⟩ => by
  have h1 := congrArg List.length he
  have h2 := line_pos k c r
  simp only [List.length_append, List.length_nil] at h1; omega
theorem Reads.all {l : Bs} {es : List Rec} {n : Nat} (h : Reads l es n) (hn : n = l.length) : l = encL 0 es := by
  obtain ⟨t, e, _⟩ := h.pre
  have := congrArg List.length e
  rw [List.length_append, ← h.len, hn] at this
  have ht : t = [] := List.length_eq_zero_iff.1 (by omega)
  rw [e, ht, List.append_nil]
theorem dur_iff {d p : ByteArray} {es es' : List Rec} {n n' : Nat} (hr : Reads (tl (d ++ p)) es n) (hn : n = d.size + p.size) (hr' : Reads (tl d) es' n') : n' = d.size ↔ d.size ∈ endsL es := by
  have hall : tl (d ++ p) = encL 0 es := hr.all (by rw [hn, tl_len, ByteArray.size_append])
  rw [tl_append] at hall
  constructor
  · intro h
    have h1 := hr'.all (by rw [h, tl_len])
    rw [h1] at hall
    obtain ⟨es2, h2⟩ := enc_prefix hr.val hr'.val hall.symm
    refine List.mem_map.2 ⟨es'.length, List.mem_range.2 (by rw [h2]; simp; omega), ?_⟩
    rw [h2, List.take_left, ← hr'.len, h]
  · intro h
    obtain ⟨i, hi, h1⟩ := List.mem_map.1 h
    have h2 := encL_append (es.take i) (es.drop i) 0
    rw [List.take_append_drop, ← hall] at h2
    have h3 := (List.append_inj h2 (by rw [tl_len, ← h1])).1
    have hq : Reads (tl d) (es.take i) d.size := ⟨h1.symm, ⟨[], by rw [List.append_nil]; exact h3, last_nil _⟩, fun e he => hr.val e (List.mem_of_mem_take he), by have := hr.max; rw [List.length_take]; omega⟩
    exact (hr'.uniq hq).2
def VLog (d p : ByteArray) (cnt : Int) : Prop := d.size + p.size ≤ 30000 ∧ ∃ es, Reads (tl (d ++ p)) es (d.size + p.size) ∧ cnt = (es.length : Nat) ∧ d.size ∈ endsL es
noncomputable def vB (d p : ByteArray) (cnt : Int) : Bool := @decide (VLog d p cnt) (Classical.propDecidable _)
theorem vB_iff {d p : ByteArray} {cnt : Int} : vB d p cnt = true ↔ VLog d p cnt := by
  unfold vB; exact @decide_eq_true_iff _ (Classical.propDecidable _)
theorem vB_of {d p : ByteArray} {cnt : Int} {b : Bool} (h : VLog d p cnt ↔ b = true) : vB d p cnt = b := by
  rw [Bool.eq_iff_iff, vB_iff]; exact h
theorem vlog_iff {d p : ByteArray} {cnt : Int} {es : List Rec} {n : Nat} (hs : d.size + p.size ≤ 30000) (hr : Reads (tl (d ++ p)) es n) : VLog d p cnt ↔ n = d.size + p.size ∧ d.size ∈ endsL es ∧ cnt = (es.length : Nat) := by
  constructor
  · rintro ⟨_, es', h1, h2, h3⟩
    obtain ⟨rfl, rfl⟩ := hr.uniq h1
    exact ⟨rfl, h3, h2⟩
  · rintro ⟨rfl, h3, h2⟩
    exact ⟨hs, es, hr, h2, h3⟩
abbrev Lg (d p : ByteArray) (cnt : Int) : AV := .agg [St d, St p, I cnt]
theorem c_l12Valid (d p : ByteArray) (cnt : Int) (hd : d.size ≤ 1048576) (hp : p.size ≤ 1048576) (K : Cont) (h0 : K (Bo (vB d p cnt)) []) : ACall Tryd.prog W0 14 [Lg d p cnt] [] K := by
  refine by14 (Nat.le_of_ble_eq_true rfl) ?_
  have ew : IntKind.i64.wrap (((d.size : Nat) : Int) + ((p.size : Nat) : Int)) = ((d.size + p.size : Nat) : Int) := by rw [wrap_i64 _ (by omega) (by omega)]; omega
  have es : (d ++ p).size = d.size + p.size := ByteArray.size_append
  by_cases hs : d.size + p.size ≤ 30000
  · skip
    repeat' ((conv => whnf); first | (refine Exists.intro ([] : List Nat) ?_) | (refine And.intro rfl ?_) | (refine And.intro (by decide +kernel) ?_) | (refine And.intro trivial ?_) | (refine d_l12Open (s := d ++ p) (hs := by omega) (h0 := fun es n ver cap hr => ?_) ..) | (refine d_l12Open (s := d) (hs := by omega) (h0 := fun es' n' ver' cap' hr' => ?_) ..) | (refine Exists.intro _ (And.intro rfl (And.intro rfl (And.intro (Nat.le_of_ble_eq_true rfl) ?_)))) | (refine Exists.intro _ (And.intro rfl (And.intro rfl (And.intro rfl (And.intro (Nat.le_of_ble_eq_true rfl) ?_))))) | (refine And.intro (Exists.intro _ (And.intro rfl rfl)) ?_) | (exact fun hW => absurd hW (by decide +kernel)) | (intro hW; (try simp only [Bool.not_true, Bool.not_false, Bool.not_eq_true', Bool.not_eq_false', decide_eq_true_eq, decide_eq_false_iff_not, reduceCtorEq, Bool.true_eq_false, Bool.false_eq_true, mk_size, List.size_toArray, ByteArray.size_append, ByteArray.size_extract, List.length_cons, List.length_nil, ba_get, ba_empty, Int.toNat_natCast] at hW)) | (refine And.intro (?_ : _ → _) (?_ : _ → _)) | (refine FinR.drop 0 (Nat.zero_le _) (Closed.zero _) rfl ?_) | (refine FinR.keep ?_) | (refine And.intro (det3_agg rfl) ?_) | (refine fL_mk ?_) | (refine And.intro (by (try simp only [mk_size, List.size_toArray, ByteArray.size_append, ByteArray.size_extract, List.length_cons, List.length_nil]); omega) ?_) | (refine And.intro (by (try simp only [mk_size, List.size_toArray, ByteArray.size_append, ByteArray.size_extract, List.length_cons, List.length_nil, wrap64_eq]); omega) ?_) | fail)
    · exfalso; omega
    · rename_i e1 _ e2
      refine kB h0 (vB_of ?_)
      rw [vlog_iff hs hr, decide_eq_true_iff]
      exact ⟨fun h => h.2.2.symm, fun h => ⟨by omega, (dur_iff hr (by omega) hr').1 (by omega), h.symm⟩⟩
    · rename_i e1 _ e2
      refine kB h0 (vB_of ⟨fun hv => ?_, fun h => by cases h⟩)
      have h1 := (vlog_iff hs hr).1 hv
      exact (e2 (by rw [(dur_iff hr h1.1 hr').2 h1.2.1])).elim
    · rename_i e1 _ _
      refine kB h0 (vB_of ⟨fun hv => ?_, fun h => by cases h⟩)
      have h1 := (vlog_iff hs hr).1 hv
      omega
  · skip
    repeat' ((conv => whnf); first | (refine Exists.intro ([] : List Nat) ?_) | (refine And.intro rfl ?_) | (refine And.intro (by decide +kernel) ?_) | (refine And.intro trivial ?_) | (exfalso; omega) | (refine Exists.intro _ (And.intro rfl (And.intro rfl (And.intro (Nat.le_of_ble_eq_true rfl) ?_)))) | (refine Exists.intro _ (And.intro rfl (And.intro rfl (And.intro rfl (And.intro (Nat.le_of_ble_eq_true rfl) ?_))))) | (refine And.intro (Exists.intro _ (And.intro rfl rfl)) ?_) | (exact fun hW => absurd hW (by decide +kernel)) | (intro hW; (try simp only [Bool.not_true, Bool.not_false, Bool.not_eq_true', Bool.not_eq_false', decide_eq_true_eq, decide_eq_false_iff_not, reduceCtorEq, Bool.true_eq_false, Bool.false_eq_true, mk_size, List.size_toArray, ByteArray.size_append, ByteArray.size_extract, List.length_cons, List.length_nil, ba_get, ba_empty, Int.toNat_natCast] at hW)) | (refine And.intro (?_ : _ → _) (?_ : _ → _)) | (refine FinR.drop 0 (Nat.zero_le _) (Closed.zero _) rfl ?_) | (refine FinR.keep ?_) | (refine And.intro (det3_agg rfl) ?_) | (refine fL_mk ?_) | (refine And.intro (by (try simp only [mk_size, List.size_toArray, ByteArray.size_append, ByteArray.size_extract, List.length_cons, List.length_nil]); omega) ?_) | (refine And.intro (by (try simp only [mk_size, List.size_toArray, ByteArray.size_append, ByteArray.size_extract, List.length_cons, List.length_nil, wrap64_eq]); omega) ?_) | fail)
    all_goals exact kB h0 (vB_of ⟨fun hv => (hs hv.1).elim, fun h => by cases h⟩)
theorem d_l12Valid (d p : ByteArray) (cnt : Int) (hd : d.size ≤ 1048576) (hp : p.size ≤ 1048576) (K : Cont) (h0 : K (Bo (vB d p cnt)) σ) : ACall Tryd.prog W0 14 [Lg d p cnt] σ K :=
  ACall.lift rfl (fun _ => rfl) (fun W1 K _ hK => c_l12Valid d p cnt hd hp K hK) h0
theorem ends_sli {es : List Rec} {v2 c2 : Nat} {σ : List Blk} {b : Nat} {e : Nat} {r m : Bool} (hb : σ[b]? = some ⟨icells (endsL es), v2, e, 1, r, m⟩) : Sli W0 σ 1 encI (.sl b v2 0 (es.length + 1) c2) ((endsL es).map fun n : Nat => (n : Int)) :=
  .own b v2 0 _ c2 _ _ hb rfl (by simp [endsL]) fun i x hx j v hj => by
    rw [List.getElem?_map, Option.map_eq_some_iff] at hx
    obtain ⟨y, hy, rfl⟩ := hx
    cases j with
    | zero =>
      simp [encI] at hj; subst hj
      show (icells (endsL es))[0 + i * 1 + 0]? = _
      rw [show 0 + i * 1 + 0 = i by omega]
      simp [icells, hy]
    | succ j => simp [encI] at hj
theorem contains_int {l : List Nat} {k : Nat} : (l.map fun n : Nat => (n : Int)).contains (k : Int) = true ↔ k ∈ l := by
  rw [List.contains_iff_mem, List.mem_map]
  constructor
  · rintro ⟨x, hx, e⟩; rw [show k = x by omega]; exact hx
  · intro h; exact ⟨k, h, rfl⟩
theorem c_IsValidLog (d p : ByteArray) (cnt : Int) (hd : d.size ≤ 1048576) (hp : p.size ≤ 1048576) (ht : TabP W0) (K : Cont) (h0 : K (Bo (vB d p cnt)) []) : ACall Tryd.prog W0 16 [Lg d p cnt] [] K := by
  refine by16 (Nat.le_of_ble_eq_true rfl) ?_
  have ew : IntKind.i64.wrap (((d.size : Nat) : Int) + ((p.size : Nat) : Int)) = ((d.size + p.size : Nat) : Int) := by rw [wrap_i64 _ (by omega) (by omega)]; omega
  have es : (d ++ p).size = d.size + p.size := ByteArray.size_append
  by_cases hs : d.size + p.size ≤ 30000
  · skip
    repeat' ((conv => whnf); first | (refine Exists.intro ([] : List Nat) ?_) | (refine And.intro rfl ?_) | (refine And.intro (by decide +kernel) ?_) | (refine And.intro trivial ?_) | (refine d_recordsOf (s := d ++ p) (hs := by omega) (ht := ht) (h0 := fun es n v1 c1 v2 c2 hr => ?_) ..) | (refine Exists.intro _ (And.intro rfl (And.intro rfl (And.intro (by simp [icells_len, endsL]) ?_))); rw [ends_at hr]) | (refine d_slContains (hs := ends_sli rfl) (hl := by simp [endsL]; have := hr.max; omega) (h0 := ?_) ..) | (refine Exists.intro _ (And.intro rfl (And.intro rfl (And.intro (Nat.le_of_ble_eq_true rfl) ?_)))) | (refine Exists.intro _ (And.intro rfl (And.intro rfl (And.intro rfl (And.intro (Nat.le_of_ble_eq_true rfl) ?_))))) | (refine And.intro (Exists.intro _ (And.intro rfl rfl)) ?_) | (exact fun hW => absurd hW (by decide +kernel)) | (intro hW; (try simp only [Bool.not_true, Bool.not_false, Bool.not_eq_true', Bool.not_eq_false', decide_eq_true_eq, decide_eq_false_iff_not, reduceCtorEq, Bool.true_eq_false, Bool.false_eq_true, mk_size, List.size_toArray, ByteArray.size_append, ByteArray.size_extract, List.length_cons, List.length_nil, ba_get, ba_empty, Int.toNat_natCast] at hW)) | (refine And.intro (?_ : _ → _) (?_ : _ → _)) | (refine FinR.drop 0 (Nat.zero_le _) (Closed.zero _) rfl ?_) | (refine FinR.keep ?_) | (refine And.intro (det3_agg rfl) ?_) | (refine fL_mk ?_) | (refine And.intro (by (try simp only [mk_size, List.size_toArray, ByteArray.size_append, ByteArray.size_extract, List.length_cons, List.length_nil]); omega) ?_) | (refine And.intro (by (try simp only [mk_size, List.size_toArray, ByteArray.size_append, ByteArray.size_extract, List.length_cons, List.length_nil, wrap64_eq]); omega) ?_) | fail)
    · exfalso; omega
    · rename_i e1 e2 e3
      refine kB h0 (vB_of ?_)
      have hn : n = d.size + p.size := by omega
      rw [vlog_iff hs hr, decide_eq_true_iff]
      exact ⟨fun h => h.2.2, fun h => ⟨hn, contains_int.1 e3, h⟩⟩
    · rename_i e1 e2 e3
      refine kB h0 (vB_of ⟨fun hv => ?_, fun h => by cases h⟩)
      have h1 := (vlog_iff hs hr).1 hv
      have h2 := contains_int.2 h1.2.1
      rw [h2] at e3; cases e3
    · rename_i e1 _ _
      refine kB h0 (vB_of ⟨fun hv => ?_, fun h => by cases h⟩)
      have h1 := (vlog_iff hs hr).1 hv
      omega
  · skip
    repeat' ((conv => whnf); first | (refine Exists.intro ([] : List Nat) ?_) | (refine And.intro rfl ?_) | (refine And.intro (by decide +kernel) ?_) | (refine And.intro trivial ?_) | (exfalso; omega) | (refine Exists.intro _ (And.intro rfl (And.intro rfl (And.intro (Nat.le_of_ble_eq_true rfl) ?_)))) | (refine Exists.intro _ (And.intro rfl (And.intro rfl (And.intro rfl (And.intro (Nat.le_of_ble_eq_true rfl) ?_))))) | (refine And.intro (Exists.intro _ (And.intro rfl rfl)) ?_) | (exact fun hW => absurd hW (by decide +kernel)) | (intro hW; (try simp only [Bool.not_true, Bool.not_false, Bool.not_eq_true', Bool.not_eq_false', decide_eq_true_eq, decide_eq_false_iff_not, reduceCtorEq, Bool.true_eq_false, Bool.false_eq_true, mk_size, List.size_toArray, ByteArray.size_append, ByteArray.size_extract, List.length_cons, List.length_nil, ba_get, ba_empty, Int.toNat_natCast] at hW)) | (refine And.intro (?_ : _ → _) (?_ : _ → _)) | (refine FinR.drop 0 (Nat.zero_le _) (Closed.zero _) rfl ?_) | (refine FinR.keep ?_) | (refine And.intro (det3_agg rfl) ?_) | (refine fL_mk ?_) | (refine And.intro (by (try simp only [mk_size, List.size_toArray, ByteArray.size_append, ByteArray.size_extract, List.length_cons, List.length_nil]); omega) ?_) | (refine And.intro (by (try simp only [mk_size, List.size_toArray, ByteArray.size_append, ByteArray.size_extract, List.length_cons, List.length_nil, wrap64_eq]); omega) ?_) | fail)
    all_goals exact kB h0 (vB_of ⟨fun hv => (hs hv.1).elim, fun h => by cases h⟩)
theorem d_IsValidLog (d p : ByteArray) (cnt : Int) (hd : d.size ≤ 1048576) (hp : p.size ≤ 1048576) (ht : TabP W0) (K : Cont) (h0 : K (Bo (vB d p cnt)) σ) : ACall Tryd.prog W0 16 [Lg d p cnt] σ K :=
  ACall.lift rfl (fun _ => rfl) (fun W1 K hb hK => c_IsValidLog d p cnt hd hp (ht.mono hb) K hK) h0
end Go.Proofs.YtlmplfgnhibfcaaDoor
end

section
/- Contracts: the laws IsValidLog, SyncLog, AppendRecord. -/
set_option linter.unusedVariables false
set_option linter.unusedSimpArgs false
set_option maxRecDepth 100000
set_option maxHeartbeats 4000000
namespace Go.Proofs.YtlmplfgnhibfcaaDoor
open Go Go.RowKit Go.Proofs.YtlmplfgnhibfcaaDoor.Abs
variable {W0 : World} {σ : List Blk}
theorem c_toLog (d p : ByteArray) (cnt : Int) (K : Cont) (h0 : K (Lg d p cnt) []) : ACall Tryd.prog W0 7 [Lg d p cnt] [] K := by
  refine by7 (Nat.le_of_ble_eq_true rfl) ?_
  repeat' ((conv => whnf); first | (refine Exists.intro ([] : List Nat) ?_) | (refine And.intro rfl ?_) | (refine And.intro (by decide +kernel) ?_) | (refine And.intro trivial ?_) | (refine Exists.intro _ (And.intro rfl (And.intro rfl (And.intro (Nat.le_of_ble_eq_true rfl) ?_)))) | (refine Exists.intro _ (And.intro rfl (And.intro rfl (And.intro rfl (And.intro (Nat.le_of_ble_eq_true rfl) ?_))))) | (refine And.intro (Exists.intro _ (And.intro rfl rfl)) ?_) | (exact fun hW => absurd hW (by decide +kernel)) | (intro hW; (try simp only [Bool.not_true, Bool.not_false, Bool.not_eq_true', Bool.not_eq_false', decide_eq_true_eq, decide_eq_false_iff_not, reduceCtorEq, Bool.true_eq_false, Bool.false_eq_true, mk_size, List.size_toArray, ByteArray.size_append, ByteArray.size_extract, List.length_cons, List.length_nil, ba_get, ba_empty, Int.toNat_natCast] at hW)) | (refine And.intro (?_ : _ → _) (?_ : _ → _)) | (refine FinR.drop 0 (Nat.zero_le _) (Closed.zero _) rfl ?_) | (refine FinR.keep ?_) | (refine And.intro (det3_agg rfl) ?_) | (refine fL_mk ?_) | (refine And.intro (by (try simp only [mk_size, List.size_toArray, ByteArray.size_append, ByteArray.size_extract, List.length_cons, List.length_nil]); omega) ?_) | (refine And.intro (by (try simp only [mk_size, List.size_toArray, ByteArray.size_append, ByteArray.size_extract, List.length_cons, List.length_nil, wrap64_eq]); omega) ?_) | fail)
  all_goals exact h0
theorem d_toLog (d p : ByteArray) (cnt : Int) (K : Cont) (h0 : K (Lg d p cnt) σ) : ACall Tryd.prog W0 7 [Lg d p cnt] σ K :=
  ACall.lift rfl (fun _ => rfl) (fun W1 K _ hK => c_toLog d p cnt K hK) h0
theorem c_szLog (c r : ByteArray) (cnt : Int) (hc : c.size ≤ 9223372036854775807) (hr : r.size ≤ 9223372036854775807) (m : Int) (hm : 0 ≤ m) (hm' : m ≤ 1048576) (K : Cont) (h0 : K (I (szI m [c.size, r.size])) []) : ACall Tryd.prog W0 5 [Lg c r cnt, I m] [] K := by
  refine by5 (Nat.le_of_ble_eq_true rfl) ?_
  have e1 : IntKind.i64.wrap (m - (c.size : Nat)) = m - (c.size : Nat) := wrap_i64 _ (by omega) (by omega)
  have e2 : 0 ≤ m - (c.size : Nat) → IntKind.i64.wrap (m - (c.size : Nat) - (r.size : Nat)) = m - (c.size : Nat) - (r.size : Nat) := fun h => wrap_i64 _ (by omega) (by omega)
  repeat' ((conv => whnf); first | (refine Exists.intro ([] : List Nat) ?_) | (refine And.intro rfl ?_) | (refine And.intro (by decide +kernel) ?_) | (refine And.intro trivial ?_) | (refine Exists.intro _ (And.intro rfl (And.intro rfl (And.intro (Nat.le_of_ble_eq_true rfl) ?_)))) | (refine Exists.intro _ (And.intro rfl (And.intro rfl (And.intro rfl (And.intro (Nat.le_of_ble_eq_true rfl) ?_))))) | (refine And.intro (Exists.intro _ (And.intro rfl rfl)) ?_) | (exact fun hW => absurd hW (by decide +kernel)) | (intro hW; (try simp only [Bool.not_true, Bool.not_false, Bool.not_eq_true', Bool.not_eq_false', decide_eq_true_eq, decide_eq_false_iff_not, reduceCtorEq, Bool.true_eq_false, Bool.false_eq_true, mk_size, List.size_toArray, ByteArray.size_append, ByteArray.size_extract, List.length_cons, List.length_nil, ba_get, ba_empty, Int.toNat_natCast] at hW)) | (refine And.intro (?_ : _ → _) (?_ : _ → _)) | (refine FinR.drop 0 (Nat.zero_le _) (Closed.zero _) rfl ?_) | (refine FinR.keep ?_) | (refine And.intro (det3_agg rfl) ?_) | (refine fL_mk ?_) | (refine And.intro (by (try simp only [mk_size, List.size_toArray, ByteArray.size_append, ByteArray.size_extract, List.length_cons, List.length_nil]); omega) ?_) | (refine And.intro (by (try simp only [mk_size, List.size_toArray, ByteArray.size_append, ByteArray.size_extract, List.length_cons, List.length_nil, wrap64_eq]); omega) ?_) | fail)
  all_goals (rw [e1] at *; refine kI h0 ?_; simp only [szI])
  · rw [if_pos (by omega)]
  · rw [e2 (by omega)] at *
    rw [if_neg (by omega), if_pos (by omega)]
  · rw [e2 (by omega)] at *
    rw [if_neg (by omega), if_neg (by omega)]
theorem d_szLog (c r : ByteArray) (cnt : Int) (hc : c.size ≤ 9223372036854775807) (hr : r.size ≤ 9223372036854775807) (m : Int) (hm : 0 ≤ m) (hm' : m ≤ 1048576) (K : Cont) (h0 : K (I (szI m [c.size, r.size])) σ) : ACall Tryd.prog W0 5 [Lg c r cnt, I m] σ K :=
  ACall.lift rfl (fun _ => rfl) (fun W1 K _ hK => c_szLog c r cnt hc hr m hm hm' K hK) h0
/-! ### sync -/
abbrev SyT (d p : ByteArray) (cnt : Int) : AV := .tup [Lg (d ++ p) ⟨#[]⟩ cnt, Bo true]
abbrev SyF : AV := .tup [Lg ⟨#[]⟩ ⟨#[]⟩ 0, Bo false]
end Go.Proofs.YtlmplfgnhibfcaaDoor
end

section
/- Contracts: CrashLog by both sides, and its law. -/
set_option linter.unusedVariables false
set_option linter.unusedSimpArgs false
set_option maxRecDepth 100000
set_option maxHeartbeats 8000000
namespace Go.Proofs.YtlmplfgnhibfcaaDoor
open Go Go.RowKit Go.Proofs.YtlmplfgnhibfcaaDoor.Abs
variable {W0 : World} {σ : List Blk}
abbrev u8A (x : Int) : AV := .lit (.int .u8 x)
/-- a string's bytes as numbers -/
def nums (s : ByteArray) : List Int := (tl s).map fun b => (b.toNat : Int)
theorem nums_cells (s : ByteArray) : (s.data.toList.map fun b => AV.lit (.int .u8 (b.toNat : Int))) = (nums s).map u8A := by
  unfold nums tl; rw [List.map_map]; rfl
theorem nums_len (s : ByteArray) : (nums s).length = s.size := by unfold nums; rw [List.length_map, tl_len]
theorem nums_app (a b : ByteArray) : nums (a ++ b) = nums a ++ nums b := by unfold nums; rw [tl_append, List.map_append]
theorem nums_mem {s : ByteArray} {x : Int} (h : x ∈ nums s) : 0 ≤ x ∧ x < 256 := by
  obtain ⟨b, _, rfl⟩ := List.mem_map.1 h
  have := b.toNat_lt
  exact ⟨by omega, by omega⟩
theorem tl_nums (xs : List Int) : tl (strOfNums xs) = xs.map fun n => UInt8.ofNat n.toNat := by simp [tl, strOfNums]
theorem str_nums (s : ByteArray) : strOfNums (nums s) = s := by
  apply tl_ext
  rw [tl_nums]
  unfold nums
  rw [List.map_map]
  conv => rhs; rw [← List.map_id (tl s)]
  apply List.map_congr_left
  intro b _
  simp
theorem str_app (a b : List Int) : strOfNums (a ++ b) = strOfNums a ++ strOfNums b := by
  apply tl_ext
  rw [tl_append, tl_nums, tl_nums, tl_nums, List.map_append]
/-- the last byte turned over -/
def tornL (l : List Int) : List Int := l.set (l.length - 1) (255 - l.getD (l.length - 1) 0)
/-- what survives -/
def crR (d p : ByteArray) (k : Nat) (torn : Bool) : ByteArray := d ++ strOfNums (if torn = true ∧ 0 < k then tornL (nums (p.extract 0 k)) else nums (p.extract 0 k))
theorem ext_size {p : ByteArray} {k : Nat} (h : k ≤ p.size) : (p.extract 0 k).size = k := by
  rw [← tl_len, tl_extract, List.length_take, List.length_drop, tl_len]; omega
section
variable {l : List Int} {n m : Nat}
theorem u8_le (h : l.length = n) : 0 + n ≤ (l.map u8A).length := by rw [List.length_map]; omega
theorem u8_tk (h : l.length = n) : ((l.map u8A).drop 0).take n = l.map u8A := by rw [List.drop_zero, ← h, ← List.length_map (f := u8A), List.take_length]
theorem u8_le1 (h : m < l.length) : 0 + ((m : Nat) : Int).toNat * 1 + 1 ≤ (l.map u8A).length := by rw [List.length_map, Int.toNat_natCast]; omega
theorem u8_ld (h : m < l.length) : mkAV false (((l.map u8A).drop (0 + ((m : Nat) : Int).toNat * 1)).take 1) = u8A (l.getD m 0) := by
  rw [Int.toNat_natCast, Nat.zero_add, Nat.mul_one, List.drop_eq_getElem_cons (by rw [List.length_map]; exact h), List.getElem_map, List.getD_eq_getElem?_getD, List.getElem?_eq_getElem h]; rfl
theorem u8_st (h : m < l.length) (y : Int) : (l.map u8A).take (0 + ((m : Nat) : Int).toNat * 1) ++ [u8A y] ++ (l.map u8A).drop (0 + ((m : Nat) : Int).toNat * 1 + 1) = (l.set m y).map u8A := by
  rw [Int.toNat_natCast, Nat.zero_add, Nat.mul_one, List.map_set, List.set_eq_take_append_cons_drop, if_pos (by rw [List.length_map]; exact h), List.append_assoc]; rfl
end
abbrev CrF : AV := .tup [St ⟨#[]⟩, Bo false]
theorem u8_wrapN {x : Int} (h : 0 ≤ x) (h2 : x < 256) : IntKind.u8.wrap x = x := by
  have e : IntKind.u8.wrap x = x % 256 := by simp [IntKind.wrap, IntKind.bits, IntKind.signed]
  rw [e]; exact Int.emod_eq_of_lt h h2
theorem c_sCrashF (d p : ByteArray) (cnt k : Int) (torn : Bool) (hd : d.size ≤ 1048576) (hp : p.size ≤ 1048576) (hg : vB d p cnt = false ∨ ¬ (0 ≤ k ∧ k ≤ p.size)) (K : Cont) (h0 : K CrF []) : ACall Tryd.prog W0 12 [Lg d p cnt, I k, Bo torn] [] K := by
  refine by12 (Nat.le_of_ble_eq_true rfl) ?_
  cases hv : vB d p cnt with
  | false =>
    repeat' ((conv => whnf); first | (refine Exists.intro ([] : List Nat) ?_) | (refine And.intro rfl ?_) | (refine And.intro (by decide +kernel) ?_) | (refine And.intro trivial ?_) | (refine d_l12Valid (hd := hd) (hp := hp) (h0 := ?_) ..; rw [hv]) | (refine d_l1In (h0 := ?_) ..) | (refine Exists.intro _ (And.intro (fun τ => callW_fn (d_l1In (h0 := And.intro rfl rfl) ..)) ?_)) | (refine Exists.intro _ (And.intro (callW_fn (d_l1In (h0 := And.intro rfl rfl) ..)) (And.intro trivial ?_))) | (refine Exists.intro _ (And.intro (callW_fn (d_l1In (h0 := And.intro rfl rfl) ..)) ?_)) | (refine Exists.intro _ (And.intro (fun τ _ => callW_fn (d_l1In (h0 := And.intro rfl rfl) ..)) ?_)) | (refine Exists.intro _ (And.intro rfl (And.intro rfl (And.intro (Nat.le_of_ble_eq_true rfl) ?_)))) | (refine Exists.intro _ (And.intro rfl (And.intro rfl (And.intro rfl (And.intro (Nat.le_of_ble_eq_true rfl) ?_))))) | (refine And.intro (Exists.intro _ (And.intro rfl rfl)) ?_) | (exact fun hW => absurd hW (by decide +kernel)) | (intro hW; (try simp only [Bool.not_true, Bool.not_false, Bool.not_eq_true', Bool.not_eq_false', decide_eq_true_eq, decide_eq_false_iff_not, reduceCtorEq, Bool.true_eq_false, Bool.false_eq_true, mk_size, List.size_toArray, ByteArray.size_append, ByteArray.size_extract, List.length_cons, List.length_nil, ba_get, ba_empty, Int.toNat_natCast] at hW)) | (refine And.intro (?_ : _ → _) (?_ : _ → _)) | (refine FinR.drop 0 (Nat.zero_le _) (Closed.zero _) rfl ?_) | (refine FinR.keep ?_) | (refine And.intro (det3_agg rfl) ?_) | (refine fL_mk ?_) | (refine And.intro (by (try simp only [mk_size, List.size_toArray, ByteArray.size_append, ByteArray.size_extract, List.length_cons, List.length_nil]); omega) ?_) | (refine And.intro (by (try simp only [mk_size, List.size_toArray, ByteArray.size_append, ByteArray.size_extract, List.length_cons, List.length_nil, wrap64_eq]); omega) ?_) | fail)
    all_goals first | exact h0 | (rw [hR']; exact h0) | (exfalso; omega) | (exfalso; simp_all; done)
  | true =>
    have hk : ¬ (0 ≤ k ∧ k ≤ p.size) := by
      rcases hg with h | h
      · rw [hv] at h; cases h
      · exact h
    have hin : inB k 0 (p.size : Nat) = false := by rw [Bool.eq_false_iff]; intro h; simp [inB] at h; omega
    repeat' ((conv => whnf); first | (refine Exists.intro ([] : List Nat) ?_) | (refine And.intro rfl ?_) | (refine And.intro (by decide +kernel) ?_) | (refine And.intro trivial ?_) | (refine d_l12Valid (hd := hd) (hp := hp) (h0 := ?_) ..; rw [hv]) | (refine d_l1In (h0 := ?_) ..; rw [hin]) | (refine Exists.intro _ (And.intro rfl (And.intro rfl (And.intro (Nat.le_of_ble_eq_true rfl) ?_)))) | (refine Exists.intro _ (And.intro rfl (And.intro rfl (And.intro rfl (And.intro (Nat.le_of_ble_eq_true rfl) ?_))))) | (refine And.intro (Exists.intro _ (And.intro rfl rfl)) ?_) | (exact fun hW => absurd hW (by decide +kernel)) | (intro hW; (try simp only [Bool.not_true, Bool.not_false, Bool.not_eq_true', Bool.not_eq_false', decide_eq_true_eq, decide_eq_false_iff_not, reduceCtorEq, Bool.true_eq_false, Bool.false_eq_true, mk_size, List.size_toArray, ByteArray.size_append, ByteArray.size_extract, List.length_cons, List.length_nil, ba_get, ba_empty, Int.toNat_natCast] at hW)) | (refine And.intro (?_ : _ → _) (?_ : _ → _)) | (refine FinR.drop 0 (Nat.zero_le _) (Closed.zero _) rfl ?_) | (refine FinR.keep ?_) | (refine And.intro (det3_agg rfl) ?_) | (refine fL_mk ?_) | (refine And.intro (by (try simp only [mk_size, List.size_toArray, ByteArray.size_append, ByteArray.size_extract, List.length_cons, List.length_nil]); omega) ?_) | (refine And.intro (by (try simp only [mk_size, List.size_toArray, ByteArray.size_append, ByteArray.size_extract, List.length_cons, List.length_nil, wrap64_eq]); omega) ?_) | fail)
    all_goals first | exact h0 | (rw [hR']; exact h0) | (exfalso; omega) | (exfalso; simp_all; done)
theorem d_sCrashF (d p : ByteArray) (cnt k : Int) (torn : Bool) (hd : d.size ≤ 1048576) (hp : p.size ≤ 1048576) (hg : vB d p cnt = false ∨ ¬ (0 ≤ k ∧ k ≤ p.size)) (K : Cont) (h0 : K CrF σ) : ACall Tryd.prog W0 12 [Lg d p cnt, I k, Bo torn] σ K :=
  ACall.lift rfl (fun _ => rfl) (fun W1 K _ hK => c_sCrashF d p cnt k torn hd hp hg K hK) h0
theorem c_sCrashT (d p : ByteArray) (cnt : Int) (k : Nat) (torn : Bool) (hd : d.size ≤ 1048576) (hp : p.size ≤ 1048576) (hv : vB d p cnt = true) (hk : k ≤ p.size) (K : Cont) (h0 : K (.tup [St (crR d p k torn), Bo true]) []) : ACall Tryd.prog W0 12 [Lg d p cnt, I k, Bo torn] [] K := by
  refine by12 (Nat.le_of_ble_eq_true rfl) ?_
  have hin : inB (k : Nat) 0 (p.size : Nat) = true := by unfold inB; rw [decide_eq_true (by omega), decide_eq_true (by omega)]; rfl
  obtain ⟨s, hs⟩ : ∃ s, p.extract ((0 : Int)).toNat (((k : Nat) : Int)).toNat = s := ⟨_, rfl⟩
  have hs0 : p.extract 0 k = s := by rw [← hs]; rfl
  have hsz : s.size = k := by rw [← hs0]; exact ext_size hk
  have hR : ∀ ys, ys = (if torn = true ∧ 0 < k then tornL (nums s) else nums s) → d ++ strOfNums ys = crR d p k torn := by rintro ys rfl; unfold crR; rw [hs0]
  have hsm : s.size ≤ maxLen := by unfold maxLen; omega
  obtain ⟨l, hl⟩ : ∃ l, nums s = l := ⟨_, rfl⟩
  have hmem : ∀ x ∈ l, 0 ≤ x ∧ x < 256 := fun x h => nums_mem (by rw [hl]; exact h)
  have hll : l.length = k := by rw [← hl, nums_len, hsz]
  rw [hl] at hR
  have hex : ((p.extract ((0 : Int)).toNat (((k : Nat) : Int)).toNat)).size = k := ext_size hk
  by_cases ht2 : torn = true ∧ 0 < k
  · obtain ⟨rfl, hkp⟩ := ht2
    obtain ⟨m, hm⟩ : ∃ m : Nat, k = m + 1 := ⟨k - 1, by omega⟩
    have hml : m < l.length := by omega
    have hx := hmem (l.getD m 0) (by rw [List.getD_eq_getElem?_getD, List.getElem?_eq_getElem hml]; exact List.getElem_mem _)
    have ew : IntKind.i64.wrap (((k : Nat) : Int) - 1) = ((m : Nat) : Int) := by rw [wrap_i64 _ (by omega) (by omega)]; omega
    have h8 : IntKind.u8.wrap (255 - l.getD m 0) = 255 - l.getD m 0 := by rw [u8_wrapN (by omega) (by omega)]
    have hR' := hR (l.set m (255 - l.getD m 0)) (by rw [if_pos ⟨rfl, hkp⟩]; unfold tornL; rw [hll, hm, Nat.add_sub_cancel])
    have hst := u8_st hml (255 - l.getD m 0)
    have hls : (l.set m (255 - l.getD m 0)).length = k := by rw [List.length_set]; exact hll
    repeat' ((conv => whnf); first | (rw [hs]) | (rw [ew]) | (refine Exists.intro _ (And.intro rfl (And.intro rfl (And.intro (u8_le1 hml) ?_))); rw [u8_ld hml]) | (rw [h8]) | (refine Exists.intro _ (And.intro rfl (And.intro rfl (And.intro rfl (And.intro (u8_le1 hml) ?_)))); rw [hst]) | (refine Exists.intro ([] : List Nat) ?_) | (refine And.intro rfl ?_) | (refine And.intro (by decide +kernel) ?_) | (refine And.intro trivial ?_) | (refine fS_mk ?_) | (refine d_l12Valid (hd := hd) (hp := hp) (h0 := ?_) ..; rw [hv]) | (refine d_l1In (h0 := ?_) ..; rw [hin]) | (refine And.intro hsm (fun cap hc1 hc2 => ?_); rw [nums_cells, hl, hsz]) | (refine And.intro (by rw [strOfNums_size]; omega) ?_) | (refine And.intro (by rw [hex]; omega) ?_) | (refine Exists.intro _ (Exists.intro (l.set m (255 - l.getD m 0)) (And.intro rfl (And.intro rfl (And.intro (u8_le hls) (And.intro (u8_tk hls) ?_)))))) | (refine Exists.intro _ (And.intro rfl (And.intro rfl (And.intro (Nat.le_of_ble_eq_true rfl) ?_)))) | (refine Exists.intro _ (And.intro rfl (And.intro rfl (And.intro rfl (And.intro (Nat.le_of_ble_eq_true rfl) ?_))))) | (refine And.intro (Exists.intro _ (And.intro rfl rfl)) ?_) | (exact fun hW => absurd hW (by decide +kernel)) | (intro hW; (try simp only [Bool.not_true, Bool.not_false, Bool.not_eq_true', Bool.not_eq_false', decide_eq_true_eq, decide_eq_false_iff_not, reduceCtorEq, Bool.true_eq_false, Bool.false_eq_true, mk_size, List.size_toArray, ByteArray.size_append, ByteArray.size_extract, List.length_cons, List.length_nil, ba_get, ba_empty, Int.toNat_natCast] at hW)) | (refine And.intro (?_ : _ → _) (?_ : _ → _)) | (refine FinR.drop 0 (Nat.zero_le _) (Closed.zero _) rfl ?_) | (refine FinR.keep ?_) | (refine And.intro (det3_agg rfl) ?_) | (refine fL_mk ?_) | (refine And.intro (by (try simp only [mk_size, List.size_toArray, ByteArray.size_append, ByteArray.size_extract, List.length_cons, List.length_nil]); omega) ?_) | (refine And.intro (by (try simp only [mk_size, List.size_toArray, ByteArray.size_append, ByteArray.size_extract, List.length_cons, List.length_nil, wrap64_eq]); omega) ?_) | fail)
    all_goals first | exact h0 | (rw [hR']; exact h0) | (exfalso; omega) | (exfalso; simp_all; done) | skip
  · have hR' := hR l (by rw [if_neg ht2])
    cases torn with
    | false =>
      repeat' ((conv => whnf); first | (rw [hs]) | (refine Exists.intro ([] : List Nat) ?_) | (refine And.intro rfl ?_) | (refine And.intro (by decide +kernel) ?_) | (refine And.intro trivial ?_) | (refine fS_mk ?_) | (refine d_l12Valid (hd := hd) (hp := hp) (h0 := ?_) ..; rw [hv]) | (refine d_l1In (h0 := ?_) ..; rw [hin]) | (refine And.intro hsm (fun cap hc1 hc2 => ?_); rw [nums_cells, hl, hsz]) | (refine And.intro (by rw [strOfNums_size]; omega) ?_) | (refine And.intro (by rw [hex]; omega) ?_) | (refine Exists.intro _ (Exists.intro l (And.intro rfl (And.intro rfl (And.intro (u8_le hll) (And.intro (u8_tk hll) ?_)))))) | (refine Exists.intro _ (And.intro rfl (And.intro rfl (And.intro (Nat.le_of_ble_eq_true rfl) ?_)))) | (refine Exists.intro _ (And.intro rfl (And.intro rfl (And.intro rfl (And.intro (Nat.le_of_ble_eq_true rfl) ?_))))) | (refine And.intro (Exists.intro _ (And.intro rfl rfl)) ?_) | (exact fun hW => absurd hW (by decide +kernel)) | (intro hW; (try simp only [Bool.not_true, Bool.not_false, Bool.not_eq_true', Bool.not_eq_false', decide_eq_true_eq, decide_eq_false_iff_not, reduceCtorEq, Bool.true_eq_false, Bool.false_eq_true, mk_size, List.size_toArray, ByteArray.size_append, ByteArray.size_extract, List.length_cons, List.length_nil, ba_get, ba_empty, Int.toNat_natCast] at hW)) | (refine And.intro (?_ : _ → _) (?_ : _ → _)) | (refine FinR.drop 0 (Nat.zero_le _) (Closed.zero _) rfl ?_) | (refine FinR.keep ?_) | (refine And.intro (det3_agg rfl) ?_) | (refine fL_mk ?_) | (refine And.intro (by (try simp only [mk_size, List.size_toArray, ByteArray.size_append, ByteArray.size_extract, List.length_cons, List.length_nil]); omega) ?_) | (refine And.intro (by (try simp only [mk_size, List.size_toArray, ByteArray.size_append, ByteArray.size_extract, List.length_cons, List.length_nil, wrap64_eq]); omega) ?_) | fail)
      all_goals first | exact h0 | (rw [hR']; exact h0) | (exfalso; omega) | (exfalso; simp_all; done) | skip
    | true =>
      have hk0 : k = 0 := Nat.eq_zero_of_not_pos (fun h => ht2 ⟨rfl, h⟩)
      repeat' ((conv => whnf); first | (rw [hs]) | (refine Exists.intro ([] : List Nat) ?_) | (refine And.intro rfl ?_) | (refine And.intro (by decide +kernel) ?_) | (refine And.intro trivial ?_) | (refine fS_mk ?_) | (refine d_l12Valid (hd := hd) (hp := hp) (h0 := ?_) ..; rw [hv]) | (refine d_l1In (h0 := ?_) ..; rw [hin]) | (refine And.intro hsm (fun cap hc1 hc2 => ?_); rw [nums_cells, hl, hsz]) | (refine And.intro (by rw [strOfNums_size]; omega) ?_) | (refine And.intro (by rw [hex]; omega) ?_) | (refine Exists.intro _ (Exists.intro l (And.intro rfl (And.intro rfl (And.intro (u8_le hll) (And.intro (u8_tk hll) ?_)))))) | (refine Exists.intro _ (And.intro rfl (And.intro rfl (And.intro (Nat.le_of_ble_eq_true rfl) ?_)))) | (refine Exists.intro _ (And.intro rfl (And.intro rfl (And.intro rfl (And.intro (Nat.le_of_ble_eq_true rfl) ?_))))) | (refine And.intro (Exists.intro _ (And.intro rfl rfl)) ?_) | (exact fun hW => absurd hW (by decide +kernel)) | (intro hW; (try simp only [Bool.not_true, Bool.not_false, Bool.not_eq_true', Bool.not_eq_false', decide_eq_true_eq, decide_eq_false_iff_not, reduceCtorEq, Bool.true_eq_false, Bool.false_eq_true, mk_size, List.size_toArray, ByteArray.size_append, ByteArray.size_extract, List.length_cons, List.length_nil, ba_get, ba_empty, Int.toNat_natCast] at hW)) | (refine And.intro (?_ : _ → _) (?_ : _ → _)) | (refine FinR.drop 0 (Nat.zero_le _) (Closed.zero _) rfl ?_) | (refine FinR.keep ?_) | (refine And.intro (det3_agg rfl) ?_) | (refine fL_mk ?_) | (refine And.intro (by (try simp only [mk_size, List.size_toArray, ByteArray.size_append, ByteArray.size_extract, List.length_cons, List.length_nil]); omega) ?_) | (refine And.intro (by (try simp only [mk_size, List.size_toArray, ByteArray.size_append, ByteArray.size_extract, List.length_cons, List.length_nil, wrap64_eq]); omega) ?_) | fail)
      all_goals first | exact h0 | (rw [hR']; exact h0) | (exfalso; omega) | (exfalso; simp_all; done) | skip
theorem d_sCrashT (d p : ByteArray) (cnt : Int) (k : Nat) (torn : Bool) (hd : d.size ≤ 1048576) (hp : p.size ≤ 1048576) (hv : vB d p cnt = true) (hk : k ≤ p.size) (K : Cont) (h0 : K (.tup [St (crR d p k torn), Bo true]) σ) : ACall Tryd.prog W0 12 [Lg d p cnt, I k, Bo torn] σ K :=
  ACall.lift rfl (fun _ => rfl) (fun W1 K _ hK => c_sCrashT d p cnt k torn hd hp hv hk K hK) h0
theorem c_CrashF (d p : ByteArray) (cnt k : Int) (torn : Bool) (hd : d.size ≤ 1048576) (hp : p.size ≤ 1048576) (ht : TabP W0) (hg : vB d p cnt = false ∨ ¬ (0 ≤ k ∧ k ≤ p.size)) (K : Cont) (h0 : K CrF []) : ACall Tryd.prog W0 13 [Lg d p cnt, I k, Bo torn] [] K := by
  refine by13 (Nat.le_of_ble_eq_true rfl) ?_
  cases hv : vB d p cnt with
  | false =>
    repeat' ((conv => whnf); first | (refine Exists.intro ([] : List Nat) ?_) | (refine And.intro rfl ?_) | (refine And.intro (by decide +kernel) ?_) | (refine And.intro trivial ?_) | (refine d_IsValidLog (hd := hd) (hp := hp) (ht := ht) (h0 := ?_) ..; rw [hv]) | (refine d_l1In (h0 := ?_) ..) | (refine Exists.intro _ (And.intro (fun τ => callW_fn (d_l1In (h0 := And.intro rfl rfl) ..)) ?_)) | (refine Exists.intro _ (And.intro (callW_fn (d_l1In (h0 := And.intro rfl rfl) ..)) (And.intro trivial ?_))) | (refine Exists.intro _ (And.intro (callW_fn (d_l1In (h0 := And.intro rfl rfl) ..)) ?_)) | (refine Exists.intro _ (And.intro (fun τ _ => callW_fn (d_l1In (h0 := And.intro rfl rfl) ..)) ?_)) | (refine Exists.intro _ (And.intro rfl (And.intro rfl (And.intro (Nat.le_of_ble_eq_true rfl) ?_)))) | (refine Exists.intro _ (And.intro rfl (And.intro rfl (And.intro rfl (And.intro (Nat.le_of_ble_eq_true rfl) ?_))))) | (refine And.intro (Exists.intro _ (And.intro rfl rfl)) ?_) | (exact fun hW => absurd hW (by decide +kernel)) | (intro hW; (try simp only [Bool.not_true, Bool.not_false, Bool.not_eq_true', Bool.not_eq_false', decide_eq_true_eq, decide_eq_false_iff_not, reduceCtorEq, Bool.true_eq_false, Bool.false_eq_true, mk_size, List.size_toArray, ByteArray.size_append, ByteArray.size_extract, List.length_cons, List.length_nil, ba_get, ba_empty, Int.toNat_natCast] at hW)) | (refine And.intro (?_ : _ → _) (?_ : _ → _)) | (refine FinR.drop 0 (Nat.zero_le _) (Closed.zero _) rfl ?_) | (refine FinR.keep ?_) | (refine And.intro (det3_agg rfl) ?_) | (refine fL_mk ?_) | (refine And.intro (by (try simp only [mk_size, List.size_toArray, ByteArray.size_append, ByteArray.size_extract, List.length_cons, List.length_nil]); omega) ?_) | (refine And.intro (by (try simp only [mk_size, List.size_toArray, ByteArray.size_append, ByteArray.size_extract, List.length_cons, List.length_nil, wrap64_eq]); omega) ?_) | fail)
    all_goals first | exact h0 | (exfalso; omega) | (exfalso; simp_all; done)
  | true =>
    have hk : ¬ (0 ≤ k ∧ k ≤ p.size) := by
      rcases hg with h | h
      · rw [hv] at h; cases h
      · exact h
    have hin : inB k 0 (p.size : Nat) = false := by rw [Bool.eq_false_iff]; intro h; simp [inB] at h; omega
    repeat' ((conv => whnf); first | (refine Exists.intro ([] : List Nat) ?_) | (refine And.intro rfl ?_) | (refine And.intro (by decide +kernel) ?_) | (refine And.intro trivial ?_) | (refine d_IsValidLog (hd := hd) (hp := hp) (ht := ht) (h0 := ?_) ..; rw [hv]) | (refine d_l1In (h0 := ?_) ..) | (refine Exists.intro _ (And.intro (fun τ => callW_fn (d_l1In (h0 := And.intro rfl rfl) ..)) ?_)) | (refine Exists.intro _ (And.intro (callW_fn (d_l1In (h0 := And.intro rfl rfl) ..)) (And.intro trivial ?_))) | (refine Exists.intro _ (And.intro (callW_fn (d_l1In (h0 := And.intro rfl rfl) ..)) ?_)) | (refine Exists.intro _ (And.intro (fun τ _ => callW_fn (d_l1In (h0 := And.intro rfl rfl) ..)) ?_)) | (refine Exists.intro _ (And.intro rfl (And.intro rfl (And.intro (Nat.le_of_ble_eq_true rfl) ?_)))) | (refine Exists.intro _ (And.intro rfl (And.intro rfl (And.intro rfl (And.intro (Nat.le_of_ble_eq_true rfl) ?_))))) | (refine And.intro (Exists.intro _ (And.intro rfl rfl)) ?_) | (exact fun hW => absurd hW (by decide +kernel)) | (intro hW; (try simp only [Bool.not_true, Bool.not_false, Bool.not_eq_true', Bool.not_eq_false', decide_eq_true_eq, decide_eq_false_iff_not, reduceCtorEq, Bool.true_eq_false, Bool.false_eq_true, mk_size, List.size_toArray, ByteArray.size_append, ByteArray.size_extract, List.length_cons, List.length_nil, ba_get, ba_empty, Int.toNat_natCast] at hW)) | (refine And.intro (?_ : _ → _) (?_ : _ → _)) | (refine FinR.drop 0 (Nat.zero_le _) (Closed.zero _) rfl ?_) | (refine FinR.keep ?_) | (refine And.intro (det3_agg rfl) ?_) | (refine fL_mk ?_) | (refine And.intro (by (try simp only [mk_size, List.size_toArray, ByteArray.size_append, ByteArray.size_extract, List.length_cons, List.length_nil]); omega) ?_) | (refine And.intro (by (try simp only [mk_size, List.size_toArray, ByteArray.size_append, ByteArray.size_extract, List.length_cons, List.length_nil, wrap64_eq]); omega) ?_) | fail)
    all_goals first | exact h0 | (exfalso; omega) | (exfalso; simp_all; done)
theorem d_CrashF (d p : ByteArray) (cnt k : Int) (torn : Bool) (hd : d.size ≤ 1048576) (hp : p.size ≤ 1048576) (ht : TabP W0) (hg : vB d p cnt = false ∨ ¬ (0 ≤ k ∧ k ≤ p.size)) (K : Cont) (h0 : K CrF σ) : ACall Tryd.prog W0 13 [Lg d p cnt, I k, Bo torn] σ K :=
  ACall.lift rfl (fun _ => rfl) (fun W1 K hb hK => c_CrashF d p cnt k torn hd hp (ht.mono hb) hg K hK) h0
theorem c_CrashT (d p : ByteArray) (cnt : Int) (k : Nat) (torn : Bool) (hd : d.size ≤ 1048576) (hp : p.size ≤ 1048576) (ht : TabP W0) (hv : vB d p cnt = true) (hk : k ≤ p.size) (K : Cont) (h0 : K (.tup [St (crR d p k torn), Bo true]) []) : ACall Tryd.prog W0 13 [Lg d p cnt, I k, Bo torn] [] K := by
  refine by13 (Nat.le_of_ble_eq_true rfl) ?_
  have hin : inB (k : Nat) 0 (p.size : Nat) = true := by unfold inB; rw [decide_eq_true (by omega), decide_eq_true (by omega)]; rfl
  obtain ⟨s, hs⟩ : ∃ s, d ++ p.extract ((0 : Int)).toNat (((k : Nat) : Int)).toNat = s := ⟨_, rfl⟩
  have hs0 : d ++ p.extract 0 k = s := by rw [← hs]; rfl
  have hsz : s.size = d.size + k := by rw [← hs0, ByteArray.size_append, ext_size hk]
  have hR : ∀ ys, ys = (if torn = true ∧ 0 < k then tornL (nums s) else nums s) → strOfNums ys = crR d p k torn := by
    rintro ys rfl
    unfold crR
    have hl := nums_len (p.extract 0 k)
    rw [ext_size hk] at hl
    have hld := nums_len d
    rw [← hs0, nums_app]
    generalize nums (p.extract 0 k) = q at hl
    split
    · rename_i h
      unfold tornL
      rw [List.length_append, hl, hld, List.set_append_right _ _ (by omega), hld, show d.size + k - 1 - d.size = k - 1 by omega]
      rw [show (nums d ++ q).getD (d.size + k - 1) 0 = q.getD (k - 1) 0 by rw [List.getD_eq_getElem?_getD, List.getD_eq_getElem?_getD, List.getElem?_append_right (by omega), hld, show d.size + k - 1 - d.size = k - 1 by omega]]
      rw [str_app, str_nums]
    · rw [str_app, str_nums]
  have hsm : s.size ≤ maxLen := by unfold maxLen; omega
  obtain ⟨l, hl⟩ : ∃ l, nums s = l := ⟨_, rfl⟩
  have hmem : ∀ x ∈ l, 0 ≤ x ∧ x < 256 := fun x h => nums_mem (by rw [hl]; exact h)
  have hll : l.length = (d.size + k) := by rw [← hl, nums_len, hsz]
  rw [hl] at hR
  have hex : ((p.extract ((0 : Int)).toNat (((k : Nat) : Int)).toNat)).size = k := ext_size hk
  by_cases ht2 : torn = true ∧ 0 < k
  · obtain ⟨rfl, hkp⟩ := ht2
    obtain ⟨m, hm⟩ : ∃ m : Nat, (d.size + k) = m + 1 := ⟨(d.size + k) - 1, by omega⟩
    have hml : m < l.length := by omega
    have hx := hmem (l.getD m 0) (by rw [List.getD_eq_getElem?_getD, List.getElem?_eq_getElem hml]; exact List.getElem_mem _)
    have ew : IntKind.i64.wrap ((((d.size + k) : Nat) : Int) - 1) = ((m : Nat) : Int) := by rw [wrap_i64 _ (by omega) (by omega)]; omega
    have h8 : IntKind.u8.wrap (255 - l.getD m 0) = 255 - l.getD m 0 := by rw [u8_wrapN (by omega) (by omega)]
    have hR' := hR (l.set m (255 - l.getD m 0)) (by rw [if_pos ⟨rfl, hkp⟩]; unfold tornL; rw [hll, hm, Nat.add_sub_cancel])
    have hst := u8_st hml (255 - l.getD m 0)
    have hls : (l.set m (255 - l.getD m 0)).length = (d.size + k) := by rw [List.length_set]; exact hll
    repeat' ((conv => whnf); first | (rw [hs]) | (rw [ew]) | (refine Exists.intro _ (And.intro rfl (And.intro rfl (And.intro (u8_le1 hml) ?_))); rw [u8_ld hml]) | (rw [h8]) | (refine Exists.intro _ (And.intro rfl (And.intro rfl (And.intro rfl (And.intro (u8_le1 hml) ?_)))); rw [hst]) | (refine Exists.intro ([] : List Nat) ?_) | (refine And.intro rfl ?_) | (refine And.intro (by decide +kernel) ?_) | (refine And.intro trivial ?_) | (refine fS_mk ?_) | (refine d_IsValidLog (hd := hd) (hp := hp) (ht := ht) (h0 := ?_) ..; rw [hv]) | (refine And.intro hsm (fun cap hc1 hc2 => ?_); rw [nums_cells, hl, hsz]) | (refine And.intro (by rw [strOfNums_size]; omega) ?_) | (refine And.intro (by rw [hex]; omega) ?_) | (refine Exists.intro _ (Exists.intro (l.set m (255 - l.getD m 0)) (And.intro rfl (And.intro rfl (And.intro (u8_le hls) (And.intro (u8_tk hls) ?_))))); rw [hR']) | (refine Exists.intro _ (And.intro rfl (And.intro rfl (And.intro (Nat.le_of_ble_eq_true rfl) ?_)))) | (refine Exists.intro _ (And.intro rfl (And.intro rfl (And.intro rfl (And.intro (Nat.le_of_ble_eq_true rfl) ?_))))) | (refine And.intro (Exists.intro _ (And.intro rfl rfl)) ?_) | (exact fun hW => absurd hW (by decide +kernel)) | (intro hW; (try simp only [Bool.not_true, Bool.not_false, Bool.not_eq_true', Bool.not_eq_false', decide_eq_true_eq, decide_eq_false_iff_not, reduceCtorEq, Bool.true_eq_false, Bool.false_eq_true, mk_size, List.size_toArray, ByteArray.size_append, ByteArray.size_extract, List.length_cons, List.length_nil, ba_get, ba_empty, Int.toNat_natCast] at hW)) | (refine And.intro (?_ : _ → _) (?_ : _ → _)) | (refine FinR.drop 0 (Nat.zero_le _) (Closed.zero _) rfl ?_) | (refine FinR.keep ?_) | (refine And.intro (det3_agg rfl) ?_) | (refine fL_mk ?_) | (refine And.intro (by (try simp only [mk_size, List.size_toArray, ByteArray.size_append, ByteArray.size_extract, List.length_cons, List.length_nil]); omega) ?_) | (refine And.intro (by (try simp only [mk_size, List.size_toArray, ByteArray.size_append, ByteArray.size_extract, List.length_cons, List.length_nil, wrap64_eq]); omega) ?_) | fail)
    all_goals first | exact h0 | (exfalso; omega) | (exfalso; simp_all; done) | skip
  · have hR' := hR l (by rw [if_neg ht2])
    cases torn with
    | false =>
      repeat' ((conv => whnf); first | (rw [hs]) | (refine Exists.intro ([] : List Nat) ?_) | (refine And.intro rfl ?_) | (refine And.intro (by decide +kernel) ?_) | (refine And.intro trivial ?_) | (refine fS_mk ?_) | (refine d_IsValidLog (hd := hd) (hp := hp) (ht := ht) (h0 := ?_) ..; rw [hv]) | (refine And.intro hsm (fun cap hc1 hc2 => ?_); rw [nums_cells, hl, hsz]) | (refine And.intro (by rw [strOfNums_size]; omega) ?_) | (refine And.intro (by rw [hex]; omega) ?_) | (refine Exists.intro _ (Exists.intro l (And.intro rfl (And.intro rfl (And.intro (u8_le hll) (And.intro (u8_tk hll) ?_))))); rw [hR']) | (refine Exists.intro _ (And.intro rfl (And.intro rfl (And.intro (Nat.le_of_ble_eq_true rfl) ?_)))) | (refine Exists.intro _ (And.intro rfl (And.intro rfl (And.intro rfl (And.intro (Nat.le_of_ble_eq_true rfl) ?_))))) | (refine And.intro (Exists.intro _ (And.intro rfl rfl)) ?_) | (exact fun hW => absurd hW (by decide +kernel)) | (intro hW; (try simp only [Bool.not_true, Bool.not_false, Bool.not_eq_true', Bool.not_eq_false', decide_eq_true_eq, decide_eq_false_iff_not, reduceCtorEq, Bool.true_eq_false, Bool.false_eq_true, mk_size, List.size_toArray, ByteArray.size_append, ByteArray.size_extract, List.length_cons, List.length_nil, ba_get, ba_empty, Int.toNat_natCast] at hW)) | (refine And.intro (?_ : _ → _) (?_ : _ → _)) | (refine FinR.drop 0 (Nat.zero_le _) (Closed.zero _) rfl ?_) | (refine FinR.keep ?_) | (refine And.intro (det3_agg rfl) ?_) | (refine fL_mk ?_) | (refine And.intro (by (try simp only [mk_size, List.size_toArray, ByteArray.size_append, ByteArray.size_extract, List.length_cons, List.length_nil]); omega) ?_) | (refine And.intro (by (try simp only [mk_size, List.size_toArray, ByteArray.size_append, ByteArray.size_extract, List.length_cons, List.length_nil, wrap64_eq]); omega) ?_) | fail)
      all_goals first | exact h0 | (exfalso; omega) | (exfalso; simp_all; done) | skip
    | true =>
      have hk0 : k = 0 := Nat.eq_zero_of_not_pos (fun h => ht2 ⟨rfl, h⟩)
      repeat' ((conv => whnf); first | (rw [hs]) | (refine Exists.intro ([] : List Nat) ?_) | (refine And.intro rfl ?_) | (refine And.intro (by decide +kernel) ?_) | (refine And.intro trivial ?_) | (refine fS_mk ?_) | (refine d_IsValidLog (hd := hd) (hp := hp) (ht := ht) (h0 := ?_) ..; rw [hv]) | (refine And.intro hsm (fun cap hc1 hc2 => ?_); rw [nums_cells, hl, hsz]) | (refine And.intro (by rw [strOfNums_size]; omega) ?_) | (refine And.intro (by rw [hex]; omega) ?_) | (refine Exists.intro _ (Exists.intro l (And.intro rfl (And.intro rfl (And.intro (u8_le hll) (And.intro (u8_tk hll) ?_))))); rw [hR']) | (refine Exists.intro _ (And.intro rfl (And.intro rfl (And.intro (Nat.le_of_ble_eq_true rfl) ?_)))) | (refine Exists.intro _ (And.intro rfl (And.intro rfl (And.intro rfl (And.intro (Nat.le_of_ble_eq_true rfl) ?_))))) | (refine And.intro (Exists.intro _ (And.intro rfl rfl)) ?_) | (exact fun hW => absurd hW (by decide +kernel)) | (intro hW; (try simp only [Bool.not_true, Bool.not_false, Bool.not_eq_true', Bool.not_eq_false', decide_eq_true_eq, decide_eq_false_iff_not, reduceCtorEq, Bool.true_eq_false, Bool.false_eq_true, mk_size, List.size_toArray, ByteArray.size_append, ByteArray.size_extract, List.length_cons, List.length_nil, ba_get, ba_empty, Int.toNat_natCast] at hW)) | (refine And.intro (?_ : _ → _) (?_ : _ → _)) | (refine FinR.drop 0 (Nat.zero_le _) (Closed.zero _) rfl ?_) | (refine FinR.keep ?_) | (refine And.intro (det3_agg rfl) ?_) | (refine fL_mk ?_) | (refine And.intro (by (try simp only [mk_size, List.size_toArray, ByteArray.size_append, ByteArray.size_extract, List.length_cons, List.length_nil]); omega) ?_) | (refine And.intro (by (try simp only [mk_size, List.size_toArray, ByteArray.size_append, ByteArray.size_extract, List.length_cons, List.length_nil, wrap64_eq]); omega) ?_) | fail)
      all_goals first | exact h0 | (exfalso; omega) | (exfalso; simp_all; done) | skip
theorem d_CrashT (d p : ByteArray) (cnt : Int) (k : Nat) (torn : Bool) (hd : d.size ≤ 1048576) (hp : p.size ≤ 1048576) (ht : TabP W0) (hv : vB d p cnt = true) (hk : k ≤ p.size) (K : Cont) (h0 : K (.tup [St (crR d p k torn), Bo true]) σ) : ACall Tryd.prog W0 13 [Lg d p cnt, I k, Bo torn] σ K :=
  ACall.lift rfl (fun _ => rfl) (fun W1 K hb hK => c_CrashT d p cnt k torn hd hp (ht.mono hb) hv hk K hK) h0
theorem c_law_CrashLog (d : ByteArray) (hd : d.size ≤ 9223372036854775807) (p : ByteArray) (hp : p.size ≤ 9223372036854775807) (n : Int) (hn : IntKind.i64.has n) (k : Int) (hk : IntKind.i64.has k) (torn : Bool) (ht : TabP W0) (K : Cont) (h0 : K (Bo true) []) : ACall Tryd.prog W0 4 [Lg d p n, I k, Bo torn] [] K := by
  refine by4 (Nat.le_of_ble_eq_true rfl) ?_
  by_cases hz : szI 1048576 [d.size, p.size] < 0
  · skip
    repeat' ((conv => whnf); first | (refine Exists.intro ([] : List Nat) ?_) | (refine And.intro rfl ?_) | (refine And.intro (by decide +kernel) ?_) | (refine And.intro trivial ?_) | (refine d_szLog (hc := hd) (hr := hp) (hm := by decide) (hm' := by decide) (h0 := ?_) ..) | (refine Exists.intro _ (And.intro rfl (And.intro rfl (And.intro (Nat.le_of_ble_eq_true rfl) ?_)))) | (refine Exists.intro _ (And.intro rfl (And.intro rfl (And.intro rfl (And.intro (Nat.le_of_ble_eq_true rfl) ?_))))) | (refine And.intro (Exists.intro _ (And.intro rfl rfl)) ?_) | (exact fun hW => absurd hW (by decide +kernel)) | (intro hW; (try simp only [Bool.not_true, Bool.not_false, Bool.not_eq_true', Bool.not_eq_false', decide_eq_true_eq, decide_eq_false_iff_not, reduceCtorEq, Bool.true_eq_false, Bool.false_eq_true, mk_size, List.size_toArray, ByteArray.size_append, ByteArray.size_extract, List.length_cons, List.length_nil, ba_get, ba_empty, Int.toNat_natCast] at hW)) | (refine And.intro (?_ : _ → _) (?_ : _ → _)) | (refine FinR.drop 0 (Nat.zero_le _) (Closed.zero _) rfl ?_) | (refine FinR.keep ?_) | (refine And.intro (det3_agg rfl) ?_) | (refine fL_mk ?_) | (refine And.intro (by (try simp only [mk_size, List.size_toArray, ByteArray.size_append, ByteArray.size_extract, List.length_cons, List.length_nil]); omega) ?_) | (refine And.intro (by (try simp only [mk_size, List.size_toArray, ByteArray.size_append, ByteArray.size_extract, List.length_cons, List.length_nil, wrap64_eq]); omega) ?_) | fail)
    all_goals first | exact h0 | (exfalso; omega)
  · have hb := szI_neg (by decide) (Int.not_lt.1 hz)
    have hd' : d.size ≤ 1048576 := by have := hb d.size (by simp); omega
    have hp' : p.size ≤ 1048576 := by have := hb p.size (by simp); omega
    by_cases hg : vB d p n = true ∧ 0 ≤ k ∧ k ≤ p.size
    · obtain ⟨hv, hk0, hkp⟩ := hg
      obtain ⟨m, rfl⟩ := Int.eq_ofNat_of_zero_le hk0
      generalize hR : crR d p m torn = R
      repeat' ((conv => whnf); first | (refine Exists.intro ([] : List Nat) ?_) | (refine And.intro rfl ?_) | (refine And.intro (by decide +kernel) ?_) | (refine And.intro trivial ?_) | (refine d_szLog (hc := hd) (hr := hp) (hm := by decide) (hm' := by decide) (h0 := ?_) ..) | (refine d_toLog (h0 := ?_) ..) | (refine Exists.intro _ (And.intro (fun τ => callW_fn (d_toLog (h0 := And.intro rfl rfl) ..)) ?_)) | (refine Exists.intro _ (And.intro (callW_fn (d_toLog (h0 := And.intro rfl rfl) ..)) (And.intro trivial ?_))) | (refine Exists.intro _ (And.intro (callW_fn (d_toLog (h0 := And.intro rfl rfl) ..)) ?_)) | (refine Exists.intro _ (And.intro (fun τ _ => callW_fn (d_toLog (h0 := And.intro rfl rfl) ..)) ?_)) | (refine d_sCrashT (k := m) (hd := hd') (hp := hp') (hv := hv) (hk := by omega) (h0 := ?_) ..; rw [hR]) | (refine d_CrashT (k := m) (hd := hd') (hp := hp') (ht := ht) (hv := hv) (hk := by omega) (h0 := ?_) ..; rw [hR]) | (refine Exists.intro _ (And.intro rfl (And.intro rfl (And.intro (Nat.le_of_ble_eq_true rfl) ?_)))) | (refine Exists.intro _ (And.intro rfl (And.intro rfl (And.intro rfl (And.intro (Nat.le_of_ble_eq_true rfl) ?_))))) | (refine And.intro (Exists.intro _ (And.intro rfl rfl)) ?_) | (exact fun hW => absurd hW (by decide +kernel)) | (intro hW; (try simp only [Bool.not_true, Bool.not_false, Bool.not_eq_true', Bool.not_eq_false', decide_eq_true_eq, decide_eq_false_iff_not, reduceCtorEq, Bool.true_eq_false, Bool.false_eq_true, mk_size, List.size_toArray, ByteArray.size_append, ByteArray.size_extract, List.length_cons, List.length_nil, ba_get, ba_empty, Int.toNat_natCast] at hW)) | (refine And.intro (?_ : _ → _) (?_ : _ → _)) | (refine FinR.drop 0 (Nat.zero_le _) (Closed.zero _) rfl ?_) | (refine FinR.keep ?_) | (refine And.intro (det3_agg rfl) ?_) | (refine fL_mk ?_) | (refine And.intro (by (try simp only [mk_size, List.size_toArray, ByteArray.size_append, ByteArray.size_extract, List.length_cons, List.length_nil]); omega) ?_) | (refine And.intro (by (try simp only [mk_size, List.size_toArray, ByteArray.size_append, ByteArray.size_extract, List.length_cons, List.length_nil, wrap64_eq]); omega) ?_) | fail)
      all_goals first | exact h0 | (exfalso; omega) | (exfalso; simp_all; done)
    · have hg' : vB d p n = false ∨ ¬ (0 ≤ k ∧ k ≤ p.size) := by
        cases hv : vB d p n with
        | false => exact .inl rfl
        | true => exact .inr fun h => hg ⟨hv, h⟩
      repeat' ((conv => whnf); first | (refine Exists.intro ([] : List Nat) ?_) | (refine And.intro rfl ?_) | (refine And.intro (by decide +kernel) ?_) | (refine And.intro trivial ?_) | (refine d_szLog (hc := hd) (hr := hp) (hm := by decide) (hm' := by decide) (h0 := ?_) ..) | (refine d_toLog (h0 := ?_) ..) | (refine Exists.intro _ (And.intro (fun τ => callW_fn (d_toLog (h0 := And.intro rfl rfl) ..)) ?_)) | (refine Exists.intro _ (And.intro (callW_fn (d_toLog (h0 := And.intro rfl rfl) ..)) (And.intro trivial ?_))) | (refine Exists.intro _ (And.intro (callW_fn (d_toLog (h0 := And.intro rfl rfl) ..)) ?_)) | (refine Exists.intro _ (And.intro (fun τ _ => callW_fn (d_toLog (h0 := And.intro rfl rfl) ..)) ?_)) | (refine d_sCrashF (hd := hd') (hp := hp') (hg := hg') (h0 := ?_) ..) | (refine d_CrashF (hd := hd') (hp := hp') (ht := ht) (hg := hg') (h0 := ?_) ..) | (refine Exists.intro _ (And.intro rfl (And.intro rfl (And.intro (Nat.le_of_ble_eq_true rfl) ?_)))) | (refine Exists.intro _ (And.intro rfl (And.intro rfl (And.intro rfl (And.intro (Nat.le_of_ble_eq_true rfl) ?_))))) | (refine And.intro (Exists.intro _ (And.intro rfl rfl)) ?_) | (exact fun hW => absurd hW (by decide +kernel)) | (intro hW; (try simp only [Bool.not_true, Bool.not_false, Bool.not_eq_true', Bool.not_eq_false', decide_eq_true_eq, decide_eq_false_iff_not, reduceCtorEq, Bool.true_eq_false, Bool.false_eq_true, mk_size, List.size_toArray, ByteArray.size_append, ByteArray.size_extract, List.length_cons, List.length_nil, ba_get, ba_empty, Int.toNat_natCast] at hW)) | (refine And.intro (?_ : _ → _) (?_ : _ → _)) | (refine FinR.drop 0 (Nat.zero_le _) (Closed.zero _) rfl ?_) | (refine FinR.keep ?_) | (refine And.intro (det3_agg rfl) ?_) | (refine fL_mk ?_) | (refine And.intro (by (try simp only [mk_size, List.size_toArray, ByteArray.size_append, ByteArray.size_extract, List.length_cons, List.length_nil]); omega) ?_) | (refine And.intro (by (try simp only [mk_size, List.size_toArray, ByteArray.size_append, ByteArray.size_extract, List.length_cons, List.length_nil, wrap64_eq]); omega) ?_) | fail)
      all_goals first | exact h0 | (exfalso; omega) | (exfalso; simp_all; done)
end Go.Proofs.YtlmplfgnhibfcaaDoor
end
