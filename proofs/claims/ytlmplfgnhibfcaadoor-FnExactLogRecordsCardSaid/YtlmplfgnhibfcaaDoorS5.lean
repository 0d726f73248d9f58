/- Contracts: a record is decoded. -/
import Derived.Test.YtlmplfgnhibfcaaDoorS4
set_option linter.unusedVariables false
set_option linter.unusedSimpArgs false
set_option maxRecDepth 100000
set_option maxHeartbeats 4000000
namespace Go.Proofs.YtlmplfgnhibfcaaDoor
open Go Go.RowKit Go.Proofs.YtlmplfgnhibfcaaDoor.Abs
variable {W0 : World} {σ : List Blk}
theorem d_l1SplitH (s : ByteArray) (b : UInt8) (hs : s.size < 100000000) (K : Cont) (h0 : ∀ rest ver cap, (rest.length = 0 ↔ (tl s).any (· == b) = false) → K (.sl σ.length ver 0 (rest.length + 1) cap) (σ ++ [⟨.lit (.string (bs (bef b (tl s)))) :: tcells rest, ver, 9, 1, true, true⟩])) : ACall Tryd.prog W0 21 [St s, B8 b] σ K := by
  refine d_l1Split s b hs K fun ver cap => ?_
  rw [split_head]
  refine h0 _ ver cap ?_
  cases h : (tl s).any (· == b) with
  | false => simp
  | true => simp [splitL_ne]
theorem d_l1SplitB (l : Bs) (b : UInt8) (hs : l.length < 100000000) (K : Cont) (h0 : ∀ rest ver cap, (rest.length = 0 ↔ l.any (· == b) = false) → K (.sl σ.length ver 0 (rest.length + 1) cap) (σ ++ [⟨.lit (.string (bs (bef b l))) :: tcells rest, ver, 9, 1, true, true⟩])) : ACall Tryd.prog W0 21 [St (bs l), B8 b] σ K :=
  d_l1SplitH (bs l) b (by simp only [mk_size, List.size_toArray]; exact hs) K h0
theorem index_bef (l : Bs) (c : UInt8) : Lib.indexByte l c = if l.any (· == c) then ((bef c l).length : Int) else -1 := by
  induction l with
  | nil => rfl
  | cons b l ih =>
    rw [index_cons, List.any_cons]
    cases h : b == c with
    | true => simp [bef, List.takeWhile_cons, h]
    | false =>
      have e1 : bef c (b :: l) = b :: bef c l := by simp [bef, List.takeWhile_cons, h]
      rw [ih, e1]
      cases h2 : l.any (· == c) with
      | true =>
        have h3 : ((((bef c l).length : Nat) : Int) == -1) = false := by rw [Bool.eq_false_iff]; intro e; have := eq_of_beq e; omega
        simp [h3]
      | false => simp
theorem bef_len_le (b : UInt8) (l : Bs) : (bef b l).length ≤ l.length := by unfold bef; exact (List.takeWhile_sublist _).length_le
theorem bef_take (b : UInt8) (l : Bs) : l.take (bef b l).length = bef b l := by
  rcases bef_cases b l with ⟨_, h2⟩ | ⟨_, h2⟩
  · rw [h2]; simp
  · have e := congrArg (List.take (bef b l).length) h2
    rw [e]; simp
theorem bef_lt {b : UInt8} {l : Bs} (h : l.any (· == b) = true) : (bef b l).length < l.length := by
  rcases bef_cases b l with ⟨h1, _⟩ | ⟨_, h2⟩
  · rw [h1] at h; cases h
  · conv => rhs; rw [h2]
    simp
theorem c_Cut1T (s : ByteArray) (c : UInt8) (h : (tl s).any (· == c) = true) (hs : s.size < 4611686018427387904) (K : Cont) (h0 : K (.tup [St (bs (bef c (tl s))), St (bs (aft c (tl s))), Bo true]) []) : ACall Tryd.prog W0 36 [St s, St ⟨#[c]⟩] [] K := by
  refine by36 (Nat.le_of_ble_eq_true rfl) ?_
  have e1 : Lib.indexByte (tl s) c = ((bef c (tl s)).length : Int) := by rw [index_bef, if_pos h]
  have e2 := bef_lt h
  have tls := tl_len s
  have e3 : IntKind.i64.wrap (((bef c (tl s)).length : Int) + ((⟨#[c]⟩ : ByteArray).size : Nat)) = (((bef c (tl s)).length + 1 : Nat) : Int) := iN _ (by omega)
  repeat' ((conv => whnf); first
    | (refine And.intro rfl ?_)
    | (refine And.intro (by decide +kernel) ?_)
    | (refine And.intro trivial ?_)
    | (refine d_Index1 (h0 := ?_) ..; rw [e1])
    | (refine And.intro (by rw [e3]; omega) ?_)
    | (refine Exists.intro _ (And.intro rfl (And.intro rfl (And.intro (Nat.le_of_ble_eq_true rfl) ?_))))
    | (refine Exists.intro _ (And.intro rfl (And.intro rfl (And.intro rfl (And.intro (Nat.le_of_ble_eq_true rfl) ?_)))))
    | (refine And.intro (Exists.intro _ (And.intro rfl rfl)) ?_)
    | (exact fun hW => absurd hW (by decide +kernel))
    | (intro hW; (try simp only [Bool.not_true, Bool.not_false, Bool.not_eq_true', Bool.not_eq_false', decide_eq_true_eq, decide_eq_false_iff_not, reduceCtorEq, Bool.true_eq_false, Bool.false_eq_true, mk_size, List.size_toArray, ByteArray.size_append, ByteArray.size_extract, List.length_cons, List.length_nil, ba_get, ba_empty, Int.toNat_natCast] at hW))
    | (refine And.intro (?_ : _ → _) (?_ : _ → _))
    | (refine FinR.drop 0 (Nat.zero_le _) (Closed.zero _) rfl ?_)
    | (refine FinR.keep ?_)
    | (refine And.intro (det3_agg rfl) ?_)
    | (refine fL_mk ?_)
    | (refine And.intro (by (try simp only [mk_size, List.size_toArray, ByteArray.size_append, ByteArray.size_extract, List.length_cons, List.length_nil]); omega) ?_)
    | (refine And.intro (by (try simp only [mk_size, List.size_toArray, ByteArray.size_append, ByteArray.size_extract, List.length_cons, List.length_nil, wrap64_eq]); omega) ?_)
    | fail)
  · refine kX h0 ?_ rfl
    rw [e3, Lib.extract_eq, Lib.extract_eq]
    show AV.tup [St _, St _, Bo true] = AV.tup [St (bs (((tl s).drop 0).take ((bef c (tl s)).length - 0))), St (bs (((tl s).drop ((bef c (tl s)).length + 1)).take (s.size - ((bef c (tl s)).length + 1)))), Bo true]
    rw [List.drop_zero, Nat.sub_zero, bef_take, List.take_of_length_le (by rw [List.length_drop]; omega)]; rfl
  · exfalso; omega
theorem d_Cut1T (s : ByteArray) (c : UInt8) (h : (tl s).any (· == c) = true) (hs : s.size < 4611686018427387904) (K : Cont) (h0 : K (.tup [St (bs (bef c (tl s))), St (bs (aft c (tl s))), Bo true]) σ) : ACall Tryd.prog W0 36 [St s, St ⟨#[c]⟩] σ K :=
  ACall.lift rfl (fun _ => rfl) (fun W1 K _ hK => c_Cut1T s c h hs K hK) h0
theorem c_Cut1F (s : ByteArray) (c : UInt8) (h : (tl s).any (· == c) = false) (K : Cont) (h0 : K (.tup [St s, St ⟨#[]⟩, Bo false]) []) : ACall Tryd.prog W0 36 [St s, St ⟨#[c]⟩] [] K := by
  refine by36 (Nat.le_of_ble_eq_true rfl) ?_
  have e1 : Lib.indexByte (tl s) c = -1 := by rw [index_bef, h]; rfl
  repeat' ((conv => whnf); first
    | (refine And.intro rfl ?_)
    | (refine And.intro (by decide +kernel) ?_)
    | (refine And.intro trivial ?_)
    | (refine d_Index1 (h0 := ?_) ..; rw [e1])
    | (refine Exists.intro _ (And.intro rfl (And.intro rfl (And.intro (Nat.le_of_ble_eq_true rfl) ?_))))
    | (refine Exists.intro _ (And.intro rfl (And.intro rfl (And.intro rfl (And.intro (Nat.le_of_ble_eq_true rfl) ?_)))))
    | (refine And.intro (Exists.intro _ (And.intro rfl rfl)) ?_)
    | (exact fun hW => absurd hW (by decide +kernel))
    | (intro hW; (try simp only [Bool.not_true, Bool.not_false, Bool.not_eq_true', Bool.not_eq_false', decide_eq_true_eq, decide_eq_false_iff_not, reduceCtorEq, Bool.true_eq_false, Bool.false_eq_true, mk_size, List.size_toArray, ByteArray.size_append, ByteArray.size_extract, List.length_cons, List.length_nil, ba_get, ba_empty, Int.toNat_natCast] at hW))
    | (refine And.intro (?_ : _ → _) (?_ : _ → _))
    | (refine FinR.drop 0 (Nat.zero_le _) (Closed.zero _) rfl ?_)
    | (refine FinR.keep ?_)
    | (refine And.intro (det3_agg rfl) ?_)
    | (refine fL_mk ?_)
    | (refine And.intro (by (try simp only [mk_size, List.size_toArray, ByteArray.size_append, ByteArray.size_extract, List.length_cons, List.length_nil]); omega) ?_)
    | (refine And.intro (by (try simp only [mk_size, List.size_toArray, ByteArray.size_append, ByteArray.size_extract, List.length_cons, List.length_nil, wrap64_eq]); omega) ?_)
    | fail)
  all_goals first | exact h0 | (exfalso; omega)
theorem d_Cut1F (s : ByteArray) (c : UInt8) (h : (tl s).any (· == c) = false) (K : Cont) (h0 : K (.tup [St s, St ⟨#[]⟩, Bo false]) σ) : ACall Tryd.prog W0 36 [St s, St ⟨#[c]⟩] σ K :=
  ACall.lift rfl (fun _ => rfl) (fun W1 K _ hK => c_Cut1F s c h K hK) h0
theorem c_sCutT (s : ByteArray) (c : UInt8) (h : (tl s).any (· == c) = true) (hs : s.size < 4611686018427387904) (K : Cont) (h0 : K (.tup [St (bs (bef c (tl s))), St (bs (aft c (tl s))), Bo true]) []) : ACall Tryd.prog W0 29 [St s, St ⟨#[c]⟩] [] K := by
  refine by29 (Nat.le_of_ble_eq_true rfl) ?_
  repeat' ((conv => whnf); first
    | (refine And.intro rfl ?_)
    | (refine And.intro (by decide +kernel) ?_)
    | (refine And.intro trivial ?_)
    | (refine d_Cut1T (h := h) (hs := hs) (h0 := ?_) ..)
    | (refine Exists.intro _ (And.intro rfl (And.intro rfl (And.intro (Nat.le_of_ble_eq_true rfl) ?_))))
    | (refine Exists.intro _ (And.intro rfl (And.intro rfl (And.intro rfl (And.intro (Nat.le_of_ble_eq_true rfl) ?_)))))
    | (refine And.intro (Exists.intro _ (And.intro rfl rfl)) ?_)
    | (exact fun hW => absurd hW (by decide +kernel))
    | (intro hW; (try simp only [Bool.not_true, Bool.not_false, Bool.not_eq_true', Bool.not_eq_false', decide_eq_true_eq, decide_eq_false_iff_not, reduceCtorEq, Bool.true_eq_false, Bool.false_eq_true, mk_size, List.size_toArray, ByteArray.size_append, ByteArray.size_extract, List.length_cons, List.length_nil, ba_get, ba_empty, Int.toNat_natCast] at hW))
    | (refine And.intro (?_ : _ → _) (?_ : _ → _))
    | (refine FinR.drop 0 (Nat.zero_le _) (Closed.zero _) rfl ?_)
    | (refine FinR.keep ?_)
    | (refine And.intro (det3_agg rfl) ?_)
    | (refine fL_mk ?_)
    | (refine And.intro (by (try simp only [mk_size, List.size_toArray, ByteArray.size_append, ByteArray.size_extract, List.length_cons, List.length_nil]); omega) ?_)
    | (refine And.intro (by (try simp only [mk_size, List.size_toArray, ByteArray.size_append, ByteArray.size_extract, List.length_cons, List.length_nil, wrap64_eq]); omega) ?_)
    | fail)
  all_goals exact h0
theorem d_sCutT (s : ByteArray) (c : UInt8) (h : (tl s).any (· == c) = true) (hs : s.size < 4611686018427387904) (K : Cont) (h0 : K (.tup [St (bs (bef c (tl s))), St (bs (aft c (tl s))), Bo true]) σ) : ACall Tryd.prog W0 29 [St s, St ⟨#[c]⟩] σ K :=
  ACall.lift rfl (fun _ => rfl) (fun W1 K _ hK => c_sCutT s c h hs K hK) h0
theorem c_sCutF (s : ByteArray) (c : UInt8) (h : (tl s).any (· == c) = false) (K : Cont) (h0 : K (.tup [St s, St ⟨#[]⟩, Bo false]) []) : ACall Tryd.prog W0 29 [St s, St ⟨#[c]⟩] [] K := by
  refine by29 (Nat.le_of_ble_eq_true rfl) ?_
  repeat' ((conv => whnf); first
    | (refine And.intro rfl ?_)
    | (refine And.intro (by decide +kernel) ?_)
    | (refine And.intro trivial ?_)
    | (refine d_Cut1F (h := h) (h0 := ?_) ..)
    | (refine Exists.intro _ (And.intro rfl (And.intro rfl (And.intro (Nat.le_of_ble_eq_true rfl) ?_))))
    | (refine Exists.intro _ (And.intro rfl (And.intro rfl (And.intro rfl (And.intro (Nat.le_of_ble_eq_true rfl) ?_)))))
    | (refine And.intro (Exists.intro _ (And.intro rfl rfl)) ?_)
    | (exact fun hW => absurd hW (by decide +kernel))
    | (intro hW; (try simp only [Bool.not_true, Bool.not_false, Bool.not_eq_true', Bool.not_eq_false', decide_eq_true_eq, decide_eq_false_iff_not, reduceCtorEq, Bool.true_eq_false, Bool.false_eq_true, mk_size, List.size_toArray, ByteArray.size_append, ByteArray.size_extract, List.length_cons, List.length_nil, ba_get, ba_empty, Int.toNat_natCast] at hW))
    | (refine And.intro (?_ : _ → _) (?_ : _ → _))
    | (refine FinR.drop 0 (Nat.zero_le _) (Closed.zero _) rfl ?_)
    | (refine FinR.keep ?_)
    | (refine And.intro (det3_agg rfl) ?_)
    | (refine fL_mk ?_)
    | (refine And.intro (by (try simp only [mk_size, List.size_toArray, ByteArray.size_append, ByteArray.size_extract, List.length_cons, List.length_nil]); omega) ?_)
    | (refine And.intro (by (try simp only [mk_size, List.size_toArray, ByteArray.size_append, ByteArray.size_extract, List.length_cons, List.length_nil, wrap64_eq]); omega) ?_)
    | fail)
  all_goals exact h0
theorem d_sCutF (s : ByteArray) (c : UInt8) (h : (tl s).any (· == c) = false) (K : Cont) (h0 : K (.tup [St s, St ⟨#[]⟩, Bo false]) σ) : ACall Tryd.prog W0 29 [St s, St ⟨#[c]⟩] σ K :=
  ACall.lift rfl (fun _ => rfl) (fun W1 K _ hK => c_sCutF s c h K hK) h0
/-- what a valid line is made of -/
theorem tl_body (k : Nat) (c r : ByteArray) : tl (bodyB k c r) = (tl (numB k) ++ [32]) ++ (tl c ++ 64 :: tl r) := by
  simp only [bodyB, tl_append, tl_mk]; simp
theorem tl_seal (s : ByteArray) : tl (sealB s) = tl s ++ 35 :: tl (numB (sumN (tl s))) := by
  simp only [sealB, tl_append, tl_mk]; simp
theorem line_seal {k : Nat} {c r s : ByteArray} (h : lineB k c r = s ++ ⟨#[10]⟩) : sealB (bodyB k c r) = s := by
  apply tl_ext
  have := congrArg tl h
  simp only [lineB, tl_append] at this
  exact List.append_cancel_right this
theorem seal_bef {s : ByteArray} (h : (tl s).any (· == 35) = false) : bef 35 (tl (sealB s)) = tl s := by
  rw [tl_seal]; exact (bef_of h).1
theorem dec_line {k : Nat} {c r s : ByteArray} (hv : recB c r = true) (he : lineB k c r = s ++ ⟨#[10]⟩) : bef 35 (tl s) = (tl (numB k) ++ [32]) ++ (tl c ++ 64 :: tl r) ∧ bef 64 (tl c ++ 64 :: tl r) = tl c ∧ aft 64 (tl c ++ 64 :: tl r) = tl r := by
  rw [← line_seal he, seal_bef (body_no hv), tl_body]
  have := bef_of (t := tl r) (recB_parts hv).2.2.2.1
  exact ⟨rfl, this.1, this.2.1⟩
theorem c_l12Decode (s : ByteArray) (k : Nat) (hk : k < 60) (hs : s.size < 1000000) (K : Cont) (h0 : ∀ c r b, (b = true → recB c r = true ∧ lineB k c r = s ++ ⟨#[10]⟩) → (b = false → ¬ ∃ c r, recB c r = true ∧ lineB k c r = s ++ ⟨#[10]⟩) → K (.tup [Rc c r, Bo b]) []) : ACall Tryd.prog W0 22 [St s, I k] [] K := by
  refine by22 (Nat.le_of_ble_eq_true rfl) ?_
  have tls := tl_len s
  have hb1 := bef_len_le 35 (tl s)
  have hn := numB_size6 (n := k) (by omega)
  have hn' := numB_pos k
  have ea : (numB k ++ ⟨#[32]⟩ : ByteArray).size = (numB k).size + 1 := by simp only [ByteArray.size_append, mk_size, List.size_toArray, List.length_cons, List.length_nil]
  have eb : (bs (bef 35 (tl s))).size = (bef 35 (tl s)).length := by simp only [mk_size, List.size_toArray]
  obtain ⟨rest1, hrest1⟩ : ∃ x, x = (bef 35 (tl s)).drop ((numB k).size + 1) := ⟨_, rfl⟩
  have ex1 : (bs (bef 35 (tl s))).extract (((numB k ++ ⟨#[32]⟩ : ByteArray).size : Nat) : Int).toNat (((bs (bef 35 (tl s))).size : Nat) : Int).toNat = bs rest1 := by
    rw [Lib.extract_eq, Int.toNat_natCast, Int.toNat_natCast, ea, eb, hrest1, List.take_of_length_le (by rw [List.length_drop]; exact Nat.le_refl _)]
  have hb2 := bef_len_le 64 rest1
  have hb3 : rest1.length = (bef 35 (tl s)).length - ((numB k).size + 1) := by rw [hrest1, List.length_drop]
  have eD : ∀ c r, recB c r = true → lineB k c r = s ++ ⟨#[10]⟩ → (numB k).size + 1 ≤ (bef 35 (tl s)).length ∧ (bs (bef 35 (tl s))).extract 0 ((numB k).size + 1) = numB k ++ ⟨#[32]⟩ ∧ rest1 = tl c ++ 64 :: tl r ∧ bef 64 rest1 = tl c ∧ aft 64 rest1 = tl r := by
    intro c r hv he
    obtain ⟨h1, h2, h3⟩ := dec_line hv he
    have hl : (tl (numB k) ++ [32]).length = (numB k).size + 1 := by simp [tl_len]
    have e1 : rest1 = tl c ++ 64 :: tl r := by rw [hrest1, h1, ← hl]; simp
    refine ⟨by rw [h1, ← hl]; simp, ?_, e1, by rw [e1]; exact h2, by rw [e1]; exact h3⟩
    apply tl_ext
    rw [tl_extract, tl_bs, h1, List.drop_zero, Nat.sub_zero, ← hl, List.take_left, tl_append]; rfl
  repeat' ((conv => whnf); first
    | (refine And.intro rfl ?_)
    | (refine And.intro (by decide +kernel) ?_)
    | (refine And.intro trivial ?_)
    | (refine d_l1Num (hn := by omega) (h0 := ?_) ..)
    | (rw [ex1]; refine d_l1SplitB (l := rest1) (b := 64) (hs := by omega) (h0 := fun rest' ver' cap' hr' => ?_) ..)
    | (refine d_l1SplitH (s := s) (b := 35) (hs := by omega) (h0 := fun rest ver cap hr => ?_) ..)
    | (refine d_l12Record (hc := by simp only [mk_size, List.size_toArray, ByteArray.size_extract]; omega) (hr := by simp only [mk_size, List.size_toArray, ByteArray.size_extract]; omega) (h0 := ?_) ..)
    | (refine Exists.intro _ (And.intro (fun τ => callW_fn (d_l12Record (hc := by simp only [mk_size, List.size_toArray, ByteArray.size_extract]; omega) (hr := by simp only [mk_size, List.size_toArray, ByteArray.size_extract]; omega) (h0 := And.intro rfl rfl) ..)) ?_))
    | (refine Exists.intro _ (And.intro (callW_fn (d_l12Record (hc := by simp only [mk_size, List.size_toArray, ByteArray.size_extract]; omega) (hr := by simp only [mk_size, List.size_toArray, ByteArray.size_extract]; omega) (h0 := And.intro rfl rfl) ..)) (And.intro trivial ?_)))
    | (refine Exists.intro _ (And.intro (callW_fn (d_l12Record (hc := by simp only [mk_size, List.size_toArray, ByteArray.size_extract]; omega) (hr := by simp only [mk_size, List.size_toArray, ByteArray.size_extract]; omega) (h0 := And.intro rfl rfl) ..)) ?_))
    | (refine Exists.intro _ (And.intro (fun τ _ => callW_fn (d_l12Record (hc := by simp only [mk_size, List.size_toArray, ByteArray.size_extract]; omega) (hr := by simp only [mk_size, List.size_toArray, ByteArray.size_extract]; omega) (h0 := And.intro rfl rfl) ..)) ?_))
    | (refine d_l12Line (hk := by omega) (hc := by simp only [mk_size, List.size_toArray, ByteArray.size_extract]; omega) (hr := by simp only [mk_size, List.size_toArray, ByteArray.size_extract]; omega) (h0 := ?_) ..)
    | (refine Exists.intro _ (And.intro (fun τ => callW_fn (d_l12Line (hk := by omega) (hc := by simp only [mk_size, List.size_toArray, ByteArray.size_extract]; omega) (hr := by simp only [mk_size, List.size_toArray, ByteArray.size_extract]; omega) (h0 := And.intro rfl rfl) ..)) ?_))
    | (refine Exists.intro _ (And.intro (callW_fn (d_l12Line (hk := by omega) (hc := by simp only [mk_size, List.size_toArray, ByteArray.size_extract]; omega) (hr := by simp only [mk_size, List.size_toArray, ByteArray.size_extract]; omega) (h0 := And.intro rfl rfl) ..)) (And.intro trivial ?_)))
    | (refine Exists.intro _ (And.intro (callW_fn (d_l12Line (hk := by omega) (hc := by simp only [mk_size, List.size_toArray, ByteArray.size_extract]; omega) (hr := by simp only [mk_size, List.size_toArray, ByteArray.size_extract]; omega) (h0 := And.intro rfl rfl) ..)) ?_))
    | (refine Exists.intro _ (And.intro (fun τ _ => callW_fn (d_l12Line (hk := by omega) (hc := by simp only [mk_size, List.size_toArray, ByteArray.size_extract]; omega) (hr := by simp only [mk_size, List.size_toArray, ByteArray.size_extract]; omega) (h0 := And.intro rfl rfl) ..)) ?_))
    | (refine Exists.intro _ (And.intro rfl (And.intro rfl (And.intro (Nat.le_of_ble_eq_true rfl) ?_))))
    | (refine Exists.intro _ (And.intro rfl (And.intro rfl (And.intro rfl (And.intro (Nat.le_of_ble_eq_true rfl) ?_)))))
    | (refine And.intro (Exists.intro _ (And.intro rfl rfl)) ?_)
    | (exact fun hW => absurd hW (by decide +kernel))
    | (intro hW; (try simp only [Bool.not_true, Bool.not_false, Bool.not_eq_true', Bool.not_eq_false', decide_eq_true_eq, decide_eq_false_iff_not, reduceCtorEq, Bool.true_eq_false, Bool.false_eq_true, mk_size, List.size_toArray, ByteArray.size_append, ByteArray.size_extract, List.length_cons, List.length_nil, ba_get, ba_empty, Int.toNat_natCast] at hW))
    | (refine And.intro (?_ : _ → _) (?_ : _ → _))
    | (refine FinR.drop 0 (Nat.zero_le _) (Closed.zero _) rfl ?_)
    | (refine FinR.keep ?_)
    | (refine And.intro (det3_agg rfl) ?_)
    | (refine fL_mk ?_)
    | (refine And.intro (by (try simp only [mk_size, List.size_toArray, ByteArray.size_append, ByteArray.size_extract, List.length_cons, List.length_nil]); omega) ?_)
    | (refine And.intro (by (try simp only [mk_size, List.size_toArray, ByteArray.size_append, ByteArray.size_extract, List.length_cons, List.length_nil, wrap64_eq]); omega) ?_)
    | fail)
  · rename_i e1
    refine h0 _ _ false (fun e => by cases e) fun _ ⟨c, r, hv, he⟩ => ?_
    obtain ⟨d1, d2, _⟩ := eD c r hv he
    have d2' : (bs (bef 35 (tl s))).extract (Int.toNat 0) ((numB k).size + (0 + 1)) = numB k ++ ⟨#[32]⟩ := d2
    rw [d2', beq_self_eq_true] at hW; cases hW
  · refine h0 _ _ false (fun e => by cases e) fun _ ⟨c, r, hv, he⟩ => ?_
    obtain ⟨_, _, d3, d4, _⟩ := eD c r hv he
    have h1 := congrArg List.length d3
    have h2 := congrArg List.length d4
    simp only [List.length_append, List.length_cons] at h1
    omega
  · rename_i e1 _ _ e2 e3 _ _ _ _ _
    have eX : (bs rest1).extract (IntKind.i64.wrap (((bef 64 rest1).length : Int) + 1)).toNat rest1.length = bs (aft 64 rest1) := by
      rw [iN _ (by omega), Lib.extract_eq]
      show bs ((rest1.drop ((bef 64 rest1).length + 1)).take (rest1.length - ((bef 64 rest1).length + 1))) = _
      rw [List.take_of_length_le (by rw [List.length_drop]; exact Nat.le_refl _)]; rfl
    refine h0 (bs (bef 64 rest1)) _ _ (fun e => ⟨e3, ?_⟩) fun e ⟨c, r, hv, he⟩ => ?_
    · have := eq_of_beq e
      rw [toList_tl, toList_tl] at this
      exact tl_ext this
    · obtain ⟨_, _, _, d4, d5⟩ := eD c r hv he
      rw [d4] at eX e
      rw [d5] at eX
      have e' : ((lineB k (bs (tl c)) ((bs rest1).extract (IntKind.i64.wrap (((tl c).length : Int) + 1)).toNat rest1.length)).toList == (s ++ ⟨#[10]⟩).toList) = false := e
      rw [eX, bs_tl, bs_tl, he, beq_self_eq_true] at e'; cases e'
  · rename_i e1 _ _ e2 e3 _ _ _ _ _
    have eX : (bs rest1).extract (IntKind.i64.wrap (((bef 64 rest1).length : Int) + 1)).toNat rest1.length = bs (aft 64 rest1) := by
      rw [iN _ (by omega), Lib.extract_eq]
      show bs ((rest1.drop ((bef 64 rest1).length + 1)).take (rest1.length - ((bef 64 rest1).length + 1))) = _
      rw [List.take_of_length_le (by rw [List.length_drop]; exact Nat.le_refl _)]; rfl
    refine h0 (bs (bef 64 rest1)) _ false (fun e => by cases e) fun e ⟨c, r, hv, he⟩ => ?_
    obtain ⟨_, _, _, d4, d5⟩ := eD c r hv he
    rw [eX, d4, d5, bs_tl, bs_tl, hv] at e3; cases e3
  · refine h0 _ _ false (fun e => by cases e) fun _ ⟨c, r, hv, he⟩ => ?_
    obtain ⟨d1, _⟩ := eD c r hv he
    rename_i e1 _ _
    omega
end Go.Proofs.YtlmplfgnhibfcaaDoor
