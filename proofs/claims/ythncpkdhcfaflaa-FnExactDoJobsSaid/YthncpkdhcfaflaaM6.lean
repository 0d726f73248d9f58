/- Contracts: the program's presses; flips. -/
import Derived.Test.YthncpkdhcfaflaaM5
set_option linter.unusedVariables false
set_option linter.unusedSimpArgs false
set_option maxRecDepth 100000
set_option maxHeartbeats 4000000
namespace Go.Proofs.Ythncpkdhcfaflaa
open Go Go.RowKit Go.Proofs.Ythncpkdhcfaflaa.Abs
variable {W0 : World} {σ : List Blk}
theorem bXorU {n m : Nat} (hn : n < 2 ^ 36) (hm : m < 2 ^ 36) : bXor .u64 n m = ((n ^^^ m : Nat) : Int) := bXor_u64 n m (Nat.lt_trans hn (by decide)) (Nat.lt_trans hm (by decide))
theorem bOrU {n m : Nat} (hn : n < 2 ^ 36) (hm : m < 2 ^ 36) : bOr .u64 n m = ((n ||| m : Nat) : Int) := bOr_u64 n m (Nat.lt_trans hn (by decide)) (Nat.lt_trans hm (by decide))
theorem bAndU {n m : Nat} (hn : n < 2 ^ 36) (hm : m < 2 ^ 36) : bAnd .u64 n m = ((n &&& m : Nat) : Int) := bAnd_u64 n m (Nat.lt_trans hn (by decide)) (Nat.lt_trans hm (by decide))
theorem bAndNotU {n m : Nat} (hn : n < 2 ^ 36) (hm : m < 2 ^ 36) : bAndNot .u64 n m = ((n &&& (fullN ^^^ m) : Nat) : Int) := by
  have h : n &&& (fullN ^^^ m) < 18446744073709551616 := Nat.lt_of_le_of_lt Nat.and_le_left (Nat.lt_trans hn (by decide))
  have e : (BitVec.ofInt 64 (n : Int) &&& ~~~ BitVec.ofInt 64 (m : Int)).toNat = n &&& (fullN ^^^ m) := by
    apply Nat.eq_of_testBit_eq; intro j
    rw [BitVec.testBit_toNat, BitVec.getLsbD_and, BitVec.getLsbD_not, BitVec.ofInt_natCast, BitVec.ofInt_natCast, BitVec.getLsbD_ofNat, BitVec.getLsbD_ofNat, Nat.testBit_and, Nat.testBit_xor, show fullN = 2 ^ 36 - 1 from rfl, Nat.testBit_two_pow_sub_one]
    by_cases hj : j < 36
    · have : j < 64 := by omega
      simp [hj, this]
    · rw [Nat.testBit_lt_two_pow (Nat.lt_of_lt_of_le hn (Nat.pow_le_pow_right (by decide) (by omega : 36 ≤ j)))]
      simp
  unfold bAndNot
  rw [show IntKind.u64.bits = 64 from rfl, e]
  exact wrap_u64 _ h
theorem c_toggled (n m : Nat) (hn : n < 2 ^ 36) (hm : m < 2 ^ 36) (K : Cont) (h0 : K (U (n ^^^ m : Nat)) []) : ACall Try.prog W0 129 [U n, U m] [] K := by
  refine by129 (Nat.le_of_ble_eq_true rfl) ?_
  repeat' ((conv => whnf); first
    | (refine And.intro rfl ?_)
    | (refine And.intro (by decide +kernel) ?_)
    | (refine And.intro trivial ?_)
    | (refine Exists.intro _ (And.intro rfl (And.intro rfl (And.intro (Nat.le_of_ble_eq_true rfl) ?_))))
    | (refine Exists.intro _ (And.intro rfl (And.intro rfl (And.intro rfl (And.intro (Nat.le_of_ble_eq_true rfl) ?_)))))
    | (refine And.intro (Exists.intro _ (And.intro rfl rfl)) ?_)
    | (exact fun hW => absurd hW (by decide +kernel))
    | (intro hW; (try simp only [Bool.not_true, Bool.not_false, Bool.not_eq_true', Bool.not_eq_false', decide_eq_true_eq, decide_eq_false_iff_not, reduceCtorEq, Bool.true_eq_false, Bool.false_eq_true, mk_size, List.size_toArray, ByteArray.size_append, ByteArray.size_extract, List.length_cons, List.length_nil, ba_get, ba_empty, Int.toNat_natCast] at hW))
    | (refine And.intro (?_ : _ → _) (?_ : _ → _))
    | (refine FinR.drop 0 (Nat.zero_le _) (Closed.zero _) rfl ?_)
    | (refine FinR.keep ?_)
    | (refine And.intro (det3_agg rfl) ?_)
    | (refine fL_mk ?_)
    | (refine And.intro (by (try simp only [mk_size, List.size_toArray, ByteArray.size_append, ByteArray.size_extract, List.length_cons, List.length_nil]); omega) ?_)
    | (refine And.intro (by (try simp only [mk_size, List.size_toArray, ByteArray.size_append, ByteArray.size_extract, List.length_cons, List.length_nil, wrap64_eq]); omega) ?_)
    | fail)
  all_goals exact kU h0 (bXorU hn hm)
theorem d_toggled (n m : Nat) (hn : n < 2 ^ 36) (hm : m < 2 ^ 36) (K : Cont) (h0 : K (U (n ^^^ m : Nat)) σ) : ACall Try.prog W0 129 [U n, U m] σ K :=
  ACall.lift rfl (fun _ => rfl) (fun W1 K _ hK => c_toggled n m hn hm K hK) h0
theorem c_inked (n m : Nat) (hn : n < 2 ^ 36) (hm : m < 2 ^ 36) (K : Cont) (h0 : K (U (n ||| m : Nat)) []) : ACall Try.prog W0 130 [U n, U m] [] K := by
  refine by130 (Nat.le_of_ble_eq_true rfl) ?_
  repeat' ((conv => whnf); first
    | (refine And.intro rfl ?_)
    | (refine And.intro (by decide +kernel) ?_)
    | (refine And.intro trivial ?_)
    | (refine Exists.intro _ (And.intro rfl (And.intro rfl (And.intro (Nat.le_of_ble_eq_true rfl) ?_))))
    | (refine Exists.intro _ (And.intro rfl (And.intro rfl (And.intro rfl (And.intro (Nat.le_of_ble_eq_true rfl) ?_)))))
    | (refine And.intro (Exists.intro _ (And.intro rfl rfl)) ?_)
    | (exact fun hW => absurd hW (by decide +kernel))
    | (intro hW; (try simp only [Bool.not_true, Bool.not_false, Bool.not_eq_true', Bool.not_eq_false', decide_eq_true_eq, decide_eq_false_iff_not, reduceCtorEq, Bool.true_eq_false, Bool.false_eq_true, mk_size, List.size_toArray, ByteArray.size_append, ByteArray.size_extract, List.length_cons, List.length_nil, ba_get, ba_empty, Int.toNat_natCast] at hW))
    | (refine And.intro (?_ : _ → _) (?_ : _ → _))
    | (refine FinR.drop 0 (Nat.zero_le _) (Closed.zero _) rfl ?_)
    | (refine FinR.keep ?_)
    | (refine And.intro (det3_agg rfl) ?_)
    | (refine fL_mk ?_)
    | (refine And.intro (by (try simp only [mk_size, List.size_toArray, ByteArray.size_append, ByteArray.size_extract, List.length_cons, List.length_nil]); omega) ?_)
    | (refine And.intro (by (try simp only [mk_size, List.size_toArray, ByteArray.size_append, ByteArray.size_extract, List.length_cons, List.length_nil, wrap64_eq]); omega) ?_)
    | fail)
  all_goals exact kU h0 (bOrU hn hm)
theorem d_inked (n m : Nat) (hn : n < 2 ^ 36) (hm : m < 2 ^ 36) (K : Cont) (h0 : K (U (n ||| m : Nat)) σ) : ACall Try.prog W0 130 [U n, U m] σ K :=
  ACall.lift rfl (fun _ => rfl) (fun W1 K _ hK => c_inked n m hn hm K hK) h0
theorem c_wiped (n m : Nat) (hn : n < 2 ^ 36) (hm : m < 2 ^ 36) (K : Cont) (h0 : K (U (n &&& (fullN ^^^ m) : Nat)) []) : ACall Try.prog W0 131 [U n, U m] [] K := by
  refine by131 (Nat.le_of_ble_eq_true rfl) ?_
  repeat' ((conv => whnf); first
    | (refine And.intro rfl ?_)
    | (refine And.intro (by decide +kernel) ?_)
    | (refine And.intro trivial ?_)
    | (refine Exists.intro _ (And.intro rfl (And.intro rfl (And.intro (Nat.le_of_ble_eq_true rfl) ?_))))
    | (refine Exists.intro _ (And.intro rfl (And.intro rfl (And.intro rfl (And.intro (Nat.le_of_ble_eq_true rfl) ?_)))))
    | (refine And.intro (Exists.intro _ (And.intro rfl rfl)) ?_)
    | (exact fun hW => absurd hW (by decide +kernel))
    | (intro hW; (try simp only [Bool.not_true, Bool.not_false, Bool.not_eq_true', Bool.not_eq_false', decide_eq_true_eq, decide_eq_false_iff_not, reduceCtorEq, Bool.true_eq_false, Bool.false_eq_true, mk_size, List.size_toArray, ByteArray.size_append, ByteArray.size_extract, List.length_cons, List.length_nil, ba_get, ba_empty, Int.toNat_natCast] at hW))
    | (refine And.intro (?_ : _ → _) (?_ : _ → _))
    | (refine FinR.drop 0 (Nat.zero_le _) (Closed.zero _) rfl ?_)
    | (refine FinR.keep ?_)
    | (refine And.intro (det3_agg rfl) ?_)
    | (refine fL_mk ?_)
    | (refine And.intro (by (try simp only [mk_size, List.size_toArray, ByteArray.size_append, ByteArray.size_extract, List.length_cons, List.length_nil]); omega) ?_)
    | (refine And.intro (by (try simp only [mk_size, List.size_toArray, ByteArray.size_append, ByteArray.size_extract, List.length_cons, List.length_nil, wrap64_eq]); omega) ?_)
    | fail)
  all_goals exact kU h0 (bAndNotU hn hm)
theorem d_wiped (n m : Nat) (hn : n < 2 ^ 36) (hm : m < 2 ^ 36) (K : Cont) (h0 : K (U (n &&& (fullN ^^^ m) : Nat)) σ) : ACall Try.prog W0 131 [U n, U m] σ K :=
  ACall.lift rfl (fun _ => rfl) (fun W1 K _ hK => c_wiped n m hn hm K hK) h0
theorem c_twoSetsN (n m : Nat) (hn : n < 2 ^ 36) (hm : m < 2 ^ 36) (K : Cont) (h0 : K (.tup [U n, U m, Bo true]) []) : ACall Try.prog W0 145 [ShN n, ShN m] [] K := by
  refine by145 (Nat.le_of_ble_eq_true rfl) ?_
  repeat' ((conv => whnf); first
    | (refine And.intro rfl ?_)
    | (refine And.intro (by decide +kernel) ?_)
    | (refine And.intro trivial ?_)
    | (refine d_setOfN (n := n) (hn := hn) (h0 := ?_) ..)
    | (refine d_setOfN (n := m) (hn := hm) (h0 := ?_) ..)
    | (refine Exists.intro _ (And.intro rfl (And.intro rfl (And.intro (Nat.le_of_ble_eq_true rfl) ?_))))
    | (refine Exists.intro _ (And.intro rfl (And.intro rfl (And.intro rfl (And.intro (Nat.le_of_ble_eq_true rfl) ?_)))))
    | (refine And.intro (Exists.intro _ (And.intro rfl rfl)) ?_)
    | (exact fun hW => absurd hW (by decide +kernel))
    | (intro hW; (try simp only [Bool.not_true, Bool.not_false, Bool.not_eq_true', Bool.not_eq_false', decide_eq_true_eq, decide_eq_false_iff_not, reduceCtorEq, Bool.true_eq_false, Bool.false_eq_true, mk_size, List.size_toArray, ByteArray.size_append, ByteArray.size_extract, List.length_cons, List.length_nil, ba_get, ba_empty, Int.toNat_natCast] at hW))
    | (refine And.intro (?_ : _ → _) (?_ : _ → _))
    | (refine FinR.drop 0 (Nat.zero_le _) (Closed.zero _) rfl ?_)
    | (refine FinR.keep ?_)
    | (refine And.intro (det3_agg rfl) ?_)
    | (refine fL_mk ?_)
    | (refine And.intro (by (try simp only [mk_size, List.size_toArray, ByteArray.size_append, ByteArray.size_extract, List.length_cons, List.length_nil]); omega) ?_)
    | (refine And.intro (by (try simp only [mk_size, List.size_toArray, ByteArray.size_append, ByteArray.size_extract, List.length_cons, List.length_nil, wrap64_eq]); omega) ?_)
    | fail)
  all_goals exact h0
theorem d_twoSetsN (n m : Nat) (hn : n < 2 ^ 36) (hm : m < 2 ^ 36) (K : Cont) (h0 : K (.tup [U n, U m, Bo true]) σ) : ACall Try.prog W0 145 [ShN n, ShN m] σ K :=
  ACall.lift rfl (fun _ => rfl) (fun W1 K _ hK => c_twoSetsN n m hn hm K hK) h0
theorem c_pressF (n m : Nat) (hn : n < 2 ^ 36) (hm : m < 2 ^ 36) (x y : Int) (hc : cellB x y = false) (f : AV) (K : Cont) (h0 : K (.tup [Sh0, Bo false]) []) : ACall Try.prog W0 128 [ShN n, ShN m, Ce x y, f] [] K := by
  refine by128 (Nat.le_of_ble_eq_true rfl) ?_
  repeat' ((conv => whnf); first
    | (refine And.intro rfl ?_)
    | (refine And.intro (by decide +kernel) ?_)
    | (refine And.intro trivial ?_)
    | (refine d_twoSetsN (hn := hn) (hm := hm) (h0 := ?_) ..)
    | (refine d_isCell (h0 := ?_) ..)
    | (refine Exists.intro _ (And.intro (fun τ => callW_fn (d_isCell (h0 := And.intro rfl rfl) ..)) ?_))
    | (refine Exists.intro _ (And.intro (callW_fn (d_isCell (h0 := And.intro rfl rfl) ..)) (And.intro trivial ?_)))
    | (refine Exists.intro _ (And.intro (callW_fn (d_isCell (h0 := And.intro rfl rfl) ..)) ?_))
    | (refine Exists.intro _ (And.intro (fun τ _ => callW_fn (d_isCell (h0 := And.intro rfl rfl) ..)) ?_))
    | (refine Exists.intro _ (And.intro rfl (And.intro rfl (And.intro (Nat.le_of_ble_eq_true rfl) ?_))))
    | (refine Exists.intro _ (And.intro rfl (And.intro rfl (And.intro rfl (And.intro (Nat.le_of_ble_eq_true rfl) ?_)))))
    | (refine And.intro (Exists.intro _ (And.intro rfl rfl)) ?_)
    | (exact fun hW => absurd hW (by decide +kernel))
    | (intro hW; (try simp only [Bool.not_true, Bool.not_false, Bool.not_eq_true', Bool.not_eq_false', decide_eq_true_eq, decide_eq_false_iff_not, reduceCtorEq, Bool.true_eq_false, Bool.false_eq_true, mk_size, List.size_toArray, ByteArray.size_append, ByteArray.size_extract, List.length_cons, List.length_nil, ba_get, ba_empty, Int.toNat_natCast] at hW))
    | (refine And.intro (?_ : _ → _) (?_ : _ → _))
    | (refine FinR.drop 0 (Nat.zero_le _) (Closed.zero _) rfl ?_)
    | (refine FinR.keep ?_)
    | (refine And.intro (det3_agg rfl) ?_)
    | (refine fL_mk ?_)
    | (refine And.intro (by (try simp only [mk_size, List.size_toArray, ByteArray.size_append, ByteArray.size_extract, List.length_cons, List.length_nil]); omega) ?_)
    | (refine And.intro (by (try simp only [mk_size, List.size_toArray, ByteArray.size_append, ByteArray.size_extract, List.length_cons, List.length_nil, wrap64_eq]); omega) ?_)
    | fail)
  all_goals first | exact h0 | (exfalso; simp_all; done)
theorem d_pressF (n m : Nat) (hn : n < 2 ^ 36) (hm : m < 2 ^ 36) (x y : Int) (hc : cellB x y = false) (g : FuncId) (K : Cont) (h0 : K (.tup [Sh0, Bo false]) σ) : ACall Try.prog W0 128 [ShN n, ShN m, Ce x y, .lit (.func (.func g) #[] #[])] σ K :=
  ACall.lift rfl (fun _ => rfl) (fun W1 K _ hK => c_pressF n m hn hm x y hc _ K hK) h0
theorem c_pressTog (n m : Nat) (hn : n < 2 ^ 36) (hm : m < 2 ^ 36) (x y : Nat) (hx : x < 6) (hy : y < 6) (K : Cont) (h0 : K (.tup [ShN (n ^^^ prN m x y), Bo true]) []) : ACall Try.prog W0 128 [ShN n, ShN m, Ce x y, .lit (.func (.func 129) #[] #[])] [] K := by
  refine by128 (Nat.le_of_ble_eq_true rfl) ?_
  have hc : cellB x y = true := cellB_iff.2 (by omega)
  have e1 : (y * 6 + x) % 6 = x := by omega
  have e2 : (y * 6 + x) / 6 = y := by omega
  have hp := prN_lt (m := m) hx hy
  have hp' : mvN (shG ((y * 6 + x) % 6) ((y * 6 + x) / 6)) m 36 < 2 ^ 36 := by rw [e1, e2]; exact hp
  repeat' ((conv => whnf); first
    | (refine And.intro rfl ?_)
    | (refine And.intro (by decide +kernel) ?_)
    | (refine And.intro trivial ?_)
    | (refine d_twoSetsN (hn := hn) (hm := hm) (h0 := ?_) ..)
    | (refine d_isCell (h0 := ?_) ..)
    | (refine Exists.intro _ (And.intro (fun τ => callW_fn (d_isCell (h0 := And.intro rfl rfl) ..)) ?_))
    | (refine Exists.intro _ (And.intro (callW_fn (d_isCell (h0 := And.intro rfl rfl) ..)) (And.intro trivial ?_)))
    | (refine Exists.intro _ (And.intro (callW_fn (d_isCell (h0 := And.intro rfl rfl) ..)) ?_))
    | (refine Exists.intro _ (And.intro (fun τ _ => callW_fn (d_isCell (h0 := And.intro rfl rfl) ..)) ?_))
    | (refine d_number (hx := by omega) (hy := by omega) (h0 := ?_) ..)
    | (refine d_pressed (hn := hm) (hk := by omega) (h0 := ?_) ..)
    | (refine d_toggled (hn := hn) (hm := hp') (h0 := ?_) ..)
    | (refine d_sheet (hn := Nat.lt_trans (Nat.xor_lt_two_pow hn hp') (by decide)) (h0 := ?_) ..)
    | (refine Exists.intro _ (And.intro rfl (And.intro rfl (And.intro (Nat.le_of_ble_eq_true rfl) ?_))))
    | (refine Exists.intro _ (And.intro rfl (And.intro rfl (And.intro rfl (And.intro (Nat.le_of_ble_eq_true rfl) ?_)))))
    | (refine And.intro (Exists.intro _ (And.intro rfl rfl)) ?_)
    | (exact fun hW => absurd hW (by decide +kernel))
    | (intro hW; (try simp only [Bool.not_true, Bool.not_false, Bool.not_eq_true', Bool.not_eq_false', decide_eq_true_eq, decide_eq_false_iff_not, reduceCtorEq, Bool.true_eq_false, Bool.false_eq_true, mk_size, List.size_toArray, ByteArray.size_append, ByteArray.size_extract, List.length_cons, List.length_nil, ba_get, ba_empty, Int.toNat_natCast] at hW))
    | (refine And.intro (?_ : _ → _) (?_ : _ → _))
    | (refine FinR.drop 0 (Nat.zero_le _) (Closed.zero _) rfl ?_)
    | (refine FinR.keep ?_)
    | (refine And.intro (det3_agg rfl) ?_)
    | (refine fL_mk ?_)
    | (refine And.intro (by (try simp only [mk_size, List.size_toArray, ByteArray.size_append, ByteArray.size_extract, List.length_cons, List.length_nil]); omega) ?_)
    | (refine And.intro (by (try simp only [mk_size, List.size_toArray, ByteArray.size_append, ByteArray.size_extract, List.length_cons, List.length_nil, wrap64_eq]); omega) ?_)
    | fail)
  all_goals first | (exfalso; simp_all; done) | (rw [e1, e2]; exact h0)
theorem d_pressTog (n m : Nat) (hn : n < 2 ^ 36) (hm : m < 2 ^ 36) (x y : Nat) (hx : x < 6) (hy : y < 6) (K : Cont) (h0 : K (.tup [ShN (n ^^^ prN m x y), Bo true]) σ) : ACall Try.prog W0 128 [ShN n, ShN m, Ce x y, .lit (.func (.func 129) #[] #[])] σ K :=
  ACall.lift rfl (fun _ => rfl) (fun W1 K _ hK => c_pressTog n m hn hm x y hx hy K hK) h0
theorem c_pressInk (n m : Nat) (hn : n < 2 ^ 36) (hm : m < 2 ^ 36) (x y : Nat) (hx : x < 6) (hy : y < 6) (K : Cont) (h0 : K (.tup [ShN (n ||| prN m x y), Bo true]) []) : ACall Try.prog W0 128 [ShN n, ShN m, Ce x y, .lit (.func (.func 130) #[] #[])] [] K := by
  refine by128 (Nat.le_of_ble_eq_true rfl) ?_
  have hc : cellB x y = true := cellB_iff.2 (by omega)
  have e1 : (y * 6 + x) % 6 = x := by omega
  have e2 : (y * 6 + x) / 6 = y := by omega
  have hp := prN_lt (m := m) hx hy
  have hp' : mvN (shG ((y * 6 + x) % 6) ((y * 6 + x) / 6)) m 36 < 2 ^ 36 := by rw [e1, e2]; exact hp
  repeat' ((conv => whnf); first
    | (refine And.intro rfl ?_)
    | (refine And.intro (by decide +kernel) ?_)
    | (refine And.intro trivial ?_)
    | (refine d_twoSetsN (hn := hn) (hm := hm) (h0 := ?_) ..)
    | (refine d_isCell (h0 := ?_) ..)
    | (refine Exists.intro _ (And.intro (fun τ => callW_fn (d_isCell (h0 := And.intro rfl rfl) ..)) ?_))
    | (refine Exists.intro _ (And.intro (callW_fn (d_isCell (h0 := And.intro rfl rfl) ..)) (And.intro trivial ?_)))
    | (refine Exists.intro _ (And.intro (callW_fn (d_isCell (h0 := And.intro rfl rfl) ..)) ?_))
    | (refine Exists.intro _ (And.intro (fun τ _ => callW_fn (d_isCell (h0 := And.intro rfl rfl) ..)) ?_))
    | (refine d_number (hx := by omega) (hy := by omega) (h0 := ?_) ..)
    | (refine d_pressed (hn := hm) (hk := by omega) (h0 := ?_) ..)
    | (refine d_inked (hn := hn) (hm := hp') (h0 := ?_) ..)
    | (refine d_sheet (hn := Nat.lt_trans (Nat.or_lt_two_pow hn hp') (by decide)) (h0 := ?_) ..)
    | (refine Exists.intro _ (And.intro rfl (And.intro rfl (And.intro (Nat.le_of_ble_eq_true rfl) ?_))))
    | (refine Exists.intro _ (And.intro rfl (And.intro rfl (And.intro rfl (And.intro (Nat.le_of_ble_eq_true rfl) ?_)))))
    | (refine And.intro (Exists.intro _ (And.intro rfl rfl)) ?_)
    | (exact fun hW => absurd hW (by decide +kernel))
    | (intro hW; (try simp only [Bool.not_true, Bool.not_false, Bool.not_eq_true', Bool.not_eq_false', decide_eq_true_eq, decide_eq_false_iff_not, reduceCtorEq, Bool.true_eq_false, Bool.false_eq_true, mk_size, List.size_toArray, ByteArray.size_append, ByteArray.size_extract, List.length_cons, List.length_nil, ba_get, ba_empty, Int.toNat_natCast] at hW))
    | (refine And.intro (?_ : _ → _) (?_ : _ → _))
    | (refine FinR.drop 0 (Nat.zero_le _) (Closed.zero _) rfl ?_)
    | (refine FinR.keep ?_)
    | (refine And.intro (det3_agg rfl) ?_)
    | (refine fL_mk ?_)
    | (refine And.intro (by (try simp only [mk_size, List.size_toArray, ByteArray.size_append, ByteArray.size_extract, List.length_cons, List.length_nil]); omega) ?_)
    | (refine And.intro (by (try simp only [mk_size, List.size_toArray, ByteArray.size_append, ByteArray.size_extract, List.length_cons, List.length_nil, wrap64_eq]); omega) ?_)
    | fail)
  all_goals first | (exfalso; simp_all; done) | (rw [e1, e2]; exact h0)
theorem d_pressInk (n m : Nat) (hn : n < 2 ^ 36) (hm : m < 2 ^ 36) (x y : Nat) (hx : x < 6) (hy : y < 6) (K : Cont) (h0 : K (.tup [ShN (n ||| prN m x y), Bo true]) σ) : ACall Try.prog W0 128 [ShN n, ShN m, Ce x y, .lit (.func (.func 130) #[] #[])] σ K :=
  ACall.lift rfl (fun _ => rfl) (fun W1 K _ hK => c_pressInk n m hn hm x y hx hy K hK) h0
theorem c_pressWipe (n m : Nat) (hn : n < 2 ^ 36) (hm : m < 2 ^ 36) (x y : Nat) (hx : x < 6) (hy : y < 6) (K : Cont) (h0 : K (.tup [ShN (n &&& (fullN ^^^ prN m x y)), Bo true]) []) : ACall Try.prog W0 128 [ShN n, ShN m, Ce x y, .lit (.func (.func 131) #[] #[])] [] K := by
  refine by128 (Nat.le_of_ble_eq_true rfl) ?_
  have hc : cellB x y = true := cellB_iff.2 (by omega)
  have e1 : (y * 6 + x) % 6 = x := by omega
  have e2 : (y * 6 + x) / 6 = y := by omega
  have hp := prN_lt (m := m) hx hy
  have hp' : mvN (shG ((y * 6 + x) % 6) ((y * 6 + x) / 6)) m 36 < 2 ^ 36 := by rw [e1, e2]; exact hp
  repeat' ((conv => whnf); first
    | (refine And.intro rfl ?_)
    | (refine And.intro (by decide +kernel) ?_)
    | (refine And.intro trivial ?_)
    | (refine d_twoSetsN (hn := hn) (hm := hm) (h0 := ?_) ..)
    | (refine d_isCell (h0 := ?_) ..)
    | (refine Exists.intro _ (And.intro (fun τ => callW_fn (d_isCell (h0 := And.intro rfl rfl) ..)) ?_))
    | (refine Exists.intro _ (And.intro (callW_fn (d_isCell (h0 := And.intro rfl rfl) ..)) (And.intro trivial ?_)))
    | (refine Exists.intro _ (And.intro (callW_fn (d_isCell (h0 := And.intro rfl rfl) ..)) ?_))
    | (refine Exists.intro _ (And.intro (fun τ _ => callW_fn (d_isCell (h0 := And.intro rfl rfl) ..)) ?_))
    | (refine d_number (hx := by omega) (hy := by omega) (h0 := ?_) ..)
    | (refine d_pressed (hn := hm) (hk := by omega) (h0 := ?_) ..)
    | (refine d_wiped (hn := hn) (hm := hp') (h0 := ?_) ..)
    | (refine d_sheet (hn := Nat.lt_trans (Nat.lt_of_le_of_lt Nat.and_le_left hn) (by decide)) (h0 := ?_) ..)
    | (refine Exists.intro _ (And.intro rfl (And.intro rfl (And.intro (Nat.le_of_ble_eq_true rfl) ?_))))
    | (refine Exists.intro _ (And.intro rfl (And.intro rfl (And.intro rfl (And.intro (Nat.le_of_ble_eq_true rfl) ?_)))))
    | (refine And.intro (Exists.intro _ (And.intro rfl rfl)) ?_)
    | (exact fun hW => absurd hW (by decide +kernel))
    | (intro hW; (try simp only [Bool.not_true, Bool.not_false, Bool.not_eq_true', Bool.not_eq_false', decide_eq_true_eq, decide_eq_false_iff_not, reduceCtorEq, Bool.true_eq_false, Bool.false_eq_true, mk_size, List.size_toArray, ByteArray.size_append, ByteArray.size_extract, List.length_cons, List.length_nil, ba_get, ba_empty, Int.toNat_natCast] at hW))
    | (refine And.intro (?_ : _ → _) (?_ : _ → _))
    | (refine FinR.drop 0 (Nat.zero_le _) (Closed.zero _) rfl ?_)
    | (refine FinR.keep ?_)
    | (refine And.intro (det3_agg rfl) ?_)
    | (refine fL_mk ?_)
    | (refine And.intro (by (try simp only [mk_size, List.size_toArray, ByteArray.size_append, ByteArray.size_extract, List.length_cons, List.length_nil]); omega) ?_)
    | (refine And.intro (by (try simp only [mk_size, List.size_toArray, ByteArray.size_append, ByteArray.size_extract, List.length_cons, List.length_nil, wrap64_eq]); omega) ?_)
    | fail)
  all_goals first | (exfalso; simp_all; done) | (rw [e1, e2]; exact h0)
theorem d_pressWipe (n m : Nat) (hn : n < 2 ^ 36) (hm : m < 2 ^ 36) (x y : Nat) (hx : x < 6) (hy : y < 6) (K : Cont) (h0 : K (.tup [ShN (n &&& (fullN ^^^ prN m x y)), Bo true]) σ) : ACall Try.prog W0 128 [ShN n, ShN m, Ce x y, .lit (.func (.func 131) #[] #[])] σ K :=
  ACall.lift rfl (fun _ => rfl) (fun W1 K _ hK => c_pressWipe n m hn hm x y hx hy K hK) h0
theorem c_ToggleT (n m : Nat) (hn : n < 2 ^ 36) (hm : m < 2 ^ 36) (x y : Nat) (hx : x < 6) (hy : y < 6) (K : Cont) (h0 : K (.tup [ShN (n ^^^ prN m x y), Bo true]) []) : ACall Try.prog W0 110 [ShN n, ShN m, Ce x y] [] K := by
  refine by110 (Nat.le_of_ble_eq_true rfl) ?_
  repeat' ((conv => whnf); first
    | (refine And.intro rfl ?_)
    | (refine And.intro (by decide +kernel) ?_)
    | (refine And.intro trivial ?_)
    | (refine d_pressTog (hn := hn) (hm := hm) (hx := hx) (hy := hy) (h0 := ?_) ..)
    | (refine Exists.intro _ (And.intro rfl (And.intro rfl (And.intro (Nat.le_of_ble_eq_true rfl) ?_))))
    | (refine Exists.intro _ (And.intro rfl (And.intro rfl (And.intro rfl (And.intro (Nat.le_of_ble_eq_true rfl) ?_)))))
    | (refine And.intro (Exists.intro _ (And.intro rfl rfl)) ?_)
    | (exact fun hW => absurd hW (by decide +kernel))
    | (intro hW; (try simp only [Bool.not_true, Bool.not_false, Bool.not_eq_true', Bool.not_eq_false', decide_eq_true_eq, decide_eq_false_iff_not, reduceCtorEq, Bool.true_eq_false, Bool.false_eq_true, mk_size, List.size_toArray, ByteArray.size_append, ByteArray.size_extract, List.length_cons, List.length_nil, ba_get, ba_empty, Int.toNat_natCast] at hW))
    | (refine And.intro (?_ : _ → _) (?_ : _ → _))
    | (refine FinR.drop 0 (Nat.zero_le _) (Closed.zero _) rfl ?_)
    | (refine FinR.keep ?_)
    | (refine And.intro (det3_agg rfl) ?_)
    | (refine fL_mk ?_)
    | (refine And.intro (by (try simp only [mk_size, List.size_toArray, ByteArray.size_append, ByteArray.size_extract, List.length_cons, List.length_nil]); omega) ?_)
    | (refine And.intro (by (try simp only [mk_size, List.size_toArray, ByteArray.size_append, ByteArray.size_extract, List.length_cons, List.length_nil, wrap64_eq]); omega) ?_)
    | fail)
  all_goals exact h0
theorem d_ToggleT (n m : Nat) (hn : n < 2 ^ 36) (hm : m < 2 ^ 36) (x y : Nat) (hx : x < 6) (hy : y < 6) (K : Cont) (h0 : K (.tup [ShN (n ^^^ prN m x y), Bo true]) σ) : ACall Try.prog W0 110 [ShN n, ShN m, Ce x y] σ K :=
  ACall.lift rfl (fun _ => rfl) (fun W1 K _ hK => c_ToggleT n m hn hm x y hx hy K hK) h0
theorem c_ToggleF (n m : Nat) (hn : n < 2 ^ 36) (hm : m < 2 ^ 36) (x y : Int) (hc : cellB x y = false) (K : Cont) (h0 : K (.tup [Sh0, Bo false]) []) : ACall Try.prog W0 110 [ShN n, ShN m, Ce x y] [] K := by
  refine by110 (Nat.le_of_ble_eq_true rfl) ?_
  repeat' ((conv => whnf); first
    | (refine And.intro rfl ?_)
    | (refine And.intro (by decide +kernel) ?_)
    | (refine And.intro trivial ?_)
    | (refine d_pressF (hn := hn) (hm := hm) (hc := hc) (h0 := ?_) ..)
    | (refine Exists.intro _ (And.intro rfl (And.intro rfl (And.intro (Nat.le_of_ble_eq_true rfl) ?_))))
    | (refine Exists.intro _ (And.intro rfl (And.intro rfl (And.intro rfl (And.intro (Nat.le_of_ble_eq_true rfl) ?_)))))
    | (refine And.intro (Exists.intro _ (And.intro rfl rfl)) ?_)
    | (exact fun hW => absurd hW (by decide +kernel))
    | (intro hW; (try simp only [Bool.not_true, Bool.not_false, Bool.not_eq_true', Bool.not_eq_false', decide_eq_true_eq, decide_eq_false_iff_not, reduceCtorEq, Bool.true_eq_false, Bool.false_eq_true, mk_size, List.size_toArray, ByteArray.size_append, ByteArray.size_extract, List.length_cons, List.length_nil, ba_get, ba_empty, Int.toNat_natCast] at hW))
    | (refine And.intro (?_ : _ → _) (?_ : _ → _))
    | (refine FinR.drop 0 (Nat.zero_le _) (Closed.zero _) rfl ?_)
    | (refine FinR.keep ?_)
    | (refine And.intro (det3_agg rfl) ?_)
    | (refine fL_mk ?_)
    | (refine And.intro (by (try simp only [mk_size, List.size_toArray, ByteArray.size_append, ByteArray.size_extract, List.length_cons, List.length_nil]); omega) ?_)
    | (refine And.intro (by (try simp only [mk_size, List.size_toArray, ByteArray.size_append, ByteArray.size_extract, List.length_cons, List.length_nil, wrap64_eq]); omega) ?_)
    | fail)
  all_goals exact h0
theorem d_ToggleF (n m : Nat) (hn : n < 2 ^ 36) (hm : m < 2 ^ 36) (x y : Int) (hc : cellB x y = false) (K : Cont) (h0 : K (.tup [Sh0, Bo false]) σ) : ACall Try.prog W0 110 [ShN n, ShN m, Ce x y] σ K :=
  ACall.lift rfl (fun _ => rfl) (fun W1 K _ hK => c_ToggleF n m hn hm x y hc K hK) h0
theorem c_InkT (n m : Nat) (hn : n < 2 ^ 36) (hm : m < 2 ^ 36) (x y : Nat) (hx : x < 6) (hy : y < 6) (K : Cont) (h0 : K (.tup [ShN (n ||| prN m x y), Bo true]) []) : ACall Try.prog W0 111 [ShN n, ShN m, Ce x y] [] K := by
  refine by111 (Nat.le_of_ble_eq_true rfl) ?_
  repeat' ((conv => whnf); first
    | (refine And.intro rfl ?_)
    | (refine And.intro (by decide +kernel) ?_)
    | (refine And.intro trivial ?_)
    | (refine d_pressInk (hn := hn) (hm := hm) (hx := hx) (hy := hy) (h0 := ?_) ..)
    | (refine Exists.intro _ (And.intro rfl (And.intro rfl (And.intro (Nat.le_of_ble_eq_true rfl) ?_))))
    | (refine Exists.intro _ (And.intro rfl (And.intro rfl (And.intro rfl (And.intro (Nat.le_of_ble_eq_true rfl) ?_)))))
    | (refine And.intro (Exists.intro _ (And.intro rfl rfl)) ?_)
    | (exact fun hW => absurd hW (by decide +kernel))
    | (intro hW; (try simp only [Bool.not_true, Bool.not_false, Bool.not_eq_true', Bool.not_eq_false', decide_eq_true_eq, decide_eq_false_iff_not, reduceCtorEq, Bool.true_eq_false, Bool.false_eq_true, mk_size, List.size_toArray, ByteArray.size_append, ByteArray.size_extract, List.length_cons, List.length_nil, ba_get, ba_empty, Int.toNat_natCast] at hW))
    | (refine And.intro (?_ : _ → _) (?_ : _ → _))
    | (refine FinR.drop 0 (Nat.zero_le _) (Closed.zero _) rfl ?_)
    | (refine FinR.keep ?_)
    | (refine And.intro (det3_agg rfl) ?_)
    | (refine fL_mk ?_)
    | (refine And.intro (by (try simp only [mk_size, List.size_toArray, ByteArray.size_append, ByteArray.size_extract, List.length_cons, List.length_nil]); omega) ?_)
    | (refine And.intro (by (try simp only [mk_size, List.size_toArray, ByteArray.size_append, ByteArray.size_extract, List.length_cons, List.length_nil, wrap64_eq]); omega) ?_)
    | fail)
  all_goals exact h0
theorem d_InkT (n m : Nat) (hn : n < 2 ^ 36) (hm : m < 2 ^ 36) (x y : Nat) (hx : x < 6) (hy : y < 6) (K : Cont) (h0 : K (.tup [ShN (n ||| prN m x y), Bo true]) σ) : ACall Try.prog W0 111 [ShN n, ShN m, Ce x y] σ K :=
  ACall.lift rfl (fun _ => rfl) (fun W1 K _ hK => c_InkT n m hn hm x y hx hy K hK) h0
theorem c_InkF (n m : Nat) (hn : n < 2 ^ 36) (hm : m < 2 ^ 36) (x y : Int) (hc : cellB x y = false) (K : Cont) (h0 : K (.tup [Sh0, Bo false]) []) : ACall Try.prog W0 111 [ShN n, ShN m, Ce x y] [] K := by
  refine by111 (Nat.le_of_ble_eq_true rfl) ?_
  repeat' ((conv => whnf); first
    | (refine And.intro rfl ?_)
    | (refine And.intro (by decide +kernel) ?_)
    | (refine And.intro trivial ?_)
    | (refine d_pressF (hn := hn) (hm := hm) (hc := hc) (h0 := ?_) ..)
    | (refine Exists.intro _ (And.intro rfl (And.intro rfl (And.intro (Nat.le_of_ble_eq_true rfl) ?_))))
    | (refine Exists.intro _ (And.intro rfl (And.intro rfl (And.intro rfl (And.intro (Nat.le_of_ble_eq_true rfl) ?_)))))
    | (refine And.intro (Exists.intro _ (And.intro rfl rfl)) ?_)
    | (exact fun hW => absurd hW (by decide +kernel))
    | (intro hW; (try simp only [Bool.not_true, Bool.not_false, Bool.not_eq_true', Bool.not_eq_false', decide_eq_true_eq, decide_eq_false_iff_not, reduceCtorEq, Bool.true_eq_false, Bool.false_eq_true, mk_size, List.size_toArray, ByteArray.size_append, ByteArray.size_extract, List.length_cons, List.length_nil, ba_get, ba_empty, Int.toNat_natCast] at hW))
    | (refine And.intro (?_ : _ → _) (?_ : _ → _))
    | (refine FinR.drop 0 (Nat.zero_le _) (Closed.zero _) rfl ?_)
    | (refine FinR.keep ?_)
    | (refine And.intro (det3_agg rfl) ?_)
    | (refine fL_mk ?_)
    | (refine And.intro (by (try simp only [mk_size, List.size_toArray, ByteArray.size_append, ByteArray.size_extract, List.length_cons, List.length_nil]); omega) ?_)
    | (refine And.intro (by (try simp only [mk_size, List.size_toArray, ByteArray.size_append, ByteArray.size_extract, List.length_cons, List.length_nil, wrap64_eq]); omega) ?_)
    | fail)
  all_goals exact h0
theorem d_InkF (n m : Nat) (hn : n < 2 ^ 36) (hm : m < 2 ^ 36) (x y : Int) (hc : cellB x y = false) (K : Cont) (h0 : K (.tup [Sh0, Bo false]) σ) : ACall Try.prog W0 111 [ShN n, ShN m, Ce x y] σ K :=
  ACall.lift rfl (fun _ => rfl) (fun W1 K _ hK => c_InkF n m hn hm x y hc K hK) h0
theorem c_WipeT (n m : Nat) (hn : n < 2 ^ 36) (hm : m < 2 ^ 36) (x y : Nat) (hx : x < 6) (hy : y < 6) (K : Cont) (h0 : K (.tup [ShN (n &&& (fullN ^^^ prN m x y)), Bo true]) []) : ACall Try.prog W0 112 [ShN n, ShN m, Ce x y] [] K := by
  refine by112 (Nat.le_of_ble_eq_true rfl) ?_
  repeat' ((conv => whnf); first
    | (refine And.intro rfl ?_)
    | (refine And.intro (by decide +kernel) ?_)
    | (refine And.intro trivial ?_)
    | (refine d_pressWipe (hn := hn) (hm := hm) (hx := hx) (hy := hy) (h0 := ?_) ..)
    | (refine Exists.intro _ (And.intro rfl (And.intro rfl (And.intro (Nat.le_of_ble_eq_true rfl) ?_))))
    | (refine Exists.intro _ (And.intro rfl (And.intro rfl (And.intro rfl (And.intro (Nat.le_of_ble_eq_true rfl) ?_)))))
    | (refine And.intro (Exists.intro _ (And.intro rfl rfl)) ?_)
    | (exact fun hW => absurd hW (by decide +kernel))
    | (intro hW; (try simp only [Bool.not_true, Bool.not_false, Bool.not_eq_true', Bool.not_eq_false', decide_eq_true_eq, decide_eq_false_iff_not, reduceCtorEq, Bool.true_eq_false, Bool.false_eq_true, mk_size, List.size_toArray, ByteArray.size_append, ByteArray.size_extract, List.length_cons, List.length_nil, ba_get, ba_empty, Int.toNat_natCast] at hW))
    | (refine And.intro (?_ : _ → _) (?_ : _ → _))
    | (refine FinR.drop 0 (Nat.zero_le _) (Closed.zero _) rfl ?_)
    | (refine FinR.keep ?_)
    | (refine And.intro (det3_agg rfl) ?_)
    | (refine fL_mk ?_)
    | (refine And.intro (by (try simp only [mk_size, List.size_toArray, ByteArray.size_append, ByteArray.size_extract, List.length_cons, List.length_nil]); omega) ?_)
    | (refine And.intro (by (try simp only [mk_size, List.size_toArray, ByteArray.size_append, ByteArray.size_extract, List.length_cons, List.length_nil, wrap64_eq]); omega) ?_)
    | fail)
  all_goals exact h0
theorem d_WipeT (n m : Nat) (hn : n < 2 ^ 36) (hm : m < 2 ^ 36) (x y : Nat) (hx : x < 6) (hy : y < 6) (K : Cont) (h0 : K (.tup [ShN (n &&& (fullN ^^^ prN m x y)), Bo true]) σ) : ACall Try.prog W0 112 [ShN n, ShN m, Ce x y] σ K :=
  ACall.lift rfl (fun _ => rfl) (fun W1 K _ hK => c_WipeT n m hn hm x y hx hy K hK) h0
theorem c_WipeF (n m : Nat) (hn : n < 2 ^ 36) (hm : m < 2 ^ 36) (x y : Int) (hc : cellB x y = false) (K : Cont) (h0 : K (.tup [Sh0, Bo false]) []) : ACall Try.prog W0 112 [ShN n, ShN m, Ce x y] [] K := by
  refine by112 (Nat.le_of_ble_eq_true rfl) ?_
  repeat' ((conv => whnf); first
    | (refine And.intro rfl ?_)
    | (refine And.intro (by decide +kernel) ?_)
    | (refine And.intro trivial ?_)
    | (refine d_pressF (hn := hn) (hm := hm) (hc := hc) (h0 := ?_) ..)
    | (refine Exists.intro _ (And.intro rfl (And.intro rfl (And.intro (Nat.le_of_ble_eq_true rfl) ?_))))
    | (refine Exists.intro _ (And.intro rfl (And.intro rfl (And.intro rfl (And.intro (Nat.le_of_ble_eq_true rfl) ?_)))))
    | (refine And.intro (Exists.intro _ (And.intro rfl rfl)) ?_)
    | (exact fun hW => absurd hW (by decide +kernel))
    | (intro hW; (try simp only [Bool.not_true, Bool.not_false, Bool.not_eq_true', Bool.not_eq_false', decide_eq_true_eq, decide_eq_false_iff_not, reduceCtorEq, Bool.true_eq_false, Bool.false_eq_true, mk_size, List.size_toArray, ByteArray.size_append, ByteArray.size_extract, List.length_cons, List.length_nil, ba_get, ba_empty, Int.toNat_natCast] at hW))
    | (refine And.intro (?_ : _ → _) (?_ : _ → _))
    | (refine FinR.drop 0 (Nat.zero_le _) (Closed.zero _) rfl ?_)
    | (refine FinR.keep ?_)
    | (refine And.intro (det3_agg rfl) ?_)
    | (refine fL_mk ?_)
    | (refine And.intro (by (try simp only [mk_size, List.size_toArray, ByteArray.size_append, ByteArray.size_extract, List.length_cons, List.length_nil]); omega) ?_)
    | (refine And.intro (by (try simp only [mk_size, List.size_toArray, ByteArray.size_append, ByteArray.size_extract, List.length_cons, List.length_nil, wrap64_eq]); omega) ?_)
    | fail)
  all_goals exact h0
theorem d_WipeF (n m : Nat) (hn : n < 2 ^ 36) (hm : m < 2 ^ 36) (x y : Int) (hc : cellB x y = false) (K : Cont) (h0 : K (.tup [Sh0, Bo false]) σ) : ACall Try.prog W0 112 [ShN n, ShN m, Ce x y] σ K :=
  ACall.lift rfl (fun _ => rfl) (fun W1 K _ hK => c_WipeF n m hn hm x y hc K hK) h0
end Go.Proofs.Ythncpkdhcfaflaa
