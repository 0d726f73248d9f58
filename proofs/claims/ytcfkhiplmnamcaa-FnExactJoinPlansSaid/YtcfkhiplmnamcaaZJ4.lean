import Derived.Test.YtcfkhiplmnamcaaZJ3
section
/- Contracts: sets that move; sheets by their sets. -/
set_option linter.unusedVariables false
set_option linter.unusedSimpArgs false
set_option maxRecDepth 100000
set_option maxHeartbeats 4000000
namespace Go.Proofs.Ytcfkhiplmnamcaa
open Go Go.RowKit Go.Proofs.Ytcfkhiplmnamcaa.Abs
variable {W0 : World} {σ : List Blk}
theorem kB' {K : Cont} {σ : List Blk} {x y : Bool} (h : K (Bo x) σ) (e : y = x) : K (Bo y) σ := e ▸ h
theorem kI' {K : Cont} {σ : List Blk} {x y : Int} (h : K (I x) σ) (e : y = x) : K (I y) σ := e ▸ h
theorem kT2 {K : Cont} {σ : List Blk} {x y x' y' : Int} (h : K (.tup [I x, I y]) σ) (e : x' = x) (e' : y' = y) : K (.tup [I x', I y']) σ := e ▸ e' ▸ h
theorem has_eq (n k : Nat) (hn : n < 18446744073709551616) (hk : k ≤ 64) : decide (bAnd .u64 (shR .u64 (n : Nat) (k : Nat)) 1 = 1) = n.testBit k := by
  rw [shR_u64 n k hk, show (1 : Int) = ((1 : Nat) : Int) from rfl, bAnd_u64 _ _ (Nat.lt_of_le_of_lt (by rw [Nat.shiftRight_eq_div_pow]; exact Nat.div_le_self _ _) hn) (by decide), Bool.eq_iff_iff, decide_eq_true_iff, Nat.testBit, bne_iff_ne, Nat.and_comm]
  have h := Nat.and_one_is_mod (n >>> k)
  rw [Nat.and_comm] at h
  rw [h]; omega
theorem c_has (n k : Nat) (hn : n < 18446744073709551616) (hk : k ≤ 64) (K : Cont) (h0 : K (Bo (n.testBit k)) []) : ACall Try.prog W0 56 [U n, I k] [] K := by
  refine by56 (Nat.le_of_ble_eq_true rfl) ?_
  repeat' ((conv => whnf); first | (refine Exists.intro ([] : List Nat) ?_) | (refine And.intro rfl ?_) | (refine And.intro (by decide +kernel) ?_) | (refine And.intro trivial ?_) | (refine Exists.intro _ (And.intro rfl (And.intro rfl (And.intro (Nat.le_of_ble_eq_true rfl) ?_)))) | (refine Exists.intro _ (And.intro rfl (And.intro rfl (And.intro rfl (And.intro (Nat.le_of_ble_eq_true rfl) ?_))))) | (refine And.intro (Exists.intro _ (And.intro rfl rfl)) ?_) | (exact fun hW => absurd hW (by decide +kernel)) | (intro hW; (try simp only [Bool.not_true, Bool.not_false, Bool.not_eq_true', Bool.not_eq_false', decide_eq_true_eq, decide_eq_false_iff_not, reduceCtorEq, Bool.true_eq_false, Bool.false_eq_true, mk_size, List.size_toArray, ByteArray.size_append, ByteArray.size_extract, List.length_cons, List.length_nil, ba_get, ba_empty, Int.toNat_natCast] at hW)) | (refine And.intro (?_ : _ → _) (?_ : _ → _)) | (refine FinR.drop 0 (Nat.zero_le _) (Closed.zero _) rfl ?_) | (refine FinR.keep ?_) | (refine And.intro (det3_agg rfl) ?_) | (refine fL_mk ?_) | (refine And.intro (by (try simp only [mk_size, List.size_toArray, ByteArray.size_append, ByteArray.size_extract, List.length_cons, List.length_nil]); omega) ?_) | (refine And.intro (by (try simp only [mk_size, List.size_toArray, ByteArray.size_append, ByteArray.size_extract, List.length_cons, List.length_nil, wrap64_eq]); omega) ?_) | fail)
  all_goals exact kB' h0 (has_eq n k hn hk)
theorem d_has (n k : Nat) (hn : n < 18446744073709551616) (hk : k ≤ 64) (K : Cont) (h0 : K (Bo (n.testBit k)) σ) : ACall Try.prog W0 56 [U n, I k] σ K :=
  ACall.lift rfl (fun _ => rfl) (fun W1 K _ hK => c_has n k hn hk K hK) h0
theorem or_bit (g : Nat → Nat) (n k x y : Nat) (hk : k < 36) (hg : ∀ k, k < 36 → g k < 36) (hx : x < 6) (hy : y < 6) (he : g k = y * 6 + x) (hb : n.testBit k = true) :
    bOr .u64 (mvN g n k : Nat) (shL .u64 1 (IntKind.i64.wrap (IntKind.i64.wrap ((y : Int) * 6) + (x : Int)))) = (mvN g n (k + 1) : Nat) := by
  rw [wrap_i64 ((y : Int) * 6) (by omega) (by omega), wrap_i64 _ (by omega) (by omega), show ((y : Int) * 6 + (x : Int)) = ((g k : Nat) : Int) by omega]
  have h36 := hg k hk
  have hp : 2 ^ g k < 2 ^ 36 := Nat.pow_lt_pow_right (by decide) h36
  rw [show (1 : Int) = ((1 : Nat) : Int) from rfl, shL_u64 1 _ (by omega) (by rw [Nat.one_mul]; exact Nat.lt_trans hp (by decide)), Nat.one_mul, bOr_u64 _ _ (Nat.lt_trans (mvN_lt' hg n k (by omega)) (by decide)) (Nat.lt_trans hp (by decide)), mvN_succ, if_pos hb]
theorem slU {a b : Int} (h : a = b) : AV.lit (.int .u64 a) = U b := by rw [h]
theorem slI' {a b : Int} (h : a = b) : AV.lit (.int .i64 a) = I b := by rw [h]
theorem c_moved (n : Nat) (g0 : FuncId) (caps : List AV) (g : Nat → Nat) (hn : n < 2 ^ 36) (hg : ∀ k, k < 36 → g k < 36) (hc : ∀ k : Nat, k < 36 → ∃ x y : Nat, x < 6 ∧ y < 6 ∧ g k = y * 6 + x ∧ ∀ K : Cont, K (.tup [I x, I y]) σ → ACall Try.prog W0 g0 (I (k % 6 : Nat) :: I (k / 6 : Nat) :: caps) σ K)
    (K : Cont) (h0 : K (U (mvN g n 36 : Nat)) σ) : ACall Try.prog W0 54 [U n, .fn (.func g0) [] caps] σ K := by
  refine by54 (Nat.le_of_ble_eq_true rfl) ?_
  repeat' ((conv => whnf); first | (refine Exists.intro ([] : List Nat) ?_) | (refine And.intro rfl ?_) | (refine And.intro (by decide +kernel) ?_) | (refine And.intro trivial ?_) | (refine Exists.intro _ (And.intro rfl (And.intro rfl (And.intro (Nat.le_of_ble_eq_true rfl) ?_)))) | (refine Exists.intro _ (And.intro rfl (And.intro rfl (And.intro rfl (And.intro (Nat.le_of_ble_eq_true rfl) ?_))))) | (refine And.intro (Exists.intro _ (And.intro rfl rfl)) ?_) | (exact fun hW => absurd hW (by decide +kernel)) | (intro hW; (try simp only [Bool.not_true, Bool.not_false, Bool.not_eq_true', Bool.not_eq_false', decide_eq_true_eq, decide_eq_false_iff_not, reduceCtorEq, Bool.true_eq_false, Bool.false_eq_true, mk_size, List.size_toArray, ByteArray.size_append, ByteArray.size_extract, List.length_cons, List.length_nil, ba_get, ba_empty, Int.toNat_natCast] at hW)) | (refine And.intro (?_ : _ → _) (?_ : _ → _)) | (refine FinR.drop 0 (Nat.zero_le _) (Closed.zero _) rfl ?_) | (refine FinR.keep ?_) | (refine And.intro (det3_agg rfl) ?_) | (refine fL_mk ?_) | (refine And.intro (by (try simp only [mk_size, List.size_toArray, ByteArray.size_append, ByteArray.size_extract, List.length_cons, List.length_nil]); omega) ?_) | (refine And.intro (by (try simp only [mk_size, List.size_toArray, ByteArray.size_append, ByteArray.size_extract, List.length_cons, List.length_nil, wrap64_eq]); omega) ?_) | fail)
  refine LoopR.live (fun k : Nat => [(0, U n), (1, .fn (.func g0) [] caps), (5, U (mvN g n k : Nat)), (9, I k)]) (fun _ => σ) (fun k => k ≤ 36) (fun k => 36 - k) 0 ⟨rfl, rfl, rfl, rfl, trivial⟩ (.keep rfl) (Nat.zero_le _) ?_
  intro k hk
  have e1 : ((k : Int)).tmod 6 = ((k % 6 : Nat) : Int) := by rw [Int.tmod_eq_emod_of_nonneg (by omega)]; rfl
  have e2 : IntKind.i64.wrap ((k : Int).tdiv 6) = ((k / 6 : Nat) : Int) := by rw [Int.tdiv_eq_ediv_of_nonneg (by omega), wrap_i64 _ (by omega) (by omega)]; rfl
  have e3 : IntKind.i64.wrap ((k : Int) + 1) = ((k + 1 : Nat) : Int) := by rw [wrap_i64 _ (by omega) (by omega)]; rfl
  by_cases hlt : k < 36
  · obtain ⟨x, y, hx, hy, he, hcall⟩ := hc k hlt
    have hcall' : ∀ K : Cont, K (.tup [I x, I y]) σ → ACall Try.prog W0 g0 (I ((k : Int).tmod 6) :: I (IntKind.i64.wrap ((k : Int).tdiv 6)) :: caps) σ K := by rw [e1, e2]; exact hcall
    have e4 : 0 ≤ IntKind.i64.wrap (IntKind.i64.wrap ((y : Int) * 6) + (x : Int)) := by rw [wrap_i64 ((y : Int) * 6) (by omega) (by omega), wrap_i64 _ (by omega) (by omega)]; omega
    repeat' ((conv => whnf); first | (refine hcall' _ ?_) | (refine And.intro e4 ?_) | (refine Exists.intro ([] : List Nat) ?_) | (refine And.intro rfl ?_) | (refine And.intro (by decide +kernel) ?_) | (refine And.intro trivial ?_) | (refine d_has (hn := Nat.lt_trans hn (by decide)) (hk := by omega) (h0 := ?_) ..) | (refine Exists.intro _ (And.intro rfl (And.intro rfl (And.intro (Nat.le_of_ble_eq_true rfl) ?_)))) | (refine Exists.intro _ (And.intro rfl (And.intro rfl (And.intro rfl (And.intro (Nat.le_of_ble_eq_true rfl) ?_))))) | (refine And.intro (Exists.intro _ (And.intro rfl rfl)) ?_) | (exact fun hW => absurd hW (by decide +kernel)) | (intro hW; (try simp only [Bool.not_true, Bool.not_false, Bool.not_eq_true', Bool.not_eq_false', decide_eq_true_eq, decide_eq_false_iff_not, reduceCtorEq, Bool.true_eq_false, Bool.false_eq_true, mk_size, List.size_toArray, ByteArray.size_append, ByteArray.size_extract, List.length_cons, List.length_nil, ba_get, ba_empty, Int.toNat_natCast] at hW)) | (refine And.intro (?_ : _ → _) (?_ : _ → _)) | (refine FinR.drop 0 (Nat.zero_le _) (Closed.zero _) rfl ?_) | (refine FinR.keep ?_) | (refine And.intro (det3_agg rfl) ?_) | (refine fL_mk ?_) | (refine And.intro (by (try simp only [mk_size, List.size_toArray, ByteArray.size_append, ByteArray.size_extract, List.length_cons, List.length_nil]); omega) ?_) | (refine And.intro (by (try simp only [mk_size, List.size_toArray, ByteArray.size_append, ByteArray.size_extract, List.length_cons, List.length_nil, wrap64_eq]); omega) ?_) | fail)
    all_goals first | (exfalso; omega) | skip
    · exact Again.go (k + 1) ⟨rfl, rfl, slU (or_bit g n k x y hlt hg hx hy he (by assumption)), slI' e3, trivial⟩ (.keep rfl) (by omega) (by omega)
    · refine Again.go (k + 1) ⟨rfl, rfl, slU ?_, slI' e3, trivial⟩ (.keep rfl) (by omega) (by omega)
      rw [mvN_succ, if_neg (by rw [hW]; decide), Nat.or_zero]
  · obtain rfl : k = 36 := by omega
    repeat' ((conv => whnf); first | (refine Exists.intro ([] : List Nat) ?_) | (refine And.intro rfl ?_) | (refine And.intro (by decide +kernel) ?_) | (refine And.intro trivial ?_) | (refine Exists.intro _ (And.intro rfl (And.intro rfl (And.intro (Nat.le_of_ble_eq_true rfl) ?_)))) | (refine Exists.intro _ (And.intro rfl (And.intro rfl (And.intro rfl (And.intro (Nat.le_of_ble_eq_true rfl) ?_))))) | (refine And.intro (Exists.intro _ (And.intro rfl rfl)) ?_) | (exact fun hW => absurd hW (by decide +kernel)) | (intro hW; (try simp only [Bool.not_true, Bool.not_false, Bool.not_eq_true', Bool.not_eq_false', decide_eq_true_eq, decide_eq_false_iff_not, reduceCtorEq, Bool.true_eq_false, Bool.false_eq_true, mk_size, List.size_toArray, ByteArray.size_append, ByteArray.size_extract, List.length_cons, List.length_nil, ba_get, ba_empty, Int.toNat_natCast] at hW)) | (refine And.intro (?_ : _ → _) (?_ : _ → _)) | (refine FinR.drop 0 (Nat.zero_le _) (Closed.zero _) rfl ?_) | (refine FinR.keep ?_) | (refine And.intro (det3_agg rfl) ?_) | (refine fL_mk ?_) | (refine And.intro (by (try simp only [mk_size, List.size_toArray, ByteArray.size_append, ByteArray.size_extract, List.length_cons, List.length_nil]); omega) ?_) | (refine And.intro (by (try simp only [mk_size, List.size_toArray, ByteArray.size_append, ByteArray.size_extract, List.length_cons, List.length_nil, wrap64_eq]); omega) ?_) | fail)
    all_goals first | (exfalso; omega) | exact h0
end Go.Proofs.Ytcfkhiplmnamcaa
end

section
/- Contracts: shifted sets; sheets of sets; sheets by their sets. -/
set_option linter.unusedVariables false
set_option linter.unusedSimpArgs false
set_option maxRecDepth 100000
set_option maxHeartbeats 4000000
namespace Go.Proofs.Ytcfkhiplmnamcaa
open Go Go.RowKit Go.Proofs.Ytcfkhiplmnamcaa.Abs
variable {W0 : World} {σ : List Blk}
theorem tmod6 (n : Int) : n.tmod 6 = if 0 ≤ n then n % 6 else -((-n) % 6) := by
  split
  · rename_i h; exact Int.tmod_eq_emod_of_nonneg h
  · rename_i h
    rw [← Int.tmod_eq_emod_of_nonneg (by omega : 0 ≤ -n), Int.neg_tmod]; omega
theorem rest_eq (n : Int) : (IntKind.i64.wrap (n.tmod 6 + 6)).tmod 6 = n % 6 := by
  rw [tmod6 n]
  have : 0 ≤ (if 0 ≤ n then n % 6 else -((-n) % 6)) + 6 ∧ (if 0 ≤ n then n % 6 else -((-n) % 6)) + 6 < 12 ∧ ((if 0 ≤ n then n % 6 else -((-n) % 6)) + 6) % 6 = n % 6 := by split <;> omega
  rw [wrap_i64 _ (by omega) (by omega), Int.tmod_eq_emod_of_nonneg this.1]
  exact this.2.2
theorem c_rest (n : Int) (x : Nat) (hx : n % 6 = x) (K : Cont) (h0 : K (I x) []) : ACall Try.prog W0 53 [I n] [] K := by
  refine by53 (Nat.le_of_ble_eq_true rfl) ?_
  have e := rest_eq n
  repeat' ((conv => whnf); first | (refine Exists.intro ([] : List Nat) ?_) | (refine And.intro rfl ?_) | (refine And.intro (by decide +kernel) ?_) | (refine And.intro trivial ?_) | (refine Exists.intro _ (And.intro rfl (And.intro rfl (And.intro (Nat.le_of_ble_eq_true rfl) ?_)))) | (refine Exists.intro _ (And.intro rfl (And.intro rfl (And.intro rfl (And.intro (Nat.le_of_ble_eq_true rfl) ?_))))) | (refine And.intro (Exists.intro _ (And.intro rfl rfl)) ?_) | (exact fun hW => absurd hW (by decide +kernel)) | (intro hW; (try simp only [Bool.not_true, Bool.not_false, Bool.not_eq_true', Bool.not_eq_false', decide_eq_true_eq, decide_eq_false_iff_not, reduceCtorEq, Bool.true_eq_false, Bool.false_eq_true, mk_size, List.size_toArray, ByteArray.size_append, ByteArray.size_extract, List.length_cons, List.length_nil, ba_get, ba_empty, Int.toNat_natCast] at hW)) | (refine And.intro (?_ : _ → _) (?_ : _ → _)) | (refine FinR.drop 0 (Nat.zero_le _) (Closed.zero _) rfl ?_) | (refine FinR.keep ?_) | (refine And.intro (det3_agg rfl) ?_) | (refine fL_mk ?_) | (refine And.intro (by (try simp only [mk_size, List.size_toArray, ByteArray.size_append, ByteArray.size_extract, List.length_cons, List.length_nil]); omega) ?_) | (refine And.intro (by (try simp only [mk_size, List.size_toArray, ByteArray.size_append, ByteArray.size_extract, List.length_cons, List.length_nil, wrap64_eq]); omega) ?_) | fail)
  all_goals exact kI' h0 (by rw [e, hx])
theorem d_rest (n : Int) (x : Nat) (hx : n % 6 = x) (K : Cont) (h0 : K (I x) σ) : ACall Try.prog W0 53 [I n] σ K :=
  ACall.lift rfl (fun _ => rfl) (fun W1 K _ hK => c_rest n x hx K hK) h0
theorem addrem (a b : Nat) (ha : a < 36) (hb : b < 6) : (IntKind.i64.wrap ((a : Int) + (b : Int))).tmod 6 = (((a + b) % 6 : Nat) : Int) := by
  rw [wrap_i64 _ (by omega) (by omega), Int.tmod_eq_emod_of_nonneg (by omega)]; omega
theorem shClo (x y : Nat) (hx : x < 6) (hy : y < 6) (k : Nat) (hk : k < 36) : ∃ x' y' : Nat, x' < 6 ∧ y' < 6 ∧ shG x y k = y' * 6 + x' ∧ ∀ K : Cont, K (.tup [I x', I y']) [⟨[I x], 0, 3, 0, false, false⟩, ⟨[I y], 0, 3, 0, false, false⟩] →
    ACall Try.prog W0 55 (I (k % 6 : Nat) :: I (k / 6 : Nat) :: [.ptr 0 0 0, .ptr 1 0 0]) [⟨[I x], 0, 3, 0, false, false⟩, ⟨[I y], 0, 3, 0, false, false⟩] K := by
  refine ⟨(k % 6 + x) % 6, (k / 6 + y) % 6, by omega, by omega, rfl, fun K h0 => ?_⟩
  refine by55 (Nat.le_of_ble_eq_true rfl) ?_
  have e1 := addrem (k % 6) x (by omega) hx
  have e2 := addrem (k / 6) y (by omega) hy
  repeat' ((conv => whnf); first | (refine Exists.intro ([] : List Nat) ?_) | (refine And.intro rfl ?_) | (refine And.intro (by decide +kernel) ?_) | (refine And.intro trivial ?_) | (refine Exists.intro _ (And.intro rfl (And.intro rfl (And.intro (Nat.le_of_ble_eq_true rfl) ?_)))) | (refine Exists.intro _ (And.intro rfl (And.intro rfl (And.intro rfl (And.intro (Nat.le_of_ble_eq_true rfl) ?_))))) | (refine And.intro (Exists.intro _ (And.intro rfl rfl)) ?_) | (exact fun hW => absurd hW (by decide +kernel)) | (intro hW; (try simp only [Bool.not_true, Bool.not_false, Bool.not_eq_true', Bool.not_eq_false', decide_eq_true_eq, decide_eq_false_iff_not, reduceCtorEq, Bool.true_eq_false, Bool.false_eq_true, mk_size, List.size_toArray, ByteArray.size_append, ByteArray.size_extract, List.length_cons, List.length_nil, ba_get, ba_empty, Int.toNat_natCast] at hW)) | (refine And.intro (?_ : _ → _) (?_ : _ → _)) | (refine FinR.drop 0 (Nat.zero_le _) (Closed.zero _) rfl ?_) | (refine FinR.keep ?_) | (refine And.intro (det3_agg rfl) ?_) | (refine fL_mk ?_) | (refine And.intro (by (try simp only [mk_size, List.size_toArray, ByteArray.size_append, ByteArray.size_extract, List.length_cons, List.length_nil]); omega) ?_) | (refine And.intro (by (try simp only [mk_size, List.size_toArray, ByteArray.size_append, ByteArray.size_extract, List.length_cons, List.length_nil, wrap64_eq]); omega) ?_) | fail)
  all_goals exact kT2 h0 e1 e2
theorem c_shifted (n : Nat) (hn : n < 2 ^ 36) (dx dy : Int) (x y : Nat) (hx : dx % 6 = x) (hy : dy % 6 = y) (K : Cont) (h0 : K (U (mvN (shG x y) n 36 : Nat)) []) : ACall Try.prog W0 52 [U n, I dx, I dy] [] K := by
  refine by52 (Nat.le_of_ble_eq_true rfl) ?_
  have hx' : x < 6 := by omega
  have hy' : y < 6 := by omega
  repeat' ((conv => whnf); first | (refine Exists.intro ([] : List Nat) ?_) | (refine And.intro rfl ?_) | (refine And.intro (by decide +kernel) ?_) | (refine And.intro trivial ?_) | (refine d_rest (hx := hx) (h0 := ?_) ..) | (refine Exists.intro _ (And.intro (fun τ => callW_fn (d_rest (hx := hx) (h0 := And.intro rfl rfl) ..)) ?_)) | (refine Exists.intro _ (And.intro (callW_fn (d_rest (hx := hx) (h0 := And.intro rfl rfl) ..)) (And.intro trivial ?_))) | (refine Exists.intro _ (And.intro (callW_fn (d_rest (hx := hx) (h0 := And.intro rfl rfl) ..)) ?_)) | (refine Exists.intro _ (And.intro (fun τ _ => callW_fn (d_rest (hx := hx) (h0 := And.intro rfl rfl) ..)) ?_)) | (refine d_rest (hx := hy) (h0 := ?_) ..) | (refine Exists.intro _ (And.intro (fun τ => callW_fn (d_rest (hx := hy) (h0 := And.intro rfl rfl) ..)) ?_)) | (refine Exists.intro _ (And.intro (callW_fn (d_rest (hx := hy) (h0 := And.intro rfl rfl) ..)) (And.intro trivial ?_))) | (refine Exists.intro _ (And.intro (callW_fn (d_rest (hx := hy) (h0 := And.intro rfl rfl) ..)) ?_)) | (refine Exists.intro _ (And.intro (fun τ _ => callW_fn (d_rest (hx := hy) (h0 := And.intro rfl rfl) ..)) ?_)) | (refine c_moved (hn := hn) (hg := fun k hk => (sh_perm x hx' y hy' k hk).1) (hc := fun k hk => shClo x y hx' hy' k hk) (h0 := ?_) ..) | (refine Exists.intro _ (And.intro rfl (And.intro rfl (And.intro (Nat.le_of_ble_eq_true rfl) ?_)))) | (refine Exists.intro _ (And.intro rfl (And.intro rfl (And.intro rfl (And.intro (Nat.le_of_ble_eq_true rfl) ?_))))) | (refine And.intro (Exists.intro _ (And.intro rfl rfl)) ?_) | (exact fun hW => absurd hW (by decide +kernel)) | (intro hW; (try simp only [Bool.not_true, Bool.not_false, Bool.not_eq_true', Bool.not_eq_false', decide_eq_true_eq, decide_eq_false_iff_not, reduceCtorEq, Bool.true_eq_false, Bool.false_eq_true, mk_size, List.size_toArray, ByteArray.size_append, ByteArray.size_extract, List.length_cons, List.length_nil, ba_get, ba_empty, Int.toNat_natCast] at hW)) | (refine And.intro (?_ : _ → _) (?_ : _ → _)) | (refine FinR.drop 0 (Nat.zero_le _) (Closed.zero _) rfl ?_) | (refine FinR.keep ?_) | (refine And.intro (det3_agg rfl) ?_) | (refine fL_mk ?_) | (refine And.intro (by (try simp only [mk_size, List.size_toArray, ByteArray.size_append, ByteArray.size_extract, List.length_cons, List.length_nil]); omega) ?_) | (refine And.intro (by (try simp only [mk_size, List.size_toArray, ByteArray.size_append, ByteArray.size_extract, List.length_cons, List.length_nil, wrap64_eq]); omega) ?_) | fail)
  all_goals exact h0
theorem d_shifted (n : Nat) (hn : n < 2 ^ 36) (dx dy : Int) (x y : Nat) (hx : dx % 6 = x) (hy : dy % 6 = y) (K : Cont) (h0 : K (U (mvN (shG x y) n 36 : Nat)) σ) : ACall Try.prog W0 52 [U n, I dx, I dy] σ K :=
  ACall.lift rfl (fun _ => rfl) (fun W1 K _ hK => c_shifted n hn dx dy x y hx hy K hK) h0
end Go.Proofs.Ytcfkhiplmnamcaa
end

section
/- Contracts: sheets of sets; the reference's sheets by their sets. -/
set_option linter.unusedVariables false
set_option linter.unusedSimpArgs false
set_option maxRecDepth 100000
set_option maxHeartbeats 4000000
namespace Go.Proofs.Ytcfkhiplmnamcaa
open Go Go.RowKit Go.Proofs.Ytcfkhiplmnamcaa.Abs
variable {W0 : World} {σ : List Blk}
theorem c_setOfN (n : Nat) (hn : n < 2 ^ 36) (K : Cont) (h0 : K (.tup [U n, Bo true]) []) : ACall Try.prog W0 42 [ShN n] [] K := by
  refine c_setOf (K := K) (h0 := ?_) ..
  unfold setR
  rw [shB6_ShN, if_pos rfl, setI_ShN hn]; exact h0
theorem d_setOfN (n : Nat) (hn : n < 2 ^ 36) (K : Cont) (h0 : K (.tup [U n, Bo true]) σ) : ACall Try.prog W0 42 [ShN n] σ K :=
  ACall.lift rfl (fun _ => rfl) (fun W1 K _ hK => c_setOfN n hn K hK) h0
theorem c_setOfF (a b c d e f : Int) (hb : shB6 a b c d e f = false) (K : Cont) (h0 : K (.tup [U 0, Bo false]) []) : ACall Try.prog W0 42 [Sh a b c d e f] [] K := by
  refine c_setOf (K := K) (h0 := ?_) ..
  unfold setR
  rw [hb]; exact h0
theorem d_setOfF (a b c d e f : Int) (hb : shB6 a b c d e f = false) (K : Cont) (h0 : K (.tup [U 0, Bo false]) σ) : ACall Try.prog W0 42 [Sh a b c d e f] σ K :=
  ACall.lift rfl (fun _ => rfl) (fun W1 K _ hK => c_setOfF a b c d e f hb K hK) h0
abbrev Ce (x y : Int) : AV := .agg [I x, I y]
def cellB (x y : Int) : Bool := inB x 0 5 && inB y 0 5
theorem c_l2Cell (x y : Int) (K : Cont) (h0 : K (Bo (cellB x y)) []) : ACall Try.prog W0 40 [Ce x y] [] K := by
  refine by40 (Nat.le_of_ble_eq_true rfl) ?_
  repeat' ((conv => whnf); first | (refine Exists.intro ([] : List Nat) ?_) | (refine And.intro rfl ?_) | (refine And.intro (by decide +kernel) ?_) | (refine And.intro trivial ?_) | (refine d_l1In (h0 := ?_) ..) | (refine Exists.intro _ (And.intro (fun τ => callW_fn (d_l1In (h0 := And.intro rfl rfl) ..)) ?_)) | (refine Exists.intro _ (And.intro (callW_fn (d_l1In (h0 := And.intro rfl rfl) ..)) (And.intro trivial ?_))) | (refine Exists.intro _ (And.intro (callW_fn (d_l1In (h0 := And.intro rfl rfl) ..)) ?_)) | (refine Exists.intro _ (And.intro (fun τ _ => callW_fn (d_l1In (h0 := And.intro rfl rfl) ..)) ?_)) | (refine Exists.intro _ (And.intro rfl (And.intro rfl (And.intro (Nat.le_of_ble_eq_true rfl) ?_)))) | (refine Exists.intro _ (And.intro rfl (And.intro rfl (And.intro rfl (And.intro (Nat.le_of_ble_eq_true rfl) ?_))))) | (refine And.intro (Exists.intro _ (And.intro rfl rfl)) ?_) | (exact fun hW => absurd hW (by decide +kernel)) | (intro hW; (try simp only [Bool.not_true, Bool.not_false, Bool.not_eq_true', Bool.not_eq_false', decide_eq_true_eq, decide_eq_false_iff_not, reduceCtorEq, Bool.true_eq_false, Bool.false_eq_true, mk_size, List.size_toArray, ByteArray.size_append, ByteArray.size_extract, List.length_cons, List.length_nil, ba_get, ba_empty, Int.toNat_natCast] at hW)) | (refine And.intro (?_ : _ → _) (?_ : _ → _)) | (refine FinR.drop 0 (Nat.zero_le _) (Closed.zero _) rfl ?_) | (refine FinR.keep ?_) | (refine And.intro (det3_agg rfl) ?_) | (refine fL_mk ?_) | (refine And.intro (by (try simp only [mk_size, List.size_toArray, ByteArray.size_append, ByteArray.size_extract, List.length_cons, List.length_nil]); omega) ?_) | (refine And.intro (by (try simp only [mk_size, List.size_toArray, ByteArray.size_append, ByteArray.size_extract, List.length_cons, List.length_nil, wrap64_eq]); omega) ?_) | fail)
  all_goals first | exact h0 | (refine Eq.mp (congrArg (fun v => K v []) ?_) h0; clear h0; simp_all [cellB] <;> omega)
theorem d_l2Cell (x y : Int) (K : Cont) (h0 : K (Bo (cellB x y)) σ) : ACall Try.prog W0 40 [Ce x y] σ K :=
  ACall.lift rfl (fun _ => rfl) (fun W1 K _ hK => c_l2Cell x y K hK) h0
theorem cellB_iff {x y : Int} : cellB x y = true ↔ 0 ≤ x ∧ x < 6 ∧ 0 ≤ y ∧ y < 6 := by
  simp [cellB, inB]; omega
theorem c_isCell (x y : Int) (K : Cont) (h0 : K (Bo (cellB x y)) []) : ACall Try.prog W0 51 [Ce x y] [] K := by
  refine by51 (Nat.le_of_ble_eq_true rfl) ?_
  repeat' ((conv => whnf); first | (refine Exists.intro ([] : List Nat) ?_) | (refine And.intro rfl ?_) | (refine And.intro (by decide +kernel) ?_) | (refine And.intro trivial ?_) | (refine Exists.intro _ (And.intro rfl (And.intro rfl (And.intro (Nat.le_of_ble_eq_true rfl) ?_)))) | (refine Exists.intro _ (And.intro rfl (And.intro rfl (And.intro rfl (And.intro (Nat.le_of_ble_eq_true rfl) ?_))))) | (refine And.intro (Exists.intro _ (And.intro rfl rfl)) ?_) | (exact fun hW => absurd hW (by decide +kernel)) | (intro hW; (try simp only [Bool.not_true, Bool.not_false, Bool.not_eq_true', Bool.not_eq_false', decide_eq_true_eq, decide_eq_false_iff_not, reduceCtorEq, Bool.true_eq_false, Bool.false_eq_true, mk_size, List.size_toArray, ByteArray.size_append, ByteArray.size_extract, List.length_cons, List.length_nil, ba_get, ba_empty, Int.toNat_natCast] at hW)) | (refine And.intro (?_ : _ → _) (?_ : _ → _)) | (refine FinR.drop 0 (Nat.zero_le _) (Closed.zero _) rfl ?_) | (refine FinR.keep ?_) | (refine And.intro (det3_agg rfl) ?_) | (refine fL_mk ?_) | (refine And.intro (by (try simp only [mk_size, List.size_toArray, ByteArray.size_append, ByteArray.size_extract, List.length_cons, List.length_nil]); omega) ?_) | (refine And.intro (by (try simp only [mk_size, List.size_toArray, ByteArray.size_append, ByteArray.size_extract, List.length_cons, List.length_nil, wrap64_eq]); omega) ?_) | fail)
  all_goals (refine kB' h0 ?_; rw [Bool.eq_iff_iff, cellB_iff]; simp only [decide_eq_true_eq, Bool.false_eq_true]; refine Iff.intro (fun h => ?_) (fun h => ?_) <;> first | exact h.elim | omega)
theorem d_isCell (x y : Int) (K : Cont) (h0 : K (Bo (cellB x y)) σ) : ACall Try.prog W0 51 [Ce x y] σ K :=
  ACall.lift rfl (fun _ => rfl) (fun W1 K _ hK => c_isCell x y K hK) h0
theorem c_number (x y : Nat) (hx : x < 1000) (hy : y < 1000) (K : Cont) (h0 : K (I (y * 6 + x : Nat)) []) : ACall Try.prog W0 45 [Ce x y] [] K := by
  refine by45 (Nat.le_of_ble_eq_true rfl) ?_
  have e : IntKind.i64.wrap (IntKind.i64.wrap ((y : Int) * 6) + (x : Int)) = ((y * 6 + x : Nat) : Int) := by
    rw [wrap_i64 ((y : Int) * 6) (by omega) (by omega), wrap_i64 ((y : Int) * 6 + (x : Int)) (by omega) (by omega)]; omega
  repeat' ((conv => whnf); first | (refine Exists.intro ([] : List Nat) ?_) | (refine And.intro rfl ?_) | (refine And.intro (by decide +kernel) ?_) | (refine And.intro trivial ?_) | (refine Exists.intro _ (And.intro rfl (And.intro rfl (And.intro (Nat.le_of_ble_eq_true rfl) ?_)))) | (refine Exists.intro _ (And.intro rfl (And.intro rfl (And.intro rfl (And.intro (Nat.le_of_ble_eq_true rfl) ?_))))) | (refine And.intro (Exists.intro _ (And.intro rfl rfl)) ?_) | (exact fun hW => absurd hW (by decide +kernel)) | (intro hW; (try simp only [Bool.not_true, Bool.not_false, Bool.not_eq_true', Bool.not_eq_false', decide_eq_true_eq, decide_eq_false_iff_not, reduceCtorEq, Bool.true_eq_false, Bool.false_eq_true, mk_size, List.size_toArray, ByteArray.size_append, ByteArray.size_extract, List.length_cons, List.length_nil, ba_get, ba_empty, Int.toNat_natCast] at hW)) | (refine And.intro (?_ : _ → _) (?_ : _ → _)) | (refine FinR.drop 0 (Nat.zero_le _) (Closed.zero _) rfl ?_) | (refine FinR.keep ?_) | (refine And.intro (det3_agg rfl) ?_) | (refine fL_mk ?_) | (refine And.intro (by (try simp only [mk_size, List.size_toArray, ByteArray.size_append, ByteArray.size_extract, List.length_cons, List.length_nil]); omega) ?_) | (refine And.intro (by (try simp only [mk_size, List.size_toArray, ByteArray.size_append, ByteArray.size_extract, List.length_cons, List.length_nil, wrap64_eq]); omega) ?_) | fail)
  all_goals exact kI' h0 e
theorem d_number (x y : Nat) (hx : x < 1000) (hy : y < 1000) (K : Cont) (h0 : K (I (y * 6 + x : Nat)) σ) : ACall Try.prog W0 45 [Ce x y] σ K :=
  ACall.lift rfl (fun _ => rfl) (fun W1 K _ hK => c_number x y hx hy K hK) h0
theorem c_pressed (n k : Nat) (hn : n < 2 ^ 36) (hk : k < 36) (K : Cont) (h0 : K (U (mvN (shG (k % 6) (k / 6)) n 36 : Nat)) []) : ACall Try.prog W0 44 [U n, I k] [] K := by
  refine by44 (Nat.le_of_ble_eq_true rfl) ?_
  have e1 : ((k : Int)).tmod 6 = ((k % 6 : Nat) : Int) := by rw [Int.tmod_eq_emod_of_nonneg (by omega)]; rfl
  have e2 : IntKind.i64.wrap ((k : Int).tdiv 6) = ((k / 6 : Nat) : Int) := by rw [Int.tdiv_eq_ediv_of_nonneg (by omega), wrap_i64 _ (by omega) (by omega)]; rfl
  have h1 : ((k : Int)).tmod 6 % 6 = ((k % 6 : Nat) : Int) := by rw [e1]; omega
  have h2 : IntKind.i64.wrap ((k : Int).tdiv 6) % 6 = ((k / 6 : Nat) : Int) := by rw [e2]; omega
  repeat' ((conv => whnf); first | (refine Exists.intro ([] : List Nat) ?_) | (refine And.intro rfl ?_) | (refine And.intro (by decide +kernel) ?_) | (refine And.intro trivial ?_) | (refine d_shifted (hn := hn) (hx := h1) (hy := h2) (h0 := ?_) ..) | (refine Exists.intro _ (And.intro rfl (And.intro rfl (And.intro (Nat.le_of_ble_eq_true rfl) ?_)))) | (refine Exists.intro _ (And.intro rfl (And.intro rfl (And.intro rfl (And.intro (Nat.le_of_ble_eq_true rfl) ?_))))) | (refine And.intro (Exists.intro _ (And.intro rfl rfl)) ?_) | (exact fun hW => absurd hW (by decide +kernel)) | (intro hW; (try simp only [Bool.not_true, Bool.not_false, Bool.not_eq_true', Bool.not_eq_false', decide_eq_true_eq, decide_eq_false_iff_not, reduceCtorEq, Bool.true_eq_false, Bool.false_eq_true, mk_size, List.size_toArray, ByteArray.size_append, ByteArray.size_extract, List.length_cons, List.length_nil, ba_get, ba_empty, Int.toNat_natCast] at hW)) | (refine And.intro (?_ : _ → _) (?_ : _ → _)) | (refine FinR.drop 0 (Nat.zero_le _) (Closed.zero _) rfl ?_) | (refine FinR.keep ?_) | (refine And.intro (det3_agg rfl) ?_) | (refine fL_mk ?_) | (refine And.intro (by (try simp only [mk_size, List.size_toArray, ByteArray.size_append, ByteArray.size_extract, List.length_cons, List.length_nil]); omega) ?_) | (refine And.intro (by (try simp only [mk_size, List.size_toArray, ByteArray.size_append, ByteArray.size_extract, List.length_cons, List.length_nil, wrap64_eq]); omega) ?_) | fail)
  all_goals exact h0
theorem d_pressed (n k : Nat) (hn : n < 2 ^ 36) (hk : k < 36) (K : Cont) (h0 : K (U (mvN (shG (k % 6) (k / 6)) n 36 : Nat)) σ) : ACall Try.prog W0 44 [U n, I k] σ K :=
  ACall.lift rfl (fun _ => rfl) (fun W1 K _ hK => c_pressed n k hn hk K hK) h0
/-! ### the reference's sheets -/
end Go.Proofs.Ytcfkhiplmnamcaa
end

section
/- Contracts: presses, flips. -/
set_option linter.unusedVariables false
set_option linter.unusedSimpArgs false
set_option maxRecDepth 100000
set_option maxHeartbeats 4000000
namespace Go.Proofs.Ytcfkhiplmnamcaa
open Go Go.RowKit Go.Proofs.Ytcfkhiplmnamcaa.Abs
variable {W0 : World} {σ : List Blk}
/-- a stamp that is pressed at a cell -/
def prN (m x y : Nat) : Nat := mvN (shG x y) m 36
abbrev Sh0 : AV := Sh 0 0 0 0 0 0
end Go.Proofs.Ytcfkhiplmnamcaa
end

section
/- Contracts: jobs in a shop. -/
set_option linter.unusedVariables false
set_option linter.unusedSimpArgs false
set_option maxRecDepth 100000
set_option maxHeartbeats 4000000
namespace Go.Proofs.Ytcfkhiplmnamcaa
open Go Go.RowKit Go.Proofs.Ytcfkhiplmnamcaa.Abs
variable {W0 : World} {σ : List Blk}
abbrev SpN (n m : Nat) (p q : Int) : AV := Sp (rowN n 0 : Nat) (rowN n 1 : Nat) (rowN n 2 : Nat) (rowN n 3 : Nat) (rowN n 4 : Nat) (rowN n 5 : Nat) (rowN m 0 : Nat) (rowN m 1 : Nat) (rowN m 2 : Nat) (rowN m 3 : Nat) (rowN m 4 : Nat) (rowN m 5 : Nat) p q
abbrev Jb (k a b : Int) : AV := .agg [I k, I a, I b]
abbrev Sp0 : AV := Sp 0 0 0 0 0 0 0 0 0 0 0 0 0 0
end Go.Proofs.Ytcfkhiplmnamcaa
end

section
/- Contracts: lists of jobs. -/
set_option linter.unusedVariables false
set_option linter.unusedSimpArgs false
set_option maxRecDepth 100000
set_option maxHeartbeats 4000000
namespace Go.Proofs.Ytcfkhiplmnamcaa
open Go Go.RowKit Go.Proofs.Ytcfkhiplmnamcaa.Abs
variable {W0 : World} {σ : List Blk}
theorem wsucc' (x : Nat) (hx : x < 4611686018427387904) : IntKind.i64.wrap ((x : Int) + 1) = ((x + 1 : Nat) : Int) := by rw [wrap_i64 _ (by omega) (by omega)]; omega
abbrev enI (l : List Int) : List Value := l.map (Value.int .i64)
/-- the cells of a list of rows -/
def jc (l : List (List Int)) : List AV := (l.map fun x => x.map I).flatten
theorem jc_len {s : Nat} : ∀ {l : List (List Int)}, (∀ x ∈ l, x.length = s) → (jc l).length = l.length * s
  | [], _ => by simp [jc]
  | x :: l, h => by
    have h1 := jc_len (l := l) fun y hy => h y (List.mem_cons_of_mem _ hy)
    have h2 := h x List.mem_cons_self
    show (x.map I ++ jc l).length = _
    rw [List.length_append, List.length_map, h1, h2, List.length_cons, Nat.add_mul]; omega
theorem jc_snoc (l : List (List Int)) (x : List Int) : jc (l ++ [x]) = jc l ++ x.map I := by simp [jc]
theorem rep_succ (m : Nat) (zc : List AV) : rep (m + 1) zc = zc ++ rep m zc := by simp [rep, List.replicate_succ]
/-- the cells when i rows are filled -/
def jst (xs : List (List Int)) (i : Nat) (zc : List AV) : List AV := jc (xs.take i) ++ rep (xs.length - i) zc
theorem jst_len {xs : List (List Int)} {s i : Nat} {zc : List AV} (hx : ∀ x ∈ xs, x.length = s) (hz : zc.length = s) (hi : i ≤ xs.length) : (jst xs i zc).length = xs.length * s := by
  unfold jst
  rw [List.length_append, jc_len (s := s) fun x h => hx x (List.mem_of_mem_take h), rep_length, hz, List.length_take, Nat.min_eq_left hi, ← Nat.add_mul]
  congr 1; omega
theorem jst_step {xs : List (List Int)} {s i : Nat} {zc : List AV} {x : List Int} (hx : ∀ x ∈ xs, x.length = s) (hz : zc.length = s) (hi : xs[i]? = some x) :
    (jst xs i zc).take (i * s) ++ x.map I ++ (jst xs i zc).drop (i * s + s) = jst xs (i + 1) zc := by
  have hlt := getElem?_lt hi
  have hl : (jc (xs.take i)).length = i * s := by rw [jc_len (s := s) fun x h => hx x (List.mem_of_mem_take h), List.length_take, Nat.min_eq_left (by omega)]
  unfold jst
  rw [List.take_left' hl, ← hl, ← List.drop_drop, List.drop_left, show xs.length - i = (xs.length - (i + 1)) + 1 by omega, rep_succ, List.drop_left' hz, List.take_add_one, hi, Option.toList_some, jc_snoc]
theorem jc_sh (k : Nat) (l : List (List Int)) : (jc l).map (sh1 k) = jc l := by
  unfold jc
  induction l with
  | nil => rfl
  | cons x l ih =>
    simp only [List.map_cons, List.flatten_cons, List.map_append, ih]
    congr 1
    rw [List.map_map]; rfl
/-- an own list of jobs -/
theorem jc_get {s : Nat} {xs : List (List Int)} (hx : ∀ x ∈ xs, x.length = s) {i : Nat} {x : List Int} (hi : xs[i]? = some x) {j : Nat} {n : Int} (hj : x[j]? = some n) : (jc xs)[i * s + j]? = some (I n) := by
  have hlt := getElem?_lt hi
  have hl : (jc (xs.take i)).length = i * s := by rw [jc_len (s := s) fun x h => hx x (List.mem_of_mem_take h), List.length_take, Nat.min_eq_left (by omega)]
  have e : xs = xs.take i ++ x :: xs.drop (i + 1) := by
    rw [← List.take_append_drop i xs]
    simp only [List.take_append_drop]
    conv => lhs; rw [← List.take_append_drop i xs]
    rw [List.drop_eq_getElem_cons hlt, (List.getElem?_eq_some_iff.1 hi).2]
  have e2 : jc xs = jc (xs.take i) ++ (x.map I ++ jc (xs.drop (i + 1))) := by
    conv => lhs; rw [e]
    simp [jc]
  rw [e2, List.getElem?_append_right (by omega), hl, show i * s + j - i * s = j by omega, List.getElem?_append_left (by rw [List.length_map]; exact getElem?_lt hj), List.getElem?_map, hj]; rfl
end Go.Proofs.Ytcfkhiplmnamcaa
end

section
/- Contracts: lists of numbers and of pairs that the laws compare, mark, hold. -/
set_option linter.unusedVariables false
set_option linter.unusedSimpArgs false
set_option maxRecDepth 100000
set_option maxHeartbeats 4000000
namespace Go.Proofs.Ytcfkhiplmnamcaa
open Go Go.RowKit Go.Proofs.Ytcfkhiplmnamcaa.Abs
variable {W0 : World} {σ : List Blk}
theorem fS_mk {l : List Blk} {K : List Blk → Prop} (h : K l) : fS l K := by rw [fS_eq]; exact h
theorem set_self {α : Type} {l : List α} {i : Nat} {a : α} (h : l[i]? = some a) : l.set i a = l := by
  have := (List.getElem?_eq_some_iff.1 h)
  obtain ⟨h1, h2⟩ := this
  subst h2
  exact List.set_getElem_self h1
theorem get_set {α : Type} {l : List α} {i : Nat} {a b : α} (h : l[i]? = some a) : (l.set i b)[i]? = some b := by
  rw [List.getElem?_set_self (getElem?_lt h)]
abbrev en1 (n : Int) : List Value := [.int .i64 n]
theorem lift_Ss {α : Type} {enc : α → List Value} {g : FuncId} {a b : AV} {r : AV} {xs ys : List α} {s : Nat} (hok : callOK Try.prog g = true) (hr : ∀ k, sh3 k r = r) (hs : Sli W0 σ s enc a xs) (hs2 : Sli W0 σ s enc b ys) (h : ∀ (W1 : World) (a' b' : AV), Sli W1 [] s enc a' xs → Sli W1 [] s enc b' ys → ∀ K : Cont, K r [] → ACall Try.prog W1 g [a', b'] [] K) (K : Cont) (h0 : K r σ) : ACall Try.prog W0 g [a, b] σ K := by
  refine ACall.frameA (K0 := fun v σ' => v = r ∧ σ' = []) hok (fun W1 ι vs hh hrr => ?_) ?_
  · obtain ⟨v1, vs', rfl, hr1, hr2⟩ := Rels.uncons hrr
    obtain ⟨v2, vs'', rfl, hr3, hr4⟩ := Rels.uncons hr2
    obtain ⟨a', ha, hs'⟩ := hs.conc hh ⟨v1, hr1⟩
    obtain ⟨b', hb, hs2'⟩ := hs2.conc hh ⟨v2, hr3⟩
    obtain rfl := hr4.nil_inv
    exact ⟨[a', b'], Rels.cons (ha _ hr1) (Rels.cons (hb _ hr3) Rels.nil), h W1 a' b' hs' hs2' _ ⟨rfl, rfl⟩⟩
  · rintro v σ' ⟨rfl, rfl⟩
    have e : σ ++ shB σ.length [] = σ := by simp [shB]
    rw [e, hr]; exact h0
theorem lift_Sp {α : Type} {enc : α → List Value} {g : FuncId} {a b : AV} {r : AV} {xs : List α} {s : Nat} (hok : callOK Try.prog g = true) (hb : pure3 b = true) (hr : ∀ k, sh3 k r = r) (hs : Sli W0 σ s enc a xs) (h : ∀ (W1 : World) (a' : AV), Sli W1 [] s enc a' xs → ∀ K : Cont, K r [] → ACall Try.prog W1 g [a', b] [] K) (K : Cont) (h0 : K r σ) : ACall Try.prog W0 g [a, b] σ K := by
  refine ACall.frameA (K0 := fun v σ' => v = r ∧ σ' = []) hok (fun W1 ι vs hh hrr => ?_) ?_
  · obtain ⟨v1, vs', rfl, hr1, hr2⟩ := Rels.uncons hrr
    obtain ⟨v2, vs'', rfl, hr3, hr4⟩ := Rels.uncons hr2
    obtain ⟨a', ha, hs'⟩ := hs.conc hh ⟨v1, hr1⟩
    obtain rfl := hr4.nil_inv
    exact ⟨[a', b], Rels.cons (ha _ hr1) (Rels.cons (rel3_pure hb hr3) Rels.nil), h W1 a' hs' _ ⟨rfl, rfl⟩⟩
  · rintro v σ' ⟨rfl, rfl⟩
    have e : σ ++ shB σ.length [] = σ := by simp [shB]
    rw [e, hr]; exact h0
/-! marks -/
/-- so many numbers, in order -/
def marks (k : Int) (n : Nat) : List Int := (List.range n).map fun i : Nat => k + i
theorem marks_len (k : Int) (n : Nat) : (marks k n).length = n := by simp [marks]
theorem marks_succ (k : Int) (n : Nat) : marks k (n + 1) = marks k n ++ [k + n] := by simp [marks, List.range_succ]
theorem marks_get (k : Int) {n i : Nat} (h : i < n) : (marks k n)[i]? = some (k + i) := by simp [marks, h]
/-- a block whose first cells are marked -/
def mB (B : Blk) (k : Int) (i : Nat) : Blk := { B with cells := (marks k i).map I ++ B.cells.drop i }
theorem mB_zero (B : Blk) (k : Int) : mB B k 0 = B := by simp [mB, marks]
theorem mB_step {B : Blk} {k : Int} {i : Nat} (h : i < B.cells.length) : ({ mB B k i with cells := (mB B k i).cells.take i ++ [I (k + i)] ++ (mB B k i).cells.drop (i + 1) } : Blk) = mB B k (i + 1) := by
  have hl : ((marks k i).map I).length = i := by rw [List.length_map, marks_len]
  have e1 : ((marks k i).map I ++ B.cells.drop i).take i = (marks k i).map I := by rw [List.take_left' hl]
  have e2 : ((marks k i).map I ++ B.cells.drop i).drop (i + 1) = B.cells.drop (i + 1) := by
    rw [← List.drop_drop, List.drop_left' hl, List.drop_drop]
  simp only [mB, e1, e2, marks_succ, List.map_append, List.map_cons, List.map_nil]
theorem wadd (k : Int) (i : Nat) (h : -4611686018427387904 ≤ k ∧ k + i < 4611686018427387904) : IntKind.i64.wrap (k + (i : Int) + 1) = k + ((i + 1 : Nat) : Int) := by rw [wrap_i64 _ (by omega) (by omega)]; omega
/-- a marked cell more -/
theorem st_mark {σ : List Blk} {C : List Blk → Prop} {b ver : Nat} {B : Blk} {k : Int} (hB : σ[b]? = some B) (hv : B.ver = ver) (m off : Nat) (v : Int) (ho : off = m) (hv' : v = k + m) (hm : m < B.cells.length) (h : C (σ.set b (mB B k (m + 1)))) :
    ∃ B', (σ.set b (mB B k m))[b]? = some B' ∧ B'.ver = ver ∧ [AV.lit (.int .i64 v)].length = 1 ∧ off + 1 ≤ B'.cells.length ∧ fS ((σ.set b (mB B k m)).set b { B' with cells := B'.cells.take off ++ [AV.lit (.int .i64 v)] ++ B'.cells.drop (off + 1) }) C := by
  subst ho; subst hv'
  refine ⟨mB B k off, get_set hB, hv, rfl, ?_, ?_⟩
  · show off + 1 ≤ ((marks k off).map I ++ B.cells.drop off).length
    rw [List.length_append, List.length_map, marks_len, List.length_drop]; omega
  · rw [fS_eq, List.set_set, mB_step hm]; exact h
end Go.Proofs.Ytcfkhiplmnamcaa
end

section
/- Contracts: pairs, prints: made, compared, marked. -/
set_option linter.unusedVariables false
set_option linter.unusedSimpArgs false
set_option maxRecDepth 100000
set_option maxHeartbeats 4000000
namespace Go.Proofs.Ytcfkhiplmnamcaa
open Go Go.RowKit Go.Proofs.Ytcfkhiplmnamcaa.Abs
variable {W0 : World} {σ : List Blk}
theorem c_toIntA2 (x y : Int) (K : Cont) (h0 : K (.agg [I x, I y]) []) : ACall Try.prog W0 41 [.agg [I x, I y]] [] K := by
  refine by41 (Nat.le_of_ble_eq_true rfl) ?_
  repeat' ((conv => whnf); first | (refine Exists.intro ([] : List Nat) ?_) | (refine And.intro rfl ?_) | (refine And.intro (by decide +kernel) ?_) | (refine And.intro trivial ?_) | (refine LoopR.unroll 3 ?_) | (refine Exists.intro _ (And.intro rfl (And.intro rfl (And.intro (Nat.le_of_ble_eq_true rfl) ?_)))) | (refine Exists.intro _ (And.intro rfl (And.intro rfl (And.intro rfl (And.intro (Nat.le_of_ble_eq_true rfl) ?_))))) | (refine And.intro (Exists.intro _ (And.intro rfl rfl)) ?_) | (exact fun hW => absurd hW (by decide +kernel)) | (intro hW; (try simp only [Bool.not_true, Bool.not_false, Bool.not_eq_true', Bool.not_eq_false', decide_eq_true_eq, decide_eq_false_iff_not, reduceCtorEq, Bool.true_eq_false, Bool.false_eq_true, mk_size, List.size_toArray, ByteArray.size_append, ByteArray.size_extract, List.length_cons, List.length_nil, ba_get, ba_empty, Int.toNat_natCast] at hW)) | (refine And.intro (?_ : _ → _) (?_ : _ → _)) | (refine FinR.drop 0 (Nat.zero_le _) (Closed.zero _) rfl ?_) | (refine FinR.keep ?_) | (refine And.intro (det3_agg rfl) ?_) | (refine fL_mk ?_) | (refine And.intro (by (try simp only [mk_size, List.size_toArray, ByteArray.size_append, ByteArray.size_extract, List.length_cons, List.length_nil]); omega) ?_) | (refine And.intro (by (try simp only [mk_size, List.size_toArray, ByteArray.size_append, ByteArray.size_extract, List.length_cons, List.length_nil, wrap64_eq]); omega) ?_) | fail)
  all_goals first | exact h0 | (refine Eq.mp (congrArg (fun v => K v []) ?_) h0; clear h0; simp_all <;> omega)
theorem d_toIntA2 (x y : Int) (K : Cont) (h0 : K (.agg [I x, I y]) σ) : ACall Try.prog W0 41 [.agg [I x, I y]] σ K :=
  ACall.lift rfl (fun _ => rfl) (fun W1 K _ hK => c_toIntA2 x y K hK) h0
theorem c_eqIntA2 (x y : Int) (K : Cont) (h0 : K (Bo true) []) : ACall Try.prog W0 50 [.agg [I x, I y], .agg [I x, I y]] [] K := by
  refine by50 (Nat.le_of_ble_eq_true rfl) ?_
  repeat' ((conv => whnf); first | (refine Exists.intro ([] : List Nat) ?_) | (refine And.intro rfl ?_) | (refine And.intro (by decide +kernel) ?_) | (refine And.intro trivial ?_) | (refine LoopR.unroll 3 ?_) | (refine Exists.intro _ (And.intro rfl (And.intro rfl (And.intro (Nat.le_of_ble_eq_true rfl) ?_)))) | (refine Exists.intro _ (And.intro rfl (And.intro rfl (And.intro rfl (And.intro (Nat.le_of_ble_eq_true rfl) ?_))))) | (refine And.intro (Exists.intro _ (And.intro rfl rfl)) ?_) | (exact fun hW => absurd hW (by decide +kernel)) | (intro hW; (try simp only [Bool.not_true, Bool.not_false, Bool.not_eq_true', Bool.not_eq_false', decide_eq_true_eq, decide_eq_false_iff_not, reduceCtorEq, Bool.true_eq_false, Bool.false_eq_true, mk_size, List.size_toArray, ByteArray.size_append, ByteArray.size_extract, List.length_cons, List.length_nil, ba_get, ba_empty, Int.toNat_natCast] at hW)) | (refine And.intro (?_ : _ → _) (?_ : _ → _)) | (refine FinR.drop 0 (Nat.zero_le _) (Closed.zero _) rfl ?_) | (refine FinR.keep ?_) | (refine And.intro (det3_agg rfl) ?_) | (refine fL_mk ?_) | (refine And.intro (by (try simp only [mk_size, List.size_toArray, ByteArray.size_append, ByteArray.size_extract, List.length_cons, List.length_nil]); omega) ?_) | (refine And.intro (by (try simp only [mk_size, List.size_toArray, ByteArray.size_append, ByteArray.size_extract, List.length_cons, List.length_nil, wrap64_eq]); omega) ?_) | fail)
  all_goals first | exact h0 | (exfalso; simp_all; done)
theorem d_eqIntA2 (x y : Int) (K : Cont) (h0 : K (Bo true) σ) : ACall Try.prog W0 50 [.agg [I x, I y], .agg [I x, I y]] σ K :=
  ACall.lift rfl (fun _ => rfl) (fun W1 K _ hK => c_eqIntA2 x y K hK) h0
theorem sli_rows {xs : List (List Int)} {b ver s : Nat} {e : TypeId} {z : Nat} {r m : Bool} {cap : Nat} (hx : ∀ x ∈ xs, x.length = s) (hb : σ[b]? = some ⟨jc xs, ver, e, z, r, m⟩) : Sli W0 σ s enI (.sl b ver 0 xs.length cap) xs :=
  .own b ver 0 _ cap _ _ hb rfl rfl fun i x hi j v hj => by
    rw [List.getElem?_map, Option.map_eq_some_iff] at hj
    obtain ⟨n, hn, rfl⟩ := hj
    rw [Nat.zero_add]
    exact jc_get hx hi hn
/-- rows of marks -/
def rowsM (k : Int) (s n : Nat) : List (List Int) := (List.range n).map fun i => marks (k + (i * s : Nat)) s
theorem rowsM_len (k : Int) (s n : Nat) : (rowsM k s n).length = n := by simp [rowsM]
theorem rowsM_get (k : Int) (s : Nat) {n i : Nat} (h : i < n) : (rowsM k s n)[i]? = some (marks (k + (i * s : Nat)) s) := by simp [rowsM, h]
/-! prints -/
abbrev Pr (a b c d e f g h i : Int) : AV := .agg [I a, I b, I c, I d, I e, I f, I g, I h, I i]
abbrev z9 : List AV := [I 0, I 0, I 0, I 0, I 0, I 0, I 0, I 0, I 0]
end Go.Proofs.Ytcfkhiplmnamcaa
end

section
/- Contracts: CommonCells. -/
set_option linter.unusedVariables false
set_option linter.unusedSimpArgs false
namespace Go.Proofs.Ytcfkhiplmnamcaa
open Go Go.RowKit Go.Proofs.Ytcfkhiplmnamcaa.Abs
variable {W0 : World} {σ : List Blk}
abbrev R64 (a b c d e f : Nat) : Prop := a < 64 ∧ b < 64 ∧ c < 64 ∧ d < 64 ∧ e < 64 ∧ f < 64
end Go.Proofs.Ytcfkhiplmnamcaa
end

section
/- Contracts: prints and their cells; lists of prints; layers. -/
set_option linter.unusedVariables false
set_option linter.unusedSimpArgs false
set_option maxRecDepth 100000
set_option maxHeartbeats 4000000
namespace Go.Proofs.Ytcfkhiplmnamcaa
open Go Go.RowKit Go.Proofs.Ytcfkhiplmnamcaa.Abs
variable {W0 : World} {σ : List Blk}
def pSet (x : List Int) : Nat := prN (setN (x.getD 1 0).toNat (x.getD 2 0).toNat (x.getD 3 0).toNat (x.getD 4 0).toNat (x.getD 5 0).toNat (x.getD 6 0).toNat) (x.getD 7 0).toNat (x.getD 8 0).toNat
def pInk (x : List Int) : Int := x.getD 0 0
/-- a valid print by its parts -/
structure PrParts (x : List Int) where
  n : Nat
  u : Nat
  v : Nat
end Go.Proofs.Ytcfkhiplmnamcaa
end

section
/- Contracts: layers of prints. -/
set_option linter.unusedVariables false
set_option linter.unusedSimpArgs false
set_option maxRecDepth 100000
set_option maxHeartbeats 4000000
namespace Go.Proofs.Ytcfkhiplmnamcaa
open Go Go.RowKit Go.Proofs.Ytcfkhiplmnamcaa.Abs
variable {W0 : World} {σ : List Blk}
theorem sli_lit {α : Type} {W0 : World} {s : Nat} {enc : α → List Value} {a : AV} {xs : List α} (h : Sli W0 [] s enc a xs) : ∃ v, a = .lit v := by
  cases h with
  | nil => exact ⟨_, rfl⟩
  | inn ad n cap xs hn hc hm hb hx => exact ⟨_, rfl⟩
  | own b ver off n cap B xs hB => simp at hB
theorem sli_up {α : Type} {W0 : World} {σ : List Blk} {s : Nat} {enc : α → List Value} {a : AV} {xs : List α} (h : Sli W0 [] s enc a xs) : Sli W0 σ s enc a xs := by
  cases h with
  | nil => exact .nil
  | inn ad n cap xs hn hc hm hb hx => exact .inn ad n cap xs hn hc hm hb hx
  | own b ver off n cap B xs hB => simp at hB
theorem closNil (k : Nat) : Closed k [] := fun B hB => by cases hB
theorem closCons {k : Nat} {B : Blk} {l : List Blk} (h : B.cells.all (bel1 k) = true) (hs : Closed k l) : Closed k (B :: l) := fun B' hB => by
  rcases List.mem_cons.1 hB with rfl | hB
  · exact h
  · exact hs B' hB
theorem take_snoc {α : Type} {xs : List α} {i : Nat} {x : α} (h : xs[i]? = some x) : xs.take (i + 1) = xs.take i ++ [x] := by rw [List.take_add_one, h]; rfl
end Go.Proofs.Ytcfkhiplmnamcaa
end

section
/- Contracts: places of layers of which something is so. -/
set_option linter.unusedVariables false
set_option linter.unusedSimpArgs false
set_option maxRecDepth 100000
set_option maxHeartbeats 4000000
namespace Go.Proofs.Ytcfkhiplmnamcaa
open Go Go.RowKit Go.Proofs.Ytcfkhiplmnamcaa.Abs
variable {W0 : World} {σ : List Blk}
/-- the places at which something is so, rising; and those from the end on, falling -/
def selN (q : Nat → Bool) : Nat → List Int
  | 0 => []
  | n + 1 => selN q n ++ if q n then [(n : Int)] else []
end Go.Proofs.Ytcfkhiplmnamcaa
end

section
/- Contracts: hidden and whole prints. -/
set_option linter.unusedVariables false
set_option linter.unusedSimpArgs false
set_option maxRecDepth 100000
set_option maxHeartbeats 4000000
namespace Go.Proofs.Ytcfkhiplmnamcaa
open Go Go.RowKit Go.Proofs.Ytcfkhiplmnamcaa.Abs
variable {W0 : World} {σ : List Blk}
/-- a contract of a slice, its results told one by one -/
theorem lift_S1 {α : Type} {enc : α → List Value} {g : FuncId} {a : AV} {xs : List α} {s : Nat} {ι : Type} (r : ι → AV) (β : ι → List Blk) (hok : callOK Try.prog g = true) (hs : Sli W0 σ s enc a xs)
    (h : ∀ (W1 : World) (a' : AV), Sli W1 [] s enc a' xs → ∀ K : Cont, (∀ i, K (r i) (β i)) → ACall Try.prog W1 g [a'] [] K) (K : Cont) (h0 : ∀ i, K (sh3 σ.length (r i)) (σ ++ shB σ.length (β i))) : ACall Try.prog W0 g [a] σ K := by
  refine ACall.frameA (K0 := fun v σ' => ∃ i, v = r i ∧ σ' = β i) hok (fun W1 ι vs hh hrr => ?_) ?_
  · obtain ⟨v1, vs', rfl, hr1, hr2⟩ := Rels.uncons hrr
    obtain ⟨a', ha, hs'⟩ := hs.conc hh ⟨v1, hr1⟩
    obtain rfl := hr2.nil_inv
    exact ⟨[a'], Rels.cons (ha _ hr1) Rels.nil, h W1 a' hs' _ (fun i => ⟨i, rfl, rfl⟩)⟩
  · rintro v σ' ⟨i, rfl, rfl⟩; exact h0 i
abbrev outB (l : List Int) : Blk := ⟨l.map I, l.length, 3, 1, true, true⟩
abbrev nilA : AV := .lit (.slice none 0 0)
/-! the reference: what is seen of prints -/
def shR (n : Nat) : List Int := [(rowN n 0 : Nat), (rowN n 1 : Nat), (rowN n 2 : Nat), (rowN n 3 : Nat), (rowN n 4 : Nat), (rowN n 5 : Nat)]
abbrev z6 : List Int := [0, 0, 0, 0, 0, 0]
end Go.Proofs.Ytcfkhiplmnamcaa
end

section
/- Contracts: prints that overlap. -/
set_option linter.unusedVariables false
set_option linter.unusedSimpArgs false
set_option maxRecDepth 100000
set_option maxHeartbeats 4000000
namespace Go.Proofs.Ytcfkhiplmnamcaa
open Go Go.RowKit Go.Proofs.Ytcfkhiplmnamcaa.Abs
variable {W0 : World} {σ : List Blk}
/-- pairs of places -/
def inn (q : Nat → Nat → Bool) (i : Nat) : Nat → List (List Int)
  | 0 => []
  | m + 1 => inn q i m ++ if q i (i + 1 + m) then [[(i : Int), ((i + 1 + m : Nat) : Int)]] else []
abbrev prsB (l : List (List Int)) : Blk := ⟨jc l, l.length, 51, 2, true, true⟩
end Go.Proofs.Ytcfkhiplmnamcaa
end

section
/- Contracts: pictures. -/
set_option linter.unusedVariables false
set_option linter.unusedSimpArgs false
set_option maxRecDepth 100000
set_option maxHeartbeats 4000000
namespace Go.Proofs.Ytcfkhiplmnamcaa
open Go Go.RowKit Go.Proofs.Ytcfkhiplmnamcaa.Abs
variable {W0 : World} {σ : List Blk}
abbrev Pi (q : List Int) : AV := .agg (q.map I)
abbrev z36 : List Int := List.replicate 36 0
/-! prints made -/
def madeK (q : List Int) (n : Nat) (ink : Int) : Nat → List Int
  | 0 => q
  | k + 1 => if n.testBit k then (madeK q n ink k).set k ink else madeK q n ink k
end Go.Proofs.Ytcfkhiplmnamcaa
end

section
/- Contracts: orders of prints: lists of numbers. -/
set_option linter.unusedVariables false
set_option linter.unusedSimpArgs false
set_option maxRecDepth 100000
set_option maxHeartbeats 4000000
namespace Go.Proofs.Ytcfkhiplmnamcaa
open Go Go.RowKit Go.Proofs.Ytcfkhiplmnamcaa.Abs
variable {W0 : World} {σ : List Blk}
/-- a slice that came in, nil or not -/
theorem sli_form {α : Type} {s : Nat} {enc : α → List Value} {a : AV} {xs : List α} (h : Sli W0 [] s enc a xs) : ∃ o n cap, a = .lit (.slice o n cap) ∧ n = xs.length ∧ n ≤ cap ∧ cap ≤ maxLen ∧ ∀ (i : Nat) (x : α), xs[i]? = some x → ∃ ad, o = some ad ∧ ad.block < W0.heap.size ∧ ∀ i x, xs[i]? = some x → ∀ j v, (enc x)[j]? = some v → W0.cell? ((ad.add (i * s)).add j) = some v ∧ v.oneCell' = true := by
  cases h with
  | nil => exact ⟨none, 0, 0, rfl, rfl, Nat.le_refl _, Nat.zero_le _, fun i x h => by simp at h⟩
  | inn ad n cap xs hn hc hm hb hx => exact ⟨some ad, n, cap, rfl, hn, hc, hm, fun i x h => ⟨ad, rfl, hb, hx⟩⟩
  | own b ver off n cap B xs hB => simp at hB
end Go.Proofs.Ytcfkhiplmnamcaa
end

section
/- Contracts: pictures of prints in an order. -/
set_option linter.unusedVariables false
set_option linter.unusedSimpArgs false
set_option maxRecDepth 100000
set_option maxHeartbeats 4000000
namespace Go.Proofs.Ytcfkhiplmnamcaa
open Go Go.RowKit Go.Proofs.Ytcfkhiplmnamcaa.Abs
variable {W0 : World} {σ : List Blk}
def picY (ys : List (List Int)) : List Int := ys.foldl (fun P x => madeK P (pSet x) (pInk x) 36) z36
def ordL (xs : List (List Int)) (ord : List Int) : List (List Int) := ord.map fun k => xs.getD k.toNat []
theorem xget {xs : List (List Int)} {k : Int} (h : 0 ≤ k ∧ k < (xs.length : Int)) : xs[k.toNat]? = some (xs.getD k.toNat []) := by
  have hlt : k.toNat < xs.length := by omega
  rw [List.getD_eq_getElem?_getD, List.getElem?_eq_getElem hlt]; rfl
end Go.Proofs.Ytcfkhiplmnamcaa
end

section
/- Contracts: lists in order; blocks that grow. -/
set_option linter.unusedVariables false
set_option linter.unusedSimpArgs false
set_option maxRecDepth 100000
set_option maxHeartbeats 4000000
namespace Go.Proofs.Ytcfkhiplmnamcaa
open Go Go.RowKit Go.Proofs.Ytcfkhiplmnamcaa.Abs
variable {W0 : World} {σ : List Blk}
theorem getl {σ : List Blk} {B : Blk} : (σ ++ [B])[σ.length]? = some B := by simp
theorem set_last {σ : List Blk} {B B' : Blk} : (σ ++ [B]).set σ.length B' = σ ++ [B'] := by
  rw [List.set_append_right _ _ (Nat.le_refl _), Nat.sub_self]; rfl
theorem getx1 {σ τ : List Blk} {b : Nat} {B : Blk} (h : σ[b]? = some B) : (σ ++ τ)[b]? = some B := by
  rw [List.getElem?_append_left (getElem?_lt h)]; exact h
/-! lists before others -/
def lexLt : List Int → List Int → Bool
  | [], [] => false
  | [], _ :: _ => true
  | _ :: _, [] => false
  | x :: a, y :: b => if x = y then lexLt a b else decide (x < y)
def sooner (a b : List Int) : Bool := if a.length = b.length then lexLt a b else decide (a.length < b.length)
/-! the first one of the shortest -/
section
variable (M : Nat → Bool) (s : Nat → List Int) (pl : List Int)
def bestS : Nat → List Int
  | 0 => pl
  | c + 1 => if M c && sooner (s c) (bestS c) then s c else bestS c
def takeI (o : Option (List Int)) (x : List Int) : Bool := match o with
  | none => true
  | some b => sooner x b
def bestI : Nat → Option (List Int)
  | 0 => none
  | c + 1 => if M c && takeI (bestI c) (s c) then some (s c) else bestI c
end
abbrev plainL (n : Nat) : List Int := selN (fun _ => true) n
end Go.Proofs.Ytcfkhiplmnamcaa
end

section
/- Contracts: the fewest prints, by the reference. -/
set_option linter.unusedVariables false
set_option linter.unusedSimpArgs false
set_option maxRecDepth 100000
set_option maxHeartbeats 4000000
namespace Go.Proofs.Ytcfkhiplmnamcaa
open Go Go.RowKit Go.Proofs.Ytcfkhiplmnamcaa.Abs
variable {W0 : World} {σ : List Blk}
/-- which lists give the same picture -/
def fewM (xs : List (List Int)) (c : Nat) : Bool := decide (picY (ordL xs (selN (Nat.testBit c) xs.length)) = picY xs)
abbrev fewS (xs : List (List Int)) (c : Nat) : List Int := bestS (fewM xs) (fun c => selN (Nat.testBit c) xs.length) (plainL xs.length) c
structure FX where
  c : Nat
  L : List Int
  b : Nat
  cp : Nat
  σ : List Blk
end Go.Proofs.Ytcfkhiplmnamcaa
end

section
/- Contracts: the fewest prints, by the program. -/
set_option linter.unusedVariables false
set_option linter.unusedSimpArgs false
set_option maxRecDepth 100000
set_option maxHeartbeats 4000000
namespace Go.Proofs.Ytcfkhiplmnamcaa
open Go Go.RowKit Go.Proofs.Ytcfkhiplmnamcaa.Abs
variable {W0 : World} {σ : List Blk}
structure FY where
  c : Nat
  o : Option (List Int × Nat × Nat)
  σ : List Blk
abbrev fewI (xs : List (List Int)) (c : Nat) : Option (List Int) := bestI (fewM xs) (fun c => selN (Nat.testBit c) xs.length) c
end Go.Proofs.Ytcfkhiplmnamcaa
end

section
/- Contracts: the law of the fewest prints. -/
set_option linter.unusedVariables false
set_option linter.unusedSimpArgs false
set_option maxRecDepth 100000
set_option maxHeartbeats 4000000
namespace Go.Proofs.Ytcfkhiplmnamcaa
open Go Go.RowKit Go.Proofs.Ytcfkhiplmnamcaa.Abs
variable {W0 : World} {σ : List Blk}
theorem get_ne {σ : List Blk} {b i : Nat} {B X : Blk} (h : σ[b]? = some B) (hne : i ≠ b) : (σ.set i X)[b]? = some B := by rw [List.getElem?_set_ne hne]; exact h
/-- lists of numbers that lie among new blocks -/
structure NewL (l : List Int) where
  b : Nat
  cap : Nat
  τ : List Blk
  h : τ[b]? = some (outB l)
end Go.Proofs.Ytcfkhiplmnamcaa
end

section
/- Contracts: lists of sheets and of steps that the laws make and compare. -/
set_option linter.unusedVariables false
set_option linter.unusedSimpArgs false
set_option maxRecDepth 100000
set_option maxHeartbeats 4000000
namespace Go.Proofs.Ytcfkhiplmnamcaa
open Go Go.RowKit Go.Proofs.Ytcfkhiplmnamcaa.Abs
variable {W0 : World} {σ : List Blk}
abbrev Ste (k s x y : Int) : AV := .agg [I k, I s, I x, I y]
theorem c_toStep (k s x y : Int) (K : Cont) (h0 : K (Ste k s x y) []) : ACall Try.prog W0 32 [Ste k s x y] [] K := by
  refine by32 (Nat.le_of_ble_eq_true rfl) ?_
  repeat' ((conv => whnf); first | (refine Exists.intro ([] : List Nat) ?_) | (refine And.intro rfl ?_) | (refine And.intro (by decide +kernel) ?_) | (refine And.intro trivial ?_) | (refine d_toIntA2 (h0 := ?_) ..) | (refine Exists.intro _ (And.intro (fun τ => callW_fn (d_toIntA2 (h0 := And.intro rfl rfl) ..)) ?_)) | (refine Exists.intro _ (And.intro (callW_fn (d_toIntA2 (h0 := And.intro rfl rfl) ..)) (And.intro trivial ?_))) | (refine Exists.intro _ (And.intro (callW_fn (d_toIntA2 (h0 := And.intro rfl rfl) ..)) ?_)) | (refine Exists.intro _ (And.intro (fun τ _ => callW_fn (d_toIntA2 (h0 := And.intro rfl rfl) ..)) ?_)) | (refine Exists.intro _ (And.intro rfl (And.intro rfl (And.intro (Nat.le_of_ble_eq_true rfl) ?_)))) | (refine Exists.intro _ (And.intro rfl (And.intro rfl (And.intro rfl (And.intro (Nat.le_of_ble_eq_true rfl) ?_))))) | (refine And.intro (Exists.intro _ (And.intro rfl rfl)) ?_) | (exact fun hW => absurd hW (by decide +kernel)) | (intro hW; (try simp only [Bool.not_true, Bool.not_false, Bool.not_eq_true', Bool.not_eq_false', decide_eq_true_eq, decide_eq_false_iff_not, reduceCtorEq, Bool.true_eq_false, Bool.false_eq_true, mk_size, List.size_toArray, ByteArray.size_append, ByteArray.size_extract, List.length_cons, List.length_nil, ba_get, ba_empty, Int.toNat_natCast] at hW)) | (refine And.intro (?_ : _ → _) (?_ : _ → _)) | (refine FinR.drop 0 (Nat.zero_le _) (Closed.zero _) rfl ?_) | (refine FinR.keep ?_) | (refine And.intro (det3_agg rfl) ?_) | (refine fL_mk ?_) | (refine And.intro (by (try simp only [mk_size, List.size_toArray, ByteArray.size_append, ByteArray.size_extract, List.length_cons, List.length_nil]); omega) ?_) | (refine And.intro (by (try simp only [mk_size, List.size_toArray, ByteArray.size_append, ByteArray.size_extract, List.length_cons, List.length_nil, wrap64_eq]); omega) ?_) | fail)
  all_goals first | exact h0 | (refine Eq.mp (congrArg (fun v => K v []) ?_) h0; clear h0; simp_all <;> omega)
theorem d_toStep (k s x y : Int) (K : Cont) (h0 : K (Ste k s x y) σ) : ACall Try.prog W0 32 [Ste k s x y] σ K :=
  ACall.lift rfl (fun _ => rfl) (fun W1 K _ hK => c_toStep k s x y K hK) h0
theorem c_eqStep (k s x y : Int) (K : Cont) (h0 : K (Bo true) []) : ACall Try.prog W0 38 [Ste k s x y, Ste k s x y] [] K := by
  refine by38 (Nat.le_of_ble_eq_true rfl) ?_
  repeat' ((conv => whnf); first | (refine Exists.intro ([] : List Nat) ?_) | (refine And.intro rfl ?_) | (refine And.intro (by decide +kernel) ?_) | (refine And.intro trivial ?_) | (refine d_eqIntA2 (h0 := ?_) ..) | (refine Exists.intro _ (And.intro (fun τ => callW_fn (d_eqIntA2 (h0 := And.intro rfl rfl) ..)) ?_)) | (refine Exists.intro _ (And.intro (callW_fn (d_eqIntA2 (h0 := And.intro rfl rfl) ..)) (And.intro trivial ?_))) | (refine Exists.intro _ (And.intro (callW_fn (d_eqIntA2 (h0 := And.intro rfl rfl) ..)) ?_)) | (refine Exists.intro _ (And.intro (fun τ _ => callW_fn (d_eqIntA2 (h0 := And.intro rfl rfl) ..)) ?_)) | (refine Exists.intro _ (And.intro rfl (And.intro rfl (And.intro (Nat.le_of_ble_eq_true rfl) ?_)))) | (refine Exists.intro _ (And.intro rfl (And.intro rfl (And.intro rfl (And.intro (Nat.le_of_ble_eq_true rfl) ?_))))) | (refine And.intro (Exists.intro _ (And.intro rfl rfl)) ?_) | (exact fun hW => absurd hW (by decide +kernel)) | (intro hW; (try simp only [Bool.not_true, Bool.not_false, Bool.not_eq_true', Bool.not_eq_false', decide_eq_true_eq, decide_eq_false_iff_not, reduceCtorEq, Bool.true_eq_false, Bool.false_eq_true, mk_size, List.size_toArray, ByteArray.size_append, ByteArray.size_extract, List.length_cons, List.length_nil, ba_get, ba_empty, Int.toNat_natCast] at hW)) | (refine And.intro (?_ : _ → _) (?_ : _ → _)) | (refine FinR.drop 0 (Nat.zero_le _) (Closed.zero _) rfl ?_) | (refine FinR.keep ?_) | (refine And.intro (det3_agg rfl) ?_) | (refine fL_mk ?_) | (refine And.intro (by (try simp only [mk_size, List.size_toArray, ByteArray.size_append, ByteArray.size_extract, List.length_cons, List.length_nil]); omega) ?_) | (refine And.intro (by (try simp only [mk_size, List.size_toArray, ByteArray.size_append, ByteArray.size_extract, List.length_cons, List.length_nil, wrap64_eq]); omega) ?_) | fail)
  all_goals first | exact h0 | (exfalso; simp_all; done)
theorem d_eqStep (k s x y : Int) (K : Cont) (h0 : K (Bo true) σ) : ACall Try.prog W0 38 [Ste k s x y, Ste k s x y] σ K :=
  ACall.lift rfl (fun _ => rfl) (fun W1 K _ hK => c_eqStep k s x y K hK) h0
theorem row6x {xs : List (List Int)} (hx : ∀ x ∈ xs, x.length = 6) {n : Nat} (hlt : n < xs.length) : ∃ c0 c1 c2 c3 c4 c5, xs[n]? = some [c0, c1, c2, c3, c4, c5] := by
  have hxi : xs[n]? = some xs[n] := List.getElem?_eq_getElem hlt
  have := hx _ (List.mem_of_getElem? hxi)
  rw [hxi]
  match hh : xs[n], this with
  | [c0, c1, c2, c3, c4, c5], _ => exact ⟨c0, c1, c2, c3, c4, c5, rfl⟩
theorem c_toSheetS (a : AV) (xs : List (List Int)) (hs : Sli W0 [] 6 enI a xs) (hx : ∀ x ∈ xs, x.length = 6) (hl : xs.length ≤ 1048576) (K : Cont) (h0 : K (.sl 0 0 0 xs.length xs.length) [⟨jc xs, 0, 30, 6, true, true⟩]) : ACall Try.prog W0 16 [a] [] K := by
  refine by16 (Nat.le_of_ble_eq_true rfl) ?_
  obtain ⟨o, n, cap, rfl, hn, hc, hm, hf⟩ := sli_form hs
  subst hn
  have hmk : (48 : Int) * (xs.length : Int) ≤ 281474976710656 := by omega
  have hmk2 : ((xs.length : Nat) : Int).toNat ≤ maxLen := by unfold maxLen; omega
  repeat' ((conv => whnf); first | (refine And.intro (Int.natCast_nonneg xs.length) (And.intro (Int.le_refl _) (And.intro hmk (And.intro (by omega) (And.intro hmk2 ?_))))) | (refine Exists.intro ([] : List Nat) ?_) | (refine And.intro rfl ?_) | (refine And.intro (by decide +kernel) ?_) | (refine And.intro trivial ?_) | (refine Exists.intro _ (And.intro rfl (And.intro rfl (And.intro (Nat.le_of_ble_eq_true rfl) ?_)))) | (refine Exists.intro _ (And.intro rfl (And.intro rfl (And.intro rfl (And.intro (Nat.le_of_ble_eq_true rfl) ?_))))) | (refine And.intro (Exists.intro _ (And.intro rfl rfl)) ?_) | (exact fun hW => absurd hW (by decide +kernel)) | (intro hW; (try simp only [Bool.not_true, Bool.not_false, Bool.not_eq_true', Bool.not_eq_false', decide_eq_true_eq, decide_eq_false_iff_not, reduceCtorEq, Bool.true_eq_false, Bool.false_eq_true, mk_size, List.size_toArray, ByteArray.size_append, ByteArray.size_extract, List.length_cons, List.length_nil, ba_get, ba_empty, Int.toNat_natCast] at hW)) | (refine And.intro (?_ : _ → _) (?_ : _ → _)) | (refine FinR.drop 0 (Nat.zero_le _) (Closed.zero _) rfl ?_) | (refine FinR.keep ?_) | (refine And.intro (det3_agg rfl) ?_) | (refine fL_mk ?_) | (refine And.intro (by (try simp only [mk_size, List.size_toArray, ByteArray.size_append, ByteArray.size_extract, List.length_cons, List.length_nil]); omega) ?_) | (refine And.intro (by (try simp only [mk_size, List.size_toArray, ByteArray.size_append, ByteArray.size_extract, List.length_cons, List.length_nil, wrap64_eq]); omega) ?_) | fail)
  refine LoopR.live (fun i : Nat => [(0, .lit (.slice o xs.length cap)), (3, .sl 0 0 0 xs.length xs.length), (4, I i)]) (fun i => [⟨jst xs i [I 0, I 0, I 0, I 0, I 0, I 0], 0, 30, 6, true, true⟩]) (fun i => i ≤ xs.length) (fun i => xs.length - i) 0 ⟨rfl, rfl, rfl, trivial⟩ (.keep rfl) (Nat.zero_le _) ?_
  intro i hi
  by_cases hlt : i < xs.length
  · obtain ⟨c0, c1, c2, c3, c4, c5, hxi⟩ := row6x hx hlt
    obtain ⟨ad, rfl, hb, hxx⟩ := hf i _ hxi
    have hld := fun C h => ldIn (W0 := W0) (s := 6) (enc := enI) hb hxx (k := i) hxi rfl (C := C) h
    have hlen : 0 + ((i : Nat) : Int).toNat * 6 + 6 ≤ (jst xs i [I 0, I 0, I 0, I 0, I 0, I 0]).length := by rw [jst_len (s := 6) hx rfl hi, Int.toNat_natCast]; omega
    have hst := jst_step (s := 6) (zc := [I 0, I 0, I 0, I 0, I 0, I 0]) hx rfl hxi
    repeat' ((conv => whnf); first | (refine Exists.intro _ (And.intro rfl (And.intro rfl (And.intro rfl (And.intro hlen ?_))))) | (refine Exists.intro ([] : List Nat) ?_) | (refine And.intro rfl ?_) | (refine And.intro (by decide +kernel) ?_) | (refine And.intro trivial ?_) | (refine hld _ ?_) | (refine d_toSheet (h0 := ?_) ..) | (refine Exists.intro _ (And.intro (fun τ => callW_fn (d_toSheet (h0 := And.intro rfl rfl) ..)) ?_)) | (refine Exists.intro _ (And.intro (callW_fn (d_toSheet (h0 := And.intro rfl rfl) ..)) (And.intro trivial ?_))) | (refine Exists.intro _ (And.intro (callW_fn (d_toSheet (h0 := And.intro rfl rfl) ..)) ?_)) | (refine Exists.intro _ (And.intro (fun τ _ => callW_fn (d_toSheet (h0 := And.intro rfl rfl) ..)) ?_)) | (refine Exists.intro _ (And.intro rfl (And.intro rfl (And.intro (Nat.le_of_ble_eq_true rfl) ?_)))) | (refine Exists.intro _ (And.intro rfl (And.intro rfl (And.intro rfl (And.intro (Nat.le_of_ble_eq_true rfl) ?_))))) | (refine And.intro (Exists.intro _ (And.intro rfl rfl)) ?_) | (exact fun hW => absurd hW (by decide +kernel)) | (intro hW; (try simp only [Bool.not_true, Bool.not_false, Bool.not_eq_true', Bool.not_eq_false', decide_eq_true_eq, decide_eq_false_iff_not, reduceCtorEq, Bool.true_eq_false, Bool.false_eq_true, mk_size, List.size_toArray, ByteArray.size_append, ByteArray.size_extract, List.length_cons, List.length_nil, ba_get, ba_empty, Int.toNat_natCast] at hW)) | (refine And.intro (?_ : _ → _) (?_ : _ → _)) | (refine FinR.drop 0 (Nat.zero_le _) (Closed.zero _) rfl ?_) | (refine FinR.keep ?_) | (refine And.intro (det3_agg rfl) ?_) | (refine fL_mk ?_) | (refine And.intro (by (try simp only [mk_size, List.size_toArray, ByteArray.size_append, ByteArray.size_extract, List.length_cons, List.length_nil]); omega) ?_) | (refine And.intro (by (try simp only [mk_size, List.size_toArray, ByteArray.size_append, ByteArray.size_extract, List.length_cons, List.length_nil, wrap64_eq]); omega) ?_) | fail)
    all_goals first | (exfalso; omega) | skip
    refine Again.go (i + 1) ⟨rfl, rfl, slI' (wsucc' i (by omega)), trivial⟩ (.keep ?_) (by omega) (by omega)
    show _ = [_]
    rw [← hst]
    simp only [Int.toNat_natCast, Nat.zero_add]
    rfl
  · obtain rfl : i = xs.length := by omega
    have e : jst xs xs.length [I 0, I 0, I 0, I 0, I 0, I 0] = jc xs := by simp [jst, rep]
    rw [e]
    repeat' ((conv => whnf); first | (refine Exists.intro ([] : List Nat) ?_) | (refine And.intro rfl ?_) | (refine And.intro (by decide +kernel) ?_) | (refine And.intro trivial ?_) | (refine Exists.intro _ (And.intro rfl (And.intro rfl (And.intro (Nat.le_of_ble_eq_true rfl) ?_)))) | (refine Exists.intro _ (And.intro rfl (And.intro rfl (And.intro rfl (And.intro (Nat.le_of_ble_eq_true rfl) ?_))))) | (refine And.intro (Exists.intro _ (And.intro rfl rfl)) ?_) | (exact fun hW => absurd hW (by decide +kernel)) | (intro hW; (try simp only [Bool.not_true, Bool.not_false, Bool.not_eq_true', Bool.not_eq_false', decide_eq_true_eq, decide_eq_false_iff_not, reduceCtorEq, Bool.true_eq_false, Bool.false_eq_true, mk_size, List.size_toArray, ByteArray.size_append, ByteArray.size_extract, List.length_cons, List.length_nil, ba_get, ba_empty, Int.toNat_natCast] at hW)) | (refine And.intro (?_ : _ → _) (?_ : _ → _)) | (refine FinR.drop 0 (Nat.zero_le _) (Closed.zero _) rfl ?_) | (refine FinR.keep ?_) | (refine And.intro (det3_agg rfl) ?_) | (refine fL_mk ?_) | (refine And.intro (by (try simp only [mk_size, List.size_toArray, ByteArray.size_append, ByteArray.size_extract, List.length_cons, List.length_nil]); omega) ?_) | (refine And.intro (by (try simp only [mk_size, List.size_toArray, ByteArray.size_append, ByteArray.size_extract, List.length_cons, List.length_nil, wrap64_eq]); omega) ?_) | fail)
    all_goals first | (exfalso; omega) | exact h0
theorem d_toSheetS (a : AV) (xs : List (List Int)) (hs : Sli W0 σ 6 enI a xs) (hx : ∀ x ∈ xs, x.length = 6) (hl : xs.length ≤ 1048576) (K : Cont) (h0 : K (.sl (σ.length + 0) 0 0 xs.length xs.length) (σ ++ [⟨jc xs, 0, 30, 6, true, true⟩])) : ACall Try.prog W0 16 [a] σ K :=
  lift_S1 (ι := Unit) (fun _ => .sl 0 0 0 xs.length xs.length) (fun _ => [⟨jc xs, 0, 30, 6, true, true⟩]) (by kernel_rfl) hs (fun W1 a' h K hK => c_toSheetS a' xs h hx hl K (hK ())) K (fun _ => by
    rw [show shB σ.length [(⟨jc xs, 0, 30, 6, true, true⟩ : Blk)] = [⟨jc xs, 0, 30, 6, true, true⟩] by simp [shB, jc_sh]]; exact h0)
theorem c_szSheetS (a : AV) (xs : List (List Int)) (m : Int) (ha : Sli W0 [] 6 enI a xs) (hl : xs.length ≤ 9223372036854775807) (hm : 0 ≤ m ∧ m ≤ 1048576) (K : Cont) (h0 : K (I (if m - (xs.length : Nat) < 0 then -1 else m - (xs.length : Nat))) []) : ACall Try.prog W0 11 [a, I m] [] K := by
  refine by11 (Nat.le_of_ble_eq_true rfl) ?_
  have e1 : IntKind.i64.wrap (m - (xs.length : Nat)) = m - (xs.length : Nat) := wrap_i64 _ (by omega) (by omega)
  obtain ⟨o, n, cap, rfl, hn, hc, hm', hf⟩ := sli_form ha
  subst hn
  repeat' ((conv => whnf); first | (refine Exists.intro ([] : List Nat) ?_) | (refine And.intro rfl ?_) | (refine And.intro (by decide +kernel) ?_) | (refine And.intro trivial ?_) | (refine Exists.intro _ (And.intro rfl (And.intro rfl (And.intro (Nat.le_of_ble_eq_true rfl) ?_)))) | (refine Exists.intro _ (And.intro rfl (And.intro rfl (And.intro rfl (And.intro (Nat.le_of_ble_eq_true rfl) ?_))))) | (refine And.intro (Exists.intro _ (And.intro rfl rfl)) ?_) | (exact fun hW => absurd hW (by decide +kernel)) | (intro hW; (try simp only [Bool.not_true, Bool.not_false, Bool.not_eq_true', Bool.not_eq_false', decide_eq_true_eq, decide_eq_false_iff_not, reduceCtorEq, Bool.true_eq_false, Bool.false_eq_true, mk_size, List.size_toArray, ByteArray.size_append, ByteArray.size_extract, List.length_cons, List.length_nil, ba_get, ba_empty, Int.toNat_natCast] at hW)) | (refine And.intro (?_ : _ → _) (?_ : _ → _)) | (refine FinR.drop 0 (Nat.zero_le _) (Closed.zero _) rfl ?_) | (refine FinR.keep ?_) | (refine And.intro (det3_agg rfl) ?_) | (refine fL_mk ?_) | (refine And.intro (by (try simp only [mk_size, List.size_toArray, ByteArray.size_append, ByteArray.size_extract, List.length_cons, List.length_nil]); omega) ?_) | (refine And.intro (by (try simp only [mk_size, List.size_toArray, ByteArray.size_append, ByteArray.size_extract, List.length_cons, List.length_nil, wrap64_eq]); omega) ?_) | fail)
  all_goals (rw [e1] at *)
  all_goals (refine kI' h0 ?_; first | rw [if_pos (by omega)] | rw [if_neg (by omega)])
theorem d_szSheetS (a : AV) (xs : List (List Int)) (m : Int) (ha : Sli W0 σ 6 enI a xs) (hl : xs.length ≤ 9223372036854775807) (hm : 0 ≤ m ∧ m ≤ 1048576) (K : Cont) (h0 : K (I (if m - (xs.length : Nat) < 0 then -1 else m - (xs.length : Nat))) σ) : ACall Try.prog W0 11 [a, I m] σ K :=
  lift_Sp (by kernel_rfl) rfl (fun _ => rfl) ha (fun W1 a' h K hK => c_szSheetS a' xs m h hl hm K hK) K h0
theorem c_eqSheetS (a b : AV) (xs : List (List Int)) (ha : Sli W0 [] 6 enI a xs) (hb' : Sli W0 [] 6 enI b xs) (hx : ∀ x ∈ xs, x.length = 6) (hl : xs.length ≤ 1048576) (K : Cont) (h0 : K (Bo true) []) : ACall Try.prog W0 23 [a, b] [] K := by
  refine by23 (Nat.le_of_ble_eq_true rfl) ?_
  obtain ⟨o, n, cap, rfl, hn, hc, hm, hf⟩ := sli_form ha
  obtain ⟨o2, n2, cap2, rfl, hn2, hc2, hm2, hf2⟩ := sli_form hb'
  subst hn
  have hnl : xs.length = n2 := hn2.symm
  subst hn2
  repeat' ((conv => whnf); first | (refine Exists.intro ([] : List Nat) ?_) | (refine And.intro rfl ?_) | (refine And.intro (by decide +kernel) ?_) | (refine And.intro trivial ?_) | (refine Exists.intro _ (And.intro rfl (And.intro rfl (And.intro (Nat.le_of_ble_eq_true rfl) ?_)))) | (refine Exists.intro _ (And.intro rfl (And.intro rfl (And.intro rfl (And.intro (Nat.le_of_ble_eq_true rfl) ?_))))) | (refine And.intro (Exists.intro _ (And.intro rfl rfl)) ?_) | (exact fun hW => absurd hW (by decide +kernel)) | (intro hW; (try simp only [Bool.not_true, Bool.not_false, Bool.not_eq_true', Bool.not_eq_false', decide_eq_true_eq, decide_eq_false_iff_not, reduceCtorEq, Bool.true_eq_false, Bool.false_eq_true, mk_size, List.size_toArray, ByteArray.size_append, ByteArray.size_extract, List.length_cons, List.length_nil, ba_get, ba_empty, Int.toNat_natCast] at hW)) | (refine And.intro (?_ : _ → _) (?_ : _ → _)) | (refine FinR.drop 0 (Nat.zero_le _) (Closed.zero _) rfl ?_) | (refine FinR.keep ?_) | (refine And.intro (det3_agg rfl) ?_) | (refine fL_mk ?_) | (refine And.intro (by (try simp only [mk_size, List.size_toArray, ByteArray.size_append, ByteArray.size_extract, List.length_cons, List.length_nil]); omega) ?_) | (refine And.intro (by (try simp only [mk_size, List.size_toArray, ByteArray.size_append, ByteArray.size_extract, List.length_cons, List.length_nil, wrap64_eq]); omega) ?_) | fail)
  all_goals first | (exfalso; omega) | (exfalso; simp_all; done) | skip
  refine LoopR.live (fun i : Nat => [(0, .lit (.slice o xs.length cap)), (1, .lit (.slice o2 xs.length cap2)), (5, I i)]) (fun i => []) (fun i => i ≤ xs.length) (fun i => xs.length - i) 0 ⟨rfl, rfl, rfl, trivial⟩ (.keep rfl) (Nat.zero_le _) ?_
  intro i hi
  by_cases hlt : i < xs.length
  · obtain ⟨c0, c1, c2, c3, c4, c5, hxi⟩ := row6x hx hlt
    obtain ⟨ad, rfl, hb, hxx⟩ := hf i _ hxi
    obtain ⟨ad2, rfl, hb2, hxx2⟩ := hf2 i _ hxi
    have hld := fun C h => ldIn (W0 := W0) (s := 6) (enc := enI) hb hxx (k := i) hxi rfl (C := C) h
    have hld2 := fun C h => ldIn (W0 := W0) (s := 6) (enc := enI) hb2 hxx2 (k := i) hxi rfl (C := C) h
    repeat' ((conv => whnf); first | (refine Exists.intro ([] : List Nat) ?_) | (refine And.intro rfl ?_) | (refine And.intro (by decide +kernel) ?_) | (refine And.intro trivial ?_) | (refine hld _ ?_) | (refine hld2 _ ?_) | (refine d_eqSheet (h0 := ?_) ..) | (refine Exists.intro _ (And.intro (fun τ => callW_fn (d_eqSheet (h0 := And.intro rfl rfl) ..)) ?_)) | (refine Exists.intro _ (And.intro (callW_fn (d_eqSheet (h0 := And.intro rfl rfl) ..)) (And.intro trivial ?_))) | (refine Exists.intro _ (And.intro (callW_fn (d_eqSheet (h0 := And.intro rfl rfl) ..)) ?_)) | (refine Exists.intro _ (And.intro (fun τ _ => callW_fn (d_eqSheet (h0 := And.intro rfl rfl) ..)) ?_)) | (refine And.intro rfl (hld _ ?_)) | (refine And.intro rfl (hld2 _ ?_)) | (refine Exists.intro _ (And.intro rfl (And.intro rfl (And.intro (Nat.le_of_ble_eq_true rfl) ?_)))) | (refine Exists.intro _ (And.intro rfl (And.intro rfl (And.intro rfl (And.intro (Nat.le_of_ble_eq_true rfl) ?_))))) | (refine And.intro (Exists.intro _ (And.intro rfl rfl)) ?_) | (exact fun hW => absurd hW (by decide +kernel)) | (intro hW; (try simp only [Bool.not_true, Bool.not_false, Bool.not_eq_true', Bool.not_eq_false', decide_eq_true_eq, decide_eq_false_iff_not, reduceCtorEq, Bool.true_eq_false, Bool.false_eq_true, mk_size, List.size_toArray, ByteArray.size_append, ByteArray.size_extract, List.length_cons, List.length_nil, ba_get, ba_empty, Int.toNat_natCast] at hW)) | (refine And.intro (?_ : _ → _) (?_ : _ → _)) | (refine FinR.drop 0 (Nat.zero_le _) (Closed.zero _) rfl ?_) | (refine FinR.keep ?_) | (refine And.intro (det3_agg rfl) ?_) | (refine fL_mk ?_) | (refine And.intro (by (try simp only [mk_size, List.size_toArray, ByteArray.size_append, ByteArray.size_extract, List.length_cons, List.length_nil]); omega) ?_) | (refine And.intro (by (try simp only [mk_size, List.size_toArray, ByteArray.size_append, ByteArray.size_extract, List.length_cons, List.length_nil, wrap64_eq]); omega) ?_) | fail)
    all_goals first | (exfalso; omega) | (exfalso; simp_all [eq6]; done) | skip
    exact Again.go (i + 1) ⟨rfl, rfl, slI' (wsucc' i (by omega)), trivial⟩ (.keep rfl) (by omega) (by omega)
  · obtain rfl : i = xs.length := by omega
    repeat' ((conv => whnf); first | (refine Exists.intro ([] : List Nat) ?_) | (refine And.intro rfl ?_) | (refine And.intro (by decide +kernel) ?_) | (refine And.intro trivial ?_) | (refine Exists.intro _ (And.intro rfl (And.intro rfl (And.intro (Nat.le_of_ble_eq_true rfl) ?_)))) | (refine Exists.intro _ (And.intro rfl (And.intro rfl (And.intro rfl (And.intro (Nat.le_of_ble_eq_true rfl) ?_))))) | (refine And.intro (Exists.intro _ (And.intro rfl rfl)) ?_) | (exact fun hW => absurd hW (by decide +kernel)) | (intro hW; (try simp only [Bool.not_true, Bool.not_false, Bool.not_eq_true', Bool.not_eq_false', decide_eq_true_eq, decide_eq_false_iff_not, reduceCtorEq, Bool.true_eq_false, Bool.false_eq_true, mk_size, List.size_toArray, ByteArray.size_append, ByteArray.size_extract, List.length_cons, List.length_nil, ba_get, ba_empty, Int.toNat_natCast] at hW)) | (refine And.intro (?_ : _ → _) (?_ : _ → _)) | (refine FinR.drop 0 (Nat.zero_le _) (Closed.zero _) rfl ?_) | (refine FinR.keep ?_) | (refine And.intro (det3_agg rfl) ?_) | (refine fL_mk ?_) | (refine And.intro (by (try simp only [mk_size, List.size_toArray, ByteArray.size_append, ByteArray.size_extract, List.length_cons, List.length_nil]); omega) ?_) | (refine And.intro (by (try simp only [mk_size, List.size_toArray, ByteArray.size_append, ByteArray.size_extract, List.length_cons, List.length_nil, wrap64_eq]); omega) ?_) | fail)
    all_goals first | (exfalso; omega) | exact h0
theorem d_eqSheetS (a b : AV) (xs : List (List Int)) (ha : Sli W0 σ 6 enI a xs) (hb' : Sli W0 σ 6 enI b xs) (hx : ∀ x ∈ xs, x.length = 6) (hl : xs.length ≤ 1048576) (K : Cont) (h0 : K (Bo true) σ) : ACall Try.prog W0 23 [a, b] σ K :=
  lift_Ss (by kernel_rfl) (fun _ => rfl) ha hb' (fun W1 a' b' h h' K hK => c_eqSheetS a' b' xs h h' hx hl K hK) K h0
theorem row4x {xs : List (List Int)} (hx : ∀ x ∈ xs, x.length = 4) {n : Nat} (hlt : n < xs.length) : ∃ c0 c1 c2 c3, xs[n]? = some [c0, c1, c2, c3] := by
  have hxi : xs[n]? = some xs[n] := List.getElem?_eq_getElem hlt
  have := hx _ (List.mem_of_getElem? hxi)
  rw [hxi]
  match hh : xs[n], this with
  | [c0, c1, c2, c3], _ => exact ⟨c0, c1, c2, c3, rfl⟩
theorem c_toStepS (a : AV) (xs : List (List Int)) (hs : Sli W0 [] 4 enI a xs) (hx : ∀ x ∈ xs, x.length = 4) (hl : xs.length ≤ 1048576) (K : Cont) (h0 : K (.sl 0 0 0 xs.length xs.length) [⟨jc xs, 0, 53, 4, true, true⟩]) : ACall Try.prog W0 17 [a] [] K := by
  refine by17 (Nat.le_of_ble_eq_true rfl) ?_
  obtain ⟨o, n, cap, rfl, hn, hc, hm, hf⟩ := sli_form hs
  subst hn
  have hmk : (32 : Int) * (xs.length : Int) ≤ 281474976710656 := by omega
  have hmk2 : ((xs.length : Nat) : Int).toNat ≤ maxLen := by unfold maxLen; omega
  repeat' ((conv => whnf); first | (refine And.intro (Int.natCast_nonneg xs.length) (And.intro (Int.le_refl _) (And.intro hmk (And.intro (by omega) (And.intro hmk2 ?_))))) | (refine Exists.intro ([] : List Nat) ?_) | (refine And.intro rfl ?_) | (refine And.intro (by decide +kernel) ?_) | (refine And.intro trivial ?_) | (refine Exists.intro _ (And.intro rfl (And.intro rfl (And.intro (Nat.le_of_ble_eq_true rfl) ?_)))) | (refine Exists.intro _ (And.intro rfl (And.intro rfl (And.intro rfl (And.intro (Nat.le_of_ble_eq_true rfl) ?_))))) | (refine And.intro (Exists.intro _ (And.intro rfl rfl)) ?_) | (exact fun hW => absurd hW (by decide +kernel)) | (intro hW; (try simp only [Bool.not_true, Bool.not_false, Bool.not_eq_true', Bool.not_eq_false', decide_eq_true_eq, decide_eq_false_iff_not, reduceCtorEq, Bool.true_eq_false, Bool.false_eq_true, mk_size, List.size_toArray, ByteArray.size_append, ByteArray.size_extract, List.length_cons, List.length_nil, ba_get, ba_empty, Int.toNat_natCast] at hW)) | (refine And.intro (?_ : _ → _) (?_ : _ → _)) | (refine FinR.drop 0 (Nat.zero_le _) (Closed.zero _) rfl ?_) | (refine FinR.keep ?_) | (refine And.intro (det3_agg rfl) ?_) | (refine fL_mk ?_) | (refine And.intro (by (try simp only [mk_size, List.size_toArray, ByteArray.size_append, ByteArray.size_extract, List.length_cons, List.length_nil]); omega) ?_) | (refine And.intro (by (try simp only [mk_size, List.size_toArray, ByteArray.size_append, ByteArray.size_extract, List.length_cons, List.length_nil, wrap64_eq]); omega) ?_) | fail)
  refine LoopR.live (fun i : Nat => [(0, .lit (.slice o xs.length cap)), (3, .sl 0 0 0 xs.length xs.length), (4, I i)]) (fun i => [⟨jst xs i [I 0, I 0, I 0, I 0], 0, 53, 4, true, true⟩]) (fun i => i ≤ xs.length) (fun i => xs.length - i) 0 ⟨rfl, rfl, rfl, trivial⟩ (.keep rfl) (Nat.zero_le _) ?_
  intro i hi
  by_cases hlt : i < xs.length
  · obtain ⟨c0, c1, c2, c3, hxi⟩ := row4x hx hlt
    obtain ⟨ad, rfl, hb, hxx⟩ := hf i _ hxi
    have hld := fun C h => ldIn (W0 := W0) (s := 4) (enc := enI) hb hxx (k := i) hxi rfl (C := C) h
    have hlen : 0 + ((i : Nat) : Int).toNat * 4 + 4 ≤ (jst xs i [I 0, I 0, I 0, I 0]).length := by rw [jst_len (s := 4) hx rfl hi, Int.toNat_natCast]; omega
    have hst := jst_step (s := 4) (zc := [I 0, I 0, I 0, I 0]) hx rfl hxi
    repeat' ((conv => whnf); first | (refine Exists.intro _ (And.intro rfl (And.intro rfl (And.intro rfl (And.intro hlen ?_))))) | (refine Exists.intro ([] : List Nat) ?_) | (refine And.intro rfl ?_) | (refine And.intro (by decide +kernel) ?_) | (refine And.intro trivial ?_) | (refine hld _ ?_) | (refine d_toStep (h0 := ?_) ..) | (refine Exists.intro _ (And.intro (fun τ => callW_fn (d_toStep (h0 := And.intro rfl rfl) ..)) ?_)) | (refine Exists.intro _ (And.intro (callW_fn (d_toStep (h0 := And.intro rfl rfl) ..)) (And.intro trivial ?_))) | (refine Exists.intro _ (And.intro (callW_fn (d_toStep (h0 := And.intro rfl rfl) ..)) ?_)) | (refine Exists.intro _ (And.intro (fun τ _ => callW_fn (d_toStep (h0 := And.intro rfl rfl) ..)) ?_)) | (refine Exists.intro _ (And.intro rfl (And.intro rfl (And.intro (Nat.le_of_ble_eq_true rfl) ?_)))) | (refine Exists.intro _ (And.intro rfl (And.intro rfl (And.intro rfl (And.intro (Nat.le_of_ble_eq_true rfl) ?_))))) | (refine And.intro (Exists.intro _ (And.intro rfl rfl)) ?_) | (exact fun hW => absurd hW (by decide +kernel)) | (intro hW; (try simp only [Bool.not_true, Bool.not_false, Bool.not_eq_true', Bool.not_eq_false', decide_eq_true_eq, decide_eq_false_iff_not, reduceCtorEq, Bool.true_eq_false, Bool.false_eq_true, mk_size, List.size_toArray, ByteArray.size_append, ByteArray.size_extract, List.length_cons, List.length_nil, ba_get, ba_empty, Int.toNat_natCast] at hW)) | (refine And.intro (?_ : _ → _) (?_ : _ → _)) | (refine FinR.drop 0 (Nat.zero_le _) (Closed.zero _) rfl ?_) | (refine FinR.keep ?_) | (refine And.intro (det3_agg rfl) ?_) | (refine fL_mk ?_) | (refine And.intro (by (try simp only [mk_size, List.size_toArray, ByteArray.size_append, ByteArray.size_extract, List.length_cons, List.length_nil]); omega) ?_) | (refine And.intro (by (try simp only [mk_size, List.size_toArray, ByteArray.size_append, ByteArray.size_extract, List.length_cons, List.length_nil, wrap64_eq]); omega) ?_) | fail)
    all_goals first | (exfalso; omega) | skip
    refine Again.go (i + 1) ⟨rfl, rfl, slI' (wsucc' i (by omega)), trivial⟩ (.keep ?_) (by omega) (by omega)
    show _ = [_]
    rw [← hst]
    simp only [Int.toNat_natCast, Nat.zero_add]
    rfl
  · obtain rfl : i = xs.length := by omega
    have e : jst xs xs.length [I 0, I 0, I 0, I 0] = jc xs := by simp [jst, rep]
    rw [e]
    repeat' ((conv => whnf); first | (refine Exists.intro ([] : List Nat) ?_) | (refine And.intro rfl ?_) | (refine And.intro (by decide +kernel) ?_) | (refine And.intro trivial ?_) | (refine Exists.intro _ (And.intro rfl (And.intro rfl (And.intro (Nat.le_of_ble_eq_true rfl) ?_)))) | (refine Exists.intro _ (And.intro rfl (And.intro rfl (And.intro rfl (And.intro (Nat.le_of_ble_eq_true rfl) ?_))))) | (refine And.intro (Exists.intro _ (And.intro rfl rfl)) ?_) | (exact fun hW => absurd hW (by decide +kernel)) | (intro hW; (try simp only [Bool.not_true, Bool.not_false, Bool.not_eq_true', Bool.not_eq_false', decide_eq_true_eq, decide_eq_false_iff_not, reduceCtorEq, Bool.true_eq_false, Bool.false_eq_true, mk_size, List.size_toArray, ByteArray.size_append, ByteArray.size_extract, List.length_cons, List.length_nil, ba_get, ba_empty, Int.toNat_natCast] at hW)) | (refine And.intro (?_ : _ → _) (?_ : _ → _)) | (refine FinR.drop 0 (Nat.zero_le _) (Closed.zero _) rfl ?_) | (refine FinR.keep ?_) | (refine And.intro (det3_agg rfl) ?_) | (refine fL_mk ?_) | (refine And.intro (by (try simp only [mk_size, List.size_toArray, ByteArray.size_append, ByteArray.size_extract, List.length_cons, List.length_nil]); omega) ?_) | (refine And.intro (by (try simp only [mk_size, List.size_toArray, ByteArray.size_append, ByteArray.size_extract, List.length_cons, List.length_nil, wrap64_eq]); omega) ?_) | fail)
    all_goals first | (exfalso; omega) | exact h0
theorem d_toStepS (a : AV) (xs : List (List Int)) (hs : Sli W0 σ 4 enI a xs) (hx : ∀ x ∈ xs, x.length = 4) (hl : xs.length ≤ 1048576) (K : Cont) (h0 : K (.sl (σ.length + 0) 0 0 xs.length xs.length) (σ ++ [⟨jc xs, 0, 53, 4, true, true⟩])) : ACall Try.prog W0 17 [a] σ K :=
  lift_S1 (ι := Unit) (fun _ => .sl 0 0 0 xs.length xs.length) (fun _ => [⟨jc xs, 0, 53, 4, true, true⟩]) (by kernel_rfl) hs (fun W1 a' h K hK => c_toStepS a' xs h hx hl K (hK ())) K (fun _ => by
    rw [show shB σ.length [(⟨jc xs, 0, 53, 4, true, true⟩ : Blk)] = [⟨jc xs, 0, 53, 4, true, true⟩] by simp [shB, jc_sh]]; exact h0)
theorem c_szStepS (a : AV) (xs : List (List Int)) (m : Int) (ha : Sli W0 [] 4 enI a xs) (hl : xs.length ≤ 9223372036854775807) (hm : 0 ≤ m ∧ m ≤ 1048576) (K : Cont) (h0 : K (I (if m - (xs.length : Nat) < 0 then -1 else m - (xs.length : Nat))) []) : ACall Try.prog W0 12 [a, I m] [] K := by
  refine by12 (Nat.le_of_ble_eq_true rfl) ?_
  have e1 : IntKind.i64.wrap (m - (xs.length : Nat)) = m - (xs.length : Nat) := wrap_i64 _ (by omega) (by omega)
  obtain ⟨o, n, cap, rfl, hn, hc, hm', hf⟩ := sli_form ha
  subst hn
  repeat' ((conv => whnf); first | (refine Exists.intro ([] : List Nat) ?_) | (refine And.intro rfl ?_) | (refine And.intro (by decide +kernel) ?_) | (refine And.intro trivial ?_) | (refine Exists.intro _ (And.intro rfl (And.intro rfl (And.intro (Nat.le_of_ble_eq_true rfl) ?_)))) | (refine Exists.intro _ (And.intro rfl (And.intro rfl (And.intro rfl (And.intro (Nat.le_of_ble_eq_true rfl) ?_))))) | (refine And.intro (Exists.intro _ (And.intro rfl rfl)) ?_) | (exact fun hW => absurd hW (by decide +kernel)) | (intro hW; (try simp only [Bool.not_true, Bool.not_false, Bool.not_eq_true', Bool.not_eq_false', decide_eq_true_eq, decide_eq_false_iff_not, reduceCtorEq, Bool.true_eq_false, Bool.false_eq_true, mk_size, List.size_toArray, ByteArray.size_append, ByteArray.size_extract, List.length_cons, List.length_nil, ba_get, ba_empty, Int.toNat_natCast] at hW)) | (refine And.intro (?_ : _ → _) (?_ : _ → _)) | (refine FinR.drop 0 (Nat.zero_le _) (Closed.zero _) rfl ?_) | (refine FinR.keep ?_) | (refine And.intro (det3_agg rfl) ?_) | (refine fL_mk ?_) | (refine And.intro (by (try simp only [mk_size, List.size_toArray, ByteArray.size_append, ByteArray.size_extract, List.length_cons, List.length_nil]); omega) ?_) | (refine And.intro (by (try simp only [mk_size, List.size_toArray, ByteArray.size_append, ByteArray.size_extract, List.length_cons, List.length_nil, wrap64_eq]); omega) ?_) | fail)
  all_goals (rw [e1] at *)
  all_goals (refine kI' h0 ?_; first | rw [if_pos (by omega)] | rw [if_neg (by omega)])
theorem d_szStepS (a : AV) (xs : List (List Int)) (m : Int) (ha : Sli W0 σ 4 enI a xs) (hl : xs.length ≤ 9223372036854775807) (hm : 0 ≤ m ∧ m ≤ 1048576) (K : Cont) (h0 : K (I (if m - (xs.length : Nat) < 0 then -1 else m - (xs.length : Nat))) σ) : ACall Try.prog W0 12 [a, I m] σ K :=
  lift_Sp (by kernel_rfl) rfl (fun _ => rfl) ha (fun W1 a' h K hK => c_szStepS a' xs m h hl hm K hK) K h0
theorem c_eqStepS (a b : AV) (xs : List (List Int)) (ha : Sli W0 [] 4 enI a xs) (hb' : Sli W0 [] 4 enI b xs) (hx : ∀ x ∈ xs, x.length = 4) (hl : xs.length ≤ 1048576) (K : Cont) (h0 : K (Bo true) []) : ACall Try.prog W0 24 [a, b] [] K := by
  refine by24 (Nat.le_of_ble_eq_true rfl) ?_
  obtain ⟨o, n, cap, rfl, hn, hc, hm, hf⟩ := sli_form ha
  obtain ⟨o2, n2, cap2, rfl, hn2, hc2, hm2, hf2⟩ := sli_form hb'
  subst hn
  have hnl : xs.length = n2 := hn2.symm
  subst hn2
  repeat' ((conv => whnf); first | (refine Exists.intro ([] : List Nat) ?_) | (refine And.intro rfl ?_) | (refine And.intro (by decide +kernel) ?_) | (refine And.intro trivial ?_) | (refine Exists.intro _ (And.intro rfl (And.intro rfl (And.intro (Nat.le_of_ble_eq_true rfl) ?_)))) | (refine Exists.intro _ (And.intro rfl (And.intro rfl (And.intro rfl (And.intro (Nat.le_of_ble_eq_true rfl) ?_))))) | (refine And.intro (Exists.intro _ (And.intro rfl rfl)) ?_) | (exact fun hW => absurd hW (by decide +kernel)) | (intro hW; (try simp only [Bool.not_true, Bool.not_false, Bool.not_eq_true', Bool.not_eq_false', decide_eq_true_eq, decide_eq_false_iff_not, reduceCtorEq, Bool.true_eq_false, Bool.false_eq_true, mk_size, List.size_toArray, ByteArray.size_append, ByteArray.size_extract, List.length_cons, List.length_nil, ba_get, ba_empty, Int.toNat_natCast] at hW)) | (refine And.intro (?_ : _ → _) (?_ : _ → _)) | (refine FinR.drop 0 (Nat.zero_le _) (Closed.zero _) rfl ?_) | (refine FinR.keep ?_) | (refine And.intro (det3_agg rfl) ?_) | (refine fL_mk ?_) | (refine And.intro (by (try simp only [mk_size, List.size_toArray, ByteArray.size_append, ByteArray.size_extract, List.length_cons, List.length_nil]); omega) ?_) | (refine And.intro (by (try simp only [mk_size, List.size_toArray, ByteArray.size_append, ByteArray.size_extract, List.length_cons, List.length_nil, wrap64_eq]); omega) ?_) | fail)
  all_goals first | (exfalso; omega) | (exfalso; simp_all; done) | skip
  refine LoopR.live (fun i : Nat => [(0, .lit (.slice o xs.length cap)), (1, .lit (.slice o2 xs.length cap2)), (5, I i)]) (fun i => []) (fun i => i ≤ xs.length) (fun i => xs.length - i) 0 ⟨rfl, rfl, rfl, trivial⟩ (.keep rfl) (Nat.zero_le _) ?_
  intro i hi
  by_cases hlt : i < xs.length
  · obtain ⟨c0, c1, c2, c3, hxi⟩ := row4x hx hlt
    obtain ⟨ad, rfl, hb, hxx⟩ := hf i _ hxi
    obtain ⟨ad2, rfl, hb2, hxx2⟩ := hf2 i _ hxi
    have hld := fun C h => ldIn (W0 := W0) (s := 4) (enc := enI) hb hxx (k := i) hxi rfl (C := C) h
    have hld2 := fun C h => ldIn (W0 := W0) (s := 4) (enc := enI) hb2 hxx2 (k := i) hxi rfl (C := C) h
    repeat' ((conv => whnf); first | (refine Exists.intro ([] : List Nat) ?_) | (refine And.intro rfl ?_) | (refine And.intro (by decide +kernel) ?_) | (refine And.intro trivial ?_) | (refine hld _ ?_) | (refine hld2 _ ?_) | (refine d_eqStep (h0 := ?_) ..) | (refine Exists.intro _ (And.intro (fun τ => callW_fn (d_eqStep (h0 := And.intro rfl rfl) ..)) ?_)) | (refine Exists.intro _ (And.intro (callW_fn (d_eqStep (h0 := And.intro rfl rfl) ..)) (And.intro trivial ?_))) | (refine Exists.intro _ (And.intro (callW_fn (d_eqStep (h0 := And.intro rfl rfl) ..)) ?_)) | (refine Exists.intro _ (And.intro (fun τ _ => callW_fn (d_eqStep (h0 := And.intro rfl rfl) ..)) ?_)) | (refine And.intro rfl (hld _ ?_)) | (refine And.intro rfl (hld2 _ ?_)) | (refine Exists.intro _ (And.intro rfl (And.intro rfl (And.intro (Nat.le_of_ble_eq_true rfl) ?_)))) | (refine Exists.intro _ (And.intro rfl (And.intro rfl (And.intro rfl (And.intro (Nat.le_of_ble_eq_true rfl) ?_))))) | (refine And.intro (Exists.intro _ (And.intro rfl rfl)) ?_) | (exact fun hW => absurd hW (by decide +kernel)) | (intro hW; (try simp only [Bool.not_true, Bool.not_false, Bool.not_eq_true', Bool.not_eq_false', decide_eq_true_eq, decide_eq_false_iff_not, reduceCtorEq, Bool.true_eq_false, Bool.false_eq_true, mk_size, List.size_toArray, ByteArray.size_append, ByteArray.size_extract, List.length_cons, List.length_nil, ba_get, ba_empty, Int.toNat_natCast] at hW)) | (refine And.intro (?_ : _ → _) (?_ : _ → _)) | (refine FinR.drop 0 (Nat.zero_le _) (Closed.zero _) rfl ?_) | (refine FinR.keep ?_) | (refine And.intro (det3_agg rfl) ?_) | (refine fL_mk ?_) | (refine And.intro (by (try simp only [mk_size, List.size_toArray, ByteArray.size_append, ByteArray.size_extract, List.length_cons, List.length_nil]); omega) ?_) | (refine And.intro (by (try simp only [mk_size, List.size_toArray, ByteArray.size_append, ByteArray.size_extract, List.length_cons, List.length_nil, wrap64_eq]); omega) ?_) | fail)
    all_goals first | (exfalso; omega) | (exfalso; simp_all; done) | skip
    exact Again.go (i + 1) ⟨rfl, rfl, slI' (wsucc' i (by omega)), trivial⟩ (.keep rfl) (by omega) (by omega)
  · obtain rfl : i = xs.length := by omega
    repeat' ((conv => whnf); first | (refine Exists.intro ([] : List Nat) ?_) | (refine And.intro rfl ?_) | (refine And.intro (by decide +kernel) ?_) | (refine And.intro trivial ?_) | (refine Exists.intro _ (And.intro rfl (And.intro rfl (And.intro (Nat.le_of_ble_eq_true rfl) ?_)))) | (refine Exists.intro _ (And.intro rfl (And.intro rfl (And.intro rfl (And.intro (Nat.le_of_ble_eq_true rfl) ?_))))) | (refine And.intro (Exists.intro _ (And.intro rfl rfl)) ?_) | (exact fun hW => absurd hW (by decide +kernel)) | (intro hW; (try simp only [Bool.not_true, Bool.not_false, Bool.not_eq_true', Bool.not_eq_false', decide_eq_true_eq, decide_eq_false_iff_not, reduceCtorEq, Bool.true_eq_false, Bool.false_eq_true, mk_size, List.size_toArray, ByteArray.size_append, ByteArray.size_extract, List.length_cons, List.length_nil, ba_get, ba_empty, Int.toNat_natCast] at hW)) | (refine And.intro (?_ : _ → _) (?_ : _ → _)) | (refine FinR.drop 0 (Nat.zero_le _) (Closed.zero _) rfl ?_) | (refine FinR.keep ?_) | (refine And.intro (det3_agg rfl) ?_) | (refine fL_mk ?_) | (refine And.intro (by (try simp only [mk_size, List.size_toArray, ByteArray.size_append, ByteArray.size_extract, List.length_cons, List.length_nil]); omega) ?_) | (refine And.intro (by (try simp only [mk_size, List.size_toArray, ByteArray.size_append, ByteArray.size_extract, List.length_cons, List.length_nil, wrap64_eq]); omega) ?_) | fail)
    all_goals first | (exfalso; omega) | exact h0
theorem d_eqStepS (a b : AV) (xs : List (List Int)) (ha : Sli W0 σ 4 enI a xs) (hb' : Sli W0 σ 4 enI b xs) (hx : ∀ x ∈ xs, x.length = 4) (hl : xs.length ≤ 1048576) (K : Cont) (h0 : K (Bo true) σ) : ACall Try.prog W0 24 [a, b] σ K :=
  lift_Ss (by kernel_rfl) (fun _ => rfl) ha hb' (fun W1 a' b' h h' K hK => c_eqStepS a' b' xs h h' hx hl K hK) K h0
end Go.Proofs.Ytcfkhiplmnamcaa
end

section
/- Contracts: plans as values; which are valid. -/
set_option linter.unusedVariables false
set_option linter.unusedSimpArgs false
set_option maxRecDepth 100000
set_option maxHeartbeats 4000000
namespace Go.Proofs.Ytcfkhiplmnamcaa
open Go Go.RowKit Go.Proofs.Ytcfkhiplmnamcaa.Abs
variable {W0 : World} {σ : List Blk}
abbrev PlA (a b c d e f : Int) (s1 s2 : AV) : AV := .agg [I a, I b, I c, I d, I e, I f, s1, s2]
theorem sli_r31 {α : Type} {s : Nat} {enc : α → List Value} {a : AV} {xs : List α} {ι : Abs.Loc} {x : Value} (h : Sli W0 σ s enc a xs) (hr : rel1 ι σ a x) : rel3 ι σ a x := by
  cases h <;> exact hr
theorem rels_pure {ι : Abs.Loc} : ∀ {l : List AV} {vs : List Value}, l.all pure3 = true → Rels (rel3 ι σ) l vs → Rels (rel3 [] []) l vs
  | [], vs, _, h => by rw [h.nil_inv]; exact Rels.nil
  | a :: l, vs, hp, h => by
    simp only [List.all_cons, Bool.and_eq_true] at hp
    obtain ⟨b, m, rfl, h1, h2⟩ := Rels.uncons h
    exact Rels.cons (rel3_pure hp.1 h1) (rels_pure hp.2 h2)
theorem plA_conc {a b c d e f : Int} {s1 s2 : AV} {xs ys : List (List Int)} {ι : Abs.Loc} {W1 : World} {x : Value} (h1 : Sli W0 σ 6 enI s1 xs) (h2 : Sli W0 σ 4 enI s2 ys) (hh : HRel W0 ι σ W1) (hr : rel3 ι σ (PlA a b c d e f s1 s2) x) :
    ∃ t1 t2, Sli W1 [] 6 enI t1 xs ∧ Sli W1 [] 4 enI t2 ys ∧ rel3 [] [] (PlA a b c d e f t1 t2) x := by
  obtain ⟨l, rfl, hl⟩ := (show ∃ l : List Value, x = .agg l.toArray ∧ Rels (crel ι σ) [I a, I b, I c, I d, I e, I f, s1, s2] l from hr)
  obtain ⟨x0, l0, rfl, q0, r0⟩ := Rels.uncons hl
  obtain ⟨x1, l1, rfl, q1, r1⟩ := Rels.uncons r0
  obtain ⟨x2, l2, rfl, q2, r2⟩ := Rels.uncons r1
  obtain ⟨x3, l3, rfl, q3, r3⟩ := Rels.uncons r2
  obtain ⟨x4, l4, rfl, q4, r4⟩ := Rels.uncons r3
  obtain ⟨x5, l5, rfl, q5, r5⟩ := Rels.uncons r4
  obtain ⟨x6, l6, rfl, q6, r6⟩ := Rels.uncons r5
  obtain ⟨x7, l7, rfl, q7, r7⟩ := Rels.uncons r6
  obtain rfl := r7.nil_inv
  obtain ⟨t1, ht1, hs1⟩ := h1.conc hh ⟨x6, sli_r31 h1 q6.1⟩
  obtain ⟨t2, ht2, hs2⟩ := h2.conc hh ⟨x7, sli_r31 h2 q7.1⟩
  obtain ⟨v1, rfl⟩ := sli_lit hs1
  obtain ⟨v2, rfl⟩ := sli_lit hs2
  refine ⟨_, _, hs1, hs2, _, rfl, ?_⟩
  exact Rels.cons ⟨q0.1, q0.2⟩ (Rels.cons ⟨q1.1, q1.2⟩ (Rels.cons ⟨q2.1, q2.2⟩ (Rels.cons ⟨q3.1, q3.2⟩ (Rels.cons ⟨q4.1, q4.2⟩ (Rels.cons ⟨q5.1, q5.2⟩ (Rels.cons ⟨ht1 _ (sli_r31 h1 q6.1), q6.2⟩ (Rels.cons ⟨ht2 _ (sli_r31 h2 q7.1), q7.2⟩ Rels.nil)))))))
theorem lift_Pl {g : FuncId} {a b c d e f : Int} {s1 s2 : AV} {rest : List AV} {xs ys : List (List Int)} {ι : Type} (r : ι → AV) (β : ι → List Blk) (hok : callOK Try.prog g = true) (hrest : rest.all pure3 = true) (h1 : Sli W0 σ 6 enI s1 xs) (h2 : Sli W0 σ 4 enI s2 ys)
    (h : ∀ (W1 : World) (v1 v2 : Value), Sli W1 [] 6 enI (.lit v1) xs → Sli W1 [] 4 enI (.lit v2) ys → ∀ K : Cont, (∀ i, K (r i) (β i)) → ACall Try.prog W1 g (PlA a b c d e f (.lit v1) (.lit v2) :: rest) [] K) (K : Cont) (h0 : ∀ i, K (sh3 σ.length (r i)) (σ ++ shB σ.length (β i))) : ACall Try.prog W0 g (PlA a b c d e f s1 s2 :: rest) σ K := by
  refine ACall.frameA (K0 := fun v σ' => ∃ i, v = r i ∧ σ' = β i) hok (fun W1 ι vs hh hrr => ?_) ?_
  · obtain ⟨v1, vs', rfl, hr1, hr2⟩ := Rels.uncons hrr
    obtain ⟨t1, t2, q1, q2, q3⟩ := plA_conc h1 h2 hh hr1
    obtain ⟨u1, rfl⟩ := sli_lit q1
    obtain ⟨u2, rfl⟩ := sli_lit q2
    exact ⟨_ :: rest, Rels.cons q3 (rels_pure hrest hr2), h W1 u1 u2 q1 q2 _ (fun i => ⟨i, rfl, rfl⟩)⟩
  · rintro v σ' ⟨i, rfl, rfl⟩; exact h0 i
/-! steps and plans that are valid -/
def stOk (m : Nat) (r : List Int) : Bool := inB (r.getD 0 0) 1 3 && inB (r.getD 1 0) 0 ((m : Int) - 1) && cellB (r.getD 2 0) (r.getD 3 0)
def shRow (r : List Int) : Bool := shB6 (r.getD 0 0) (r.getD 1 0) (r.getD 2 0) (r.getD 3 0) (r.getD 4 0) (r.getD 5 0)
def planB (a b c d e f : Int) (xs ys : List (List Int)) : Bool := shB6 a b c d e f && decide (xs.length ≤ 4) && decide (ys.length ≤ 40) && xs.all shRow && ys.all (stOk xs.length)
theorem planB_iff {a b c d e f : Int} {xs ys : List (List Int)} : planB a b c d e f xs ys = true ↔ shB6 a b c d e f = true ∧ xs.length ≤ 4 ∧ ys.length ≤ 40 ∧ xs.all shRow = true ∧ ys.all (stOk xs.length) = true := by
  simp [planB, and_assoc]
theorem all_takeG {α : Type} {p : α → Bool} {xs : List α} {i : Nat} {x : α} (h : xs[i]? = some x) : (xs.take (i + 1)).all p = ((xs.take i).all p && p x) := by
  rw [take_snoc h, List.all_append]; simp
theorem all_badG {α : Type} {p : α → Bool} {xs : List α} {i : Nat} {x : α} (h : xs[i]? = some x) (hx : p x = false) : xs.all p = false := by
  rw [Bool.eq_false_iff]; intro hc
  rw [List.all_eq_true.1 hc x (List.mem_of_getElem? h)] at hx; cases hx
theorem stOk_eq (m : Nat) (k s x y : Int) : stOk m [k, s, x, y] = (inB k 1 3 && inB s 0 ((m : Int) - 1) && cellB x y) := rfl
theorem c_l11Step (k s x y : Int) (m : Nat) (hm : m ≤ 1048576) (K : Cont) (h0 : K (Bo (stOk m [k, s, x, y])) []) : ACall Try.prog W0 30 [Ste k s x y, I m] [] K := by
  rw [stOk_eq] at h0
  have ew : IntKind.i64.wrap ((m : Int) - 1) = (m : Int) - 1 := wrap_i64 _ (by omega) (by omega)
  refine by30 (Nat.le_of_ble_eq_true rfl) ?_
  repeat' ((conv => whnf); first | (refine Exists.intro ([] : List Nat) ?_) | (refine And.intro rfl ?_) | (refine And.intro (by decide +kernel) ?_) | (refine And.intro trivial ?_) | (refine d_l1In (h0 := ?_) ..) | (refine Exists.intro _ (And.intro (fun τ => callW_fn (d_l1In (h0 := And.intro rfl rfl) ..)) ?_)) | (refine Exists.intro _ (And.intro (callW_fn (d_l1In (h0 := And.intro rfl rfl) ..)) (And.intro trivial ?_))) | (refine Exists.intro _ (And.intro (callW_fn (d_l1In (h0 := And.intro rfl rfl) ..)) ?_)) | (refine Exists.intro _ (And.intro (fun τ _ => callW_fn (d_l1In (h0 := And.intro rfl rfl) ..)) ?_)) | (refine d_l2Cell (h0 := ?_) ..) | (refine Exists.intro _ (And.intro (fun τ => callW_fn (d_l2Cell (h0 := And.intro rfl rfl) ..)) ?_)) | (refine Exists.intro _ (And.intro (callW_fn (d_l2Cell (h0 := And.intro rfl rfl) ..)) (And.intro trivial ?_))) | (refine Exists.intro _ (And.intro (callW_fn (d_l2Cell (h0 := And.intro rfl rfl) ..)) ?_)) | (refine Exists.intro _ (And.intro (fun τ _ => callW_fn (d_l2Cell (h0 := And.intro rfl rfl) ..)) ?_)) | (refine Exists.intro _ (And.intro rfl (And.intro rfl (And.intro (Nat.le_of_ble_eq_true rfl) ?_)))) | (refine Exists.intro _ (And.intro rfl (And.intro rfl (And.intro rfl (And.intro (Nat.le_of_ble_eq_true rfl) ?_))))) | (refine And.intro (Exists.intro _ (And.intro rfl rfl)) ?_) | (exact fun hW => absurd hW (by decide +kernel)) | (intro hW; (try simp only [Bool.not_true, Bool.not_false, Bool.not_eq_true', Bool.not_eq_false', decide_eq_true_eq, decide_eq_false_iff_not, reduceCtorEq, Bool.true_eq_false, Bool.false_eq_true, mk_size, List.size_toArray, ByteArray.size_append, ByteArray.size_extract, List.length_cons, List.length_nil, ba_get, ba_empty, Int.toNat_natCast] at hW)) | (refine And.intro (?_ : _ → _) (?_ : _ → _)) | (refine FinR.drop 0 (Nat.zero_le _) (Closed.zero _) rfl ?_) | (refine FinR.keep ?_) | (refine And.intro (det3_agg rfl) ?_) | (refine fL_mk ?_) | (refine And.intro (by (try simp only [mk_size, List.size_toArray, ByteArray.size_append, ByteArray.size_extract, List.length_cons, List.length_nil]); omega) ?_) | (refine And.intro (by (try simp only [mk_size, List.size_toArray, ByteArray.size_append, ByteArray.size_extract, List.length_cons, List.length_nil, wrap64_eq]); omega) ?_) | fail)
  all_goals (refine kB' h0 ?_; clear h0; simp_all)
theorem d_l11Step (k s x y : Int) (m : Nat) (hm : m ≤ 1048576) (K : Cont) (h0 : K (Bo (stOk m [k, s, x, y])) σ) : ACall Try.prog W0 30 [Ste k s x y, I m] σ K :=
  ACall.lift rfl (fun _ => rfl) (fun W1 K _ hK => c_l11Step k s x y m hm K hK) h0
theorem c_isStep (k s x y : Int) (m : Nat) (hm : m ≤ 1048576) (K : Cont) (h0 : K (Bo (stOk m [k, s, x, y])) []) : ACall Try.prog W0 43 [Ste k s x y, I m] [] K := by
  rw [stOk_eq] at h0
  refine by43 (Nat.le_of_ble_eq_true rfl) ?_
  repeat' ((conv => whnf); first | (refine Exists.intro ([] : List Nat) ?_) | (refine And.intro rfl ?_) | (refine And.intro (by decide +kernel) ?_) | (refine And.intro trivial ?_) | (refine d_isCell (h0 := ?_) ..) | (refine Exists.intro _ (And.intro (fun τ => callW_fn (d_isCell (h0 := And.intro rfl rfl) ..)) ?_)) | (refine Exists.intro _ (And.intro (callW_fn (d_isCell (h0 := And.intro rfl rfl) ..)) (And.intro trivial ?_))) | (refine Exists.intro _ (And.intro (callW_fn (d_isCell (h0 := And.intro rfl rfl) ..)) ?_)) | (refine Exists.intro _ (And.intro (fun τ _ => callW_fn (d_isCell (h0 := And.intro rfl rfl) ..)) ?_)) | (refine Exists.intro _ (And.intro rfl (And.intro rfl (And.intro (Nat.le_of_ble_eq_true rfl) ?_)))) | (refine Exists.intro _ (And.intro rfl (And.intro rfl (And.intro rfl (And.intro (Nat.le_of_ble_eq_true rfl) ?_))))) | (refine And.intro (Exists.intro _ (And.intro rfl rfl)) ?_) | (exact fun hW => absurd hW (by decide +kernel)) | (intro hW; (try simp only [Bool.not_true, Bool.not_false, Bool.not_eq_true', Bool.not_eq_false', decide_eq_true_eq, decide_eq_false_iff_not, reduceCtorEq, Bool.true_eq_false, Bool.false_eq_true, mk_size, List.size_toArray, ByteArray.size_append, ByteArray.size_extract, List.length_cons, List.length_nil, ba_get, ba_empty, Int.toNat_natCast] at hW)) | (refine And.intro (?_ : _ → _) (?_ : _ → _)) | (refine FinR.drop 0 (Nat.zero_le _) (Closed.zero _) rfl ?_) | (refine FinR.keep ?_) | (refine And.intro (det3_agg rfl) ?_) | (refine fL_mk ?_) | (refine And.intro (by (try simp only [mk_size, List.size_toArray, ByteArray.size_append, ByteArray.size_extract, List.length_cons, List.length_nil]); omega) ?_) | (refine And.intro (by (try simp only [mk_size, List.size_toArray, ByteArray.size_append, ByteArray.size_extract, List.length_cons, List.length_nil, wrap64_eq]); omega) ?_) | fail)
  all_goals (refine kB' h0 ?_; clear h0; simp_all [inB] <;> intros <;> omega)
theorem d_isStep (k s x y : Int) (m : Nat) (hm : m ≤ 1048576) (K : Cont) (h0 : K (Bo (stOk m [k, s, x, y])) σ) : ACall Try.prog W0 43 [Ste k s x y, I m] σ K :=
  ACall.lift rfl (fun _ => rfl) (fun W1 K _ hK => c_isStep k s x y m hm K hK) h0
def plBx (a b c d e f : Int) (s1 s2 : AV) (e' : TypeId) : Blk := ⟨[I a, I b, I c, I d, I e, I f, s1, s2], 0, e', 0, false, false⟩
theorem c_l11Plan (a b c d e f : Int) (v1 v2 : Value) (xs ys : List (List Int)) (h1 : Sli W0 [] 6 enI (.lit v1) xs) (h2 : Sli W0 [] 4 enI (.lit v2) ys) (hx : ∀ x ∈ xs, x.length = 6) (hy : ∀ x ∈ ys, x.length = 4) (hl : xs.length ≤ 1048576) (hl2 : ys.length ≤ 1048576) (K : Cont) (h0 : K (Bo (planB a b c d e f xs ys)) []) : ACall Try.prog W0 13 [PlA a b c d e f (.lit v1) (.lit v2)] [] K := by
  refine by13 (Nat.le_of_ble_eq_true rfl) ?_
  obtain ⟨o1, n1, cap1, hv1, hn1, hc1, hm1, hf1⟩ := sli_form h1
  obtain ⟨o2, n2, cap2, hv2, hn2, hc2, hm2, hf2⟩ := sli_form h2
  cases hv1; cases hv2
  subst hn1; subst hn2
  by_cases hg : shB6 a b c d e f = true ∧ xs.length ≤ 4 ∧ ys.length ≤ 40
  · obtain ⟨hs, hx4, hy40⟩ := hg
    repeat' ((conv => whnf); first | (refine Exists.intro ([] : List Nat) ?_) | (refine And.intro rfl ?_) | (refine And.intro (by decide +kernel) ?_) | (refine And.intro trivial ?_) | (refine d_l2Sheet (h0 := ?_) ..) | (refine Exists.intro _ (And.intro (fun τ => callW_fn (d_l2Sheet (h0 := And.intro rfl rfl) ..)) ?_)) | (refine Exists.intro _ (And.intro (callW_fn (d_l2Sheet (h0 := And.intro rfl rfl) ..)) (And.intro trivial ?_))) | (refine Exists.intro _ (And.intro (callW_fn (d_l2Sheet (h0 := And.intro rfl rfl) ..)) ?_)) | (refine Exists.intro _ (And.intro (fun τ _ => callW_fn (d_l2Sheet (h0 := And.intro rfl rfl) ..)) ?_)) | (refine Exists.intro _ (And.intro rfl (And.intro rfl (And.intro (Nat.le_of_ble_eq_true rfl) ?_)))) | (refine Exists.intro _ (And.intro rfl (And.intro rfl (And.intro rfl (And.intro (Nat.le_of_ble_eq_true rfl) ?_))))) | (refine And.intro (Exists.intro _ (And.intro rfl rfl)) ?_) | (exact fun hW => absurd hW (by decide +kernel)) | (intro hW; (try simp only [Bool.not_true, Bool.not_false, Bool.not_eq_true', Bool.not_eq_false', decide_eq_true_eq, decide_eq_false_iff_not, reduceCtorEq, Bool.true_eq_false, Bool.false_eq_true, mk_size, List.size_toArray, ByteArray.size_append, ByteArray.size_extract, List.length_cons, List.length_nil, ba_get, ba_empty, Int.toNat_natCast] at hW)) | (refine And.intro (?_ : _ → _) (?_ : _ → _)) | (refine FinR.drop 0 (Nat.zero_le _) (Closed.zero _) rfl ?_) | (refine FinR.keep ?_) | (refine And.intro (det3_agg rfl) ?_) | (refine fL_mk ?_) | (refine And.intro (by (try simp only [mk_size, List.size_toArray, ByteArray.size_append, ByteArray.size_extract, List.length_cons, List.length_nil]); omega) ?_) | (refine And.intro (by (try simp only [mk_size, List.size_toArray, ByteArray.size_append, ByteArray.size_extract, List.length_cons, List.length_nil, wrap64_eq]); omega) ?_) | fail)
    all_goals first | (exfalso; omega) | (exfalso; simp_all; done) | skip
    refine LoopR.live (fun i : Nat => [(1, .ptr 0 0 0), (3, I i)]) (fun i => [plBx a b c d e f (.lit (.slice o1 xs.length cap1)) (.lit (.slice o2 ys.length cap2)) 34]) (fun i => i ≤ xs.length ∧ (xs.take i).all shRow = true) (fun i => xs.length - i) 0 ⟨rfl, rfl, trivial⟩ (.keep rfl) ⟨Nat.zero_le _, rfl⟩ ?_
    rintro i ⟨hi, hal⟩
    by_cases hlt : i < xs.length
    · obtain ⟨c0, c1, c2, c3, c4, c5, hxi⟩ := row6x hx hlt
      obtain ⟨ad, rfl, hb, hxx⟩ := hf1 i _ hxi
      have hld := fun C h => ldIn (W0 := W0) (s := 6) (enc := enI) hb hxx (k := i) hxi rfl (C := C) h
      have hsn := all_takeG (p := shRow) hxi
      cases hr : shRow [c0, c1, c2, c3, c4, c5] with
      | true =>
        have hr' : shB6 c0 c1 c2 c3 c4 c5 = true := hr
        repeat' ((conv => whnf); first | (refine Exists.intro ([] : List Nat) ?_) | (refine And.intro rfl ?_) | (refine And.intro (by decide +kernel) ?_) | (refine And.intro trivial ?_) | (refine hld _ ?_) | (refine d_l2Sheet (h0 := ?_) ..) | (refine Exists.intro _ (And.intro (fun τ => callW_fn (d_l2Sheet (h0 := And.intro rfl rfl) ..)) ?_)) | (refine Exists.intro _ (And.intro (callW_fn (d_l2Sheet (h0 := And.intro rfl rfl) ..)) (And.intro trivial ?_))) | (refine Exists.intro _ (And.intro (callW_fn (d_l2Sheet (h0 := And.intro rfl rfl) ..)) ?_)) | (refine Exists.intro _ (And.intro (fun τ _ => callW_fn (d_l2Sheet (h0 := And.intro rfl rfl) ..)) ?_)) | (refine Exists.intro _ (And.intro rfl (And.intro rfl (And.intro (Nat.le_of_ble_eq_true rfl) ?_)))) | (refine Exists.intro _ (And.intro rfl (And.intro rfl (And.intro rfl (And.intro (Nat.le_of_ble_eq_true rfl) ?_))))) | (refine And.intro (Exists.intro _ (And.intro rfl rfl)) ?_) | (exact fun hW => absurd hW (by decide +kernel)) | (intro hW; (try simp only [Bool.not_true, Bool.not_false, Bool.not_eq_true', Bool.not_eq_false', decide_eq_true_eq, decide_eq_false_iff_not, reduceCtorEq, Bool.true_eq_false, Bool.false_eq_true, mk_size, List.size_toArray, ByteArray.size_append, ByteArray.size_extract, List.length_cons, List.length_nil, ba_get, ba_empty, Int.toNat_natCast] at hW)) | (refine And.intro (?_ : _ → _) (?_ : _ → _)) | (refine FinR.drop 0 (Nat.zero_le _) (Closed.zero _) rfl ?_) | (refine FinR.keep ?_) | (refine And.intro (det3_agg rfl) ?_) | (refine fL_mk ?_) | (refine And.intro (by (try simp only [mk_size, List.size_toArray, ByteArray.size_append, ByteArray.size_extract, List.length_cons, List.length_nil]); omega) ?_) | (refine And.intro (by (try simp only [mk_size, List.size_toArray, ByteArray.size_append, ByteArray.size_extract, List.length_cons, List.length_nil, wrap64_eq]); omega) ?_) | fail)
        all_goals first | (exfalso; omega) | (exfalso; simp_all; done) | skip
        exact Again.go (i + 1) ⟨rfl, slI' (wsucc' i (by omega)), trivial⟩ (.keep rfl) ⟨by omega, by rw [hsn, hal, hr]; rfl⟩ (by omega)
      | false =>
        have hr' : shB6 c0 c1 c2 c3 c4 c5 = false := hr
        have hpf : planB a b c d e f xs ys = false := by simp [planB, all_badG hxi hr]
        rw [hpf] at h0
        repeat' ((conv => whnf); first | (refine Exists.intro ([] : List Nat) ?_) | (refine And.intro rfl ?_) | (refine And.intro (by decide +kernel) ?_) | (refine And.intro trivial ?_) | (refine hld _ ?_) | (refine d_l2Sheet (h0 := ?_) ..) | (refine Exists.intro _ (And.intro (fun τ => callW_fn (d_l2Sheet (h0 := And.intro rfl rfl) ..)) ?_)) | (refine Exists.intro _ (And.intro (callW_fn (d_l2Sheet (h0 := And.intro rfl rfl) ..)) (And.intro trivial ?_))) | (refine Exists.intro _ (And.intro (callW_fn (d_l2Sheet (h0 := And.intro rfl rfl) ..)) ?_)) | (refine Exists.intro _ (And.intro (fun τ _ => callW_fn (d_l2Sheet (h0 := And.intro rfl rfl) ..)) ?_)) | (refine Exists.intro _ (And.intro rfl (And.intro rfl (And.intro (Nat.le_of_ble_eq_true rfl) ?_)))) | (refine Exists.intro _ (And.intro rfl (And.intro rfl (And.intro rfl (And.intro (Nat.le_of_ble_eq_true rfl) ?_))))) | (refine And.intro (Exists.intro _ (And.intro rfl rfl)) ?_) | (exact fun hW => absurd hW (by decide +kernel)) | (intro hW; (try simp only [Bool.not_true, Bool.not_false, Bool.not_eq_true', Bool.not_eq_false', decide_eq_true_eq, decide_eq_false_iff_not, reduceCtorEq, Bool.true_eq_false, Bool.false_eq_true, mk_size, List.size_toArray, ByteArray.size_append, ByteArray.size_extract, List.length_cons, List.length_nil, ba_get, ba_empty, Int.toNat_natCast] at hW)) | (refine And.intro (?_ : _ → _) (?_ : _ → _)) | (refine FinR.drop 0 (Nat.zero_le _) (Closed.zero _) rfl ?_) | (refine FinR.keep ?_) | (refine And.intro (det3_agg rfl) ?_) | (refine fL_mk ?_) | (refine And.intro (by (try simp only [mk_size, List.size_toArray, ByteArray.size_append, ByteArray.size_extract, List.length_cons, List.length_nil]); omega) ?_) | (refine And.intro (by (try simp only [mk_size, List.size_toArray, ByteArray.size_append, ByteArray.size_extract, List.length_cons, List.length_nil, wrap64_eq]); omega) ?_) | fail)
        all_goals first | (exfalso; omega) | (exfalso; simp_all; done) | exact h0
    · obtain rfl : i = xs.length := by omega
      rw [List.take_length] at hal
      repeat' ((conv => whnf); first | (refine Exists.intro ([] : List Nat) ?_) | (refine And.intro rfl ?_) | (refine And.intro (by decide +kernel) ?_) | (refine And.intro trivial ?_) | (refine Exists.intro _ (And.intro rfl (And.intro rfl (And.intro (Nat.le_of_ble_eq_true rfl) ?_)))) | (refine Exists.intro _ (And.intro rfl (And.intro rfl (And.intro rfl (And.intro (Nat.le_of_ble_eq_true rfl) ?_))))) | (refine And.intro (Exists.intro _ (And.intro rfl rfl)) ?_) | (exact fun hW => absurd hW (by decide +kernel)) | (intro hW; (try simp only [Bool.not_true, Bool.not_false, Bool.not_eq_true', Bool.not_eq_false', decide_eq_true_eq, decide_eq_false_iff_not, reduceCtorEq, Bool.true_eq_false, Bool.false_eq_true, mk_size, List.size_toArray, ByteArray.size_append, ByteArray.size_extract, List.length_cons, List.length_nil, ba_get, ba_empty, Int.toNat_natCast] at hW)) | (refine And.intro (?_ : _ → _) (?_ : _ → _)) | (refine FinR.drop 0 (Nat.zero_le _) (Closed.zero _) rfl ?_) | (refine FinR.keep ?_) | (refine And.intro (det3_agg rfl) ?_) | (refine fL_mk ?_) | (refine And.intro (by (try simp only [mk_size, List.size_toArray, ByteArray.size_append, ByteArray.size_extract, List.length_cons, List.length_nil]); omega) ?_) | (refine And.intro (by (try simp only [mk_size, List.size_toArray, ByteArray.size_append, ByteArray.size_extract, List.length_cons, List.length_nil, wrap64_eq]); omega) ?_) | fail)
      all_goals first | (exfalso; omega) | skip
      refine LoopR.live (fun j : Nat => [(1, .ptr 0 0 0), (4, I j)]) (fun j => [plBx a b c d e f (.lit (.slice o1 xs.length cap1)) (.lit (.slice o2 ys.length cap2)) 34]) (fun j => j ≤ ys.length ∧ (ys.take j).all (stOk xs.length) = true) (fun j => ys.length - j) 0 ⟨rfl, rfl, trivial⟩ (.keep rfl) ⟨Nat.zero_le _, rfl⟩ ?_
      rintro j ⟨hj, hal2⟩
      by_cases hlt2 : j < ys.length
      · obtain ⟨c0, c1, c2, c3, hyj⟩ := row4x hy hlt2
        obtain ⟨ad, rfl, hb, hxx⟩ := hf2 j _ hyj
        have hld := fun C h => ldIn (W0 := W0) (s := 4) (enc := enI) hb hxx (k := j) hyj rfl (C := C) h
        have hsn := all_takeG (p := stOk xs.length) hyj
        cases hr : stOk xs.length [c0, c1, c2, c3] with
        | true =>
          repeat' ((conv => whnf); first | (refine Exists.intro ([] : List Nat) ?_) | (refine And.intro rfl ?_) | (refine And.intro (by decide +kernel) ?_) | (refine And.intro trivial ?_) | (refine hld _ ?_) | (refine d_l11Step (hm := hl) (h0 := ?_) ..) | (refine Exists.intro _ (And.intro (fun τ => callW_fn (d_l11Step (hm := hl) (h0 := And.intro rfl rfl) ..)) ?_)) | (refine Exists.intro _ (And.intro (callW_fn (d_l11Step (hm := hl) (h0 := And.intro rfl rfl) ..)) (And.intro trivial ?_))) | (refine Exists.intro _ (And.intro (callW_fn (d_l11Step (hm := hl) (h0 := And.intro rfl rfl) ..)) ?_)) | (refine Exists.intro _ (And.intro (fun τ _ => callW_fn (d_l11Step (hm := hl) (h0 := And.intro rfl rfl) ..)) ?_)) | (refine Exists.intro _ (And.intro rfl (And.intro rfl (And.intro (Nat.le_of_ble_eq_true rfl) ?_)))) | (refine Exists.intro _ (And.intro rfl (And.intro rfl (And.intro rfl (And.intro (Nat.le_of_ble_eq_true rfl) ?_))))) | (refine And.intro (Exists.intro _ (And.intro rfl rfl)) ?_) | (exact fun hW => absurd hW (by decide +kernel)) | (intro hW; (try simp only [Bool.not_true, Bool.not_false, Bool.not_eq_true', Bool.not_eq_false', decide_eq_true_eq, decide_eq_false_iff_not, reduceCtorEq, Bool.true_eq_false, Bool.false_eq_true, mk_size, List.size_toArray, ByteArray.size_append, ByteArray.size_extract, List.length_cons, List.length_nil, ba_get, ba_empty, Int.toNat_natCast] at hW)) | (refine And.intro (?_ : _ → _) (?_ : _ → _)) | (refine FinR.drop 0 (Nat.zero_le _) (Closed.zero _) rfl ?_) | (refine FinR.keep ?_) | (refine And.intro (det3_agg rfl) ?_) | (refine fL_mk ?_) | (refine And.intro (by (try simp only [mk_size, List.size_toArray, ByteArray.size_append, ByteArray.size_extract, List.length_cons, List.length_nil]); omega) ?_) | (refine And.intro (by (try simp only [mk_size, List.size_toArray, ByteArray.size_append, ByteArray.size_extract, List.length_cons, List.length_nil, wrap64_eq]); omega) ?_) | fail)
          all_goals first | (exfalso; omega) | (exfalso; simp_all; done) | skip
          exact Again.go (j + 1) ⟨rfl, slI' (wsucc' j (by omega)), trivial⟩ (.keep rfl) ⟨by omega, by rw [hsn, hal2, hr]; rfl⟩ (by omega)
        | false =>
          have hpf : planB a b c d e f xs ys = false := by simp [planB, all_badG hyj hr]
          rw [hpf] at h0
          repeat' ((conv => whnf); first | (refine Exists.intro ([] : List Nat) ?_) | (refine And.intro rfl ?_) | (refine And.intro (by decide +kernel) ?_) | (refine And.intro trivial ?_) | (refine hld _ ?_) | (refine d_l11Step (hm := hl) (h0 := ?_) ..) | (refine Exists.intro _ (And.intro (fun τ => callW_fn (d_l11Step (hm := hl) (h0 := And.intro rfl rfl) ..)) ?_)) | (refine Exists.intro _ (And.intro (callW_fn (d_l11Step (hm := hl) (h0 := And.intro rfl rfl) ..)) (And.intro trivial ?_))) | (refine Exists.intro _ (And.intro (callW_fn (d_l11Step (hm := hl) (h0 := And.intro rfl rfl) ..)) ?_)) | (refine Exists.intro _ (And.intro (fun τ _ => callW_fn (d_l11Step (hm := hl) (h0 := And.intro rfl rfl) ..)) ?_)) | (refine Exists.intro _ (And.intro rfl (And.intro rfl (And.intro (Nat.le_of_ble_eq_true rfl) ?_)))) | (refine Exists.intro _ (And.intro rfl (And.intro rfl (And.intro rfl (And.intro (Nat.le_of_ble_eq_true rfl) ?_))))) | (refine And.intro (Exists.intro _ (And.intro rfl rfl)) ?_) | (exact fun hW => absurd hW (by decide +kernel)) | (intro hW; (try simp only [Bool.not_true, Bool.not_false, Bool.not_eq_true', Bool.not_eq_false', decide_eq_true_eq, decide_eq_false_iff_not, reduceCtorEq, Bool.true_eq_false, Bool.false_eq_true, mk_size, List.size_toArray, ByteArray.size_append, ByteArray.size_extract, List.length_cons, List.length_nil, ba_get, ba_empty, Int.toNat_natCast] at hW)) | (refine And.intro (?_ : _ → _) (?_ : _ → _)) | (refine FinR.drop 0 (Nat.zero_le _) (Closed.zero _) rfl ?_) | (refine FinR.keep ?_) | (refine And.intro (det3_agg rfl) ?_) | (refine fL_mk ?_) | (refine And.intro (by (try simp only [mk_size, List.size_toArray, ByteArray.size_append, ByteArray.size_extract, List.length_cons, List.length_nil]); omega) ?_) | (refine And.intro (by (try simp only [mk_size, List.size_toArray, ByteArray.size_append, ByteArray.size_extract, List.length_cons, List.length_nil, wrap64_eq]); omega) ?_) | fail)
          all_goals first | (exfalso; omega) | (exfalso; simp_all; done) | exact h0
      · obtain rfl : j = ys.length := by omega
        rw [List.take_length] at hal2
        rw [planB_iff.2 ⟨hs, hx4, hy40, hal, hal2⟩] at h0
        repeat' ((conv => whnf); first | (refine Exists.intro ([] : List Nat) ?_) | (refine And.intro rfl ?_) | (refine And.intro (by decide +kernel) ?_) | (refine And.intro trivial ?_) | (refine Exists.intro _ (And.intro rfl (And.intro rfl (And.intro (Nat.le_of_ble_eq_true rfl) ?_)))) | (refine Exists.intro _ (And.intro rfl (And.intro rfl (And.intro rfl (And.intro (Nat.le_of_ble_eq_true rfl) ?_))))) | (refine And.intro (Exists.intro _ (And.intro rfl rfl)) ?_) | (exact fun hW => absurd hW (by decide +kernel)) | (intro hW; (try simp only [Bool.not_true, Bool.not_false, Bool.not_eq_true', Bool.not_eq_false', decide_eq_true_eq, decide_eq_false_iff_not, reduceCtorEq, Bool.true_eq_false, Bool.false_eq_true, mk_size, List.size_toArray, ByteArray.size_append, ByteArray.size_extract, List.length_cons, List.length_nil, ba_get, ba_empty, Int.toNat_natCast] at hW)) | (refine And.intro (?_ : _ → _) (?_ : _ → _)) | (refine FinR.drop 0 (Nat.zero_le _) (Closed.zero _) rfl ?_) | (refine FinR.keep ?_) | (refine And.intro (det3_agg rfl) ?_) | (refine fL_mk ?_) | (refine And.intro (by (try simp only [mk_size, List.size_toArray, ByteArray.size_append, ByteArray.size_extract, List.length_cons, List.length_nil]); omega) ?_) | (refine And.intro (by (try simp only [mk_size, List.size_toArray, ByteArray.size_append, ByteArray.size_extract, List.length_cons, List.length_nil, wrap64_eq]); omega) ?_) | fail)
        all_goals first | (exfalso; omega) | exact h0
  · have hpf : planB a b c d e f xs ys = false := by
      rw [Bool.eq_false_iff]; intro h
      have := planB_iff.1 h
      exact hg ⟨this.1, this.2.1, this.2.2.1⟩
    rw [hpf] at h0
    cases hs : shB6 a b c d e f with
    | true =>
      have hg2 : 4 < xs.length ∨ 40 < ys.length := by
        by_cases h4 : xs.length ≤ 4
        · right
          by_cases h5 : ys.length ≤ 40
          · exact absurd ⟨hs, h4, h5⟩ hg
          · omega
        · left; omega
      repeat' ((conv => whnf); first | (refine Exists.intro ([] : List Nat) ?_) | (refine And.intro rfl ?_) | (refine And.intro (by decide +kernel) ?_) | (refine And.intro trivial ?_) | (refine d_l2Sheet (h0 := ?_) ..) | (refine Exists.intro _ (And.intro (fun τ => callW_fn (d_l2Sheet (h0 := And.intro rfl rfl) ..)) ?_)) | (refine Exists.intro _ (And.intro (callW_fn (d_l2Sheet (h0 := And.intro rfl rfl) ..)) (And.intro trivial ?_))) | (refine Exists.intro _ (And.intro (callW_fn (d_l2Sheet (h0 := And.intro rfl rfl) ..)) ?_)) | (refine Exists.intro _ (And.intro (fun τ _ => callW_fn (d_l2Sheet (h0 := And.intro rfl rfl) ..)) ?_)) | (refine Exists.intro _ (And.intro rfl (And.intro rfl (And.intro (Nat.le_of_ble_eq_true rfl) ?_)))) | (refine Exists.intro _ (And.intro rfl (And.intro rfl (And.intro rfl (And.intro (Nat.le_of_ble_eq_true rfl) ?_))))) | (refine And.intro (Exists.intro _ (And.intro rfl rfl)) ?_) | (exact fun hW => absurd hW (by decide +kernel)) | (intro hW; (try simp only [Bool.not_true, Bool.not_false, Bool.not_eq_true', Bool.not_eq_false', decide_eq_true_eq, decide_eq_false_iff_not, reduceCtorEq, Bool.true_eq_false, Bool.false_eq_true, mk_size, List.size_toArray, ByteArray.size_append, ByteArray.size_extract, List.length_cons, List.length_nil, ba_get, ba_empty, Int.toNat_natCast] at hW)) | (refine And.intro (?_ : _ → _) (?_ : _ → _)) | (refine FinR.drop 0 (Nat.zero_le _) (Closed.zero _) rfl ?_) | (refine FinR.keep ?_) | (refine And.intro (det3_agg rfl) ?_) | (refine fL_mk ?_) | (refine And.intro (by (try simp only [mk_size, List.size_toArray, ByteArray.size_append, ByteArray.size_extract, List.length_cons, List.length_nil]); omega) ?_) | (refine And.intro (by (try simp only [mk_size, List.size_toArray, ByteArray.size_append, ByteArray.size_extract, List.length_cons, List.length_nil, wrap64_eq]); omega) ?_) | fail)
      all_goals first | (exfalso; omega) | (exfalso; simp_all; done) | exact h0
    | false =>
      repeat' ((conv => whnf); first | (refine Exists.intro ([] : List Nat) ?_) | (refine And.intro rfl ?_) | (refine And.intro (by decide +kernel) ?_) | (refine And.intro trivial ?_) | (refine d_l2Sheet (h0 := ?_) ..) | (refine Exists.intro _ (And.intro (fun τ => callW_fn (d_l2Sheet (h0 := And.intro rfl rfl) ..)) ?_)) | (refine Exists.intro _ (And.intro (callW_fn (d_l2Sheet (h0 := And.intro rfl rfl) ..)) (And.intro trivial ?_))) | (refine Exists.intro _ (And.intro (callW_fn (d_l2Sheet (h0 := And.intro rfl rfl) ..)) ?_)) | (refine Exists.intro _ (And.intro (fun τ _ => callW_fn (d_l2Sheet (h0 := And.intro rfl rfl) ..)) ?_)) | (refine Exists.intro _ (And.intro rfl (And.intro rfl (And.intro (Nat.le_of_ble_eq_true rfl) ?_)))) | (refine Exists.intro _ (And.intro rfl (And.intro rfl (And.intro rfl (And.intro (Nat.le_of_ble_eq_true rfl) ?_))))) | (refine And.intro (Exists.intro _ (And.intro rfl rfl)) ?_) | (exact fun hW => absurd hW (by decide +kernel)) | (intro hW; (try simp only [Bool.not_true, Bool.not_false, Bool.not_eq_true', Bool.not_eq_false', decide_eq_true_eq, decide_eq_false_iff_not, reduceCtorEq, Bool.true_eq_false, Bool.false_eq_true, mk_size, List.size_toArray, ByteArray.size_append, ByteArray.size_extract, List.length_cons, List.length_nil, ba_get, ba_empty, Int.toNat_natCast] at hW)) | (refine And.intro (?_ : _ → _) (?_ : _ → _)) | (refine FinR.drop 0 (Nat.zero_le _) (Closed.zero _) rfl ?_) | (refine FinR.keep ?_) | (refine And.intro (det3_agg rfl) ?_) | (refine fL_mk ?_) | (refine And.intro (by (try simp only [mk_size, List.size_toArray, ByteArray.size_append, ByteArray.size_extract, List.length_cons, List.length_nil]); omega) ?_) | (refine And.intro (by (try simp only [mk_size, List.size_toArray, ByteArray.size_append, ByteArray.size_extract, List.length_cons, List.length_nil, wrap64_eq]); omega) ?_) | fail)
      all_goals first | (exfalso; omega) | (exfalso; simp_all; done) | exact h0
end Go.Proofs.Ytcfkhiplmnamcaa
end

section
/- Contracts: plans by sets. -/
set_option linter.unusedVariables false
set_option linter.unusedSimpArgs false
set_option maxRecDepth 100000
set_option maxHeartbeats 4000000
namespace Go.Proofs.Ytcfkhiplmnamcaa
open Go Go.RowKit Go.Proofs.Ytcfkhiplmnamcaa.Abs
variable {W0 : World} {σ : List Blk}
/-- what a step of a kind does -/
def doA : Nat → AV
  | 1 => .lit (.func (.func 46) #[] #[])
  | 2 => .lit (.func (.func 47) #[] #[])
  | _ => .lit (.func (.func 48) #[] #[])
abbrev doB (k : Nat) : Blk := ⟨[doA k], 0, 85, 0, false, false⟩
abbrev uB (m : Nat) : Blk := ⟨[U m], 0, 76, 0, false, false⟩
abbrev cloA (a b : Nat) : AV := .fn (.func 49) [] [.ptr a 0 0, .ptr b 0 0]
abbrev plB (n : Nat) (s : AV) : Blk := ⟨[U n, s], 0, 82, 0, false, false⟩
/-- the steps of a plan by sets: kinds and pressed stamps -/
inductive StepsSt (σ : List Blk) : AV → List (Nat × Nat) → Prop
  | nil : StepsSt σ nilA []
  | own (r ver cap : Nat) (cs : List AV) (fs : List (Nat × Nat)) (hr : σ[r]? = some ⟨cs, ver, 87, 1, true, true⟩) (hl : cs.length = fs.length)
      (hc : ∀ (j k m : Nat), fs[j]? = some (k, m) → ∃ a b, cs[j]? = some (cloA a b) ∧ σ[a]? = some (doB k) ∧ σ[b]? = some (uB m)) : StepsSt σ (.sl r ver 0 fs.length cap) fs
structure PlanSt (σ : List Blk) (p n : Nat) (fs : List (Nat × Nat)) : Prop where
  ex : ∃ s, σ[p]? = some (plB n s) ∧ StepsSt σ s fs
theorem ne_e {σ : List Blk} {a b : Nat} {X Y : Blk} (h : σ[a]? = some X) (h' : σ[b]? = some Y) (he : X.e ≠ Y.e) : a ≠ b := fun e => he (by subst e; rw [h] at h'; rw [Option.some.inj h'])
theorem plan_step0 {σ : List Blk} {A : Blk} {n m k cap : Nat} {s : AV} (h2 : σ[2]? = some (plB n s)) :
    PlanSt ((σ ++ [A] ++ [uB m] ++ [doB k] ++ [(⟨[cloA (σ ++ [A] ++ [uB m]).length (σ ++ [A]).length], 0, 87, 1, true, true⟩ : Blk)]).set 2 (plB n (.sl (σ ++ [A] ++ [uB m] ++ [doB k]).length 0 0 1 cap))) 2 n [(k, m)] := by
  have hlt := getElem?_lt h2
  have hl1 : (σ ++ [A]).length = σ.length + 1 := by simp
  have hl2 : (σ ++ [A] ++ [uB m]).length = σ.length + 2 := by simp
  have hl3 : (σ ++ [A] ++ [uB m] ++ [doB k]).length = σ.length + 3 := by simp
  refine ⟨_, get_set (getx1 (getx1 (getx1 (getx1 h2)))), ?_⟩
  refine .own _ 0 cap _ [(k, m)] (get_ne getl (by omega)) rfl fun j k' m' hj => ?_
  cases j with
  | zero =>
    simp only [List.getElem?_cons_zero, Option.some.injEq, Prod.mk.injEq] at hj
    obtain ⟨rfl, rfl⟩ := hj
    exact ⟨_, _, rfl, get_ne (getx1 getl) (by omega), get_ne (getx1 (getx1 getl)) (by omega)⟩
  | succ j => simp at hj
theorem plan_stepS {σ : List Blk} {A : Blk} {n m k cap r ver : Nat} {s : AV} {cs : List AV} {fs : List (Nat × Nat)} (h2 : σ[2]? = some (plB n s)) (hr : σ[r]? = some ⟨cs, ver, 87, 1, true, true⟩) (hl : cs.length = fs.length)
    (hc : ∀ (j k m : Nat), fs[j]? = some (k, m) → ∃ a b, cs[j]? = some (cloA a b) ∧ σ[a]? = some (doB k) ∧ σ[b]? = some (uB m)) :
    PlanSt (((σ ++ [A] ++ [uB m] ++ [doB k]).set r ⟨cs ++ [cloA (σ ++ [A] ++ [uB m]).length (σ ++ [A]).length], ver + 1, 87, 1, true, true⟩).set 2 (plB n (.sl r (ver + 1) 0 (fs.length + 1) cap))) 2 n (fs ++ [(k, m)]) := by
  have hlt := getElem?_lt h2
  have hltr := getElem?_lt hr
  have hl1 : (σ ++ [A]).length = σ.length + 1 := by simp
  have hl2 : (σ ++ [A] ++ [uB m]).length = σ.length + 2 := by simp
  have hne : r ≠ 2 := ne_e hr h2 (show (87 : Nat) ≠ 82 by decide)
  refine ⟨_, get_set (get_ne (getx1 (getx1 (getx1 h2))) hne), ?_⟩
  have e : (fs ++ [(k, m)]).length = fs.length + 1 := by simp
  rw [← e]
  refine .own r (ver + 1) cap _ _ (get_ne (get_set (getx1 (getx1 (getx1 hr)))) (fun e => hne e.symm)) (by simp [hl]) fun j k' m' hj => ?_
  by_cases hj2 : j < fs.length
  · rw [List.getElem?_append_left hj2] at hj
    obtain ⟨a, b, q1, q2, q3⟩ := hc j k' m' hj
    have ha : a ≠ r := ne_e q2 hr (show (85 : Nat) ≠ 87 by decide)
    have hb : b ≠ r := ne_e q3 hr (show (76 : Nat) ≠ 87 by decide)
    have ha2 : a ≠ 2 := ne_e q2 h2 (show (85 : Nat) ≠ 82 by decide)
    have hb2 : b ≠ 2 := ne_e q3 h2 (show (76 : Nat) ≠ 82 by decide)
    refine ⟨a, b, ?_, get_ne (get_ne (getx1 (getx1 (getx1 q2))) ha.symm) ha2.symm, get_ne (get_ne (getx1 (getx1 (getx1 q3))) hb.symm) hb2.symm⟩
    rw [List.getElem?_append_left (by omega)]; exact q1
  · have hj3 : j = fs.length := by
      have := getElem?_lt hj
      simp at this; omega
    subst hj3
    rw [List.getElem?_append_right (Nat.le_refl _), Nat.sub_self] at hj
    simp only [List.getElem?_cons_zero, Option.some.injEq, Prod.mk.injEq] at hj
    obtain ⟨rfl, rfl⟩ := hj
    refine ⟨_, _, ?_, get_ne (get_ne getl (by omega)) (by omega), get_ne (get_ne (getx1 getl) (by omega)) (by omega)⟩
    rw [List.getElem?_append_right (by omega), hl, Nat.sub_self]; rfl
/-- sets of sheets, steps by sets -/
def stN (r : List Int) : Nat := setN (r.getD 0 0).toNat (r.getD 1 0).toNat (r.getD 2 0).toNat (r.getD 3 0).toNat (r.getD 4 0).toNat (r.getD 5 0).toNat
def fsOf (xs ys : List (List Int)) : List (Nat × Nat) := ys.map fun r => ((r.getD 0 0).toNat, prN (stN (xs.getD (r.getD 1 0).toNat [])) (r.getD 2 0).toNat (r.getD 3 0).toNat)
theorem st_parts {a b c d e f : Int} (h : shB6 a b c d e f = true) : ∃ n : Nat, n < 2 ^ 36 ∧ (rowN n 0 : Nat) = a ∧ (rowN n 1 : Nat) = b ∧ (rowN n 2 : Nat) = c ∧ (rowN n 3 : Nat) = d ∧ (rowN n 4 : Nat) = e ∧ (rowN n 5 : Nat) = f ∧ stN [a, b, c, d, e, f] = n := by
  obtain ⟨n, hn, rfl, rfl, rfl, rfl, rfl, rfl⟩ := shN_of h
  refine ⟨n, hn, rfl, rfl, rfl, rfl, rfl, rfl, ?_⟩
  simp only [stN, List.getD_cons_zero, List.getD_cons_succ, Int.toNat_natCast, setN_rows hn]
abbrev stB (l : List Nat) : Blk := ⟨l.map (fun n : Nat => U n), l.length, 76, 1, true, true⟩
theorem stB_get {l : List Nat} {i off : Nat} {n : Nat} (h : l[i]? = some n) (ho : off = i) : mkAV false (((l.map (fun n : Nat => U n)).drop off).take 1) = U n := by
  subst ho
  rw [← List.map_drop, ← List.map_take, List.drop_eq_getElem_cons (getElem?_lt h), (List.getElem?_eq_some_iff.1 h).2]; rfl
end Go.Proofs.Ytcfkhiplmnamcaa
end

section
/- Contracts: plans by sets: the program's planOf. -/
set_option linter.unusedVariables false
set_option linter.unusedSimpArgs false
set_option maxRecDepth 100000
set_option maxHeartbeats 4000000
namespace Go.Proofs.Ytcfkhiplmnamcaa
open Go Go.RowKit Go.Proofs.Ytcfkhiplmnamcaa.Abs
variable {W0 : World} {σ : List Blk}
abbrev nilP : AV := .lit (.pointer none)
structure PX where
  i : Nat
  σ : List Blk
theorem c_planOfG (a b c d e f : Int) (v1 v2 : Value) (xs ys : List (List Int)) (h1 : Sli W0 [] 6 enI (.lit v1) xs) (h2 : Sli W0 [] 4 enI (.lit v2) ys) (hx : ∀ x ∈ xs, x.length = 6) (hy : ∀ x ∈ ys, x.length = 4) (hs : shB6 a b c d e f = true) (hx4 : xs.length ≤ 4) (hy40 : ys.length ≤ 40) (K : Cont)
    (h0 : planB a b c d e f xs ys = true → ∀ σ', PlanSt σ' 2 (stN [a, b, c, d, e, f]) (fsOf xs ys) → K (.tup [.ptr 2 0 0, Bo true]) σ') (h00 : planB a b c d e f xs ys = false → K (.tup [nilP, Bo false]) []) : ACall Try.prog W0 33 [PlA a b c d e f (.lit v1) (.lit v2)] [] K := by
  obtain ⟨n, hn, rfl, rfl, rfl, rfl, rfl, rfl, hst⟩ := st_parts hs
  rw [hst] at h0
  refine by33 (Nat.le_of_ble_eq_true rfl) ?_
  obtain ⟨o1, n1, cap1, hv1, hn1, hc1, hm1, hf1⟩ := sli_form h1
  obtain ⟨o2, n2, cap2, hv2, hn2, hc2, hm2, hf2⟩ := sli_form h2
  cases hv1; cases hv2
  subst hn1; subst hn2
  repeat' ((conv => whnf); first | (refine Exists.intro ([] : List Nat) ?_) | (refine And.intro rfl ?_) | (refine And.intro (by decide +kernel) ?_) | (refine And.intro trivial ?_) | (refine d_setOfN (n := n) (hn := hn) (h0 := ?_) ..) | (refine Exists.intro _ (And.intro rfl (And.intro rfl (And.intro (Nat.le_of_ble_eq_true rfl) ?_)))) | (refine Exists.intro _ (And.intro rfl (And.intro rfl (And.intro rfl (And.intro (Nat.le_of_ble_eq_true rfl) ?_))))) | (refine And.intro (Exists.intro _ (And.intro rfl rfl)) ?_) | (exact fun hW => absurd hW (by decide +kernel)) | (intro hW; (try simp only [Bool.not_true, Bool.not_false, Bool.not_eq_true', Bool.not_eq_false', decide_eq_true_eq, decide_eq_false_iff_not, reduceCtorEq, Bool.true_eq_false, Bool.false_eq_true, mk_size, List.size_toArray, ByteArray.size_append, ByteArray.size_extract, List.length_cons, List.length_nil, ba_get, ba_empty, Int.toNat_natCast] at hW)) | (refine And.intro (?_ : _ → _) (?_ : _ → _)) | (refine FinR.drop 0 (Nat.zero_le _) (Closed.zero _) rfl ?_) | (refine FinR.keep ?_) | (refine And.intro (det3_agg rfl) ?_) | (refine fL_mk ?_) | (refine And.intro (by (try simp only [mk_size, List.size_toArray, ByteArray.size_append, ByteArray.size_extract, List.length_cons, List.length_nil]); omega) ?_) | (refine And.intro (by (try simp only [mk_size, List.size_toArray, ByteArray.size_append, ByteArray.size_extract, List.length_cons, List.length_nil, wrap64_eq]); omega) ?_) | fail)
  all_goals first | (exfalso; omega) | (exfalso; simp_all; done) | skip
  refine LoopR.live (fun y : Nat × Nat => [(1, .ptr 0 0 0), (4, U n), (6, .sl 1 ((xs.take y.1).map stN).length 0 ((xs.take y.1).map stN).length y.2), (38, .lit (.slice o1 xs.length cap1)), (39, I xs.length), (40, I y.1)]) (fun y => [plBx (rowN n 0 : Nat) (rowN n 1 : Nat) (rowN n 2 : Nat) (rowN n 3 : Nat) (rowN n 4 : Nat) (rowN n 5 : Nat) (.lit (.slice o1 xs.length cap1)) (.lit (.slice o2 ys.length cap2)) 34, stB ((xs.take y.1).map stN)]) (fun y => y.1 ≤ xs.length ∧ (xs.take y.1).all shRow = true) (fun y => xs.length - y.1) (0, 0) ⟨rfl, rfl, rfl, rfl, rfl, rfl, trivial⟩ (.keep rfl) ⟨Nat.zero_le _, rfl⟩ ?_
  rintro ⟨i, cp⟩ ⟨hi, hxa⟩
  dsimp only at hi hxa
  have hml : ((xs.take i).map stN).length = i := by rw [List.length_map, List.length_take, Nat.min_eq_left hi]
  by_cases hlt : i < xs.length
  · obtain ⟨c0, c1, c2, c3, c4, c5, hxi⟩ := row6x hx hlt
    obtain ⟨ad, rfl, hb, hxx⟩ := hf1 i _ hxi
    have hld := fun C h => ldIn (W0 := W0) (s := 6) (enc := enI) hb hxx (k := i) hxi rfl (C := C) h
    cases hrr : shRow [c0, c1, c2, c3, c4, c5] with
    | false =>
      have hr : shB6 c0 c1 c2 c3 c4 c5 = false := hrr
      have h0 := h00 (by simp [planB, all_badG hxi hrr])
      repeat' ((conv => whnf); first | (refine Exists.intro ([] : List Nat) ?_) | (refine And.intro rfl ?_) | (refine And.intro (by decide +kernel) ?_) | (refine And.intro trivial ?_) | (refine hld _ ?_) | (refine d_setOfF (hb := hr) (h0 := ?_) ..) | (refine Exists.intro _ (And.intro rfl (And.intro rfl (And.intro (Nat.le_of_ble_eq_true rfl) ?_)))) | (refine Exists.intro _ (And.intro rfl (And.intro rfl (And.intro rfl (And.intro (Nat.le_of_ble_eq_true rfl) ?_))))) | (refine And.intro (Exists.intro _ (And.intro rfl rfl)) ?_) | (exact fun hW => absurd hW (by decide +kernel)) | (intro hW; (try simp only [Bool.not_true, Bool.not_false, Bool.not_eq_true', Bool.not_eq_false', decide_eq_true_eq, decide_eq_false_iff_not, reduceCtorEq, Bool.true_eq_false, Bool.false_eq_true, mk_size, List.size_toArray, ByteArray.size_append, ByteArray.size_extract, List.length_cons, List.length_nil, ba_get, ba_empty, Int.toNat_natCast] at hW)) | (refine And.intro (?_ : _ → _) (?_ : _ → _)) | (refine FinR.drop 0 (Nat.zero_le _) (Closed.zero _) rfl ?_) | (refine FinR.keep ?_) | (refine And.intro (det3_agg rfl) ?_) | (refine fL_mk ?_) | (refine And.intro (by (try simp only [mk_size, List.size_toArray, ByteArray.size_append, ByteArray.size_extract, List.length_cons, List.length_nil]); omega) ?_) | (refine And.intro (by (try simp only [mk_size, List.size_toArray, ByteArray.size_append, ByteArray.size_extract, List.length_cons, List.length_nil, wrap64_eq]); omega) ?_) | fail)
      all_goals first | (exfalso; omega) | (exfalso; simp_all; done) | exact h0
    | true =>
      have hr : shB6 c0 c1 c2 c3 c4 c5 = true := hrr
      obtain ⟨m, hm, rfl, rfl, rfl, rfl, rfl, rfl, hsm⟩ := st_parts hr
      have hsn : (xs.take (i + 1)).map stN = (xs.take i).map stN ++ [m] := by rw [take_snoc hxi, List.map_append, List.map_cons, hsm]; rfl
      repeat' ((conv => whnf); first | (refine Exists.intro ([] : List Nat) ?_) | (refine And.intro rfl ?_) | (refine And.intro (by decide +kernel) ?_) | (refine And.intro trivial ?_) | (refine hld _ ?_) | (refine d_setOfN (n := m) (hn := hm) (h0 := ?_) ..) | (refine Exists.intro _ (And.intro rfl (And.intro rfl (And.intro rfl (And.intro rfl (And.intro rfl (And.intro rfl (And.intro (by decide) (And.intro (by simp [List.length_map]) (And.intro rfl (And.intro (by (try dsimp only); unfold maxLen; omega) (And.intro (by (try dsimp only); omega) (fun cap' hcap1 hcap2 => ?_))))))))))))) | (refine Exists.intro _ (And.intro rfl (And.intro rfl (And.intro (Nat.le_of_ble_eq_true rfl) ?_)))) | (refine Exists.intro _ (And.intro rfl (And.intro rfl (And.intro rfl (And.intro (Nat.le_of_ble_eq_true rfl) ?_))))) | (refine And.intro (Exists.intro _ (And.intro rfl rfl)) ?_) | (exact fun hW => absurd hW (by decide +kernel)) | (intro hW; (try simp only [Bool.not_true, Bool.not_false, Bool.not_eq_true', Bool.not_eq_false', decide_eq_true_eq, decide_eq_false_iff_not, reduceCtorEq, Bool.true_eq_false, Bool.false_eq_true, mk_size, List.size_toArray, ByteArray.size_append, ByteArray.size_extract, List.length_cons, List.length_nil, ba_get, ba_empty, Int.toNat_natCast] at hW)) | (refine And.intro (?_ : _ → _) (?_ : _ → _)) | (refine FinR.drop 0 (Nat.zero_le _) (Closed.zero _) rfl ?_) | (refine FinR.keep ?_) | (refine And.intro (det3_agg rfl) ?_) | (refine fL_mk ?_) | (refine And.intro (by (try simp only [mk_size, List.size_toArray, ByteArray.size_append, ByteArray.size_extract, List.length_cons, List.length_nil]); omega) ?_) | (refine And.intro (by (try simp only [mk_size, List.size_toArray, ByteArray.size_append, ByteArray.size_extract, List.length_cons, List.length_nil, wrap64_eq]); omega) ?_) | fail)
      all_goals first | (exfalso; omega) | (exfalso; simp_all; done) | skip
      refine Again.go (i + 1, _) ⟨rfl, rfl, (by show AV.sl _ _ _ _ _ = AV.sl _ _ _ _ _; rw [hsn, List.length_append]; rfl), rfl, rfl, slI' (wsucc' i (by omega)), trivial⟩ (.drop 2 (Nat.zero_le _) ?_ (closCons rfl (closCons (List.all_eq_true.2 fun v hv => by obtain ⟨w, _, rfl⟩ := List.mem_map.1 hv; rfl) (closNil 2))) rfl) ⟨by dsimp only; omega, by dsimp only; rw [all_takeG hxi, hxa, hrr]; rfl⟩ (by dsimp only; omega)
      dsimp only [stB]
      rw [hsn, List.length_append, List.map_append]; rfl
  · obtain rfl : i = xs.length := by omega
    rw [List.take_length] at hml hxa ⊢
    repeat' ((conv => whnf); first | (refine Exists.intro ([] : List Nat) ?_) | (refine And.intro rfl ?_) | (refine And.intro (by decide +kernel) ?_) | (refine And.intro trivial ?_) | (refine Exists.intro _ (And.intro rfl (And.intro rfl (And.intro (Nat.le_of_ble_eq_true rfl) ?_)))) | (refine Exists.intro _ (And.intro rfl (And.intro rfl (And.intro rfl (And.intro (Nat.le_of_ble_eq_true rfl) ?_))))) | (refine And.intro (Exists.intro _ (And.intro rfl rfl)) ?_) | (exact fun hW => absurd hW (by decide +kernel)) | (intro hW; (try simp only [Bool.not_true, Bool.not_false, Bool.not_eq_true', Bool.not_eq_false', decide_eq_true_eq, decide_eq_false_iff_not, reduceCtorEq, Bool.true_eq_false, Bool.false_eq_true, mk_size, List.size_toArray, ByteArray.size_append, ByteArray.size_extract, List.length_cons, List.length_nil, ba_get, ba_empty, Int.toNat_natCast] at hW)) | (refine And.intro (?_ : _ → _) (?_ : _ → _)) | (refine FinR.drop 0 (Nat.zero_le _) (Closed.zero _) rfl ?_) | (refine FinR.keep ?_) | (refine And.intro (det3_agg rfl) ?_) | (refine fL_mk ?_) | (refine And.intro (by (try simp only [mk_size, List.size_toArray, ByteArray.size_append, ByteArray.size_extract, List.length_cons, List.length_nil]); omega) ?_) | (refine And.intro (by (try simp only [mk_size, List.size_toArray, ByteArray.size_append, ByteArray.size_extract, List.length_cons, List.length_nil, wrap64_eq]); omega) ?_) | fail)
    all_goals first | (exfalso; omega) | skip
    refine LoopR.live (fun y : PX => [(6, .sl 1 (xs.map stN).length 0 (xs.map stN).length cp), (11, .ptr 2 0 0), (60, .lit (.slice o2 ys.length cap2)), (61, I ys.length), (62, I y.i)]) (fun y => y.σ) (fun y => y.i ≤ ys.length ∧ y.σ[1]? = some (stB (xs.map stN)) ∧ PlanSt y.σ 2 n ((fsOf xs ys).take y.i) ∧ (ys.take y.i).all (stOk xs.length) = true) (fun y => ys.length - y.i) ⟨0, _⟩ ⟨rfl, rfl, rfl, rfl, rfl, trivial⟩ (.keep rfl) ⟨Nat.zero_le _, rfl, ⟨nilA, rfl, .nil⟩, rfl⟩ ?_
    rintro ⟨j, σ⟩ ⟨hj, h1, hps, hya⟩
    dsimp only at hj h1 hps hya
    by_cases hlt2 : j < ys.length
    · obtain ⟨k, s, x, y, hyj⟩ := row4x hy hlt2
      obtain ⟨ad, rfl, hb, hxx⟩ := hf2 j _ hyj
      have hld := fun C h => ldIn (W0 := W0) (s := 4) (enc := enI) hb hxx (k := j) hyj rfl (C := C) h
      have hmm : (xs.map stN).length ≤ 1048576 := by omega
      cases hok : stOk xs.length [k, s, x, y] with
      | false =>
        have h0 := h00 (by simp [planB, all_badG hyj hok])
        rw [← hml] at hok
        repeat' ((conv => whnf); first | (refine Exists.intro _ (And.intro getl (And.intro rfl (And.intro rfl (And.intro (Nat.le_of_ble_eq_true rfl) ?_)))); rw [set_last]) | (refine Exists.intro ([] : List Nat) ?_) | (refine And.intro rfl ?_) | (refine And.intro (by decide +kernel) ?_) | (refine And.intro trivial ?_) | (refine fS_mk ?_) | (refine hld _ ?_) | (refine d_isStep (m := (xs.map stN).length) (hm := hmm) (h0 := ?_) ..) | (refine Exists.intro _ (And.intro (fun τ => callW_fn (d_isStep (m := (xs.map stN).length) (hm := hmm) (h0 := And.intro rfl rfl) ..)) ?_)) | (refine Exists.intro _ (And.intro (callW_fn (d_isStep (m := (xs.map stN).length) (hm := hmm) (h0 := And.intro rfl rfl) ..)) (And.intro trivial ?_))) | (refine Exists.intro _ (And.intro (callW_fn (d_isStep (m := (xs.map stN).length) (hm := hmm) (h0 := And.intro rfl rfl) ..)) ?_)) | (refine Exists.intro _ (And.intro (fun τ _ => callW_fn (d_isStep (m := (xs.map stN).length) (hm := hmm) (h0 := And.intro rfl rfl) ..)) ?_)) | (refine Exists.intro _ (And.intro getl (And.intro rfl (And.intro (Nat.le_of_ble_eq_true rfl) ?_)))) | (refine Exists.intro _ (And.intro (getx1 getl) (And.intro rfl (And.intro (Nat.le_of_ble_eq_true rfl) ?_)))) | (refine Exists.intro _ (And.intro (getx1 (getx1 getl)) (And.intro rfl (And.intro (Nat.le_of_ble_eq_true rfl) ?_)))) | (refine Exists.intro _ (And.intro (getx1 h1) (And.intro rfl (And.intro (Nat.le_of_ble_eq_true rfl) ?_)))) | (refine Exists.intro _ (And.intro (getx1 (getx1 h1)) (And.intro rfl (And.intro (Nat.le_of_ble_eq_true rfl) ?_)))) | (refine Exists.intro _ (And.intro (getx1 (getx1 (getx1 h1))) (And.intro rfl (And.intro (Nat.le_of_ble_eq_true rfl) ?_)))) | (refine And.intro ⟨_, getl, rfl⟩ ?_) | (refine And.intro ⟨_, (getx1 getl), rfl⟩ ?_) | (refine And.intro ⟨_, (getx1 (getx1 getl)), rfl⟩ ?_) | (refine And.intro ⟨_, (getx1 h1), rfl⟩ ?_) | (refine And.intro ⟨_, (getx1 (getx1 h1)), rfl⟩ ?_) | (refine And.intro ⟨_, (getx1 (getx1 (getx1 h1))), rfl⟩ ?_) | (refine Exists.intro _ (And.intro rfl (And.intro rfl (And.intro (Nat.le_of_ble_eq_true rfl) ?_)))) | (refine Exists.intro _ (And.intro rfl (And.intro rfl (And.intro rfl (And.intro (Nat.le_of_ble_eq_true rfl) ?_))))) | (refine And.intro (Exists.intro _ (And.intro rfl rfl)) ?_) | (exact fun hW => absurd hW (by decide +kernel)) | (intro hW; (try simp only [Bool.not_true, Bool.not_false, Bool.not_eq_true', Bool.not_eq_false', decide_eq_true_eq, decide_eq_false_iff_not, reduceCtorEq, Bool.true_eq_false, Bool.false_eq_true, mk_size, List.size_toArray, ByteArray.size_append, ByteArray.size_extract, List.length_cons, List.length_nil, ba_get, ba_empty, Int.toNat_natCast] at hW)) | (refine And.intro (?_ : _ → _) (?_ : _ → _)) | (refine FinR.drop 0 (Nat.zero_le _) (Closed.zero _) rfl ?_) | (refine FinR.keep ?_) | (refine And.intro (det3_agg rfl) ?_) | (refine fL_mk ?_) | (refine And.intro (by (try simp only [mk_size, List.size_toArray, ByteArray.size_append, ByteArray.size_extract, List.length_cons, List.length_nil]); omega) ?_) | (refine And.intro (by (try simp only [mk_size, List.size_toArray, ByteArray.size_append, ByteArray.size_extract, List.length_cons, List.length_nil, wrap64_eq]); omega) ?_) | fail)
        all_goals first | (exfalso; omega) | (exfalso; simp_all; done) | exact h0 | (exfalso; rw [hok] at hW; cases hW; done)
      | true =>
        have hnx : (ys.take (j + 1)).all (stOk xs.length) = true := by rw [all_takeG hyj, hya, hok]; rfl
        have hok2 := hok
        rw [stOk_eq] at hok2
        simp only [Bool.and_eq_true] at hok2
        obtain ⟨⟨hk, hsx⟩, hce⟩ := hok2
        have hk3 := (inB_iff _ _ _).1 hk
        have hs3 := (inB_iff _ _ _).1 hsx
        obtain ⟨u, v, rfl, rfl, hu, hv⟩ : ∃ u v : Nat, x = u ∧ y = v ∧ u < 6 ∧ v < 6 := by
          have := cellB_iff.1 hce
          exact ⟨x.toNat, y.toNat, by omega, by omega, by omega, by omega⟩
        have hxs := xget (xs := xs) (k := s) (by omega)
        have hq : shRow (xs.getD s.toNat []) = true := List.all_eq_true.1 hxa _ (List.mem_of_getElem? hxs)
        have hq6 := hx _ (List.mem_of_getElem? hxs)
        obtain ⟨m, hm, hsm⟩ : ∃ m : Nat, m < 2 ^ 36 ∧ stN (xs.getD s.toNat []) = m := by
          match hz : xs.getD s.toNat [], hq6, hq with
          | [c0, c1, c2, c3, c4, c5], _, hq =>
            obtain ⟨m, hm, _, _, _, _, _, _, hsm⟩ := st_parts hq
            exact ⟨m, hm, hsm⟩
        have hsg : (xs.map stN)[s.toNat]? = some m := by rw [List.getElem?_map, hxs, Option.map_some, hsm]
        have hfs : (fsOf xs ys).take (j + 1) = (fsOf xs ys).take j ++ [(k.toNat, prN m u v)] := by
          refine take_snoc ?_
          rw [fsOf, List.getElem?_map, hyj]
          show some (k.toNat, prN (stN (xs.getD s.toNat [])) u v) = _
          rw [hsm]
        have hpr : ∀ {W : World} {σ : List Blk} (K : Cont), K (U (prN m u v : Nat)) σ → ACall Try.prog W 44 [U m, I (v * 6 + u : Nat)] σ K := by
          intro W σ K hK
          refine d_pressed m (v * 6 + u) hm (by omega) K ?_
          rw [show (v * 6 + u) % 6 = u by omega, show (v * 6 + u) / 6 = v by omega]
          exact hK
        have hget := stB_get hsg (off := 0 + s.toNat * 1) (by omega)
        have hgle : 0 + s.toNat * 1 + 1 ≤ ((xs.map stN).map (fun n : Nat => U n)).length := by rw [List.length_map, List.length_map]; omega
        rw [← hml] at hok hs3
        obtain ⟨st, h2, hst2⟩ := hps.ex
        have hps0 : ∀ k', k.toNat = k' → 1 ≤ k' ∧ k' ≤ 3 := by intro k' e; omega
        obtain ⟨k', rfl, hk1, hk2⟩ : ∃ k' : Nat, k = k' ∧ 1 ≤ k' ∧ k' ≤ 3 := ⟨k.toNat, by omega, by omega, by omega⟩
        rw [Int.toNat_natCast] at hfs
        generalize (fsOf xs ys).take j = fs at hst2 hps hfs
        clear hps0
        cases hst2 with
        | nil =>
          obtain rfl | rfl | rfl : k' = 1 ∨ k' = 2 ∨ k' = 3 := by omega
          · skip
            repeat' ((conv => whnf); first | (refine And.intro rfl (Exists.intro (stB (xs.map stN)) (And.intro (getx1 h1) (And.intro rfl (And.intro hgle ?_)))); rw [show (stB (xs.map stN)).cells = (xs.map stN).map (fun n : Nat => U n) from rfl, hget]) | (refine Exists.intro _ (And.intro getl (And.intro rfl (And.intro rfl (And.intro (Nat.le_of_ble_eq_true rfl) ?_)))); rw [set_last]) | (refine Exists.intro ([] : List Nat) ?_) | (refine And.intro rfl ?_) | (refine And.intro (by decide +kernel) ?_) | (refine And.intro trivial ?_) | (refine fS_mk ?_) | (refine hld _ ?_) | (refine d_isStep (m := (xs.map stN).length) (hm := hmm) (h0 := ?_) ..) | (refine Exists.intro _ (And.intro (fun τ => callW_fn (d_isStep (m := (xs.map stN).length) (hm := hmm) (h0 := And.intro rfl rfl) ..)) ?_)) | (refine Exists.intro _ (And.intro (callW_fn (d_isStep (m := (xs.map stN).length) (hm := hmm) (h0 := And.intro rfl rfl) ..)) (And.intro trivial ?_))) | (refine Exists.intro _ (And.intro (callW_fn (d_isStep (m := (xs.map stN).length) (hm := hmm) (h0 := And.intro rfl rfl) ..)) ?_)) | (refine Exists.intro _ (And.intro (fun τ _ => callW_fn (d_isStep (m := (xs.map stN).length) (hm := hmm) (h0 := And.intro rfl rfl) ..)) ?_)) | (refine Exists.intro _ (And.intro (fun τ => callW_fn (d_number (hx := by omega) (hy := by omega) (h0 := And.intro rfl rfl) ..)) ?_)) | (refine Exists.intro _ (And.intro (fun τ => callW_fn (hpr _ (And.intro rfl rfl))) ?_)) | (refine Exists.intro _ (And.intro getl (And.intro rfl (And.intro (Nat.le_of_ble_eq_true rfl) ?_)))) | (refine Exists.intro _ (And.intro (getx1 getl) (And.intro rfl (And.intro (Nat.le_of_ble_eq_true rfl) ?_)))) | (refine Exists.intro _ (And.intro (getx1 (getx1 getl)) (And.intro rfl (And.intro (Nat.le_of_ble_eq_true rfl) ?_)))) | (refine Exists.intro _ (And.intro (getx1 h1) (And.intro rfl (And.intro (Nat.le_of_ble_eq_true rfl) ?_)))) | (refine Exists.intro _ (And.intro (getx1 (getx1 h1)) (And.intro rfl (And.intro (Nat.le_of_ble_eq_true rfl) ?_)))) | (refine Exists.intro _ (And.intro (getx1 (getx1 (getx1 h1))) (And.intro rfl (And.intro (Nat.le_of_ble_eq_true rfl) ?_)))) | (refine Exists.intro _ (And.intro (getx1 h2) (And.intro rfl (And.intro (Nat.le_of_ble_eq_true rfl) ?_)))) | (refine Exists.intro _ (And.intro (getx1 (getx1 h2)) (And.intro rfl (And.intro (Nat.le_of_ble_eq_true rfl) ?_)))) | (refine Exists.intro _ (And.intro (getx1 (getx1 (getx1 h2))) (And.intro rfl (And.intro (Nat.le_of_ble_eq_true rfl) ?_)))) | (refine And.intro ⟨_, getl, rfl⟩ ?_) | (refine And.intro ⟨_, (getx1 getl), rfl⟩ ?_) | (refine And.intro ⟨_, (getx1 (getx1 getl)), rfl⟩ ?_) | (refine And.intro ⟨_, (getx1 h1), rfl⟩ ?_) | (refine And.intro ⟨_, (getx1 (getx1 h1)), rfl⟩ ?_) | (refine And.intro ⟨_, (getx1 (getx1 (getx1 h1))), rfl⟩ ?_) | (refine And.intro ⟨_, (getx1 h2), rfl⟩ ?_) | (refine And.intro ⟨_, (getx1 (getx1 h2)), rfl⟩ ?_) | (refine And.intro ⟨_, (getx1 (getx1 (getx1 h2))), rfl⟩ ?_) | (refine And.intro ⟨_, (getx1 (getx1 (getx1 (getx1 h2)))), rfl⟩ ?_) | (refine Exists.intro _ (And.intro (getx1 (getx1 (getx1 (getx1 h2)))) (And.intro rfl (And.intro rfl (And.intro (Nat.le_of_ble_eq_true rfl) ?_))))) | (refine Exists.intro _ (And.intro rfl (And.intro rfl (And.intro (Nat.le_of_ble_eq_true rfl) ?_)))) | (refine Exists.intro _ (And.intro rfl (And.intro rfl (And.intro rfl (And.intro (Nat.le_of_ble_eq_true rfl) ?_))))) | (refine And.intro (Exists.intro _ (And.intro rfl rfl)) ?_) | (exact fun hW => absurd hW (by decide +kernel)) | (intro hW; (try simp only [Bool.not_true, Bool.not_false, Bool.not_eq_true', Bool.not_eq_false', decide_eq_true_eq, decide_eq_false_iff_not, reduceCtorEq, Bool.true_eq_false, Bool.false_eq_true, mk_size, List.size_toArray, ByteArray.size_append, ByteArray.size_extract, List.length_cons, List.length_nil, ba_get, ba_empty, Int.toNat_natCast] at hW)) | (refine And.intro (?_ : _ → _) (?_ : _ → _)) | (refine FinR.drop 0 (Nat.zero_le _) (Closed.zero _) rfl ?_) | (refine FinR.keep ?_) | (refine And.intro (det3_agg rfl) ?_) | (refine fL_mk ?_) | (refine And.intro (by (try simp only [mk_size, List.size_toArray, ByteArray.size_append, ByteArray.size_extract, List.length_cons, List.length_nil]); omega) ?_) | (refine And.intro (by (try simp only [mk_size, List.size_toArray, ByteArray.size_append, ByteArray.size_extract, List.length_cons, List.length_nil, wrap64_eq]); omega) ?_) | fail)
            all_goals first | (exfalso; omega) | (exfalso; simp_all; done) | (exfalso; rw [hok] at hW; cases hW; done) | skip
            refine Again.go ⟨j + 1, _⟩ ⟨rfl, rfl, rfl, rfl, slI' (wsucc' j (by omega)), trivial⟩ (.keep rfl) ⟨by dsimp only; omega, get_ne (getx1 (getx1 (getx1 (getx1 h1)))) (by decide), ?_, hnx⟩ (by dsimp only; omega)
            dsimp only
            rw [hfs]
            exact plan_step0 (m := prN m u v) (k := 1) (s := nilA) h2
          · skip
            repeat' ((conv => whnf); first | (refine And.intro rfl (Exists.intro (stB (xs.map stN)) (And.intro (getx1 h1) (And.intro rfl (And.intro hgle ?_)))); rw [show (stB (xs.map stN)).cells = (xs.map stN).map (fun n : Nat => U n) from rfl, hget]) | (refine Exists.intro _ (And.intro getl (And.intro rfl (And.intro rfl (And.intro (Nat.le_of_ble_eq_true rfl) ?_)))); rw [set_last]) | (refine Exists.intro ([] : List Nat) ?_) | (refine And.intro rfl ?_) | (refine And.intro (by decide +kernel) ?_) | (refine And.intro trivial ?_) | (refine fS_mk ?_) | (refine hld _ ?_) | (refine d_isStep (m := (xs.map stN).length) (hm := hmm) (h0 := ?_) ..) | (refine Exists.intro _ (And.intro (fun τ => callW_fn (d_isStep (m := (xs.map stN).length) (hm := hmm) (h0 := And.intro rfl rfl) ..)) ?_)) | (refine Exists.intro _ (And.intro (callW_fn (d_isStep (m := (xs.map stN).length) (hm := hmm) (h0 := And.intro rfl rfl) ..)) (And.intro trivial ?_))) | (refine Exists.intro _ (And.intro (callW_fn (d_isStep (m := (xs.map stN).length) (hm := hmm) (h0 := And.intro rfl rfl) ..)) ?_)) | (refine Exists.intro _ (And.intro (fun τ _ => callW_fn (d_isStep (m := (xs.map stN).length) (hm := hmm) (h0 := And.intro rfl rfl) ..)) ?_)) | (refine Exists.intro _ (And.intro (fun τ => callW_fn (d_number (hx := by omega) (hy := by omega) (h0 := And.intro rfl rfl) ..)) ?_)) | (refine Exists.intro _ (And.intro (fun τ => callW_fn (hpr _ (And.intro rfl rfl))) ?_)) | (refine Exists.intro _ (And.intro getl (And.intro rfl (And.intro (Nat.le_of_ble_eq_true rfl) ?_)))) | (refine Exists.intro _ (And.intro (getx1 getl) (And.intro rfl (And.intro (Nat.le_of_ble_eq_true rfl) ?_)))) | (refine Exists.intro _ (And.intro (getx1 (getx1 getl)) (And.intro rfl (And.intro (Nat.le_of_ble_eq_true rfl) ?_)))) | (refine Exists.intro _ (And.intro (getx1 h1) (And.intro rfl (And.intro (Nat.le_of_ble_eq_true rfl) ?_)))) | (refine Exists.intro _ (And.intro (getx1 (getx1 h1)) (And.intro rfl (And.intro (Nat.le_of_ble_eq_true rfl) ?_)))) | (refine Exists.intro _ (And.intro (getx1 (getx1 (getx1 h1))) (And.intro rfl (And.intro (Nat.le_of_ble_eq_true rfl) ?_)))) | (refine Exists.intro _ (And.intro (getx1 h2) (And.intro rfl (And.intro (Nat.le_of_ble_eq_true rfl) ?_)))) | (refine Exists.intro _ (And.intro (getx1 (getx1 h2)) (And.intro rfl (And.intro (Nat.le_of_ble_eq_true rfl) ?_)))) | (refine Exists.intro _ (And.intro (getx1 (getx1 (getx1 h2))) (And.intro rfl (And.intro (Nat.le_of_ble_eq_true rfl) ?_)))) | (refine And.intro ⟨_, getl, rfl⟩ ?_) | (refine And.intro ⟨_, (getx1 getl), rfl⟩ ?_) | (refine And.intro ⟨_, (getx1 (getx1 getl)), rfl⟩ ?_) | (refine And.intro ⟨_, (getx1 h1), rfl⟩ ?_) | (refine And.intro ⟨_, (getx1 (getx1 h1)), rfl⟩ ?_) | (refine And.intro ⟨_, (getx1 (getx1 (getx1 h1))), rfl⟩ ?_) | (refine And.intro ⟨_, (getx1 h2), rfl⟩ ?_) | (refine And.intro ⟨_, (getx1 (getx1 h2)), rfl⟩ ?_) | (refine And.intro ⟨_, (getx1 (getx1 (getx1 h2))), rfl⟩ ?_) | (refine And.intro ⟨_, (getx1 (getx1 (getx1 (getx1 h2)))), rfl⟩ ?_) | (refine Exists.intro _ (And.intro (getx1 (getx1 (getx1 (getx1 h2)))) (And.intro rfl (And.intro rfl (And.intro (Nat.le_of_ble_eq_true rfl) ?_))))) | (refine Exists.intro _ (And.intro rfl (And.intro rfl (And.intro (Nat.le_of_ble_eq_true rfl) ?_)))) | (refine Exists.intro _ (And.intro rfl (And.intro rfl (And.intro rfl (And.intro (Nat.le_of_ble_eq_true rfl) ?_))))) | (refine And.intro (Exists.intro _ (And.intro rfl rfl)) ?_) | (exact fun hW => absurd hW (by decide +kernel)) | (intro hW; (try simp only [Bool.not_true, Bool.not_false, Bool.not_eq_true', Bool.not_eq_false', decide_eq_true_eq, decide_eq_false_iff_not, reduceCtorEq, Bool.true_eq_false, Bool.false_eq_true, mk_size, List.size_toArray, ByteArray.size_append, ByteArray.size_extract, List.length_cons, List.length_nil, ba_get, ba_empty, Int.toNat_natCast] at hW)) | (refine And.intro (?_ : _ → _) (?_ : _ → _)) | (refine FinR.drop 0 (Nat.zero_le _) (Closed.zero _) rfl ?_) | (refine FinR.keep ?_) | (refine And.intro (det3_agg rfl) ?_) | (refine fL_mk ?_) | (refine And.intro (by (try simp only [mk_size, List.size_toArray, ByteArray.size_append, ByteArray.size_extract, List.length_cons, List.length_nil]); omega) ?_) | (refine And.intro (by (try simp only [mk_size, List.size_toArray, ByteArray.size_append, ByteArray.size_extract, List.length_cons, List.length_nil, wrap64_eq]); omega) ?_) | fail)
            all_goals first | (exfalso; omega) | (exfalso; simp_all; done) | (exfalso; rw [hok] at hW; cases hW; done) | skip
            refine Again.go ⟨j + 1, _⟩ ⟨rfl, rfl, rfl, rfl, slI' (wsucc' j (by omega)), trivial⟩ (.keep rfl) ⟨by dsimp only; omega, get_ne (getx1 (getx1 (getx1 (getx1 h1)))) (by decide), ?_, hnx⟩ (by dsimp only; omega)
            dsimp only
            rw [hfs]
            exact plan_step0 (m := prN m u v) (k := 2) (s := nilA) h2
          · skip
            repeat' ((conv => whnf); first | (refine And.intro rfl (Exists.intro (stB (xs.map stN)) (And.intro (getx1 h1) (And.intro rfl (And.intro hgle ?_)))); rw [show (stB (xs.map stN)).cells = (xs.map stN).map (fun n : Nat => U n) from rfl, hget]) | (refine Exists.intro _ (And.intro getl (And.intro rfl (And.intro rfl (And.intro (Nat.le_of_ble_eq_true rfl) ?_)))); rw [set_last]) | (refine Exists.intro ([] : List Nat) ?_) | (refine And.intro rfl ?_) | (refine And.intro (by decide +kernel) ?_) | (refine And.intro trivial ?_) | (refine fS_mk ?_) | (refine hld _ ?_) | (refine d_isStep (m := (xs.map stN).length) (hm := hmm) (h0 := ?_) ..) | (refine Exists.intro _ (And.intro (fun τ => callW_fn (d_isStep (m := (xs.map stN).length) (hm := hmm) (h0 := And.intro rfl rfl) ..)) ?_)) | (refine Exists.intro _ (And.intro (callW_fn (d_isStep (m := (xs.map stN).length) (hm := hmm) (h0 := And.intro rfl rfl) ..)) (And.intro trivial ?_))) | (refine Exists.intro _ (And.intro (callW_fn (d_isStep (m := (xs.map stN).length) (hm := hmm) (h0 := And.intro rfl rfl) ..)) ?_)) | (refine Exists.intro _ (And.intro (fun τ _ => callW_fn (d_isStep (m := (xs.map stN).length) (hm := hmm) (h0 := And.intro rfl rfl) ..)) ?_)) | (refine Exists.intro _ (And.intro (fun τ => callW_fn (d_number (hx := by omega) (hy := by omega) (h0 := And.intro rfl rfl) ..)) ?_)) | (refine Exists.intro _ (And.intro (fun τ => callW_fn (hpr _ (And.intro rfl rfl))) ?_)) | (refine Exists.intro _ (And.intro getl (And.intro rfl (And.intro (Nat.le_of_ble_eq_true rfl) ?_)))) | (refine Exists.intro _ (And.intro (getx1 getl) (And.intro rfl (And.intro (Nat.le_of_ble_eq_true rfl) ?_)))) | (refine Exists.intro _ (And.intro (getx1 (getx1 getl)) (And.intro rfl (And.intro (Nat.le_of_ble_eq_true rfl) ?_)))) | (refine Exists.intro _ (And.intro (getx1 h1) (And.intro rfl (And.intro (Nat.le_of_ble_eq_true rfl) ?_)))) | (refine Exists.intro _ (And.intro (getx1 (getx1 h1)) (And.intro rfl (And.intro (Nat.le_of_ble_eq_true rfl) ?_)))) | (refine Exists.intro _ (And.intro (getx1 (getx1 (getx1 h1))) (And.intro rfl (And.intro (Nat.le_of_ble_eq_true rfl) ?_)))) | (refine Exists.intro _ (And.intro (getx1 h2) (And.intro rfl (And.intro (Nat.le_of_ble_eq_true rfl) ?_)))) | (refine Exists.intro _ (And.intro (getx1 (getx1 h2)) (And.intro rfl (And.intro (Nat.le_of_ble_eq_true rfl) ?_)))) | (refine Exists.intro _ (And.intro (getx1 (getx1 (getx1 h2))) (And.intro rfl (And.intro (Nat.le_of_ble_eq_true rfl) ?_)))) | (refine And.intro ⟨_, getl, rfl⟩ ?_) | (refine And.intro ⟨_, (getx1 getl), rfl⟩ ?_) | (refine And.intro ⟨_, (getx1 (getx1 getl)), rfl⟩ ?_) | (refine And.intro ⟨_, (getx1 h1), rfl⟩ ?_) | (refine And.intro ⟨_, (getx1 (getx1 h1)), rfl⟩ ?_) | (refine And.intro ⟨_, (getx1 (getx1 (getx1 h1))), rfl⟩ ?_) | (refine And.intro ⟨_, (getx1 h2), rfl⟩ ?_) | (refine And.intro ⟨_, (getx1 (getx1 h2)), rfl⟩ ?_) | (refine And.intro ⟨_, (getx1 (getx1 (getx1 h2))), rfl⟩ ?_) | (refine And.intro ⟨_, (getx1 (getx1 (getx1 (getx1 h2)))), rfl⟩ ?_) | (refine Exists.intro _ (And.intro (getx1 (getx1 (getx1 (getx1 h2)))) (And.intro rfl (And.intro rfl (And.intro (Nat.le_of_ble_eq_true rfl) ?_))))) | (refine Exists.intro _ (And.intro rfl (And.intro rfl (And.intro (Nat.le_of_ble_eq_true rfl) ?_)))) | (refine Exists.intro _ (And.intro rfl (And.intro rfl (And.intro rfl (And.intro (Nat.le_of_ble_eq_true rfl) ?_))))) | (refine And.intro (Exists.intro _ (And.intro rfl rfl)) ?_) | (exact fun hW => absurd hW (by decide +kernel)) | (intro hW; (try simp only [Bool.not_true, Bool.not_false, Bool.not_eq_true', Bool.not_eq_false', decide_eq_true_eq, decide_eq_false_iff_not, reduceCtorEq, Bool.true_eq_false, Bool.false_eq_true, mk_size, List.size_toArray, ByteArray.size_append, ByteArray.size_extract, List.length_cons, List.length_nil, ba_get, ba_empty, Int.toNat_natCast] at hW)) | (refine And.intro (?_ : _ → _) (?_ : _ → _)) | (refine FinR.drop 0 (Nat.zero_le _) (Closed.zero _) rfl ?_) | (refine FinR.keep ?_) | (refine And.intro (det3_agg rfl) ?_) | (refine fL_mk ?_) | (refine And.intro (by (try simp only [mk_size, List.size_toArray, ByteArray.size_append, ByteArray.size_extract, List.length_cons, List.length_nil]); omega) ?_) | (refine And.intro (by (try simp only [mk_size, List.size_toArray, ByteArray.size_append, ByteArray.size_extract, List.length_cons, List.length_nil, wrap64_eq]); omega) ?_) | fail)
            all_goals first | (exfalso; omega) | (exfalso; simp_all; done) | (exfalso; rw [hok] at hW; cases hW; done) | skip
            refine Again.go ⟨j + 1, _⟩ ⟨rfl, rfl, rfl, rfl, slI' (wsucc' j (by omega)), trivial⟩ (.keep rfl) ⟨by dsimp only; omega, get_ne (getx1 (getx1 (getx1 (getx1 h1)))) (by decide), ?_, hnx⟩ (by dsimp only; omega)
            dsimp only
            rw [hfs]
            exact plan_step0 (m := prN m u v) (k := 3) (s := nilA) h2
        | own r ver cap cs fs hr hl hc =>
          have hr2 : r ≠ 2 := ne_e hr h2 (show (87 : Nat) ≠ 82 by decide)
          have hr1 : r ≠ 1 := ne_e hr h1 (show (87 : Nat) ≠ 76 by decide)
          have hfl : fs.length ≤ 40 := by
            have := congrArg List.length hfs
            rw [List.length_append, List.length_take] at this
            have e : ([((k' : Nat), prN m u v)] : List (Nat × Nat)).length = 1 := rfl
            rw [fsOf, List.length_map] at this
            omega
          obtain rfl | rfl | rfl : k' = 1 ∨ k' = 2 ∨ k' = 3 := by omega
          · skip
            repeat' ((conv => whnf); first | (refine And.intro rfl (Exists.intro (stB (xs.map stN)) (And.intro (getx1 h1) (And.intro rfl (And.intro hgle ?_)))); rw [show (stB (xs.map stN)).cells = (xs.map stN).map (fun n : Nat => U n) from rfl, hget]) | (refine Exists.intro _ (And.intro getl (And.intro rfl (And.intro rfl (And.intro (Nat.le_of_ble_eq_true rfl) ?_)))); rw [set_last]) | (refine Exists.intro _ (And.intro (getx1 (getx1 (getx1 hr))) (And.intro rfl (And.intro rfl (And.intro rfl (And.intro rfl (And.intro rfl (And.intro (by decide) (And.intro (by rw [Nat.mul_one]; exact hl.symm) (And.intro rfl (And.intro (by unfold maxLen; omega) (And.intro (by omega) (fun cap' hcap1 hcap2 => ?_))))))))))))) | (refine Exists.intro ([] : List Nat) ?_) | (refine And.intro rfl ?_) | (refine And.intro (by decide +kernel) ?_) | (refine And.intro trivial ?_) | (refine fS_mk ?_) | (refine hld _ ?_) | (refine d_isStep (m := (xs.map stN).length) (hm := hmm) (h0 := ?_) ..) | (refine Exists.intro _ (And.intro (fun τ => callW_fn (d_isStep (m := (xs.map stN).length) (hm := hmm) (h0 := And.intro rfl rfl) ..)) ?_)) | (refine Exists.intro _ (And.intro (callW_fn (d_isStep (m := (xs.map stN).length) (hm := hmm) (h0 := And.intro rfl rfl) ..)) (And.intro trivial ?_))) | (refine Exists.intro _ (And.intro (callW_fn (d_isStep (m := (xs.map stN).length) (hm := hmm) (h0 := And.intro rfl rfl) ..)) ?_)) | (refine Exists.intro _ (And.intro (fun τ _ => callW_fn (d_isStep (m := (xs.map stN).length) (hm := hmm) (h0 := And.intro rfl rfl) ..)) ?_)) | (refine Exists.intro _ (And.intro (fun τ => callW_fn (d_number (hx := by omega) (hy := by omega) (h0 := And.intro rfl rfl) ..)) ?_)) | (refine Exists.intro _ (And.intro (fun τ => callW_fn (hpr _ (And.intro rfl rfl))) ?_)) | (refine Exists.intro _ (And.intro getl (And.intro rfl (And.intro (Nat.le_of_ble_eq_true rfl) ?_)))) | (refine Exists.intro _ (And.intro (getx1 getl) (And.intro rfl (And.intro (Nat.le_of_ble_eq_true rfl) ?_)))) | (refine Exists.intro _ (And.intro (getx1 (getx1 getl)) (And.intro rfl (And.intro (Nat.le_of_ble_eq_true rfl) ?_)))) | (refine Exists.intro _ (And.intro (getx1 h1) (And.intro rfl (And.intro (Nat.le_of_ble_eq_true rfl) ?_)))) | (refine Exists.intro _ (And.intro (getx1 (getx1 h1)) (And.intro rfl (And.intro (Nat.le_of_ble_eq_true rfl) ?_)))) | (refine Exists.intro _ (And.intro (getx1 (getx1 (getx1 h1))) (And.intro rfl (And.intro (Nat.le_of_ble_eq_true rfl) ?_)))) | (refine Exists.intro _ (And.intro (getx1 h2) (And.intro rfl (And.intro (Nat.le_of_ble_eq_true rfl) ?_)))) | (refine Exists.intro _ (And.intro (getx1 (getx1 h2)) (And.intro rfl (And.intro (Nat.le_of_ble_eq_true rfl) ?_)))) | (refine Exists.intro _ (And.intro (getx1 (getx1 (getx1 h2))) (And.intro rfl (And.intro (Nat.le_of_ble_eq_true rfl) ?_)))) | (refine And.intro ⟨_, getl, rfl⟩ ?_) | (refine And.intro ⟨_, (getx1 getl), rfl⟩ ?_) | (refine And.intro ⟨_, (getx1 (getx1 getl)), rfl⟩ ?_) | (refine And.intro ⟨_, (getx1 h1), rfl⟩ ?_) | (refine And.intro ⟨_, (getx1 (getx1 h1)), rfl⟩ ?_) | (refine And.intro ⟨_, (getx1 (getx1 (getx1 h1))), rfl⟩ ?_) | (refine And.intro ⟨_, (getx1 h2), rfl⟩ ?_) | (refine And.intro ⟨_, (getx1 (getx1 h2)), rfl⟩ ?_) | (refine And.intro ⟨_, (getx1 (getx1 (getx1 h2))), rfl⟩ ?_) | (refine And.intro ⟨_, (get_ne (getx1 (getx1 (getx1 h2))) hr2), rfl⟩ ?_) | (refine Exists.intro _ (And.intro (get_ne (getx1 (getx1 (getx1 h2))) hr2) (And.intro rfl (And.intro rfl (And.intro (Nat.le_of_ble_eq_true rfl) ?_))))) | (refine Exists.intro _ (And.intro rfl (And.intro rfl (And.intro (Nat.le_of_ble_eq_true rfl) ?_)))) | (refine Exists.intro _ (And.intro rfl (And.intro rfl (And.intro rfl (And.intro (Nat.le_of_ble_eq_true rfl) ?_))))) | (refine And.intro (Exists.intro _ (And.intro rfl rfl)) ?_) | (exact fun hW => absurd hW (by decide +kernel)) | (intro hW; (try simp only [Bool.not_true, Bool.not_false, Bool.not_eq_true', Bool.not_eq_false', decide_eq_true_eq, decide_eq_false_iff_not, reduceCtorEq, Bool.true_eq_false, Bool.false_eq_true, mk_size, List.size_toArray, ByteArray.size_append, ByteArray.size_extract, List.length_cons, List.length_nil, ba_get, ba_empty, Int.toNat_natCast] at hW)) | (refine And.intro (?_ : _ → _) (?_ : _ → _)) | (refine FinR.drop 0 (Nat.zero_le _) (Closed.zero _) rfl ?_) | (refine FinR.keep ?_) | (refine And.intro (det3_agg rfl) ?_) | (refine fL_mk ?_) | (refine And.intro (by (try simp only [mk_size, List.size_toArray, ByteArray.size_append, ByteArray.size_extract, List.length_cons, List.length_nil]); omega) ?_) | (refine And.intro (by (try simp only [mk_size, List.size_toArray, ByteArray.size_append, ByteArray.size_extract, List.length_cons, List.length_nil, wrap64_eq]); omega) ?_) | fail)
            all_goals first | (exfalso; omega) | (exfalso; simp_all; done) | (exfalso; rw [hok] at hW; cases hW; done) | skip
            refine Again.go ⟨j + 1, _⟩ ⟨rfl, rfl, rfl, rfl, slI' (wsucc' j (by omega)), trivial⟩ (.keep rfl) ⟨by dsimp only; omega, get_ne (get_ne (getx1 (getx1 (getx1 h1))) hr1) (by decide), ?_, hnx⟩ (by dsimp only; omega)
            dsimp only
            rw [hfs]
            exact plan_stepS (m := prN m u v) (k := 1) h2 hr hl hc
          · skip
            repeat' ((conv => whnf); first | (refine And.intro rfl (Exists.intro (stB (xs.map stN)) (And.intro (getx1 h1) (And.intro rfl (And.intro hgle ?_)))); rw [show (stB (xs.map stN)).cells = (xs.map stN).map (fun n : Nat => U n) from rfl, hget]) | (refine Exists.intro _ (And.intro getl (And.intro rfl (And.intro rfl (And.intro (Nat.le_of_ble_eq_true rfl) ?_)))); rw [set_last]) | (refine Exists.intro _ (And.intro (getx1 (getx1 (getx1 hr))) (And.intro rfl (And.intro rfl (And.intro rfl (And.intro rfl (And.intro rfl (And.intro (by decide) (And.intro (by rw [Nat.mul_one]; exact hl.symm) (And.intro rfl (And.intro (by unfold maxLen; omega) (And.intro (by omega) (fun cap' hcap1 hcap2 => ?_))))))))))))) | (refine Exists.intro ([] : List Nat) ?_) | (refine And.intro rfl ?_) | (refine And.intro (by decide +kernel) ?_) | (refine And.intro trivial ?_) | (refine fS_mk ?_) | (refine hld _ ?_) | (refine d_isStep (m := (xs.map stN).length) (hm := hmm) (h0 := ?_) ..) | (refine Exists.intro _ (And.intro (fun τ => callW_fn (d_isStep (m := (xs.map stN).length) (hm := hmm) (h0 := And.intro rfl rfl) ..)) ?_)) | (refine Exists.intro _ (And.intro (callW_fn (d_isStep (m := (xs.map stN).length) (hm := hmm) (h0 := And.intro rfl rfl) ..)) (And.intro trivial ?_))) | (refine Exists.intro _ (And.intro (callW_fn (d_isStep (m := (xs.map stN).length) (hm := hmm) (h0 := And.intro rfl rfl) ..)) ?_)) | (refine Exists.intro _ (And.intro (fun τ _ => callW_fn (d_isStep (m := (xs.map stN).length) (hm := hmm) (h0 := And.intro rfl rfl) ..)) ?_)) | (refine Exists.intro _ (And.intro (fun τ => callW_fn (d_number (hx := by omega) (hy := by omega) (h0 := And.intro rfl rfl) ..)) ?_)) | (refine Exists.intro _ (And.intro (fun τ => callW_fn (hpr _ (And.intro rfl rfl))) ?_)) | (refine Exists.intro _ (And.intro getl (And.intro rfl (And.intro (Nat.le_of_ble_eq_true rfl) ?_)))) | (refine Exists.intro _ (And.intro (getx1 getl) (And.intro rfl (And.intro (Nat.le_of_ble_eq_true rfl) ?_)))) | (refine Exists.intro _ (And.intro (getx1 (getx1 getl)) (And.intro rfl (And.intro (Nat.le_of_ble_eq_true rfl) ?_)))) | (refine Exists.intro _ (And.intro (getx1 h1) (And.intro rfl (And.intro (Nat.le_of_ble_eq_true rfl) ?_)))) | (refine Exists.intro _ (And.intro (getx1 (getx1 h1)) (And.intro rfl (And.intro (Nat.le_of_ble_eq_true rfl) ?_)))) | (refine Exists.intro _ (And.intro (getx1 (getx1 (getx1 h1))) (And.intro rfl (And.intro (Nat.le_of_ble_eq_true rfl) ?_)))) | (refine Exists.intro _ (And.intro (getx1 h2) (And.intro rfl (And.intro (Nat.le_of_ble_eq_true rfl) ?_)))) | (refine Exists.intro _ (And.intro (getx1 (getx1 h2)) (And.intro rfl (And.intro (Nat.le_of_ble_eq_true rfl) ?_)))) | (refine Exists.intro _ (And.intro (getx1 (getx1 (getx1 h2))) (And.intro rfl (And.intro (Nat.le_of_ble_eq_true rfl) ?_)))) | (refine And.intro ⟨_, getl, rfl⟩ ?_) | (refine And.intro ⟨_, (getx1 getl), rfl⟩ ?_) | (refine And.intro ⟨_, (getx1 (getx1 getl)), rfl⟩ ?_) | (refine And.intro ⟨_, (getx1 h1), rfl⟩ ?_) | (refine And.intro ⟨_, (getx1 (getx1 h1)), rfl⟩ ?_) | (refine And.intro ⟨_, (getx1 (getx1 (getx1 h1))), rfl⟩ ?_) | (refine And.intro ⟨_, (getx1 h2), rfl⟩ ?_) | (refine And.intro ⟨_, (getx1 (getx1 h2)), rfl⟩ ?_) | (refine And.intro ⟨_, (getx1 (getx1 (getx1 h2))), rfl⟩ ?_) | (refine And.intro ⟨_, (get_ne (getx1 (getx1 (getx1 h2))) hr2), rfl⟩ ?_) | (refine Exists.intro _ (And.intro (get_ne (getx1 (getx1 (getx1 h2))) hr2) (And.intro rfl (And.intro rfl (And.intro (Nat.le_of_ble_eq_true rfl) ?_))))) | (refine Exists.intro _ (And.intro rfl (And.intro rfl (And.intro (Nat.le_of_ble_eq_true rfl) ?_)))) | (refine Exists.intro _ (And.intro rfl (And.intro rfl (And.intro rfl (And.intro (Nat.le_of_ble_eq_true rfl) ?_))))) | (refine And.intro (Exists.intro _ (And.intro rfl rfl)) ?_) | (exact fun hW => absurd hW (by decide +kernel)) | (intro hW; (try simp only [Bool.not_true, Bool.not_false, Bool.not_eq_true', Bool.not_eq_false', decide_eq_true_eq, decide_eq_false_iff_not, reduceCtorEq, Bool.true_eq_false, Bool.false_eq_true, mk_size, List.size_toArray, ByteArray.size_append, ByteArray.size_extract, List.length_cons, List.length_nil, ba_get, ba_empty, Int.toNat_natCast] at hW)) | (refine And.intro (?_ : _ → _) (?_ : _ → _)) | (refine FinR.drop 0 (Nat.zero_le _) (Closed.zero _) rfl ?_) | (refine FinR.keep ?_) | (refine And.intro (det3_agg rfl) ?_) | (refine fL_mk ?_) | (refine And.intro (by (try simp only [mk_size, List.size_toArray, ByteArray.size_append, ByteArray.size_extract, List.length_cons, List.length_nil]); omega) ?_) | (refine And.intro (by (try simp only [mk_size, List.size_toArray, ByteArray.size_append, ByteArray.size_extract, List.length_cons, List.length_nil, wrap64_eq]); omega) ?_) | fail)
            all_goals first | (exfalso; omega) | (exfalso; simp_all; done) | (exfalso; rw [hok] at hW; cases hW; done) | skip
            refine Again.go ⟨j + 1, _⟩ ⟨rfl, rfl, rfl, rfl, slI' (wsucc' j (by omega)), trivial⟩ (.keep rfl) ⟨by dsimp only; omega, get_ne (get_ne (getx1 (getx1 (getx1 h1))) hr1) (by decide), ?_, hnx⟩ (by dsimp only; omega)
            dsimp only
            rw [hfs]
            exact plan_stepS (m := prN m u v) (k := 2) h2 hr hl hc
          · skip
            repeat' ((conv => whnf); first | (refine And.intro rfl (Exists.intro (stB (xs.map stN)) (And.intro (getx1 h1) (And.intro rfl (And.intro hgle ?_)))); rw [show (stB (xs.map stN)).cells = (xs.map stN).map (fun n : Nat => U n) from rfl, hget]) | (refine Exists.intro _ (And.intro getl (And.intro rfl (And.intro rfl (And.intro (Nat.le_of_ble_eq_true rfl) ?_)))); rw [set_last]) | (refine Exists.intro _ (And.intro (getx1 (getx1 (getx1 hr))) (And.intro rfl (And.intro rfl (And.intro rfl (And.intro rfl (And.intro rfl (And.intro (by decide) (And.intro (by rw [Nat.mul_one]; exact hl.symm) (And.intro rfl (And.intro (by unfold maxLen; omega) (And.intro (by omega) (fun cap' hcap1 hcap2 => ?_))))))))))))) | (refine Exists.intro ([] : List Nat) ?_) | (refine And.intro rfl ?_) | (refine And.intro (by decide +kernel) ?_) | (refine And.intro trivial ?_) | (refine fS_mk ?_) | (refine hld _ ?_) | (refine d_isStep (m := (xs.map stN).length) (hm := hmm) (h0 := ?_) ..) | (refine Exists.intro _ (And.intro (fun τ => callW_fn (d_isStep (m := (xs.map stN).length) (hm := hmm) (h0 := And.intro rfl rfl) ..)) ?_)) | (refine Exists.intro _ (And.intro (callW_fn (d_isStep (m := (xs.map stN).length) (hm := hmm) (h0 := And.intro rfl rfl) ..)) (And.intro trivial ?_))) | (refine Exists.intro _ (And.intro (callW_fn (d_isStep (m := (xs.map stN).length) (hm := hmm) (h0 := And.intro rfl rfl) ..)) ?_)) | (refine Exists.intro _ (And.intro (fun τ _ => callW_fn (d_isStep (m := (xs.map stN).length) (hm := hmm) (h0 := And.intro rfl rfl) ..)) ?_)) | (refine Exists.intro _ (And.intro (fun τ => callW_fn (d_number (hx := by omega) (hy := by omega) (h0 := And.intro rfl rfl) ..)) ?_)) | (refine Exists.intro _ (And.intro (fun τ => callW_fn (hpr _ (And.intro rfl rfl))) ?_)) | (refine Exists.intro _ (And.intro getl (And.intro rfl (And.intro (Nat.le_of_ble_eq_true rfl) ?_)))) | (refine Exists.intro _ (And.intro (getx1 getl) (And.intro rfl (And.intro (Nat.le_of_ble_eq_true rfl) ?_)))) | (refine Exists.intro _ (And.intro (getx1 (getx1 getl)) (And.intro rfl (And.intro (Nat.le_of_ble_eq_true rfl) ?_)))) | (refine Exists.intro _ (And.intro (getx1 h1) (And.intro rfl (And.intro (Nat.le_of_ble_eq_true rfl) ?_)))) | (refine Exists.intro _ (And.intro (getx1 (getx1 h1)) (And.intro rfl (And.intro (Nat.le_of_ble_eq_true rfl) ?_)))) | (refine Exists.intro _ (And.intro (getx1 (getx1 (getx1 h1))) (And.intro rfl (And.intro (Nat.le_of_ble_eq_true rfl) ?_)))) | (refine Exists.intro _ (And.intro (getx1 h2) (And.intro rfl (And.intro (Nat.le_of_ble_eq_true rfl) ?_)))) | (refine Exists.intro _ (And.intro (getx1 (getx1 h2)) (And.intro rfl (And.intro (Nat.le_of_ble_eq_true rfl) ?_)))) | (refine Exists.intro _ (And.intro (getx1 (getx1 (getx1 h2))) (And.intro rfl (And.intro (Nat.le_of_ble_eq_true rfl) ?_)))) | (refine And.intro ⟨_, getl, rfl⟩ ?_) | (refine And.intro ⟨_, (getx1 getl), rfl⟩ ?_) | (refine And.intro ⟨_, (getx1 (getx1 getl)), rfl⟩ ?_) | (refine And.intro ⟨_, (getx1 h1), rfl⟩ ?_) | (refine And.intro ⟨_, (getx1 (getx1 h1)), rfl⟩ ?_) | (refine And.intro ⟨_, (getx1 (getx1 (getx1 h1))), rfl⟩ ?_) | (refine And.intro ⟨_, (getx1 h2), rfl⟩ ?_) | (refine And.intro ⟨_, (getx1 (getx1 h2)), rfl⟩ ?_) | (refine And.intro ⟨_, (getx1 (getx1 (getx1 h2))), rfl⟩ ?_) | (refine And.intro ⟨_, (get_ne (getx1 (getx1 (getx1 h2))) hr2), rfl⟩ ?_) | (refine Exists.intro _ (And.intro (get_ne (getx1 (getx1 (getx1 h2))) hr2) (And.intro rfl (And.intro rfl (And.intro (Nat.le_of_ble_eq_true rfl) ?_))))) | (refine Exists.intro _ (And.intro rfl (And.intro rfl (And.intro (Nat.le_of_ble_eq_true rfl) ?_)))) | (refine Exists.intro _ (And.intro rfl (And.intro rfl (And.intro rfl (And.intro (Nat.le_of_ble_eq_true rfl) ?_))))) | (refine And.intro (Exists.intro _ (And.intro rfl rfl)) ?_) | (exact fun hW => absurd hW (by decide +kernel)) | (intro hW; (try simp only [Bool.not_true, Bool.not_false, Bool.not_eq_true', Bool.not_eq_false', decide_eq_true_eq, decide_eq_false_iff_not, reduceCtorEq, Bool.true_eq_false, Bool.false_eq_true, mk_size, List.size_toArray, ByteArray.size_append, ByteArray.size_extract, List.length_cons, List.length_nil, ba_get, ba_empty, Int.toNat_natCast] at hW)) | (refine And.intro (?_ : _ → _) (?_ : _ → _)) | (refine FinR.drop 0 (Nat.zero_le _) (Closed.zero _) rfl ?_) | (refine FinR.keep ?_) | (refine And.intro (det3_agg rfl) ?_) | (refine fL_mk ?_) | (refine And.intro (by (try simp only [mk_size, List.size_toArray, ByteArray.size_append, ByteArray.size_extract, List.length_cons, List.length_nil]); omega) ?_) | (refine And.intro (by (try simp only [mk_size, List.size_toArray, ByteArray.size_append, ByteArray.size_extract, List.length_cons, List.length_nil, wrap64_eq]); omega) ?_) | fail)
            all_goals first | (exfalso; omega) | (exfalso; simp_all; done) | (exfalso; rw [hok] at hW; cases hW; done) | skip
            refine Again.go ⟨j + 1, _⟩ ⟨rfl, rfl, rfl, rfl, slI' (wsucc' j (by omega)), trivial⟩ (.keep rfl) ⟨by dsimp only; omega, get_ne (get_ne (getx1 (getx1 (getx1 h1))) hr1) (by decide), ?_, hnx⟩ (by dsimp only; omega)
            dsimp only
            rw [hfs]
            exact plan_stepS (m := prN m u v) (k := 3) h2 hr hl hc
    · obtain rfl : j = ys.length := by omega
      have e : (fsOf xs ys).take ys.length = fsOf xs ys := List.take_of_length_le (by rw [fsOf, List.length_map]; exact Nat.le_refl _)
      rw [e] at hps
      rw [List.take_length] at hya
      have h00 := h0 (planB_iff.2 ⟨hs, hx4, hy40, hxa, hya⟩) σ hps
      repeat' ((conv => whnf); first | (refine Exists.intro ([] : List Nat) ?_) | (refine And.intro rfl ?_) | (refine And.intro (by decide +kernel) ?_) | (refine And.intro trivial ?_) | (refine Exists.intro _ (And.intro rfl (And.intro rfl (And.intro (Nat.le_of_ble_eq_true rfl) ?_)))) | (refine Exists.intro _ (And.intro rfl (And.intro rfl (And.intro rfl (And.intro (Nat.le_of_ble_eq_true rfl) ?_))))) | (refine And.intro (Exists.intro _ (And.intro rfl rfl)) ?_) | (exact fun hW => absurd hW (by decide +kernel)) | (intro hW; (try simp only [Bool.not_true, Bool.not_false, Bool.not_eq_true', Bool.not_eq_false', decide_eq_true_eq, decide_eq_false_iff_not, reduceCtorEq, Bool.true_eq_false, Bool.false_eq_true, mk_size, List.size_toArray, ByteArray.size_append, ByteArray.size_extract, List.length_cons, List.length_nil, ba_get, ba_empty, Int.toNat_natCast] at hW)) | (refine And.intro (?_ : _ → _) (?_ : _ → _)) | (refine FinR.drop 0 (Nat.zero_le _) (Closed.zero _) rfl ?_) | (refine FinR.keep ?_) | (refine And.intro (det3_agg rfl) ?_) | (refine fL_mk ?_) | (refine And.intro (by (try simp only [mk_size, List.size_toArray, ByteArray.size_append, ByteArray.size_extract, List.length_cons, List.length_nil]); omega) ?_) | (refine And.intro (by (try simp only [mk_size, List.size_toArray, ByteArray.size_append, ByteArray.size_extract, List.length_cons, List.length_nil, wrap64_eq]); omega) ?_) | fail)
      all_goals first | (exfalso; omega) | exact h00
end Go.Proofs.Ytcfkhiplmnamcaa
end
