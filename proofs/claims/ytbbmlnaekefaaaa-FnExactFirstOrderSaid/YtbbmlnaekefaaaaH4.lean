import Derived.Test.YtbbmlnaekefaaaaH3
section
/- Arithmetic: sets of cells as numbers; cells that go elsewhere; sheets by their sets. -/
set_option linter.unusedVariables false
set_option linter.unusedSimpArgs false
namespace Go.Proofs.Ytbbmlnaekefaaaa
open Go Go.RowKit Go.Proofs.Ytbbmlnaekefaaaa.Abs
/-- the cells that go where g tells -/
def mvN (g : Nat → Nat) (n : Nat) : Nat → Nat
  | 0 => 0
  | m + 1 => mvN g n m ||| (if n.testBit m then 2 ^ g m else 0)
theorem mvN_succ (g : Nat → Nat) (n m : Nat) : mvN g n (m + 1) = mvN g n m ||| (if n.testBit m then 2 ^ g m else 0) := rfl
theorem mvN_bit (g : Nat → Nat) (n j : Nat) : ∀ m, (mvN g n m).testBit j = true ↔ ∃ k, k < m ∧ n.testBit k = true ∧ g k = j
  | 0 => by simp [mvN]
  | m + 1 => by
    rw [mvN_succ, Nat.testBit_or, Bool.or_eq_true, mvN_bit g n j m]
    constructor
    · rintro (⟨k, h1, h2, h3⟩ | h)
      · exact ⟨k, by omega, h2, h3⟩
      · split at h
        · rename_i hm
          rw [Nat.testBit_two_pow] at h
          exact ⟨m, by omega, hm, by simpa using h⟩
        · simp at h
    · rintro ⟨k, h1, h2, h3⟩
      by_cases e : k = m
      · subst e
        right
        rw [if_pos h2, Nat.testBit_two_pow]
        simpa using h3
      · exact .inl ⟨k, by omega, h2, h3⟩
abbrev Perm (g h : Nat → Nat) : Prop := ∀ k, k < 36 → g k < 36 ∧ h k < 36 ∧ g (h k) = k ∧ h (g k) = k
theorem mvN_perm {g h : Nat → Nat} (hp : Perm g h) (n : Nat) {j : Nat} (hj : j < 36) : (mvN g n 36).testBit j = n.testBit (h j) := by
  rw [Bool.eq_iff_iff, mvN_bit]
  obtain ⟨_, h2, h3, _⟩ := hp j hj
  constructor
  · rintro ⟨k, k1, k2, k3⟩
    rw [← k3, (hp k k1).2.2.2]; exact k2
  · intro hb
    exact ⟨h j, h2, hb, h3⟩
theorem mvN_lt {g h : Nat → Nat} (hp : Perm g h) (n : Nat) : mvN g n 36 < 2 ^ 36 := by
  refine Nat.lt_pow_two_of_testBit _ fun i hi => ?_
  rw [Bool.eq_false_iff]
  intro hc
  obtain ⟨k, k1, _, k3⟩ := (mvN_bit g n i 36).1 hc
  have := (hp k k1).1
  omega
theorem mvN_lt' {g : Nat → Nat} (hp : ∀ k, k < 36 → g k < 36) (n m : Nat) (hm : m ≤ 36) : mvN g n m < 2 ^ 36 := by
  refine Nat.lt_pow_two_of_testBit _ fun i hi => ?_
  rw [Bool.eq_false_iff]
  intro hc
  obtain ⟨k, k1, _, k3⟩ := (mvN_bit g n i m).1 hc
  have := hp k (by omega)
  omega
/-- a row of a set -/
def rowN (n i : Nat) : Nat := (n >>> (6 * i)) % 64
theorem rowN_lt (n i : Nat) : rowN n i < 64 := Nat.mod_lt _ (by decide)
theorem rowN_bit (n i j : Nat) : (rowN n i).testBit j = (decide (j < 6) && n.testBit (6 * i + j)) := by
  unfold rowN
  rw [show (64 : Nat) = 2 ^ 6 from rfl, Nat.testBit_mod_two_pow, Nat.testBit_shiftRight]
abbrev ShN (n : Nat) : AV := Sh (rowN n 0 : Nat) (rowN n 1 : Nat) (rowN n 2 : Nat) (rowN n 3 : Nat) (rowN n 4 : Nat) (rowN n 5 : Nat)
theorem rowN_eq (n : Nat) : rowN n 0 = n % 64 ∧ rowN n 1 = n / 64 % 64 ∧ rowN n 2 = n / 4096 % 64 ∧ rowN n 3 = n / 262144 % 64 ∧ rowN n 4 = n / 16777216 % 64 ∧ rowN n 5 = n / 1073741824 % 64 := by
  refine ⟨?_, ?_, ?_, ?_, ?_, ?_⟩ <;> simp [rowN, Nat.shiftRight_eq_div_pow]
theorem setN_rows {n : Nat} (h : n < 2 ^ 36) : setN (rowN n 0) (rowN n 1) (rowN n 2) (rowN n 3) (rowN n 4) (rowN n 5) = n := by
  obtain ⟨e0, e1, e2, e3, e4, e5⟩ := rowN_eq n
  rw [e0, e1, e2, e3, e4, e5]; unfold setN; omega
theorem rows_setN {a b c d e f : Nat} (ha : a < 64) (hb : b < 64) (hc : c < 64) (hd : d < 64) (he : e < 64) (hf : f < 64) :
    rowN (setN a b c d e f) 0 = a ∧ rowN (setN a b c d e f) 1 = b ∧ rowN (setN a b c d e f) 2 = c ∧ rowN (setN a b c d e f) 3 = d ∧ rowN (setN a b c d e f) 4 = e ∧ rowN (setN a b c d e f) 5 = f := by
  obtain ⟨e0, e1, e2, e3, e4, e5⟩ := rowN_eq (setN a b c d e f)
  rw [e0, e1, e2, e3, e4, e5]; unfold setN; omega
theorem shN_of {a b c d e f : Int} (h : shB6 a b c d e f = true) : ∃ n, n < 2 ^ 36 ∧ (rowN n 0 : Nat) = a ∧ (rowN n 1 : Nat) = b ∧ (rowN n 2 : Nat) = c ∧ (rowN n 3 : Nat) = d ∧ (rowN n 4 : Nat) = e ∧ (rowN n 5 : Nat) = f := by
  obtain ⟨a0, b0, c0, d0, e0, f0, rfl, rfl, rfl, rfl, rfl, rfl, h1, h2, h3, h4, h5, h6⟩ := rows_of a b c d e f h
  obtain ⟨r0, r1, r2, r3, r4, r5⟩ := rows_setN h1 h2 h3 h4 h5 h6
  exact ⟨setN a0 b0 c0 d0 e0 f0, setN_lt _ _ _ _ _ _ h1 h2 h3 h4 h5 h6, by rw [r0], by rw [r1], by rw [r2], by rw [r3], by rw [r4], by rw [r5]⟩
theorem shB6_ShN (n : Nat) : shB6 (rowN n 0 : Nat) (rowN n 1 : Nat) (rowN n 2 : Nat) (rowN n 3 : Nat) (rowN n 4 : Nat) (rowN n 5 : Nat) = true := by
  have h := rowN_lt n
  have h0 := h 0; have h1 := h 1; have h2 := h 2; have h3 := h 3; have h4 := h 4; have h5 := h 5
  simp [shB6, inB]; omega
theorem setI_ShN {n : Nat} (h : n < 2 ^ 36) : setI (rowN n 0 : Nat) (rowN n 1 : Nat) (rowN n 2 : Nat) (rowN n 3 : Nat) (rowN n 4 : Nat) (rowN n 5 : Nat) = (n : Nat) := by
  rw [setI_nat _ _ _ _ _ _ (rowN_lt n 0) (rowN_lt n 1) (rowN_lt n 2) (rowN_lt n 3) (rowN_lt n 4) (rowN_lt n 5), setN_rows h]
theorem kSh {K : Cont} {σ : List Blk} {a b c d e f a' b' c' d' e' f' : Int} (h : K (Sh a b c d e f) σ) (ha : a' = a) (hb : b' = b) (hc : c' = c) (hd : d' = d) (he : e' = e) (hf : f' = f) : K (Sh a' b' c' d' e' f') σ := by
  subst ha; subst hb; subst hc; subst hd; subst he; subst hf; exact h
/-! shifts -/
def shG (x y k : Nat) : Nat := (k / 6 + y) % 6 * 6 + (k % 6 + x) % 6
def shH (x y k : Nat) : Nat := (k / 6 + (6 - y)) % 6 * 6 + (k % 6 + (6 - x)) % 6
theorem sh_perm : ∀ x, x < 6 → ∀ y, y < 6 → Perm (shG x y) (shH x y) := by decide +kernel
def rotN (x r : Nat) : Nat := ((r <<< x) &&& 63) ||| (r >>> (6 - x))
theorem rot_bit : ∀ x, x < 6 → ∀ r, r < 64 → rotN x r < 64 ∧ ∀ j, j < 6 → (rotN x r).testBit j = r.testBit ((j + (6 - x)) % 6) := by decide +kernel
theorem rot_int : ∀ x : Nat, x < 6 → ∀ r : Nat, r < 64 → bOr .i64 (bAnd .i64 (shL .i64 (r : Int) (x : Int)) 63) (shR .i64 (r : Int) (IntKind.i64.wrap (6 - (x : Int)))) = ((rotN x r : Nat) : Int) := by decide +kernel
theorem rot_row (n x y i : Nat) (hx : x < 6) (hy : y < 6) (hi : i < 6) : rotN x (rowN n i) = rowN (mvN (shG x y) n 36) ((i + y) % 6) := by
  obtain ⟨h1, h2⟩ := rot_bit x hx _ (rowN_lt n i)
  apply Nat.eq_of_testBit_eq; intro j
  rw [rowN_bit]
  by_cases hj : j < 6
  · rw [h2 j hj, rowN_bit, mvN_perm (sh_perm x hx y hy) n (by omega)]
    have e : 6 * i + (j + (6 - x)) % 6 = shH x y (6 * ((i + y) % 6) + j) := by unfold shH; omega
    rw [e]; simp [hj]; omega
  · rw [Nat.testBit_lt_two_pow (Nat.lt_of_lt_of_le h1 (Nat.pow_le_pow_right (by decide : 0 < 2) (by omega : 6 ≤ j)))]
    simp [hj]
end Go.Proofs.Ytbbmlnaekefaaaa
end

section
/- Contracts: sets that move; sheets by their sets. -/
set_option linter.unusedVariables false
set_option linter.unusedSimpArgs false
set_option maxRecDepth 100000
set_option maxHeartbeats 4000000
namespace Go.Proofs.Ytbbmlnaekefaaaa
open Go Go.RowKit Go.Proofs.Ytbbmlnaekefaaaa.Abs
variable {W0 : World} {σ : List Blk}
theorem kB' {K : Cont} {σ : List Blk} {x y : Bool} (h : K (Bo x) σ) (e : y = x) : K (Bo y) σ := e ▸ h
theorem kI' {K : Cont} {σ : List Blk} {x y : Int} (h : K (I x) σ) (e : y = x) : K (I y) σ := e ▸ h
theorem kT2 {K : Cont} {σ : List Blk} {x y x' y' : Int} (h : K (.tup [I x, I y]) σ) (e : x' = x) (e' : y' = y) : K (.tup [I x', I y']) σ := e ▸ e' ▸ h
theorem has_eq (n k : Nat) (hn : n < 18446744073709551616) (hk : k ≤ 64) : decide (bAnd .u64 (shR .u64 (n : Nat) (k : Nat)) 1 = 1) = n.testBit k := by
  rw [shR_u64 n k hk, show (1 : Int) = ((1 : Nat) : Int) from rfl, bAnd_u64 _ _ (Nat.lt_of_le_of_lt (by rw [Nat.shiftRight_eq_div_pow]; exact Nat.div_le_self _ _) hn) (by decide), Bool.eq_iff_iff, decide_eq_true_iff, Nat.testBit, bne_iff_ne, Nat.and_comm]
  have h := Nat.and_one_is_mod (n >>> k)
  rw [Nat.and_comm] at h
  rw [h]; omega
theorem c_has (n k : Nat) (hn : n < 18446744073709551616) (hk : k ≤ 64) (K : Cont) (h0 : K (Bo (n.testBit k)) []) : ACall Try.prog W0 71 [U n, I k] [] K := by
  refine by71 (Nat.le_of_ble_eq_true rfl) ?_
  repeat' ((conv => whnf); first | (refine Exists.intro ([] : List Nat) ?_) | (refine And.intro rfl ?_) | (refine And.intro (by decide +kernel) ?_) | (refine And.intro trivial ?_) | (refine Exists.intro _ (And.intro rfl (And.intro rfl (And.intro (Nat.le_of_ble_eq_true rfl) ?_)))) | (refine Exists.intro _ (And.intro rfl (And.intro rfl (And.intro rfl (And.intro (Nat.le_of_ble_eq_true rfl) ?_))))) | (refine And.intro (Exists.intro _ (And.intro rfl rfl)) ?_) | (exact fun hW => absurd hW (by decide +kernel)) | (intro hW; (try simp only [Bool.not_true, Bool.not_false, Bool.not_eq_true', Bool.not_eq_false', decide_eq_true_eq, decide_eq_false_iff_not, reduceCtorEq, Bool.true_eq_false, Bool.false_eq_true, mk_size, List.size_toArray, ByteArray.size_append, ByteArray.size_extract, List.length_cons, List.length_nil, ba_get, ba_empty, Int.toNat_natCast] at hW)) | (refine And.intro (?_ : _ → _) (?_ : _ → _)) | (refine FinR.drop 0 (Nat.zero_le _) (Closed.zero _) rfl ?_) | (refine FinR.keep ?_) | (refine And.intro (det3_agg rfl) ?_) | (refine fL_mk ?_) | (refine And.intro (by (try simp only [mk_size, List.size_toArray, ByteArray.size_append, ByteArray.size_extract, List.length_cons, List.length_nil]); omega) ?_) | (refine And.intro (by (try simp only [mk_size, List.size_toArray, ByteArray.size_append, ByteArray.size_extract, List.length_cons, List.length_nil, wrap64_eq]); omega) ?_) | fail)
  all_goals exact kB' h0 (has_eq n k hn hk)
theorem d_has (n k : Nat) (hn : n < 18446744073709551616) (hk : k ≤ 64) (K : Cont) (h0 : K (Bo (n.testBit k)) σ) : ACall Try.prog W0 71 [U n, I k] σ K :=
  ACall.lift rfl (fun _ => rfl) (fun W1 K _ hK => c_has n k hn hk K hK) h0
theorem or_bit (g : Nat → Nat) (n k x y : Nat) (hk : k < 36) (hg : ∀ k, k < 36 → g k < 36) (hx : x < 6) (hy : y < 6) (he : g k = y * 6 + x) (hb : n.testBit k = true) :
    bOr .u64 (mvN g n k : Nat) (shL .u64 1 (IntKind.i64.wrap (IntKind.i64.wrap ((y : Int) * 6) + (x : Int)))) = (mvN g n (k + 1) : Nat) := by
  rw [wrap_i64 ((y : Int) * 6) (by omega) (by omega), wrap_i64 _ (by omega) (by omega), show ((y : Int) * 6 + (x : Int)) = ((g k : Nat) : Int) by omega]
  have h36 := hg k hk
  have hp : 2 ^ g k < 2 ^ 36 := Nat.pow_lt_pow_right (by decide) h36
  rw [show (1 : Int) = ((1 : Nat) : Int) from rfl, shL_u64 1 _ (by omega) (by rw [Nat.one_mul]; exact Nat.lt_trans hp (by decide)), Nat.one_mul, bOr_u64 _ _ (Nat.lt_trans (mvN_lt' hg n k (by omega)) (by decide)) (Nat.lt_trans hp (by decide)), mvN_succ, if_pos hb]
theorem slU {a b : Int} (h : a = b) : AV.lit (.int .u64 a) = U b := by rw [h]
theorem slI' {a b : Int} (h : a = b) : AV.lit (.int .i64 a) = I b := by rw [h]
theorem c_moved (n : Nat) (g0 : FuncId) (caps : List AV) (g : Nat → Nat) (hn : n < 2 ^ 36) (hg : ∀ k, k < 36 → g k < 36) (hc : ∀ k : Nat, k < 36 → ∃ x y : Nat, x < 6 ∧ y < 6 ∧ g k = y * 6 + x ∧ ∀ K : Cont, K (.tup [I x, I y]) σ → ACall Try.prog W0 g0 (I (k % 6 : Nat) :: I (k / 6 : Nat) :: caps) σ K)
    (K : Cont) (h0 : K (U (mvN g n 36 : Nat)) σ) : ACall Try.prog W0 68 [U n, .fn (.func g0) [] caps] σ K := by
  refine by68 (Nat.le_of_ble_eq_true rfl) ?_
  repeat' ((conv => whnf); first | (refine Exists.intro ([] : List Nat) ?_) | (refine And.intro rfl ?_) | (refine And.intro (by decide +kernel) ?_) | (refine And.intro trivial ?_) | (refine Exists.intro _ (And.intro rfl (And.intro rfl (And.intro (Nat.le_of_ble_eq_true rfl) ?_)))) | (refine Exists.intro _ (And.intro rfl (And.intro rfl (And.intro rfl (And.intro (Nat.le_of_ble_eq_true rfl) ?_))))) | (refine And.intro (Exists.intro _ (And.intro rfl rfl)) ?_) | (exact fun hW => absurd hW (by decide +kernel)) | (intro hW; (try simp only [Bool.not_true, Bool.not_false, Bool.not_eq_true', Bool.not_eq_false', decide_eq_true_eq, decide_eq_false_iff_not, reduceCtorEq, Bool.true_eq_false, Bool.false_eq_true, mk_size, List.size_toArray, ByteArray.size_append, ByteArray.size_extract, List.length_cons, List.length_nil, ba_get, ba_empty, Int.toNat_natCast] at hW)) | (refine And.intro (?_ : _ → _) (?_ : _ → _)) | (refine FinR.drop 0 (Nat.zero_le _) (Closed.zero _) rfl ?_) | (refine FinR.keep ?_) | (refine And.intro (det3_agg rfl) ?_) | (refine fL_mk ?_) | (refine And.intro (by (try simp only [mk_size, List.size_toArray, ByteArray.size_append, ByteArray.size_extract, List.length_cons, List.length_nil]); omega) ?_) | (refine And.intro (by (try simp only [mk_size, List.size_toArray, ByteArray.size_append, ByteArray.size_extract, List.length_cons, List.length_nil, wrap64_eq]); omega) ?_) | fail)
  refine LoopR.live (fun k : Nat => [(0, U n), (1, .fn (.func g0) [] caps), (5, U (mvN g n k : Nat)), (9, I k)]) (fun _ => σ) (fun k => k ≤ 36) (fun k => 36 - k) 0 ⟨rfl, rfl, rfl, rfl, trivial⟩ (.keep rfl) (Nat.zero_le _) ?_
  intro k hk
  have e1 : ((k : Int)).tmod 6 = ((k % 6 : Nat) : Int) := by rw [Int.tmod_eq_emod_of_nonneg (by omega)]; rfl
  have e2 : IntKind.i64.wrap ((k : Int).tdiv 6) = ((k / 6 : Nat) : Int) := by rw [Int.tdiv_eq_ediv_of_nonneg (by omega), wrap_i64 _ (by omega) (by omega)]; rfl
  have e3 : IntKind.i64.wrap ((k : Int) + 1) = ((k + 1 : Nat) : Int) := by rw [wrap_i64 _ (by omega) (by omega)]; rfl
  by_cases hlt : k < 36
  · obtain ⟨x, y, hx, hy, he, hcall⟩ := hc k hlt
    have hcall' : ∀ K : Cont, K (.tup [I x, I y]) σ → ACall Try.prog W0 g0 (I ((k : Int).tmod 6) :: I (IntKind.i64.wrap ((k : Int).tdiv 6)) :: caps) σ K := by rw [e1, e2]; exact hcall
    have e4 : 0 ≤ IntKind.i64.wrap (IntKind.i64.wrap ((y : Int) * 6) + (x : Int)) := by rw [wrap_i64 ((y : Int) * 6) (by omega) (by omega), wrap_i64 _ (by omega) (by omega)]; omega
    repeat' ((conv => whnf); first | (refine hcall' _ ?_) | (refine And.intro e4 ?_) | (refine Exists.intro ([] : List Nat) ?_) | (refine And.intro rfl ?_) | (refine And.intro (by decide +kernel) ?_) | (refine And.intro trivial ?_) | (refine d_has (hn := Nat.lt_trans hn (by decide)) (hk := by omega) (h0 := ?_) ..) | (refine Exists.intro _ (And.intro rfl (And.intro rfl (And.intro (Nat.le_of_ble_eq_true rfl) ?_)))) | (refine Exists.intro _ (And.intro rfl (And.intro rfl (And.intro rfl (And.intro (Nat.le_of_ble_eq_true rfl) ?_))))) | (refine And.intro (Exists.intro _ (And.intro rfl rfl)) ?_) | (exact fun hW => absurd hW (by decide +kernel)) | (intro hW; (try simp only [Bool.not_true, Bool.not_false, Bool.not_eq_true', Bool.not_eq_false', decide_eq_true_eq, decide_eq_false_iff_not, reduceCtorEq, Bool.true_eq_false, Bool.false_eq_true, mk_size, List.size_toArray, ByteArray.size_append, ByteArray.size_extract, List.length_cons, List.length_nil, ba_get, ba_empty, Int.toNat_natCast] at hW)) | (refine And.intro (?_ : _ → _) (?_ : _ → _)) | (refine FinR.drop 0 (Nat.zero_le _) (Closed.zero _) rfl ?_) | (refine FinR.keep ?_) | (refine And.intro (det3_agg rfl) ?_) | (refine fL_mk ?_) | (refine And.intro (by (try simp only [mk_size, List.size_toArray, ByteArray.size_append, ByteArray.size_extract, List.length_cons, List.length_nil]); omega) ?_) | (refine And.intro (by (try simp only [mk_size, List.size_toArray, ByteArray.size_append, ByteArray.size_extract, List.length_cons, List.length_nil, wrap64_eq]); omega) ?_) | fail)
    all_goals first | (exfalso; omega) | skip
    · exact Again.go (k + 1) ⟨rfl, rfl, slU (or_bit g n k x y hlt hg hx hy he (by assumption)), slI' e3, trivial⟩ (.keep rfl) (by omega) (by omega)
    · refine Again.go (k + 1) ⟨rfl, rfl, slU ?_, slI' e3, trivial⟩ (.keep rfl) (by omega) (by omega)
      rw [mvN_succ, if_neg (by rw [hW]; decide), Nat.or_zero]
  · obtain rfl : k = 36 := by omega
    repeat' ((conv => whnf); first | (refine Exists.intro ([] : List Nat) ?_) | (refine And.intro rfl ?_) | (refine And.intro (by decide +kernel) ?_) | (refine And.intro trivial ?_) | (refine Exists.intro _ (And.intro rfl (And.intro rfl (And.intro (Nat.le_of_ble_eq_true rfl) ?_)))) | (refine Exists.intro _ (And.intro rfl (And.intro rfl (And.intro rfl (And.intro (Nat.le_of_ble_eq_true rfl) ?_))))) | (refine And.intro (Exists.intro _ (And.intro rfl rfl)) ?_) | (exact fun hW => absurd hW (by decide +kernel)) | (intro hW; (try simp only [Bool.not_true, Bool.not_false, Bool.not_eq_true', Bool.not_eq_false', decide_eq_true_eq, decide_eq_false_iff_not, reduceCtorEq, Bool.true_eq_false, Bool.false_eq_true, mk_size, List.size_toArray, ByteArray.size_append, ByteArray.size_extract, List.length_cons, List.length_nil, ba_get, ba_empty, Int.toNat_natCast] at hW)) | (refine And.intro (?_ : _ → _) (?_ : _ → _)) | (refine FinR.drop 0 (Nat.zero_le _) (Closed.zero _) rfl ?_) | (refine FinR.keep ?_) | (refine And.intro (det3_agg rfl) ?_) | (refine fL_mk ?_) | (refine And.intro (by (try simp only [mk_size, List.size_toArray, ByteArray.size_append, ByteArray.size_extract, List.length_cons, List.length_nil]); omega) ?_) | (refine And.intro (by (try simp only [mk_size, List.size_toArray, ByteArray.size_append, ByteArray.size_extract, List.length_cons, List.length_nil, wrap64_eq]); omega) ?_) | fail)
    all_goals first | (exfalso; omega) | exact h0
end Go.Proofs.Ytbbmlnaekefaaaa
end

section
/- Contracts: shifted sets; sheets of sets; sheets by their sets. -/
set_option linter.unusedVariables false
set_option linter.unusedSimpArgs false
set_option maxRecDepth 100000
set_option maxHeartbeats 4000000
namespace Go.Proofs.Ytbbmlnaekefaaaa
open Go Go.RowKit Go.Proofs.Ytbbmlnaekefaaaa.Abs
variable {W0 : World} {σ : List Blk}
theorem tmod6 (n : Int) : n.tmod 6 = if 0 ≤ n then n % 6 else -((-n) % 6) := by
  split
  · rename_i h; exact Int.tmod_eq_emod_of_nonneg h
  · rename_i h
    rw [← Int.tmod_eq_emod_of_nonneg (by omega : 0 ≤ -n), Int.neg_tmod]; omega
theorem rest_eq (n : Int) : (IntKind.i64.wrap (n.tmod 6 + 6)).tmod 6 = n % 6 := by
  rw [tmod6 n]
  have : 0 ≤ (if 0 ≤ n then n % 6 else -((-n) % 6)) + 6 ∧ (if 0 ≤ n then n % 6 else -((-n) % 6)) + 6 < 12 ∧ ((if 0 ≤ n then n % 6 else -((-n) % 6)) + 6) % 6 = n % 6 := by split <;> omega
  rw [wrap_i64 _ (by omega) (by omega), Int.tmod_eq_emod_of_nonneg this.1]
  exact this.2.2
theorem c_rest (n : Int) (x : Nat) (hx : n % 6 = x) (K : Cont) (h0 : K (I x) []) : ACall Try.prog W0 67 [I n] [] K := by
  refine by67 (Nat.le_of_ble_eq_true rfl) ?_
  have e := rest_eq n
  repeat' ((conv => whnf); first | (refine Exists.intro ([] : List Nat) ?_) | (refine And.intro rfl ?_) | (refine And.intro (by decide +kernel) ?_) | (refine And.intro trivial ?_) | (refine Exists.intro _ (And.intro rfl (And.intro rfl (And.intro (Nat.le_of_ble_eq_true rfl) ?_)))) | (refine Exists.intro _ (And.intro rfl (And.intro rfl (And.intro rfl (And.intro (Nat.le_of_ble_eq_true rfl) ?_))))) | (refine And.intro (Exists.intro _ (And.intro rfl rfl)) ?_) | (exact fun hW => absurd hW (by decide +kernel)) | (intro hW; (try simp only [Bool.not_true, Bool.not_false, Bool.not_eq_true', Bool.not_eq_false', decide_eq_true_eq, decide_eq_false_iff_not, reduceCtorEq, Bool.true_eq_false, Bool.false_eq_true, mk_size, List.size_toArray, ByteArray.size_append, ByteArray.size_extract, List.length_cons, List.length_nil, ba_get, ba_empty, Int.toNat_natCast] at hW)) | (refine And.intro (?_ : _ → _) (?_ : _ → _)) | (refine FinR.drop 0 (Nat.zero_le _) (Closed.zero _) rfl ?_) | (refine FinR.keep ?_) | (refine And.intro (det3_agg rfl) ?_) | (refine fL_mk ?_) | (refine And.intro (by (try simp only [mk_size, List.size_toArray, ByteArray.size_append, ByteArray.size_extract, List.length_cons, List.length_nil]); omega) ?_) | (refine And.intro (by (try simp only [mk_size, List.size_toArray, ByteArray.size_append, ByteArray.size_extract, List.length_cons, List.length_nil, wrap64_eq]); omega) ?_) | fail)
  all_goals exact kI' h0 (by rw [e, hx])
theorem d_rest (n : Int) (x : Nat) (hx : n % 6 = x) (K : Cont) (h0 : K (I x) σ) : ACall Try.prog W0 67 [I n] σ K :=
  ACall.lift rfl (fun _ => rfl) (fun W1 K _ hK => c_rest n x hx K hK) h0
theorem c_l2Mod (n : Int) (x : Nat) (hx : n % 6 = x) (K : Cont) (h0 : K (I x) []) : ACall Try.prog W0 66 [I n] [] K := by
  refine by66 (Nat.le_of_ble_eq_true rfl) ?_
  have e := rest_eq n
  repeat' ((conv => whnf); first | (refine Exists.intro ([] : List Nat) ?_) | (refine And.intro rfl ?_) | (refine And.intro (by decide +kernel) ?_) | (refine And.intro trivial ?_) | (refine Exists.intro _ (And.intro rfl (And.intro rfl (And.intro (Nat.le_of_ble_eq_true rfl) ?_)))) | (refine Exists.intro _ (And.intro rfl (And.intro rfl (And.intro rfl (And.intro (Nat.le_of_ble_eq_true rfl) ?_))))) | (refine And.intro (Exists.intro _ (And.intro rfl rfl)) ?_) | (exact fun hW => absurd hW (by decide +kernel)) | (intro hW; (try simp only [Bool.not_true, Bool.not_false, Bool.not_eq_true', Bool.not_eq_false', decide_eq_true_eq, decide_eq_false_iff_not, reduceCtorEq, Bool.true_eq_false, Bool.false_eq_true, mk_size, List.size_toArray, ByteArray.size_append, ByteArray.size_extract, List.length_cons, List.length_nil, ba_get, ba_empty, Int.toNat_natCast] at hW)) | (refine And.intro (?_ : _ → _) (?_ : _ → _)) | (refine FinR.drop 0 (Nat.zero_le _) (Closed.zero _) rfl ?_) | (refine FinR.keep ?_) | (refine And.intro (det3_agg rfl) ?_) | (refine fL_mk ?_) | (refine And.intro (by (try simp only [mk_size, List.size_toArray, ByteArray.size_append, ByteArray.size_extract, List.length_cons, List.length_nil]); omega) ?_) | (refine And.intro (by (try simp only [mk_size, List.size_toArray, ByteArray.size_append, ByteArray.size_extract, List.length_cons, List.length_nil, wrap64_eq]); omega) ?_) | fail)
  all_goals exact kI' h0 (by rw [e, hx])
theorem d_l2Mod (n : Int) (x : Nat) (hx : n % 6 = x) (K : Cont) (h0 : K (I x) σ) : ACall Try.prog W0 66 [I n] σ K :=
  ACall.lift rfl (fun _ => rfl) (fun W1 K _ hK => c_l2Mod n x hx K hK) h0
theorem addrem (a b : Nat) (ha : a < 36) (hb : b < 6) : (IntKind.i64.wrap ((a : Int) + (b : Int))).tmod 6 = (((a + b) % 6 : Nat) : Int) := by
  rw [wrap_i64 _ (by omega) (by omega), Int.tmod_eq_emod_of_nonneg (by omega)]; omega
theorem shClo (x y : Nat) (hx : x < 6) (hy : y < 6) (k : Nat) (hk : k < 36) : ∃ x' y' : Nat, x' < 6 ∧ y' < 6 ∧ shG x y k = y' * 6 + x' ∧ ∀ K : Cont, K (.tup [I x', I y']) [⟨[I x], 0, 3, 0, false, false⟩, ⟨[I y], 0, 3, 0, false, false⟩] →
    ACall Try.prog W0 69 (I (k % 6 : Nat) :: I (k / 6 : Nat) :: [.ptr 0 0 0, .ptr 1 0 0]) [⟨[I x], 0, 3, 0, false, false⟩, ⟨[I y], 0, 3, 0, false, false⟩] K := by
  refine ⟨(k % 6 + x) % 6, (k / 6 + y) % 6, by omega, by omega, rfl, fun K h0 => ?_⟩
  refine by69 (Nat.le_of_ble_eq_true rfl) ?_
  have e1 := addrem (k % 6) x (by omega) hx
  have e2 := addrem (k / 6) y (by omega) hy
  repeat' ((conv => whnf); first | (refine Exists.intro ([] : List Nat) ?_) | (refine And.intro rfl ?_) | (refine And.intro (by decide +kernel) ?_) | (refine And.intro trivial ?_) | (refine Exists.intro _ (And.intro rfl (And.intro rfl (And.intro (Nat.le_of_ble_eq_true rfl) ?_)))) | (refine Exists.intro _ (And.intro rfl (And.intro rfl (And.intro rfl (And.intro (Nat.le_of_ble_eq_true rfl) ?_))))) | (refine And.intro (Exists.intro _ (And.intro rfl rfl)) ?_) | (exact fun hW => absurd hW (by decide +kernel)) | (intro hW; (try simp only [Bool.not_true, Bool.not_false, Bool.not_eq_true', Bool.not_eq_false', decide_eq_true_eq, decide_eq_false_iff_not, reduceCtorEq, Bool.true_eq_false, Bool.false_eq_true, mk_size, List.size_toArray, ByteArray.size_append, ByteArray.size_extract, List.length_cons, List.length_nil, ba_get, ba_empty, Int.toNat_natCast] at hW)) | (refine And.intro (?_ : _ → _) (?_ : _ → _)) | (refine FinR.drop 0 (Nat.zero_le _) (Closed.zero _) rfl ?_) | (refine FinR.keep ?_) | (refine And.intro (det3_agg rfl) ?_) | (refine fL_mk ?_) | (refine And.intro (by (try simp only [mk_size, List.size_toArray, ByteArray.size_append, ByteArray.size_extract, List.length_cons, List.length_nil]); omega) ?_) | (refine And.intro (by (try simp only [mk_size, List.size_toArray, ByteArray.size_append, ByteArray.size_extract, List.length_cons, List.length_nil, wrap64_eq]); omega) ?_) | fail)
  all_goals exact kT2 h0 e1 e2
theorem c_shifted (n : Nat) (hn : n < 2 ^ 36) (dx dy : Int) (x y : Nat) (hx : dx % 6 = x) (hy : dy % 6 = y) (K : Cont) (h0 : K (U (mvN (shG x y) n 36 : Nat)) []) : ACall Try.prog W0 60 [U n, I dx, I dy] [] K := by
  refine by60 (Nat.le_of_ble_eq_true rfl) ?_
  have hx' : x < 6 := by omega
  have hy' : y < 6 := by omega
  repeat' ((conv => whnf); first | (refine Exists.intro ([] : List Nat) ?_) | (refine And.intro rfl ?_) | (refine And.intro (by decide +kernel) ?_) | (refine And.intro trivial ?_) | (refine d_rest (hx := hx) (h0 := ?_) ..) | (refine Exists.intro _ (And.intro (fun τ => callW_fn (d_rest (hx := hx) (h0 := And.intro rfl rfl) ..)) ?_)) | (refine Exists.intro _ (And.intro (callW_fn (d_rest (hx := hx) (h0 := And.intro rfl rfl) ..)) (And.intro trivial ?_))) | (refine Exists.intro _ (And.intro (callW_fn (d_rest (hx := hx) (h0 := And.intro rfl rfl) ..)) ?_)) | (refine Exists.intro _ (And.intro (fun τ _ => callW_fn (d_rest (hx := hx) (h0 := And.intro rfl rfl) ..)) ?_)) | (refine d_rest (hx := hy) (h0 := ?_) ..) | (refine Exists.intro _ (And.intro (fun τ => callW_fn (d_rest (hx := hy) (h0 := And.intro rfl rfl) ..)) ?_)) | (refine Exists.intro _ (And.intro (callW_fn (d_rest (hx := hy) (h0 := And.intro rfl rfl) ..)) (And.intro trivial ?_))) | (refine Exists.intro _ (And.intro (callW_fn (d_rest (hx := hy) (h0 := And.intro rfl rfl) ..)) ?_)) | (refine Exists.intro _ (And.intro (fun τ _ => callW_fn (d_rest (hx := hy) (h0 := And.intro rfl rfl) ..)) ?_)) | (refine c_moved (hn := hn) (hg := fun k hk => (sh_perm x hx' y hy' k hk).1) (hc := fun k hk => shClo x y hx' hy' k hk) (h0 := ?_) ..) | (refine Exists.intro _ (And.intro rfl (And.intro rfl (And.intro (Nat.le_of_ble_eq_true rfl) ?_)))) | (refine Exists.intro _ (And.intro rfl (And.intro rfl (And.intro rfl (And.intro (Nat.le_of_ble_eq_true rfl) ?_))))) | (refine And.intro (Exists.intro _ (And.intro rfl rfl)) ?_) | (exact fun hW => absurd hW (by decide +kernel)) | (intro hW; (try simp only [Bool.not_true, Bool.not_false, Bool.not_eq_true', Bool.not_eq_false', decide_eq_true_eq, decide_eq_false_iff_not, reduceCtorEq, Bool.true_eq_false, Bool.false_eq_true, mk_size, List.size_toArray, ByteArray.size_append, ByteArray.size_extract, List.length_cons, List.length_nil, ba_get, ba_empty, Int.toNat_natCast] at hW)) | (refine And.intro (?_ : _ → _) (?_ : _ → _)) | (refine FinR.drop 0 (Nat.zero_le _) (Closed.zero _) rfl ?_) | (refine FinR.keep ?_) | (refine And.intro (det3_agg rfl) ?_) | (refine fL_mk ?_) | (refine And.intro (by (try simp only [mk_size, List.size_toArray, ByteArray.size_append, ByteArray.size_extract, List.length_cons, List.length_nil]); omega) ?_) | (refine And.intro (by (try simp only [mk_size, List.size_toArray, ByteArray.size_append, ByteArray.size_extract, List.length_cons, List.length_nil, wrap64_eq]); omega) ?_) | fail)
  all_goals exact h0
theorem d_shifted (n : Nat) (hn : n < 2 ^ 36) (dx dy : Int) (x y : Nat) (hx : dx % 6 = x) (hy : dy % 6 = y) (K : Cont) (h0 : K (U (mvN (shG x y) n 36 : Nat)) σ) : ACall Try.prog W0 60 [U n, I dx, I dy] σ K :=
  ACall.lift rfl (fun _ => rfl) (fun W1 K _ hK => c_shifted n hn dx dy x y hx hy K hK) h0
end Go.Proofs.Ytbbmlnaekefaaaa
end

section
/- Contracts: sheets of sets; the reference's sheets by their sets. -/
set_option linter.unusedVariables false
set_option linter.unusedSimpArgs false
set_option maxRecDepth 100000
set_option maxHeartbeats 4000000
namespace Go.Proofs.Ytbbmlnaekefaaaa
open Go Go.RowKit Go.Proofs.Ytbbmlnaekefaaaa.Abs
variable {W0 : World} {σ : List Blk}
theorem c_setOfN (n : Nat) (hn : n < 2 ^ 36) (K : Cont) (h0 : K (.tup [U n, Bo true]) []) : ACall Try.prog W0 40 [ShN n] [] K := by
  refine c_setOf (K := K) (h0 := ?_) ..
  unfold setR
  rw [shB6_ShN, if_pos rfl, setI_ShN hn]; exact h0
theorem d_setOfN (n : Nat) (hn : n < 2 ^ 36) (K : Cont) (h0 : K (.tup [U n, Bo true]) σ) : ACall Try.prog W0 40 [ShN n] σ K :=
  ACall.lift rfl (fun _ => rfl) (fun W1 K _ hK => c_setOfN n hn K hK) h0
abbrev Ce (x y : Int) : AV := .agg [I x, I y]
def cellB (x y : Int) : Bool := inB x 0 5 && inB y 0 5
theorem c_l2Cell (x y : Int) (K : Cont) (h0 : K (Bo (cellB x y)) []) : ACall Try.prog W0 56 [Ce x y] [] K := by
  refine by56 (Nat.le_of_ble_eq_true rfl) ?_
  repeat' ((conv => whnf); first | (refine Exists.intro ([] : List Nat) ?_) | (refine And.intro rfl ?_) | (refine And.intro (by decide +kernel) ?_) | (refine And.intro trivial ?_) | (refine d_l1In (h0 := ?_) ..) | (refine Exists.intro _ (And.intro (fun τ => callW_fn (d_l1In (h0 := And.intro rfl rfl) ..)) ?_)) | (refine Exists.intro _ (And.intro (callW_fn (d_l1In (h0 := And.intro rfl rfl) ..)) (And.intro trivial ?_))) | (refine Exists.intro _ (And.intro (callW_fn (d_l1In (h0 := And.intro rfl rfl) ..)) ?_)) | (refine Exists.intro _ (And.intro (fun τ _ => callW_fn (d_l1In (h0 := And.intro rfl rfl) ..)) ?_)) | (refine Exists.intro _ (And.intro rfl (And.intro rfl (And.intro (Nat.le_of_ble_eq_true rfl) ?_)))) | (refine Exists.intro _ (And.intro rfl (And.intro rfl (And.intro rfl (And.intro (Nat.le_of_ble_eq_true rfl) ?_))))) | (refine And.intro (Exists.intro _ (And.intro rfl rfl)) ?_) | (exact fun hW => absurd hW (by decide +kernel)) | (intro hW; (try simp only [Bool.not_true, Bool.not_false, Bool.not_eq_true', Bool.not_eq_false', decide_eq_true_eq, decide_eq_false_iff_not, reduceCtorEq, Bool.true_eq_false, Bool.false_eq_true, mk_size, List.size_toArray, ByteArray.size_append, ByteArray.size_extract, List.length_cons, List.length_nil, ba_get, ba_empty, Int.toNat_natCast] at hW)) | (refine And.intro (?_ : _ → _) (?_ : _ → _)) | (refine FinR.drop 0 (Nat.zero_le _) (Closed.zero _) rfl ?_) | (refine FinR.keep ?_) | (refine And.intro (det3_agg rfl) ?_) | (refine fL_mk ?_) | (refine And.intro (by (try simp only [mk_size, List.size_toArray, ByteArray.size_append, ByteArray.size_extract, List.length_cons, List.length_nil]); omega) ?_) | (refine And.intro (by (try simp only [mk_size, List.size_toArray, ByteArray.size_append, ByteArray.size_extract, List.length_cons, List.length_nil, wrap64_eq]); omega) ?_) | fail)
  all_goals first | exact h0 | (refine Eq.mp (congrArg (fun v => K v []) ?_) h0; clear h0; simp_all [cellB] <;> omega)
theorem d_l2Cell (x y : Int) (K : Cont) (h0 : K (Bo (cellB x y)) σ) : ACall Try.prog W0 56 [Ce x y] σ K :=
  ACall.lift rfl (fun _ => rfl) (fun W1 K _ hK => c_l2Cell x y K hK) h0
theorem cellB_iff {x y : Int} : cellB x y = true ↔ 0 ≤ x ∧ x < 6 ∧ 0 ≤ y ∧ y < 6 := by
  simp [cellB, inB]; omega
theorem c_isCell (x y : Int) (K : Cont) (h0 : K (Bo (cellB x y)) []) : ACall Try.prog W0 59 [Ce x y] [] K := by
  refine by59 (Nat.le_of_ble_eq_true rfl) ?_
  repeat' ((conv => whnf); first | (refine Exists.intro ([] : List Nat) ?_) | (refine And.intro rfl ?_) | (refine And.intro (by decide +kernel) ?_) | (refine And.intro trivial ?_) | (refine Exists.intro _ (And.intro rfl (And.intro rfl (And.intro (Nat.le_of_ble_eq_true rfl) ?_)))) | (refine Exists.intro _ (And.intro rfl (And.intro rfl (And.intro rfl (And.intro (Nat.le_of_ble_eq_true rfl) ?_))))) | (refine And.intro (Exists.intro _ (And.intro rfl rfl)) ?_) | (exact fun hW => absurd hW (by decide +kernel)) | (intro hW; (try simp only [Bool.not_true, Bool.not_false, Bool.not_eq_true', Bool.not_eq_false', decide_eq_true_eq, decide_eq_false_iff_not, reduceCtorEq, Bool.true_eq_false, Bool.false_eq_true, mk_size, List.size_toArray, ByteArray.size_append, ByteArray.size_extract, List.length_cons, List.length_nil, ba_get, ba_empty, Int.toNat_natCast] at hW)) | (refine And.intro (?_ : _ → _) (?_ : _ → _)) | (refine FinR.drop 0 (Nat.zero_le _) (Closed.zero _) rfl ?_) | (refine FinR.keep ?_) | (refine And.intro (det3_agg rfl) ?_) | (refine fL_mk ?_) | (refine And.intro (by (try simp only [mk_size, List.size_toArray, ByteArray.size_append, ByteArray.size_extract, List.length_cons, List.length_nil]); omega) ?_) | (refine And.intro (by (try simp only [mk_size, List.size_toArray, ByteArray.size_append, ByteArray.size_extract, List.length_cons, List.length_nil, wrap64_eq]); omega) ?_) | fail)
  all_goals (refine kB' h0 ?_; rw [Bool.eq_iff_iff, cellB_iff]; simp only [decide_eq_true_eq, Bool.false_eq_true]; refine Iff.intro (fun h => ?_) (fun h => ?_) <;> first | exact h.elim | omega)
theorem d_isCell (x y : Int) (K : Cont) (h0 : K (Bo (cellB x y)) σ) : ACall Try.prog W0 59 [Ce x y] σ K :=
  ACall.lift rfl (fun _ => rfl) (fun W1 K _ hK => c_isCell x y K hK) h0
theorem c_number (x y : Nat) (hx : x < 1000) (hy : y < 1000) (K : Cont) (h0 : K (I (y * 6 + x : Nat)) []) : ACall Try.prog W0 42 [Ce x y] [] K := by
  refine by42 (Nat.le_of_ble_eq_true rfl) ?_
  have e : IntKind.i64.wrap (IntKind.i64.wrap ((y : Int) * 6) + (x : Int)) = ((y * 6 + x : Nat) : Int) := by
    rw [wrap_i64 ((y : Int) * 6) (by omega) (by omega), wrap_i64 ((y : Int) * 6 + (x : Int)) (by omega) (by omega)]; omega
  repeat' ((conv => whnf); first | (refine Exists.intro ([] : List Nat) ?_) | (refine And.intro rfl ?_) | (refine And.intro (by decide +kernel) ?_) | (refine And.intro trivial ?_) | (refine Exists.intro _ (And.intro rfl (And.intro rfl (And.intro (Nat.le_of_ble_eq_true rfl) ?_)))) | (refine Exists.intro _ (And.intro rfl (And.intro rfl (And.intro rfl (And.intro (Nat.le_of_ble_eq_true rfl) ?_))))) | (refine And.intro (Exists.intro _ (And.intro rfl rfl)) ?_) | (exact fun hW => absurd hW (by decide +kernel)) | (intro hW; (try simp only [Bool.not_true, Bool.not_false, Bool.not_eq_true', Bool.not_eq_false', decide_eq_true_eq, decide_eq_false_iff_not, reduceCtorEq, Bool.true_eq_false, Bool.false_eq_true, mk_size, List.size_toArray, ByteArray.size_append, ByteArray.size_extract, List.length_cons, List.length_nil, ba_get, ba_empty, Int.toNat_natCast] at hW)) | (refine And.intro (?_ : _ → _) (?_ : _ → _)) | (refine FinR.drop 0 (Nat.zero_le _) (Closed.zero _) rfl ?_) | (refine FinR.keep ?_) | (refine And.intro (det3_agg rfl) ?_) | (refine fL_mk ?_) | (refine And.intro (by (try simp only [mk_size, List.size_toArray, ByteArray.size_append, ByteArray.size_extract, List.length_cons, List.length_nil]); omega) ?_) | (refine And.intro (by (try simp only [mk_size, List.size_toArray, ByteArray.size_append, ByteArray.size_extract, List.length_cons, List.length_nil, wrap64_eq]); omega) ?_) | fail)
  all_goals exact kI' h0 e
theorem d_number (x y : Nat) (hx : x < 1000) (hy : y < 1000) (K : Cont) (h0 : K (I (y * 6 + x : Nat)) σ) : ACall Try.prog W0 42 [Ce x y] σ K :=
  ACall.lift rfl (fun _ => rfl) (fun W1 K _ hK => c_number x y hx hy K hK) h0
theorem c_pressed (n k : Nat) (hn : n < 2 ^ 36) (hk : k < 36) (K : Cont) (h0 : K (U (mvN (shG (k % 6) (k / 6)) n 36 : Nat)) []) : ACall Try.prog W0 41 [U n, I k] [] K := by
  refine by41 (Nat.le_of_ble_eq_true rfl) ?_
  have e1 : ((k : Int)).tmod 6 = ((k % 6 : Nat) : Int) := by rw [Int.tmod_eq_emod_of_nonneg (by omega)]; rfl
  have e2 : IntKind.i64.wrap ((k : Int).tdiv 6) = ((k / 6 : Nat) : Int) := by rw [Int.tdiv_eq_ediv_of_nonneg (by omega), wrap_i64 _ (by omega) (by omega)]; rfl
  have h1 : ((k : Int)).tmod 6 % 6 = ((k % 6 : Nat) : Int) := by rw [e1]; omega
  have h2 : IntKind.i64.wrap ((k : Int).tdiv 6) % 6 = ((k / 6 : Nat) : Int) := by rw [e2]; omega
  repeat' ((conv => whnf); first | (refine Exists.intro ([] : List Nat) ?_) | (refine And.intro rfl ?_) | (refine And.intro (by decide +kernel) ?_) | (refine And.intro trivial ?_) | (refine d_shifted (hn := hn) (hx := h1) (hy := h2) (h0 := ?_) ..) | (refine Exists.intro _ (And.intro rfl (And.intro rfl (And.intro (Nat.le_of_ble_eq_true rfl) ?_)))) | (refine Exists.intro _ (And.intro rfl (And.intro rfl (And.intro rfl (And.intro (Nat.le_of_ble_eq_true rfl) ?_))))) | (refine And.intro (Exists.intro _ (And.intro rfl rfl)) ?_) | (exact fun hW => absurd hW (by decide +kernel)) | (intro hW; (try simp only [Bool.not_true, Bool.not_false, Bool.not_eq_true', Bool.not_eq_false', decide_eq_true_eq, decide_eq_false_iff_not, reduceCtorEq, Bool.true_eq_false, Bool.false_eq_true, mk_size, List.size_toArray, ByteArray.size_append, ByteArray.size_extract, List.length_cons, List.length_nil, ba_get, ba_empty, Int.toNat_natCast] at hW)) | (refine And.intro (?_ : _ → _) (?_ : _ → _)) | (refine FinR.drop 0 (Nat.zero_le _) (Closed.zero _) rfl ?_) | (refine FinR.keep ?_) | (refine And.intro (det3_agg rfl) ?_) | (refine fL_mk ?_) | (refine And.intro (by (try simp only [mk_size, List.size_toArray, ByteArray.size_append, ByteArray.size_extract, List.length_cons, List.length_nil]); omega) ?_) | (refine And.intro (by (try simp only [mk_size, List.size_toArray, ByteArray.size_append, ByteArray.size_extract, List.length_cons, List.length_nil, wrap64_eq]); omega) ?_) | fail)
  all_goals exact h0
theorem d_pressed (n k : Nat) (hn : n < 2 ^ 36) (hk : k < 36) (K : Cont) (h0 : K (U (mvN (shG (k % 6) (k / 6)) n 36 : Nat)) σ) : ACall Try.prog W0 41 [U n, I k] σ K :=
  ACall.lift rfl (fun _ => rfl) (fun W1 K _ hK => c_pressed n k hn hk K hK) h0
/-! ### the reference's sheets -/
theorem c_l2ShiftN (n : Nat) (dx dy : Int) (x y : Nat) (hx : dx % 6 = x) (hy : dy % 6 = y) (K : Cont) (h0 : K (ShN (mvN (shG x y) n 36)) []) : ACall Try.prog W0 57 [ShN n, I dx, I dy] [] K := by
  refine by57 (Nat.le_of_ble_eq_true rfl) ?_
  have hx' : x < 6 := by omega
  have r : ∀ i, bOr .i64 (bAnd .i64 (shL .i64 (rowN n i : Nat) (x : Int)) 63) (shR .i64 (rowN n i : Nat) (IntKind.i64.wrap (6 - (x : Int)))) = ((rotN x (rowN n i) : Nat) : Int) := fun i => rot_int x hx' _ (rowN_lt n i)
  have e6 : 0 ≤ IntKind.i64.wrap (6 - (x : Int)) := by rw [wrap_i64 _ (by omega) (by omega)]; omega
  have e0 : 0 ≤ (x : Int) := by omega
  have hy' : y < 6 := by omega
  have qq := fun (i : Nat) (hi : i < 6) => rot_row n x y i hx' hy' hi
  obtain rfl | rfl | rfl | rfl | rfl | rfl : y = 0 ∨ y = 1 ∨ y = 2 ∨ y = 3 ∨ y = 4 ∨ y = 5 := by omega
  · skip
    repeat' ((conv => whnf); first | (refine And.intro e0 ?_) | (refine And.intro e6 ?_) | (refine Exists.intro ([] : List Nat) ?_) | (refine And.intro rfl ?_) | (refine And.intro (by decide +kernel) ?_) | (refine And.intro trivial ?_) | (refine LoopR.unroll 7 ?_) | (refine d_l2Mod (hx := hx) (h0 := ?_) ..) | (refine Exists.intro _ (And.intro (fun τ => callW_fn (d_l2Mod (hx := hx) (h0 := And.intro rfl rfl) ..)) ?_)) | (refine Exists.intro _ (And.intro (callW_fn (d_l2Mod (hx := hx) (h0 := And.intro rfl rfl) ..)) (And.intro trivial ?_))) | (refine Exists.intro _ (And.intro (callW_fn (d_l2Mod (hx := hx) (h0 := And.intro rfl rfl) ..)) ?_)) | (refine Exists.intro _ (And.intro (fun τ _ => callW_fn (d_l2Mod (hx := hx) (h0 := And.intro rfl rfl) ..)) ?_)) | (refine d_l2Mod (hx := hy) (h0 := ?_) ..) | (refine Exists.intro _ (And.intro (fun τ => callW_fn (d_l2Mod (hx := hy) (h0 := And.intro rfl rfl) ..)) ?_)) | (refine Exists.intro _ (And.intro (callW_fn (d_l2Mod (hx := hy) (h0 := And.intro rfl rfl) ..)) (And.intro trivial ?_))) | (refine Exists.intro _ (And.intro (callW_fn (d_l2Mod (hx := hy) (h0 := And.intro rfl rfl) ..)) ?_)) | (refine Exists.intro _ (And.intro (fun τ _ => callW_fn (d_l2Mod (hx := hy) (h0 := And.intro rfl rfl) ..)) ?_)) | (refine Exists.intro _ (And.intro rfl (And.intro rfl (And.intro (Nat.le_of_ble_eq_true rfl) ?_)))) | (refine Exists.intro _ (And.intro rfl (And.intro rfl (And.intro rfl (And.intro (Nat.le_of_ble_eq_true rfl) ?_))))) | (refine And.intro (Exists.intro _ (And.intro rfl rfl)) ?_) | (exact fun hW => absurd hW (by decide +kernel)) | (intro hW; (try simp only [Bool.not_true, Bool.not_false, Bool.not_eq_true', Bool.not_eq_false', decide_eq_true_eq, decide_eq_false_iff_not, reduceCtorEq, Bool.true_eq_false, Bool.false_eq_true, mk_size, List.size_toArray, ByteArray.size_append, ByteArray.size_extract, List.length_cons, List.length_nil, ba_get, ba_empty, Int.toNat_natCast] at hW)) | (refine And.intro (?_ : _ → _) (?_ : _ → _)) | (refine FinR.drop 0 (Nat.zero_le _) (Closed.zero _) rfl ?_) | (refine FinR.keep ?_) | (refine And.intro (det3_agg rfl) ?_) | (refine fL_mk ?_) | (refine And.intro (by (try simp only [mk_size, List.size_toArray, ByteArray.size_append, ByteArray.size_extract, List.length_cons, List.length_nil]); omega) ?_) | (refine And.intro (by (try simp only [mk_size, List.size_toArray, ByteArray.size_append, ByteArray.size_extract, List.length_cons, List.length_nil, wrap64_eq]); omega) ?_) | fail)
    all_goals exact kSh h0 ((r 0).trans (congrArg _ (qq 0 (by decide)))) ((r 1).trans (congrArg _ (qq 1 (by decide)))) ((r 2).trans (congrArg _ (qq 2 (by decide)))) ((r 3).trans (congrArg _ (qq 3 (by decide)))) ((r 4).trans (congrArg _ (qq 4 (by decide)))) ((r 5).trans (congrArg _ (qq 5 (by decide))))
  · skip
    repeat' ((conv => whnf); first | (refine And.intro e0 ?_) | (refine And.intro e6 ?_) | (refine Exists.intro ([] : List Nat) ?_) | (refine And.intro rfl ?_) | (refine And.intro (by decide +kernel) ?_) | (refine And.intro trivial ?_) | (refine LoopR.unroll 7 ?_) | (refine d_l2Mod (hx := hx) (h0 := ?_) ..) | (refine Exists.intro _ (And.intro (fun τ => callW_fn (d_l2Mod (hx := hx) (h0 := And.intro rfl rfl) ..)) ?_)) | (refine Exists.intro _ (And.intro (callW_fn (d_l2Mod (hx := hx) (h0 := And.intro rfl rfl) ..)) (And.intro trivial ?_))) | (refine Exists.intro _ (And.intro (callW_fn (d_l2Mod (hx := hx) (h0 := And.intro rfl rfl) ..)) ?_)) | (refine Exists.intro _ (And.intro (fun τ _ => callW_fn (d_l2Mod (hx := hx) (h0 := And.intro rfl rfl) ..)) ?_)) | (refine d_l2Mod (hx := hy) (h0 := ?_) ..) | (refine Exists.intro _ (And.intro (fun τ => callW_fn (d_l2Mod (hx := hy) (h0 := And.intro rfl rfl) ..)) ?_)) | (refine Exists.intro _ (And.intro (callW_fn (d_l2Mod (hx := hy) (h0 := And.intro rfl rfl) ..)) (And.intro trivial ?_))) | (refine Exists.intro _ (And.intro (callW_fn (d_l2Mod (hx := hy) (h0 := And.intro rfl rfl) ..)) ?_)) | (refine Exists.intro _ (And.intro (fun τ _ => callW_fn (d_l2Mod (hx := hy) (h0 := And.intro rfl rfl) ..)) ?_)) | (refine Exists.intro _ (And.intro rfl (And.intro rfl (And.intro (Nat.le_of_ble_eq_true rfl) ?_)))) | (refine Exists.intro _ (And.intro rfl (And.intro rfl (And.intro rfl (And.intro (Nat.le_of_ble_eq_true rfl) ?_))))) | (refine And.intro (Exists.intro _ (And.intro rfl rfl)) ?_) | (exact fun hW => absurd hW (by decide +kernel)) | (intro hW; (try simp only [Bool.not_true, Bool.not_false, Bool.not_eq_true', Bool.not_eq_false', decide_eq_true_eq, decide_eq_false_iff_not, reduceCtorEq, Bool.true_eq_false, Bool.false_eq_true, mk_size, List.size_toArray, ByteArray.size_append, ByteArray.size_extract, List.length_cons, List.length_nil, ba_get, ba_empty, Int.toNat_natCast] at hW)) | (refine And.intro (?_ : _ → _) (?_ : _ → _)) | (refine FinR.drop 0 (Nat.zero_le _) (Closed.zero _) rfl ?_) | (refine FinR.keep ?_) | (refine And.intro (det3_agg rfl) ?_) | (refine fL_mk ?_) | (refine And.intro (by (try simp only [mk_size, List.size_toArray, ByteArray.size_append, ByteArray.size_extract, List.length_cons, List.length_nil]); omega) ?_) | (refine And.intro (by (try simp only [mk_size, List.size_toArray, ByteArray.size_append, ByteArray.size_extract, List.length_cons, List.length_nil, wrap64_eq]); omega) ?_) | fail)
    all_goals exact kSh h0 ((r 5).trans (congrArg _ (qq 5 (by decide)))) ((r 0).trans (congrArg _ (qq 0 (by decide)))) ((r 1).trans (congrArg _ (qq 1 (by decide)))) ((r 2).trans (congrArg _ (qq 2 (by decide)))) ((r 3).trans (congrArg _ (qq 3 (by decide)))) ((r 4).trans (congrArg _ (qq 4 (by decide))))
  · skip
    repeat' ((conv => whnf); first | (refine And.intro e0 ?_) | (refine And.intro e6 ?_) | (refine Exists.intro ([] : List Nat) ?_) | (refine And.intro rfl ?_) | (refine And.intro (by decide +kernel) ?_) | (refine And.intro trivial ?_) | (refine LoopR.unroll 7 ?_) | (refine d_l2Mod (hx := hx) (h0 := ?_) ..) | (refine Exists.intro _ (And.intro (fun τ => callW_fn (d_l2Mod (hx := hx) (h0 := And.intro rfl rfl) ..)) ?_)) | (refine Exists.intro _ (And.intro (callW_fn (d_l2Mod (hx := hx) (h0 := And.intro rfl rfl) ..)) (And.intro trivial ?_))) | (refine Exists.intro _ (And.intro (callW_fn (d_l2Mod (hx := hx) (h0 := And.intro rfl rfl) ..)) ?_)) | (refine Exists.intro _ (And.intro (fun τ _ => callW_fn (d_l2Mod (hx := hx) (h0 := And.intro rfl rfl) ..)) ?_)) | (refine d_l2Mod (hx := hy) (h0 := ?_) ..) | (refine Exists.intro _ (And.intro (fun τ => callW_fn (d_l2Mod (hx := hy) (h0 := And.intro rfl rfl) ..)) ?_)) | (refine Exists.intro _ (And.intro (callW_fn (d_l2Mod (hx := hy) (h0 := And.intro rfl rfl) ..)) (And.intro trivial ?_))) | (refine Exists.intro _ (And.intro (callW_fn (d_l2Mod (hx := hy) (h0 := And.intro rfl rfl) ..)) ?_)) | (refine Exists.intro _ (And.intro (fun τ _ => callW_fn (d_l2Mod (hx := hy) (h0 := And.intro rfl rfl) ..)) ?_)) | (refine Exists.intro _ (And.intro rfl (And.intro rfl (And.intro (Nat.le_of_ble_eq_true rfl) ?_)))) | (refine Exists.intro _ (And.intro rfl (And.intro rfl (And.intro rfl (And.intro (Nat.le_of_ble_eq_true rfl) ?_))))) | (refine And.intro (Exists.intro _ (And.intro rfl rfl)) ?_) | (exact fun hW => absurd hW (by decide +kernel)) | (intro hW; (try simp only [Bool.not_true, Bool.not_false, Bool.not_eq_true', Bool.not_eq_false', decide_eq_true_eq, decide_eq_false_iff_not, reduceCtorEq, Bool.true_eq_false, Bool.false_eq_true, mk_size, List.size_toArray, ByteArray.size_append, ByteArray.size_extract, List.length_cons, List.length_nil, ba_get, ba_empty, Int.toNat_natCast] at hW)) | (refine And.intro (?_ : _ → _) (?_ : _ → _)) | (refine FinR.drop 0 (Nat.zero_le _) (Closed.zero _) rfl ?_) | (refine FinR.keep ?_) | (refine And.intro (det3_agg rfl) ?_) | (refine fL_mk ?_) | (refine And.intro (by (try simp only [mk_size, List.size_toArray, ByteArray.size_append, ByteArray.size_extract, List.length_cons, List.length_nil]); omega) ?_) | (refine And.intro (by (try simp only [mk_size, List.size_toArray, ByteArray.size_append, ByteArray.size_extract, List.length_cons, List.length_nil, wrap64_eq]); omega) ?_) | fail)
    all_goals exact kSh h0 ((r 4).trans (congrArg _ (qq 4 (by decide)))) ((r 5).trans (congrArg _ (qq 5 (by decide)))) ((r 0).trans (congrArg _ (qq 0 (by decide)))) ((r 1).trans (congrArg _ (qq 1 (by decide)))) ((r 2).trans (congrArg _ (qq 2 (by decide)))) ((r 3).trans (congrArg _ (qq 3 (by decide))))
  · skip
    repeat' ((conv => whnf); first | (refine And.intro e0 ?_) | (refine And.intro e6 ?_) | (refine Exists.intro ([] : List Nat) ?_) | (refine And.intro rfl ?_) | (refine And.intro (by decide +kernel) ?_) | (refine And.intro trivial ?_) | (refine LoopR.unroll 7 ?_) | (refine d_l2Mod (hx := hx) (h0 := ?_) ..) | (refine Exists.intro _ (And.intro (fun τ => callW_fn (d_l2Mod (hx := hx) (h0 := And.intro rfl rfl) ..)) ?_)) | (refine Exists.intro _ (And.intro (callW_fn (d_l2Mod (hx := hx) (h0 := And.intro rfl rfl) ..)) (And.intro trivial ?_))) | (refine Exists.intro _ (And.intro (callW_fn (d_l2Mod (hx := hx) (h0 := And.intro rfl rfl) ..)) ?_)) | (refine Exists.intro _ (And.intro (fun τ _ => callW_fn (d_l2Mod (hx := hx) (h0 := And.intro rfl rfl) ..)) ?_)) | (refine d_l2Mod (hx := hy) (h0 := ?_) ..) | (refine Exists.intro _ (And.intro (fun τ => callW_fn (d_l2Mod (hx := hy) (h0 := And.intro rfl rfl) ..)) ?_)) | (refine Exists.intro _ (And.intro (callW_fn (d_l2Mod (hx := hy) (h0 := And.intro rfl rfl) ..)) (And.intro trivial ?_))) | (refine Exists.intro _ (And.intro (callW_fn (d_l2Mod (hx := hy) (h0 := And.intro rfl rfl) ..)) ?_)) | (refine Exists.intro _ (And.intro (fun τ _ => callW_fn (d_l2Mod (hx := hy) (h0 := And.intro rfl rfl) ..)) ?_)) | (refine Exists.intro _ (And.intro rfl (And.intro rfl (And.intro (Nat.le_of_ble_eq_true rfl) ?_)))) | (refine Exists.intro _ (And.intro rfl (And.intro rfl (And.intro rfl (And.intro (Nat.le_of_ble_eq_true rfl) ?_))))) | (refine And.intro (Exists.intro _ (And.intro rfl rfl)) ?_) | (exact fun hW => absurd hW (by decide +kernel)) | (intro hW; (try simp only [Bool.not_true, Bool.not_false, Bool.not_eq_true', Bool.not_eq_false', decide_eq_true_eq, decide_eq_false_iff_not, reduceCtorEq, Bool.true_eq_false, Bool.false_eq_true, mk_size, List.size_toArray, ByteArray.size_append, ByteArray.size_extract, List.length_cons, List.length_nil, ba_get, ba_empty, Int.toNat_natCast] at hW)) | (refine And.intro (?_ : _ → _) (?_ : _ → _)) | (refine FinR.drop 0 (Nat.zero_le _) (Closed.zero _) rfl ?_) | (refine FinR.keep ?_) | (refine And.intro (det3_agg rfl) ?_) | (refine fL_mk ?_) | (refine And.intro (by (try simp only [mk_size, List.size_toArray, ByteArray.size_append, ByteArray.size_extract, List.length_cons, List.length_nil]); omega) ?_) | (refine And.intro (by (try simp only [mk_size, List.size_toArray, ByteArray.size_append, ByteArray.size_extract, List.length_cons, List.length_nil, wrap64_eq]); omega) ?_) | fail)
    all_goals exact kSh h0 ((r 3).trans (congrArg _ (qq 3 (by decide)))) ((r 4).trans (congrArg _ (qq 4 (by decide)))) ((r 5).trans (congrArg _ (qq 5 (by decide)))) ((r 0).trans (congrArg _ (qq 0 (by decide)))) ((r 1).trans (congrArg _ (qq 1 (by decide)))) ((r 2).trans (congrArg _ (qq 2 (by decide))))
  · skip
    repeat' ((conv => whnf); first | (refine And.intro e0 ?_) | (refine And.intro e6 ?_) | (refine Exists.intro ([] : List Nat) ?_) | (refine And.intro rfl ?_) | (refine And.intro (by decide +kernel) ?_) | (refine And.intro trivial ?_) | (refine LoopR.unroll 7 ?_) | (refine d_l2Mod (hx := hx) (h0 := ?_) ..) | (refine Exists.intro _ (And.intro (fun τ => callW_fn (d_l2Mod (hx := hx) (h0 := And.intro rfl rfl) ..)) ?_)) | (refine Exists.intro _ (And.intro (callW_fn (d_l2Mod (hx := hx) (h0 := And.intro rfl rfl) ..)) (And.intro trivial ?_))) | (refine Exists.intro _ (And.intro (callW_fn (d_l2Mod (hx := hx) (h0 := And.intro rfl rfl) ..)) ?_)) | (refine Exists.intro _ (And.intro (fun τ _ => callW_fn (d_l2Mod (hx := hx) (h0 := And.intro rfl rfl) ..)) ?_)) | (refine d_l2Mod (hx := hy) (h0 := ?_) ..) | (refine Exists.intro _ (And.intro (fun τ => callW_fn (d_l2Mod (hx := hy) (h0 := And.intro rfl rfl) ..)) ?_)) | (refine Exists.intro _ (And.intro (callW_fn (d_l2Mod (hx := hy) (h0 := And.intro rfl rfl) ..)) (And.intro trivial ?_))) | (refine Exists.intro _ (And.intro (callW_fn (d_l2Mod (hx := hy) (h0 := And.intro rfl rfl) ..)) ?_)) | (refine Exists.intro _ (And.intro (fun τ _ => callW_fn (d_l2Mod (hx := hy) (h0 := And.intro rfl rfl) ..)) ?_)) | (refine Exists.intro _ (And.intro rfl (And.intro rfl (And.intro (Nat.le_of_ble_eq_true rfl) ?_)))) | (refine Exists.intro _ (And.intro rfl (And.intro rfl (And.intro rfl (And.intro (Nat.le_of_ble_eq_true rfl) ?_))))) | (refine And.intro (Exists.intro _ (And.intro rfl rfl)) ?_) | (exact fun hW => absurd hW (by decide +kernel)) | (intro hW; (try simp only [Bool.not_true, Bool.not_false, Bool.not_eq_true', Bool.not_eq_false', decide_eq_true_eq, decide_eq_false_iff_not, reduceCtorEq, Bool.true_eq_false, Bool.false_eq_true, mk_size, List.size_toArray, ByteArray.size_append, ByteArray.size_extract, List.length_cons, List.length_nil, ba_get, ba_empty, Int.toNat_natCast] at hW)) | (refine And.intro (?_ : _ → _) (?_ : _ → _)) | (refine FinR.drop 0 (Nat.zero_le _) (Closed.zero _) rfl ?_) | (refine FinR.keep ?_) | (refine And.intro (det3_agg rfl) ?_) | (refine fL_mk ?_) | (refine And.intro (by (try simp only [mk_size, List.size_toArray, ByteArray.size_append, ByteArray.size_extract, List.length_cons, List.length_nil]); omega) ?_) | (refine And.intro (by (try simp only [mk_size, List.size_toArray, ByteArray.size_append, ByteArray.size_extract, List.length_cons, List.length_nil, wrap64_eq]); omega) ?_) | fail)
    all_goals exact kSh h0 ((r 2).trans (congrArg _ (qq 2 (by decide)))) ((r 3).trans (congrArg _ (qq 3 (by decide)))) ((r 4).trans (congrArg _ (qq 4 (by decide)))) ((r 5).trans (congrArg _ (qq 5 (by decide)))) ((r 0).trans (congrArg _ (qq 0 (by decide)))) ((r 1).trans (congrArg _ (qq 1 (by decide))))
  · skip
    repeat' ((conv => whnf); first | (refine And.intro e0 ?_) | (refine And.intro e6 ?_) | (refine Exists.intro ([] : List Nat) ?_) | (refine And.intro rfl ?_) | (refine And.intro (by decide +kernel) ?_) | (refine And.intro trivial ?_) | (refine LoopR.unroll 7 ?_) | (refine d_l2Mod (hx := hx) (h0 := ?_) ..) | (refine Exists.intro _ (And.intro (fun τ => callW_fn (d_l2Mod (hx := hx) (h0 := And.intro rfl rfl) ..)) ?_)) | (refine Exists.intro _ (And.intro (callW_fn (d_l2Mod (hx := hx) (h0 := And.intro rfl rfl) ..)) (And.intro trivial ?_))) | (refine Exists.intro _ (And.intro (callW_fn (d_l2Mod (hx := hx) (h0 := And.intro rfl rfl) ..)) ?_)) | (refine Exists.intro _ (And.intro (fun τ _ => callW_fn (d_l2Mod (hx := hx) (h0 := And.intro rfl rfl) ..)) ?_)) | (refine d_l2Mod (hx := hy) (h0 := ?_) ..) | (refine Exists.intro _ (And.intro (fun τ => callW_fn (d_l2Mod (hx := hy) (h0 := And.intro rfl rfl) ..)) ?_)) | (refine Exists.intro _ (And.intro (callW_fn (d_l2Mod (hx := hy) (h0 := And.intro rfl rfl) ..)) (And.intro trivial ?_))) | (refine Exists.intro _ (And.intro (callW_fn (d_l2Mod (hx := hy) (h0 := And.intro rfl rfl) ..)) ?_)) | (refine Exists.intro _ (And.intro (fun τ _ => callW_fn (d_l2Mod (hx := hy) (h0 := And.intro rfl rfl) ..)) ?_)) | (refine Exists.intro _ (And.intro rfl (And.intro rfl (And.intro (Nat.le_of_ble_eq_true rfl) ?_)))) | (refine Exists.intro _ (And.intro rfl (And.intro rfl (And.intro rfl (And.intro (Nat.le_of_ble_eq_true rfl) ?_))))) | (refine And.intro (Exists.intro _ (And.intro rfl rfl)) ?_) | (exact fun hW => absurd hW (by decide +kernel)) | (intro hW; (try simp only [Bool.not_true, Bool.not_false, Bool.not_eq_true', Bool.not_eq_false', decide_eq_true_eq, decide_eq_false_iff_not, reduceCtorEq, Bool.true_eq_false, Bool.false_eq_true, mk_size, List.size_toArray, ByteArray.size_append, ByteArray.size_extract, List.length_cons, List.length_nil, ba_get, ba_empty, Int.toNat_natCast] at hW)) | (refine And.intro (?_ : _ → _) (?_ : _ → _)) | (refine FinR.drop 0 (Nat.zero_le _) (Closed.zero _) rfl ?_) | (refine FinR.keep ?_) | (refine And.intro (det3_agg rfl) ?_) | (refine fL_mk ?_) | (refine And.intro (by (try simp only [mk_size, List.size_toArray, ByteArray.size_append, ByteArray.size_extract, List.length_cons, List.length_nil]); omega) ?_) | (refine And.intro (by (try simp only [mk_size, List.size_toArray, ByteArray.size_append, ByteArray.size_extract, List.length_cons, List.length_nil, wrap64_eq]); omega) ?_) | fail)
    all_goals exact kSh h0 ((r 1).trans (congrArg _ (qq 1 (by decide)))) ((r 2).trans (congrArg _ (qq 2 (by decide)))) ((r 3).trans (congrArg _ (qq 3 (by decide)))) ((r 4).trans (congrArg _ (qq 4 (by decide)))) ((r 5).trans (congrArg _ (qq 5 (by decide)))) ((r 0).trans (congrArg _ (qq 0 (by decide))))
theorem d_l2ShiftN (n : Nat) (dx dy : Int) (x y : Nat) (hx : dx % 6 = x) (hy : dy % 6 = y) (K : Cont) (h0 : K (ShN (mvN (shG x y) n 36)) σ) : ACall Try.prog W0 57 [ShN n, I dx, I dy] σ K :=
  ACall.lift rfl (fun _ => rfl) (fun W1 K _ hK => c_l2ShiftN n dx dy x y hx hy K hK) h0
end Go.Proofs.Ytbbmlnaekefaaaa
end

section
/- Contracts: presses, flips. -/
set_option linter.unusedVariables false
set_option linter.unusedSimpArgs false
set_option maxRecDepth 100000
set_option maxHeartbeats 4000000
namespace Go.Proofs.Ytbbmlnaekefaaaa
open Go Go.RowKit Go.Proofs.Ytbbmlnaekefaaaa.Abs
variable {W0 : World} {σ : List Blk}
/-- a stamp that is pressed at a cell -/
def prN (m x y : Nat) : Nat := mvN (shG x y) m 36
theorem prN_lt {m x y : Nat} (hx : x < 6) (hy : y < 6) : prN m x y < 2 ^ 36 := mvN_lt (sh_perm x hx y hy) m
theorem c_l2AtN (n x y : Nat) (hx : x < 6) (hy : y < 6) (K : Cont) (h0 : K (ShN (prN n x y)) []) : ACall Try.prog W0 36 [ShN n, Ce x y] [] K := by
  refine by36 (Nat.le_of_ble_eq_true rfl) ?_
  have h1 : (x : Int) % 6 = x := by omega
  have h2 : (y : Int) % 6 = y := by omega
  repeat' ((conv => whnf); first | (refine Exists.intro ([] : List Nat) ?_) | (refine And.intro rfl ?_) | (refine And.intro (by decide +kernel) ?_) | (refine And.intro trivial ?_) | (refine d_l2ShiftN (hx := h1) (hy := h2) (h0 := ?_) ..) | (refine Exists.intro _ (And.intro rfl (And.intro rfl (And.intro (Nat.le_of_ble_eq_true rfl) ?_)))) | (refine Exists.intro _ (And.intro rfl (And.intro rfl (And.intro rfl (And.intro (Nat.le_of_ble_eq_true rfl) ?_))))) | (refine And.intro (Exists.intro _ (And.intro rfl rfl)) ?_) | (exact fun hW => absurd hW (by decide +kernel)) | (intro hW; (try simp only [Bool.not_true, Bool.not_false, Bool.not_eq_true', Bool.not_eq_false', decide_eq_true_eq, decide_eq_false_iff_not, reduceCtorEq, Bool.true_eq_false, Bool.false_eq_true, mk_size, List.size_toArray, ByteArray.size_append, ByteArray.size_extract, List.length_cons, List.length_nil, ba_get, ba_empty, Int.toNat_natCast] at hW)) | (refine And.intro (?_ : _ → _) (?_ : _ → _)) | (refine FinR.drop 0 (Nat.zero_le _) (Closed.zero _) rfl ?_) | (refine FinR.keep ?_) | (refine And.intro (det3_agg rfl) ?_) | (refine fL_mk ?_) | (refine And.intro (by (try simp only [mk_size, List.size_toArray, ByteArray.size_append, ByteArray.size_extract, List.length_cons, List.length_nil]); omega) ?_) | (refine And.intro (by (try simp only [mk_size, List.size_toArray, ByteArray.size_append, ByteArray.size_extract, List.length_cons, List.length_nil, wrap64_eq]); omega) ?_) | fail)
  all_goals exact h0
theorem d_l2AtN (n x y : Nat) (hx : x < 6) (hy : y < 6) (K : Cont) (h0 : K (ShN (prN n x y)) σ) : ACall Try.prog W0 36 [ShN n, Ce x y] σ K :=
  ACall.lift rfl (fun _ => rfl) (fun W1 K _ hK => c_l2AtN n x y hx hy K hK) h0
abbrev Sh0 : AV := Sh 0 0 0 0 0 0
end Go.Proofs.Ytbbmlnaekefaaaa
end

section
/- Contracts: flips, turns. -/
set_option linter.unusedVariables false
set_option linter.unusedSimpArgs false
set_option maxRecDepth 100000
set_option maxHeartbeats 4000000
namespace Go.Proofs.Ytbbmlnaekefaaaa
open Go Go.RowKit Go.Proofs.Ytbbmlnaekefaaaa.Abs
variable {W0 : World} {σ : List Blk}
theorem get_row : ∀ x : Nat, x < 6 → ∀ r : Nat, r < 64 → decide (bAnd .i64 (shR .i64 (r : Int) (x : Int)) 1 = 1) = r.testBit x := by decide +kernel
theorem c_l2GetN (n x y : Nat) (hx : x < 6) (hy : y < 6) (K : Cont) (h0 : K (Bo (n.testBit (6 * y + x))) []) : ACall Try.prog W0 70 [ShN n, I x, I y] [] K := by
  refine by70 (Nat.le_of_ble_eq_true rfl) ?_
  have e0 : 0 ≤ (x : Int) := by omega
  have r := fun (i : Nat) => (get_row x hx _ (rowN_lt n i)).trans ((rowN_bit n i x).trans (by rw [decide_eq_true hx, Bool.true_and]) : _ = n.testBit (6 * i + x))
  obtain rfl | rfl | rfl | rfl | rfl | rfl : y = 0 ∨ y = 1 ∨ y = 2 ∨ y = 3 ∨ y = 4 ∨ y = 5 := by omega
  · skip
    repeat' ((conv => whnf); first | (refine And.intro e0 ?_) | (refine Exists.intro ([] : List Nat) ?_) | (refine And.intro rfl ?_) | (refine And.intro (by decide +kernel) ?_) | (refine And.intro trivial ?_) | (refine Exists.intro _ (And.intro rfl (And.intro rfl (And.intro (Nat.le_of_ble_eq_true rfl) ?_)))) | (refine Exists.intro _ (And.intro rfl (And.intro rfl (And.intro rfl (And.intro (Nat.le_of_ble_eq_true rfl) ?_))))) | (refine And.intro (Exists.intro _ (And.intro rfl rfl)) ?_) | (exact fun hW => absurd hW (by decide +kernel)) | (intro hW; (try simp only [Bool.not_true, Bool.not_false, Bool.not_eq_true', Bool.not_eq_false', decide_eq_true_eq, decide_eq_false_iff_not, reduceCtorEq, Bool.true_eq_false, Bool.false_eq_true, mk_size, List.size_toArray, ByteArray.size_append, ByteArray.size_extract, List.length_cons, List.length_nil, ba_get, ba_empty, Int.toNat_natCast] at hW)) | (refine And.intro (?_ : _ → _) (?_ : _ → _)) | (refine FinR.drop 0 (Nat.zero_le _) (Closed.zero _) rfl ?_) | (refine FinR.keep ?_) | (refine And.intro (det3_agg rfl) ?_) | (refine fL_mk ?_) | (refine And.intro (by (try simp only [mk_size, List.size_toArray, ByteArray.size_append, ByteArray.size_extract, List.length_cons, List.length_nil]); omega) ?_) | (refine And.intro (by (try simp only [mk_size, List.size_toArray, ByteArray.size_append, ByteArray.size_extract, List.length_cons, List.length_nil, wrap64_eq]); omega) ?_) | fail)
    all_goals exact kB' h0 (r 0)
  · skip
    repeat' ((conv => whnf); first | (refine And.intro e0 ?_) | (refine Exists.intro ([] : List Nat) ?_) | (refine And.intro rfl ?_) | (refine And.intro (by decide +kernel) ?_) | (refine And.intro trivial ?_) | (refine Exists.intro _ (And.intro rfl (And.intro rfl (And.intro (Nat.le_of_ble_eq_true rfl) ?_)))) | (refine Exists.intro _ (And.intro rfl (And.intro rfl (And.intro rfl (And.intro (Nat.le_of_ble_eq_true rfl) ?_))))) | (refine And.intro (Exists.intro _ (And.intro rfl rfl)) ?_) | (exact fun hW => absurd hW (by decide +kernel)) | (intro hW; (try simp only [Bool.not_true, Bool.not_false, Bool.not_eq_true', Bool.not_eq_false', decide_eq_true_eq, decide_eq_false_iff_not, reduceCtorEq, Bool.true_eq_false, Bool.false_eq_true, mk_size, List.size_toArray, ByteArray.size_append, ByteArray.size_extract, List.length_cons, List.length_nil, ba_get, ba_empty, Int.toNat_natCast] at hW)) | (refine And.intro (?_ : _ → _) (?_ : _ → _)) | (refine FinR.drop 0 (Nat.zero_le _) (Closed.zero _) rfl ?_) | (refine FinR.keep ?_) | (refine And.intro (det3_agg rfl) ?_) | (refine fL_mk ?_) | (refine And.intro (by (try simp only [mk_size, List.size_toArray, ByteArray.size_append, ByteArray.size_extract, List.length_cons, List.length_nil]); omega) ?_) | (refine And.intro (by (try simp only [mk_size, List.size_toArray, ByteArray.size_append, ByteArray.size_extract, List.length_cons, List.length_nil, wrap64_eq]); omega) ?_) | fail)
    all_goals exact kB' h0 (r 1)
  · skip
    repeat' ((conv => whnf); first | (refine And.intro e0 ?_) | (refine Exists.intro ([] : List Nat) ?_) | (refine And.intro rfl ?_) | (refine And.intro (by decide +kernel) ?_) | (refine And.intro trivial ?_) | (refine Exists.intro _ (And.intro rfl (And.intro rfl (And.intro (Nat.le_of_ble_eq_true rfl) ?_)))) | (refine Exists.intro _ (And.intro rfl (And.intro rfl (And.intro rfl (And.intro (Nat.le_of_ble_eq_true rfl) ?_))))) | (refine And.intro (Exists.intro _ (And.intro rfl rfl)) ?_) | (exact fun hW => absurd hW (by decide +kernel)) | (intro hW; (try simp only [Bool.not_true, Bool.not_false, Bool.not_eq_true', Bool.not_eq_false', decide_eq_true_eq, decide_eq_false_iff_not, reduceCtorEq, Bool.true_eq_false, Bool.false_eq_true, mk_size, List.size_toArray, ByteArray.size_append, ByteArray.size_extract, List.length_cons, List.length_nil, ba_get, ba_empty, Int.toNat_natCast] at hW)) | (refine And.intro (?_ : _ → _) (?_ : _ → _)) | (refine FinR.drop 0 (Nat.zero_le _) (Closed.zero _) rfl ?_) | (refine FinR.keep ?_) | (refine And.intro (det3_agg rfl) ?_) | (refine fL_mk ?_) | (refine And.intro (by (try simp only [mk_size, List.size_toArray, ByteArray.size_append, ByteArray.size_extract, List.length_cons, List.length_nil]); omega) ?_) | (refine And.intro (by (try simp only [mk_size, List.size_toArray, ByteArray.size_append, ByteArray.size_extract, List.length_cons, List.length_nil, wrap64_eq]); omega) ?_) | fail)
    all_goals exact kB' h0 (r 2)
  · skip
    repeat' ((conv => whnf); first | (refine And.intro e0 ?_) | (refine Exists.intro ([] : List Nat) ?_) | (refine And.intro rfl ?_) | (refine And.intro (by decide +kernel) ?_) | (refine And.intro trivial ?_) | (refine Exists.intro _ (And.intro rfl (And.intro rfl (And.intro (Nat.le_of_ble_eq_true rfl) ?_)))) | (refine Exists.intro _ (And.intro rfl (And.intro rfl (And.intro rfl (And.intro (Nat.le_of_ble_eq_true rfl) ?_))))) | (refine And.intro (Exists.intro _ (And.intro rfl rfl)) ?_) | (exact fun hW => absurd hW (by decide +kernel)) | (intro hW; (try simp only [Bool.not_true, Bool.not_false, Bool.not_eq_true', Bool.not_eq_false', decide_eq_true_eq, decide_eq_false_iff_not, reduceCtorEq, Bool.true_eq_false, Bool.false_eq_true, mk_size, List.size_toArray, ByteArray.size_append, ByteArray.size_extract, List.length_cons, List.length_nil, ba_get, ba_empty, Int.toNat_natCast] at hW)) | (refine And.intro (?_ : _ → _) (?_ : _ → _)) | (refine FinR.drop 0 (Nat.zero_le _) (Closed.zero _) rfl ?_) | (refine FinR.keep ?_) | (refine And.intro (det3_agg rfl) ?_) | (refine fL_mk ?_) | (refine And.intro (by (try simp only [mk_size, List.size_toArray, ByteArray.size_append, ByteArray.size_extract, List.length_cons, List.length_nil]); omega) ?_) | (refine And.intro (by (try simp only [mk_size, List.size_toArray, ByteArray.size_append, ByteArray.size_extract, List.length_cons, List.length_nil, wrap64_eq]); omega) ?_) | fail)
    all_goals exact kB' h0 (r 3)
  · skip
    repeat' ((conv => whnf); first | (refine And.intro e0 ?_) | (refine Exists.intro ([] : List Nat) ?_) | (refine And.intro rfl ?_) | (refine And.intro (by decide +kernel) ?_) | (refine And.intro trivial ?_) | (refine Exists.intro _ (And.intro rfl (And.intro rfl (And.intro (Nat.le_of_ble_eq_true rfl) ?_)))) | (refine Exists.intro _ (And.intro rfl (And.intro rfl (And.intro rfl (And.intro (Nat.le_of_ble_eq_true rfl) ?_))))) | (refine And.intro (Exists.intro _ (And.intro rfl rfl)) ?_) | (exact fun hW => absurd hW (by decide +kernel)) | (intro hW; (try simp only [Bool.not_true, Bool.not_false, Bool.not_eq_true', Bool.not_eq_false', decide_eq_true_eq, decide_eq_false_iff_not, reduceCtorEq, Bool.true_eq_false, Bool.false_eq_true, mk_size, List.size_toArray, ByteArray.size_append, ByteArray.size_extract, List.length_cons, List.length_nil, ba_get, ba_empty, Int.toNat_natCast] at hW)) | (refine And.intro (?_ : _ → _) (?_ : _ → _)) | (refine FinR.drop 0 (Nat.zero_le _) (Closed.zero _) rfl ?_) | (refine FinR.keep ?_) | (refine And.intro (det3_agg rfl) ?_) | (refine fL_mk ?_) | (refine And.intro (by (try simp only [mk_size, List.size_toArray, ByteArray.size_append, ByteArray.size_extract, List.length_cons, List.length_nil]); omega) ?_) | (refine And.intro (by (try simp only [mk_size, List.size_toArray, ByteArray.size_append, ByteArray.size_extract, List.length_cons, List.length_nil, wrap64_eq]); omega) ?_) | fail)
    all_goals exact kB' h0 (r 4)
  · skip
    repeat' ((conv => whnf); first | (refine And.intro e0 ?_) | (refine Exists.intro ([] : List Nat) ?_) | (refine And.intro rfl ?_) | (refine And.intro (by decide +kernel) ?_) | (refine And.intro trivial ?_) | (refine Exists.intro _ (And.intro rfl (And.intro rfl (And.intro (Nat.le_of_ble_eq_true rfl) ?_)))) | (refine Exists.intro _ (And.intro rfl (And.intro rfl (And.intro rfl (And.intro (Nat.le_of_ble_eq_true rfl) ?_))))) | (refine And.intro (Exists.intro _ (And.intro rfl rfl)) ?_) | (exact fun hW => absurd hW (by decide +kernel)) | (intro hW; (try simp only [Bool.not_true, Bool.not_false, Bool.not_eq_true', Bool.not_eq_false', decide_eq_true_eq, decide_eq_false_iff_not, reduceCtorEq, Bool.true_eq_false, Bool.false_eq_true, mk_size, List.size_toArray, ByteArray.size_append, ByteArray.size_extract, List.length_cons, List.length_nil, ba_get, ba_empty, Int.toNat_natCast] at hW)) | (refine And.intro (?_ : _ → _) (?_ : _ → _)) | (refine FinR.drop 0 (Nat.zero_le _) (Closed.zero _) rfl ?_) | (refine FinR.keep ?_) | (refine And.intro (det3_agg rfl) ?_) | (refine fL_mk ?_) | (refine And.intro (by (try simp only [mk_size, List.size_toArray, ByteArray.size_append, ByteArray.size_extract, List.length_cons, List.length_nil]); omega) ?_) | (refine And.intro (by (try simp only [mk_size, List.size_toArray, ByteArray.size_append, ByteArray.size_extract, List.length_cons, List.length_nil, wrap64_eq]); omega) ?_) | fail)
    all_goals exact kB' h0 (r 5)
theorem d_l2GetN (n x y : Nat) (hx : x < 6) (hy : y < 6) (K : Cont) (h0 : K (Bo (n.testBit (6 * y + x))) σ) : ACall Try.prog W0 70 [ShN n, I x, I y] σ K :=
  ACall.lift rfl (fun _ => rfl) (fun W1 K _ hK => c_l2GetN n x y hx hy K hK) h0
end Go.Proofs.Ytbbmlnaekefaaaa
end

section
/- Contracts: the reference's turns. -/
set_option linter.unusedVariables false
set_option linter.unusedSimpArgs false
set_option maxRecDepth 100000
set_option maxHeartbeats 4000000
namespace Go.Proofs.Ytbbmlnaekefaaaa
open Go Go.RowKit Go.Proofs.Ytbbmlnaekefaaaa.Abs
variable {W0 : World} {σ : List Blk}
def rwL (n : Nat) : List AV := [I (rowN n 0 : Nat), I (rowN n 1 : Nat), I (rowN n 2 : Nat), I (rowN n 3 : Nat), I (rowN n 4 : Nat), I (rowN n 5 : Nat)]
def bl (n : Nat) : Blk := ⟨rwL n, 0, 51, 0, false, false⟩
end Go.Proofs.Ytbbmlnaekefaaaa
end

section
/- Contracts: jobs in a shop. -/
set_option linter.unusedVariables false
set_option linter.unusedSimpArgs false
set_option maxRecDepth 100000
set_option maxHeartbeats 4000000
namespace Go.Proofs.Ytbbmlnaekefaaaa
open Go Go.RowKit Go.Proofs.Ytbbmlnaekefaaaa.Abs
variable {W0 : World} {σ : List Blk}
abbrev SpN (n m : Nat) (p q : Int) : AV := Sp (rowN n 0 : Nat) (rowN n 1 : Nat) (rowN n 2 : Nat) (rowN n 3 : Nat) (rowN n 4 : Nat) (rowN n 5 : Nat) (rowN m 0 : Nat) (rowN m 1 : Nat) (rowN m 2 : Nat) (rowN m 3 : Nat) (rowN m 4 : Nat) (rowN m 5 : Nat) p q
abbrev Jb (k a b : Int) : AV := .agg [I k, I a, I b]
abbrev Sp0 : AV := Sp 0 0 0 0 0 0 0 0 0 0 0 0 0 0
end Go.Proofs.Ytbbmlnaekefaaaa
end

section
/- Contracts: lists of jobs. -/
set_option linter.unusedVariables false
set_option linter.unusedSimpArgs false
set_option maxRecDepth 100000
set_option maxHeartbeats 4000000
namespace Go.Proofs.Ytbbmlnaekefaaaa
open Go Go.RowKit Go.Proofs.Ytbbmlnaekefaaaa.Abs
variable {W0 : World} {σ : List Blk}
theorem wsucc' (x : Nat) (hx : x < 4611686018427387904) : IntKind.i64.wrap ((x : Int) + 1) = ((x + 1 : Nat) : Int) := by rw [wrap_i64 _ (by omega) (by omega)]; omega
abbrev enI (l : List Int) : List Value := l.map (Value.int .i64)
/-- the cells of a list of rows -/
def jc (l : List (List Int)) : List AV := (l.map fun x => x.map I).flatten
theorem jc_len {s : Nat} : ∀ {l : List (List Int)}, (∀ x ∈ l, x.length = s) → (jc l).length = l.length * s
  | [], _ => by simp [jc]
  | x :: l, h => by
    have h1 := jc_len (l := l) fun y hy => h y (List.mem_cons_of_mem _ hy)
    have h2 := h x List.mem_cons_self
    show (x.map I ++ jc l).length = _
    rw [List.length_append, List.length_map, h1, h2, List.length_cons, Nat.add_mul]; omega
theorem jc_snoc (l : List (List Int)) (x : List Int) : jc (l ++ [x]) = jc l ++ x.map I := by simp [jc]
theorem rep_succ (m : Nat) (zc : List AV) : rep (m + 1) zc = zc ++ rep m zc := by simp [rep, List.replicate_succ]
/-- the cells when i rows are filled -/
def jst (xs : List (List Int)) (i : Nat) (zc : List AV) : List AV := jc (xs.take i) ++ rep (xs.length - i) zc
theorem jst_len {xs : List (List Int)} {s i : Nat} {zc : List AV} (hx : ∀ x ∈ xs, x.length = s) (hz : zc.length = s) (hi : i ≤ xs.length) : (jst xs i zc).length = xs.length * s := by
  unfold jst
  rw [List.length_append, jc_len (s := s) fun x h => hx x (List.mem_of_mem_take h), rep_length, hz, List.length_take, Nat.min_eq_left hi, ← Nat.add_mul]
  congr 1; omega
theorem jst_step {xs : List (List Int)} {s i : Nat} {zc : List AV} {x : List Int} (hx : ∀ x ∈ xs, x.length = s) (hz : zc.length = s) (hi : xs[i]? = some x) :
    (jst xs i zc).take (i * s) ++ x.map I ++ (jst xs i zc).drop (i * s + s) = jst xs (i + 1) zc := by
  have hlt := getElem?_lt hi
  have hl : (jc (xs.take i)).length = i * s := by rw [jc_len (s := s) fun x h => hx x (List.mem_of_mem_take h), List.length_take, Nat.min_eq_left (by omega)]
  unfold jst
  rw [List.take_left' hl, ← hl, ← List.drop_drop, List.drop_left, show xs.length - i = (xs.length - (i + 1)) + 1 by omega, rep_succ, List.drop_left' hz, List.take_add_one, hi, Option.toList_some, jc_snoc]
theorem jc_sh (k : Nat) (l : List (List Int)) : (jc l).map (sh1 k) = jc l := by
  unfold jc
  induction l with
  | nil => rfl
  | cons x l ih =>
    simp only [List.map_cons, List.flatten_cons, List.map_append, ih]
    congr 1
    rw [List.map_map]; rfl
/-- an own list of jobs -/
theorem jc_get {s : Nat} {xs : List (List Int)} (hx : ∀ x ∈ xs, x.length = s) {i : Nat} {x : List Int} (hi : xs[i]? = some x) {j : Nat} {n : Int} (hj : x[j]? = some n) : (jc xs)[i * s + j]? = some (I n) := by
  have hlt := getElem?_lt hi
  have hl : (jc (xs.take i)).length = i * s := by rw [jc_len (s := s) fun x h => hx x (List.mem_of_mem_take h), List.length_take, Nat.min_eq_left (by omega)]
  have e : xs = xs.take i ++ x :: xs.drop (i + 1) := by
    rw [← List.take_append_drop i xs]
    simp only [List.take_append_drop]
    conv => lhs; rw [← List.take_append_drop i xs]
    rw [List.drop_eq_getElem_cons hlt, (List.getElem?_eq_some_iff.1 hi).2]
  have e2 : jc xs = jc (xs.take i) ++ (x.map I ++ jc (xs.drop (i + 1))) := by
    conv => lhs; rw [e]
    simp [jc]
  rw [e2, List.getElem?_append_right (by omega), hl, show i * s + j - i * s = j by omega, List.getElem?_append_left (by rw [List.length_map]; exact getElem?_lt hj), List.getElem?_map, hj]; rfl
end Go.Proofs.Ytbbmlnaekefaaaa
end

section
/- Contracts: lists of numbers and of pairs that the laws compare, mark, hold. -/
set_option linter.unusedVariables false
set_option linter.unusedSimpArgs false
set_option maxRecDepth 100000
set_option maxHeartbeats 4000000
namespace Go.Proofs.Ytbbmlnaekefaaaa
open Go Go.RowKit Go.Proofs.Ytbbmlnaekefaaaa.Abs
variable {W0 : World} {σ : List Blk}
theorem fS_mk {l : List Blk} {K : List Blk → Prop} (h : K l) : fS l K := by rw [fS_eq]; exact h
theorem set_self {α : Type} {l : List α} {i : Nat} {a : α} (h : l[i]? = some a) : l.set i a = l := by
  have := (List.getElem?_eq_some_iff.1 h)
  obtain ⟨h1, h2⟩ := this
  subst h2
  exact List.set_getElem_self h1
theorem get_set {α : Type} {l : List α} {i : Nat} {a b : α} (h : l[i]? = some a) : (l.set i b)[i]? = some b := by
  rw [List.getElem?_set_self (getElem?_lt h)]
abbrev en1 (n : Int) : List Value := [.int .i64 n]
theorem sli_ints {l : List Int} {b ver : Nat} {e : TypeId} {r m : Bool} {cap : Nat} (hb : σ[b]? = some ⟨l.map I, ver, e, 1, r, m⟩) : Sli W0 σ 1 en1 (.sl b ver 0 l.length cap) l :=
  .own b ver 0 _ cap _ _ hb rfl rfl fun i x hi j v hj => by
    cases j with
    | zero =>
      simp only [List.getElem?_cons_zero, Option.some.injEq] at hj
      subst hj
      show (l.map I)[0 + i * 1 + 0]? = _
      rw [show 0 + i * 1 + 0 = i by omega, List.getElem?_map, hi]; rfl
    | succ j => simp at hj
theorem lift_Ss {α : Type} {enc : α → List Value} {g : FuncId} {a b : AV} {r : AV} {xs ys : List α} {s : Nat} (hok : callOK Try.prog g = true) (hr : ∀ k, sh3 k r = r) (hs : Sli W0 σ s enc a xs) (hs2 : Sli W0 σ s enc b ys) (h : ∀ (W1 : World) (a' b' : AV), Sli W1 [] s enc a' xs → Sli W1 [] s enc b' ys → ∀ K : Cont, K r [] → ACall Try.prog W1 g [a', b'] [] K) (K : Cont) (h0 : K r σ) : ACall Try.prog W0 g [a, b] σ K := by
  refine ACall.frameA (K0 := fun v σ' => v = r ∧ σ' = []) hok (fun W1 ι vs hh hrr => ?_) ?_
  · obtain ⟨v1, vs', rfl, hr1, hr2⟩ := Rels.uncons hrr
    obtain ⟨v2, vs'', rfl, hr3, hr4⟩ := Rels.uncons hr2
    obtain ⟨a', ha, hs'⟩ := hs.conc hh ⟨v1, hr1⟩
    obtain ⟨b', hb, hs2'⟩ := hs2.conc hh ⟨v2, hr3⟩
    obtain rfl := hr4.nil_inv
    exact ⟨[a', b'], Rels.cons (ha _ hr1) (Rels.cons (hb _ hr3) Rels.nil), h W1 a' b' hs' hs2' _ ⟨rfl, rfl⟩⟩
  · rintro v σ' ⟨rfl, rfl⟩
    have e : σ ++ shB σ.length [] = σ := by simp [shB]
    rw [e, hr]; exact h0
theorem lift_Sp {α : Type} {enc : α → List Value} {g : FuncId} {a b : AV} {r : AV} {xs : List α} {s : Nat} (hok : callOK Try.prog g = true) (hb : pure3 b = true) (hr : ∀ k, sh3 k r = r) (hs : Sli W0 σ s enc a xs) (h : ∀ (W1 : World) (a' : AV), Sli W1 [] s enc a' xs → ∀ K : Cont, K r [] → ACall Try.prog W1 g [a', b] [] K) (K : Cont) (h0 : K r σ) : ACall Try.prog W0 g [a, b] σ K := by
  refine ACall.frameA (K0 := fun v σ' => v = r ∧ σ' = []) hok (fun W1 ι vs hh hrr => ?_) ?_
  · obtain ⟨v1, vs', rfl, hr1, hr2⟩ := Rels.uncons hrr
    obtain ⟨v2, vs'', rfl, hr3, hr4⟩ := Rels.uncons hr2
    obtain ⟨a', ha, hs'⟩ := hs.conc hh ⟨v1, hr1⟩
    obtain rfl := hr4.nil_inv
    exact ⟨[a', b], Rels.cons (ha _ hr1) (Rels.cons (rel3_pure hb hr3) Rels.nil), h W1 a' hs' _ ⟨rfl, rfl⟩⟩
  · rintro v σ' ⟨rfl, rfl⟩
    have e : σ ++ shB σ.length [] = σ := by simp [shB]
    rw [e, hr]; exact h0
theorem lift_S {α : Type} {enc : α → List Value} {g : FuncId} {a : AV} {r : AV} {xs : List α} {s : Nat} (hok : callOK Try.prog g = true) (hr : ∀ k, sh3 k r = r) (hs : Sli W0 σ s enc a xs) (h : ∀ (W1 : World) (a' : AV), Sli W1 [] s enc a' xs → ∀ K : Cont, K r [] → ACall Try.prog W1 g [a'] [] K) (K : Cont) (h0 : K r σ) : ACall Try.prog W0 g [a] σ K := by
  refine ACall.frameA (K0 := fun v σ' => v = r ∧ σ' = []) hok (fun W1 ι vs hh hrr => ?_) ?_
  · obtain ⟨v1, vs', rfl, hr1, hr2⟩ := Rels.uncons hrr
    obtain ⟨a', ha, hs'⟩ := hs.conc hh ⟨v1, hr1⟩
    obtain rfl := hr2.nil_inv
    exact ⟨[a'], Rels.cons (ha _ hr1) Rels.nil, h W1 a' hs' _ ⟨rfl, rfl⟩⟩
  · rintro v σ' ⟨rfl, rfl⟩
    have e : σ ++ shB σ.length [] = σ := by simp [shB]
    rw [e, hr]; exact h0
theorem c_eqIntS (a b : AV) (xs : List Int) (ha : Sli W0 [] 1 en1 a xs) (hb' : Sli W0 [] 1 en1 b xs) (hl : xs.length ≤ 1048576) (K : Cont) (h0 : K (Bo true) []) : ACall Try.prog W0 20 [a, b] [] K := by
  refine by20 (Nat.le_of_ble_eq_true rfl) ?_
  cases ha with
  | nil =>
    cases hb' with
    | nil =>
      repeat' ((conv => whnf); first | (refine Exists.intro ([] : List Nat) ?_) | (refine And.intro rfl ?_) | (refine And.intro (by decide +kernel) ?_) | (refine And.intro trivial ?_) | (refine Exists.intro _ (And.intro rfl (And.intro rfl (And.intro (Nat.le_of_ble_eq_true rfl) ?_)))) | (refine Exists.intro _ (And.intro rfl (And.intro rfl (And.intro rfl (And.intro (Nat.le_of_ble_eq_true rfl) ?_))))) | (refine And.intro (Exists.intro _ (And.intro rfl rfl)) ?_) | (exact fun hW => absurd hW (by decide +kernel)) | (intro hW; (try simp only [Bool.not_true, Bool.not_false, Bool.not_eq_true', Bool.not_eq_false', decide_eq_true_eq, decide_eq_false_iff_not, reduceCtorEq, Bool.true_eq_false, Bool.false_eq_true, mk_size, List.size_toArray, ByteArray.size_append, ByteArray.size_extract, List.length_cons, List.length_nil, ba_get, ba_empty, Int.toNat_natCast] at hW)) | (refine And.intro (?_ : _ → _) (?_ : _ → _)) | (refine FinR.drop 0 (Nat.zero_le _) (Closed.zero _) rfl ?_) | (refine FinR.keep ?_) | (refine And.intro (det3_agg rfl) ?_) | (refine fL_mk ?_) | (refine And.intro (by (try simp only [mk_size, List.size_toArray, ByteArray.size_append, ByteArray.size_extract, List.length_cons, List.length_nil]); omega) ?_) | (refine And.intro (by (try simp only [mk_size, List.size_toArray, ByteArray.size_append, ByteArray.size_extract, List.length_cons, List.length_nil, wrap64_eq]); omega) ?_) | fail)
      all_goals first | (exfalso; omega) | skip
      refine LoopR.unroll 1 ?_
      repeat' ((conv => whnf); first | (refine Exists.intro ([] : List Nat) ?_) | (refine And.intro rfl ?_) | (refine And.intro (by decide +kernel) ?_) | (refine And.intro trivial ?_) | (refine Exists.intro _ (And.intro rfl (And.intro rfl (And.intro (Nat.le_of_ble_eq_true rfl) ?_)))) | (refine Exists.intro _ (And.intro rfl (And.intro rfl (And.intro rfl (And.intro (Nat.le_of_ble_eq_true rfl) ?_))))) | (refine And.intro (Exists.intro _ (And.intro rfl rfl)) ?_) | (exact fun hW => absurd hW (by decide +kernel)) | (intro hW; (try simp only [Bool.not_true, Bool.not_false, Bool.not_eq_true', Bool.not_eq_false', decide_eq_true_eq, decide_eq_false_iff_not, reduceCtorEq, Bool.true_eq_false, Bool.false_eq_true, mk_size, List.size_toArray, ByteArray.size_append, ByteArray.size_extract, List.length_cons, List.length_nil, ba_get, ba_empty, Int.toNat_natCast] at hW)) | (refine And.intro (?_ : _ → _) (?_ : _ → _)) | (refine FinR.drop 0 (Nat.zero_le _) (Closed.zero _) rfl ?_) | (refine FinR.keep ?_) | (refine And.intro (det3_agg rfl) ?_) | (refine fL_mk ?_) | (refine And.intro (by (try simp only [mk_size, List.size_toArray, ByteArray.size_append, ByteArray.size_extract, List.length_cons, List.length_nil]); omega) ?_) | (refine And.intro (by (try simp only [mk_size, List.size_toArray, ByteArray.size_append, ByteArray.size_extract, List.length_cons, List.length_nil, wrap64_eq]); omega) ?_) | fail)
      all_goals first | (exfalso; omega) | exact h0
    | inn ad n cap xs hn hc hcm hb hxx =>
      subst hn
      repeat' ((conv => whnf); first | (refine Exists.intro ([] : List Nat) ?_) | (refine And.intro rfl ?_) | (refine And.intro (by decide +kernel) ?_) | (refine And.intro trivial ?_) | (refine Exists.intro _ (And.intro rfl (And.intro rfl (And.intro (Nat.le_of_ble_eq_true rfl) ?_)))) | (refine Exists.intro _ (And.intro rfl (And.intro rfl (And.intro rfl (And.intro (Nat.le_of_ble_eq_true rfl) ?_))))) | (refine And.intro (Exists.intro _ (And.intro rfl rfl)) ?_) | (exact fun hW => absurd hW (by decide +kernel)) | (intro hW; (try simp only [Bool.not_true, Bool.not_false, Bool.not_eq_true', Bool.not_eq_false', decide_eq_true_eq, decide_eq_false_iff_not, reduceCtorEq, Bool.true_eq_false, Bool.false_eq_true, mk_size, List.size_toArray, ByteArray.size_append, ByteArray.size_extract, List.length_cons, List.length_nil, ba_get, ba_empty, Int.toNat_natCast] at hW)) | (refine And.intro (?_ : _ → _) (?_ : _ → _)) | (refine FinR.drop 0 (Nat.zero_le _) (Closed.zero _) rfl ?_) | (refine FinR.keep ?_) | (refine And.intro (det3_agg rfl) ?_) | (refine fL_mk ?_) | (refine And.intro (by (try simp only [mk_size, List.size_toArray, ByteArray.size_append, ByteArray.size_extract, List.length_cons, List.length_nil]); omega) ?_) | (refine And.intro (by (try simp only [mk_size, List.size_toArray, ByteArray.size_append, ByteArray.size_extract, List.length_cons, List.length_nil, wrap64_eq]); omega) ?_) | fail)
      all_goals first | (exfalso; simp_all; done) | skip
      refine LoopR.unroll 1 ?_
      repeat' ((conv => whnf); first | (refine Exists.intro ([] : List Nat) ?_) | (refine And.intro rfl ?_) | (refine And.intro (by decide +kernel) ?_) | (refine And.intro trivial ?_) | (refine Exists.intro _ (And.intro rfl (And.intro rfl (And.intro (Nat.le_of_ble_eq_true rfl) ?_)))) | (refine Exists.intro _ (And.intro rfl (And.intro rfl (And.intro rfl (And.intro (Nat.le_of_ble_eq_true rfl) ?_))))) | (refine And.intro (Exists.intro _ (And.intro rfl rfl)) ?_) | (exact fun hW => absurd hW (by decide +kernel)) | (intro hW; (try simp only [Bool.not_true, Bool.not_false, Bool.not_eq_true', Bool.not_eq_false', decide_eq_true_eq, decide_eq_false_iff_not, reduceCtorEq, Bool.true_eq_false, Bool.false_eq_true, mk_size, List.size_toArray, ByteArray.size_append, ByteArray.size_extract, List.length_cons, List.length_nil, ba_get, ba_empty, Int.toNat_natCast] at hW)) | (refine And.intro (?_ : _ → _) (?_ : _ → _)) | (refine FinR.drop 0 (Nat.zero_le _) (Closed.zero _) rfl ?_) | (refine FinR.keep ?_) | (refine And.intro (det3_agg rfl) ?_) | (refine fL_mk ?_) | (refine And.intro (by (try simp only [mk_size, List.size_toArray, ByteArray.size_append, ByteArray.size_extract, List.length_cons, List.length_nil]); omega) ?_) | (refine And.intro (by (try simp only [mk_size, List.size_toArray, ByteArray.size_append, ByteArray.size_extract, List.length_cons, List.length_nil, wrap64_eq]); omega) ?_) | fail)
      all_goals first | (exfalso; omega) | exact h0
    | own b ver off n cap B xs hB => simp at hB
  | inn ad n cap xs hn hc hcm hb hxx =>
    subst hn
    cases hb' with
    | nil =>
      repeat' ((conv => whnf); first | (refine Exists.intro ([] : List Nat) ?_) | (refine And.intro rfl ?_) | (refine And.intro (by decide +kernel) ?_) | (refine And.intro trivial ?_) | (refine Exists.intro _ (And.intro rfl (And.intro rfl (And.intro (Nat.le_of_ble_eq_true rfl) ?_)))) | (refine Exists.intro _ (And.intro rfl (And.intro rfl (And.intro rfl (And.intro (Nat.le_of_ble_eq_true rfl) ?_))))) | (refine And.intro (Exists.intro _ (And.intro rfl rfl)) ?_) | (exact fun hW => absurd hW (by decide +kernel)) | (intro hW; (try simp only [Bool.not_true, Bool.not_false, Bool.not_eq_true', Bool.not_eq_false', decide_eq_true_eq, decide_eq_false_iff_not, reduceCtorEq, Bool.true_eq_false, Bool.false_eq_true, mk_size, List.size_toArray, ByteArray.size_append, ByteArray.size_extract, List.length_cons, List.length_nil, ba_get, ba_empty, Int.toNat_natCast] at hW)) | (refine And.intro (?_ : _ → _) (?_ : _ → _)) | (refine FinR.drop 0 (Nat.zero_le _) (Closed.zero _) rfl ?_) | (refine FinR.keep ?_) | (refine And.intro (det3_agg rfl) ?_) | (refine fL_mk ?_) | (refine And.intro (by (try simp only [mk_size, List.size_toArray, ByteArray.size_append, ByteArray.size_extract, List.length_cons, List.length_nil]); omega) ?_) | (refine And.intro (by (try simp only [mk_size, List.size_toArray, ByteArray.size_append, ByteArray.size_extract, List.length_cons, List.length_nil, wrap64_eq]); omega) ?_) | fail)
      all_goals first | (exfalso; simp_all; done) | skip
      refine LoopR.unroll 1 ?_
      repeat' ((conv => whnf); first | (refine Exists.intro ([] : List Nat) ?_) | (refine And.intro rfl ?_) | (refine And.intro (by decide +kernel) ?_) | (refine And.intro trivial ?_) | (refine Exists.intro _ (And.intro rfl (And.intro rfl (And.intro (Nat.le_of_ble_eq_true rfl) ?_)))) | (refine Exists.intro _ (And.intro rfl (And.intro rfl (And.intro rfl (And.intro (Nat.le_of_ble_eq_true rfl) ?_))))) | (refine And.intro (Exists.intro _ (And.intro rfl rfl)) ?_) | (exact fun hW => absurd hW (by decide +kernel)) | (intro hW; (try simp only [Bool.not_true, Bool.not_false, Bool.not_eq_true', Bool.not_eq_false', decide_eq_true_eq, decide_eq_false_iff_not, reduceCtorEq, Bool.true_eq_false, Bool.false_eq_true, mk_size, List.size_toArray, ByteArray.size_append, ByteArray.size_extract, List.length_cons, List.length_nil, ba_get, ba_empty, Int.toNat_natCast] at hW)) | (refine And.intro (?_ : _ → _) (?_ : _ → _)) | (refine FinR.drop 0 (Nat.zero_le _) (Closed.zero _) rfl ?_) | (refine FinR.keep ?_) | (refine And.intro (det3_agg rfl) ?_) | (refine fL_mk ?_) | (refine And.intro (by (try simp only [mk_size, List.size_toArray, ByteArray.size_append, ByteArray.size_extract, List.length_cons, List.length_nil]); omega) ?_) | (refine And.intro (by (try simp only [mk_size, List.size_toArray, ByteArray.size_append, ByteArray.size_extract, List.length_cons, List.length_nil, wrap64_eq]); omega) ?_) | fail)
      all_goals first | (exfalso; simp_all; done) | (exfalso; omega) | exact h0
    | inn ad2 n2 cap2 xs2 hn2 hc2 hcm2 hb2 hxx2 =>
      have hnl : xs.length = n2 := hn2.symm
      subst hn2
      repeat' ((conv => whnf); first | (refine Exists.intro ([] : List Nat) ?_) | (refine And.intro rfl ?_) | (refine And.intro (by decide +kernel) ?_) | (refine And.intro trivial ?_) | (refine Exists.intro _ (And.intro rfl (And.intro rfl (And.intro (Nat.le_of_ble_eq_true rfl) ?_)))) | (refine Exists.intro _ (And.intro rfl (And.intro rfl (And.intro rfl (And.intro (Nat.le_of_ble_eq_true rfl) ?_))))) | (refine And.intro (Exists.intro _ (And.intro rfl rfl)) ?_) | (exact fun hW => absurd hW (by decide +kernel)) | (intro hW; (try simp only [Bool.not_true, Bool.not_false, Bool.not_eq_true', Bool.not_eq_false', decide_eq_true_eq, decide_eq_false_iff_not, reduceCtorEq, Bool.true_eq_false, Bool.false_eq_true, mk_size, List.size_toArray, ByteArray.size_append, ByteArray.size_extract, List.length_cons, List.length_nil, ba_get, ba_empty, Int.toNat_natCast] at hW)) | (refine And.intro (?_ : _ → _) (?_ : _ → _)) | (refine FinR.drop 0 (Nat.zero_le _) (Closed.zero _) rfl ?_) | (refine FinR.keep ?_) | (refine And.intro (det3_agg rfl) ?_) | (refine fL_mk ?_) | (refine And.intro (by (try simp only [mk_size, List.size_toArray, ByteArray.size_append, ByteArray.size_extract, List.length_cons, List.length_nil]); omega) ?_) | (refine And.intro (by (try simp only [mk_size, List.size_toArray, ByteArray.size_append, ByteArray.size_extract, List.length_cons, List.length_nil, wrap64_eq]); omega) ?_) | fail)
      all_goals first | (exfalso; omega) | (exfalso; simp_all; done) | skip
      refine LoopR.live (fun i : Nat => [(0, .lit (.slice (some ad) xs.length cap)), (1, .lit (.slice (some ad2) xs.length cap2)), (5, I i)]) (fun i => []) (fun i => i ≤ xs.length) (fun i => xs.length - i) 0 ⟨rfl, rfl, rfl, trivial⟩ (.keep rfl) (Nat.zero_le _) ?_
      intro i hi
      by_cases hlt : i < xs.length
      · have hxi : xs[i]? = some xs[i] := List.getElem?_eq_getElem hlt
        have hld := fun C h => ldIn (W0 := W0) (s := 1) (enc := en1) hb hxx (k := i) hxi rfl (C := C) h
        have hld2 := fun C h => ldIn (W0 := W0) (s := 1) (enc := en1) hb2 hxx2 (k := i) hxi rfl (C := C) h
        repeat' ((conv => whnf); first | (refine Exists.intro ([] : List Nat) ?_) | (refine And.intro rfl ?_) | (refine And.intro (by decide +kernel) ?_) | (refine And.intro trivial ?_) | (refine hld _ ?_) | (refine hld2 _ ?_) | (refine And.intro rfl (hld _ ?_)) | (refine And.intro rfl (hld2 _ ?_)) | (refine Exists.intro _ (And.intro rfl (And.intro rfl (And.intro (Nat.le_of_ble_eq_true rfl) ?_)))) | (refine Exists.intro _ (And.intro rfl (And.intro rfl (And.intro rfl (And.intro (Nat.le_of_ble_eq_true rfl) ?_))))) | (refine And.intro (Exists.intro _ (And.intro rfl rfl)) ?_) | (exact fun hW => absurd hW (by decide +kernel)) | (intro hW; (try simp only [Bool.not_true, Bool.not_false, Bool.not_eq_true', Bool.not_eq_false', decide_eq_true_eq, decide_eq_false_iff_not, reduceCtorEq, Bool.true_eq_false, Bool.false_eq_true, mk_size, List.size_toArray, ByteArray.size_append, ByteArray.size_extract, List.length_cons, List.length_nil, ba_get, ba_empty, Int.toNat_natCast] at hW)) | (refine And.intro (?_ : _ → _) (?_ : _ → _)) | (refine FinR.drop 0 (Nat.zero_le _) (Closed.zero _) rfl ?_) | (refine FinR.keep ?_) | (refine And.intro (det3_agg rfl) ?_) | (refine fL_mk ?_) | (refine And.intro (by (try simp only [mk_size, List.size_toArray, ByteArray.size_append, ByteArray.size_extract, List.length_cons, List.length_nil]); omega) ?_) | (refine And.intro (by (try simp only [mk_size, List.size_toArray, ByteArray.size_append, ByteArray.size_extract, List.length_cons, List.length_nil, wrap64_eq]); omega) ?_) | fail)
        all_goals first | (exfalso; omega) | (exfalso; simp_all; done) | skip
        exact Again.go (i + 1) ⟨rfl, rfl, slI' (wsucc' i (by omega)), trivial⟩ (.keep rfl) (by omega) (by omega)
      · obtain rfl : i = xs.length := by omega
        repeat' ((conv => whnf); first | (refine Exists.intro ([] : List Nat) ?_) | (refine And.intro rfl ?_) | (refine And.intro (by decide +kernel) ?_) | (refine And.intro trivial ?_) | (refine Exists.intro _ (And.intro rfl (And.intro rfl (And.intro (Nat.le_of_ble_eq_true rfl) ?_)))) | (refine Exists.intro _ (And.intro rfl (And.intro rfl (And.intro rfl (And.intro (Nat.le_of_ble_eq_true rfl) ?_))))) | (refine And.intro (Exists.intro _ (And.intro rfl rfl)) ?_) | (exact fun hW => absurd hW (by decide +kernel)) | (intro hW; (try simp only [Bool.not_true, Bool.not_false, Bool.not_eq_true', Bool.not_eq_false', decide_eq_true_eq, decide_eq_false_iff_not, reduceCtorEq, Bool.true_eq_false, Bool.false_eq_true, mk_size, List.size_toArray, ByteArray.size_append, ByteArray.size_extract, List.length_cons, List.length_nil, ba_get, ba_empty, Int.toNat_natCast] at hW)) | (refine And.intro (?_ : _ → _) (?_ : _ → _)) | (refine FinR.drop 0 (Nat.zero_le _) (Closed.zero _) rfl ?_) | (refine FinR.keep ?_) | (refine And.intro (det3_agg rfl) ?_) | (refine fL_mk ?_) | (refine And.intro (by (try simp only [mk_size, List.size_toArray, ByteArray.size_append, ByteArray.size_extract, List.length_cons, List.length_nil]); omega) ?_) | (refine And.intro (by (try simp only [mk_size, List.size_toArray, ByteArray.size_append, ByteArray.size_extract, List.length_cons, List.length_nil, wrap64_eq]); omega) ?_) | fail)
        all_goals first | (exfalso; omega) | exact h0
    | own b ver off n cap B xs hB => simp at hB
  | own b ver off n cap B xs hB => simp at hB
theorem d_eqIntS (a b : AV) (xs : List Int) (ha : Sli W0 σ 1 en1 a xs) (hb' : Sli W0 σ 1 en1 b xs) (hl : xs.length ≤ 1048576) (K : Cont) (h0 : K (Bo true) σ) : ACall Try.prog W0 20 [a, b] σ K :=
  lift_Ss (by kernel_rfl) (fun _ => rfl) ha hb' (fun W1 a' b' h h' K hK => c_eqIntS a' b' xs h h' hl K hK) K h0
/-! marks -/
/-- so many numbers, in order -/
def marks (k : Int) (n : Nat) : List Int := (List.range n).map fun i : Nat => k + i
theorem marks_len (k : Int) (n : Nat) : (marks k n).length = n := by simp [marks]
theorem marks_succ (k : Int) (n : Nat) : marks k (n + 1) = marks k n ++ [k + n] := by simp [marks, List.range_succ]
theorem marks_get (k : Int) {n i : Nat} (h : i < n) : (marks k n)[i]? = some (k + i) := by simp [marks, h]
/-- a block whose first cells are marked -/
def mB (B : Blk) (k : Int) (i : Nat) : Blk := { B with cells := (marks k i).map I ++ B.cells.drop i }
theorem mB_zero (B : Blk) (k : Int) : mB B k 0 = B := by simp [mB, marks]
theorem mB_step {B : Blk} {k : Int} {i : Nat} (h : i < B.cells.length) : ({ mB B k i with cells := (mB B k i).cells.take i ++ [I (k + i)] ++ (mB B k i).cells.drop (i + 1) } : Blk) = mB B k (i + 1) := by
  have hl : ((marks k i).map I).length = i := by rw [List.length_map, marks_len]
  have e1 : ((marks k i).map I ++ B.cells.drop i).take i = (marks k i).map I := by rw [List.take_left' hl]
  have e2 : ((marks k i).map I ++ B.cells.drop i).drop (i + 1) = B.cells.drop (i + 1) := by
    rw [← List.drop_drop, List.drop_left' hl, List.drop_drop]
  simp only [mB, e1, e2, marks_succ, List.map_append, List.map_cons, List.map_nil]
theorem wadd (k : Int) (i : Nat) (h : -4611686018427387904 ≤ k ∧ k + i < 4611686018427387904) : IntKind.i64.wrap (k + (i : Int) + 1) = k + ((i + 1 : Nat) : Int) := by rw [wrap_i64 _ (by omega) (by omega)]; omega
/-- a marked cell more -/
theorem st_mark {σ : List Blk} {C : List Blk → Prop} {b ver : Nat} {B : Blk} {k : Int} (hB : σ[b]? = some B) (hv : B.ver = ver) (m off : Nat) (v : Int) (ho : off = m) (hv' : v = k + m) (hm : m < B.cells.length) (h : C (σ.set b (mB B k (m + 1)))) :
    ∃ B', (σ.set b (mB B k m))[b]? = some B' ∧ B'.ver = ver ∧ [AV.lit (.int .i64 v)].length = 1 ∧ off + 1 ≤ B'.cells.length ∧ fS ((σ.set b (mB B k m)).set b { B' with cells := B'.cells.take off ++ [AV.lit (.int .i64 v)] ++ B'.cells.drop (off + 1) }) C := by
  subst ho; subst hv'
  refine ⟨mB B k off, get_set hB, hv, rfl, ?_, ?_⟩
  · show off + 1 ≤ ((marks k off).map I ++ B.cells.drop off).length
    rw [List.length_append, List.length_map, marks_len, List.length_drop]; omega
  · rw [fS_eq, List.set_set, mB_step hm]; exact h
theorem d_markIntS (b ver n cap : Nat) (B : Blk) (hB : σ[b]? = some B) (hv : B.ver = ver) (hn : n ≤ B.cells.length) (hn2 : n ≤ 16777216) (k : Int) (hk : 0 ≤ k ∧ k ≤ 16777216) (K : Cont) (h0 : K (I (k + n)) (σ.set b (mB B k n))) : ACall Try.prog W0 21 [.sl b ver 0 n cap, I k] σ K := by
  refine by21 (Nat.le_of_ble_eq_true rfl) ?_
  repeat' ((conv => whnf); first | (refine Exists.intro ([] : List Nat) ?_) | (refine And.intro rfl ?_) | (refine And.intro (by decide +kernel) ?_) | (refine And.intro trivial ?_) | (refine Exists.intro _ (And.intro rfl (And.intro rfl (And.intro (Nat.le_of_ble_eq_true rfl) ?_)))) | (refine Exists.intro _ (And.intro rfl (And.intro rfl (And.intro rfl (And.intro (Nat.le_of_ble_eq_true rfl) ?_))))) | (refine And.intro (Exists.intro _ (And.intro rfl rfl)) ?_) | (exact fun hW => absurd hW (by decide +kernel)) | (intro hW; (try simp only [Bool.not_true, Bool.not_false, Bool.not_eq_true', Bool.not_eq_false', decide_eq_true_eq, decide_eq_false_iff_not, reduceCtorEq, Bool.true_eq_false, Bool.false_eq_true, mk_size, List.size_toArray, ByteArray.size_append, ByteArray.size_extract, List.length_cons, List.length_nil, ba_get, ba_empty, Int.toNat_natCast] at hW)) | (refine And.intro (?_ : _ → _) (?_ : _ → _)) | (refine FinR.drop 0 (Nat.zero_le _) (Closed.zero _) rfl ?_) | (refine FinR.keep ?_) | (refine And.intro (det3_agg rfl) ?_) | (refine fL_mk ?_) | (refine And.intro (by (try simp only [mk_size, List.size_toArray, ByteArray.size_append, ByteArray.size_extract, List.length_cons, List.length_nil]); omega) ?_) | (refine And.intro (by (try simp only [mk_size, List.size_toArray, ByteArray.size_append, ByteArray.size_extract, List.length_cons, List.length_nil, wrap64_eq]); omega) ?_) | fail)
  refine LoopR.live (fun i : Nat => [(0, .sl b ver 0 n cap), (1, I (k + i)), (5, I i)]) (fun i => σ.set b (mB B k i)) (fun i => i ≤ n) (fun i => n - i) 0 ⟨rfl, slI' (by omega), rfl, trivial⟩ (.keep (by show σ.set b (mB B k 0) = σ; rw [mB_zero, set_self hB])) (Nat.zero_le _) ?_
  intro i hi
  have hcur : ∃ B', (σ.set b (mB B k i))[b]? = some B' ∧ B'.ver = ver := ⟨_, get_set hB, hv⟩
  by_cases hlt : i < n
  · skip
    repeat' ((conv => whnf); first | (refine Exists.intro ([] : List Nat) ?_) | (refine And.intro rfl ?_) | (refine And.intro (by decide +kernel) ?_) | (refine And.intro trivial ?_) | (refine And.intro hcur ?_) | (refine st_mark hB hv i _ _ (by omega) rfl (by omega) ?_) | (refine Exists.intro _ (And.intro rfl (And.intro rfl (And.intro (Nat.le_of_ble_eq_true rfl) ?_)))) | (refine Exists.intro _ (And.intro rfl (And.intro rfl (And.intro rfl (And.intro (Nat.le_of_ble_eq_true rfl) ?_))))) | (refine And.intro (Exists.intro _ (And.intro rfl rfl)) ?_) | (exact fun hW => absurd hW (by decide +kernel)) | (intro hW; (try simp only [Bool.not_true, Bool.not_false, Bool.not_eq_true', Bool.not_eq_false', decide_eq_true_eq, decide_eq_false_iff_not, reduceCtorEq, Bool.true_eq_false, Bool.false_eq_true, mk_size, List.size_toArray, ByteArray.size_append, ByteArray.size_extract, List.length_cons, List.length_nil, ba_get, ba_empty, Int.toNat_natCast] at hW)) | (refine And.intro (?_ : _ → _) (?_ : _ → _)) | (refine FinR.drop 0 (Nat.zero_le _) (Closed.zero _) rfl ?_) | (refine FinR.keep ?_) | (refine And.intro (det3_agg rfl) ?_) | (refine fL_mk ?_) | (refine And.intro (by (try simp only [mk_size, List.size_toArray, ByteArray.size_append, ByteArray.size_extract, List.length_cons, List.length_nil]); omega) ?_) | (refine And.intro (by (try simp only [mk_size, List.size_toArray, ByteArray.size_append, ByteArray.size_extract, List.length_cons, List.length_nil, wrap64_eq]); omega) ?_) | fail)
    all_goals first | (exfalso; omega) | skip
    exact Again.go (i + 1) ⟨rfl, slI' (wadd k i (by omega)), slI' (wsucc' i (by omega)), trivial⟩ (.keep rfl) (by omega) (by omega)
  · obtain rfl : i = n := by omega
    repeat' ((conv => whnf); first | (refine Exists.intro ([] : List Nat) ?_) | (refine And.intro rfl ?_) | (refine And.intro (by decide +kernel) ?_) | (refine And.intro trivial ?_) | (refine And.intro hcur ?_) | (refine Exists.intro _ (And.intro rfl (And.intro rfl (And.intro (Nat.le_of_ble_eq_true rfl) ?_)))) | (refine Exists.intro _ (And.intro rfl (And.intro rfl (And.intro rfl (And.intro (Nat.le_of_ble_eq_true rfl) ?_))))) | (refine And.intro (Exists.intro _ (And.intro rfl rfl)) ?_) | (exact fun hW => absurd hW (by decide +kernel)) | (intro hW; (try simp only [Bool.not_true, Bool.not_false, Bool.not_eq_true', Bool.not_eq_false', decide_eq_true_eq, decide_eq_false_iff_not, reduceCtorEq, Bool.true_eq_false, Bool.false_eq_true, mk_size, List.size_toArray, ByteArray.size_append, ByteArray.size_extract, List.length_cons, List.length_nil, ba_get, ba_empty, Int.toNat_natCast] at hW)) | (refine And.intro (?_ : _ → _) (?_ : _ → _)) | (refine FinR.drop 0 (Nat.zero_le _) (Closed.zero _) rfl ?_) | (refine FinR.keep ?_) | (refine And.intro (det3_agg rfl) ?_) | (refine fL_mk ?_) | (refine And.intro (by (try simp only [mk_size, List.size_toArray, ByteArray.size_append, ByteArray.size_extract, List.length_cons, List.length_nil]); omega) ?_) | (refine And.intro (by (try simp only [mk_size, List.size_toArray, ByteArray.size_append, ByteArray.size_extract, List.length_cons, List.length_nil, wrap64_eq]); omega) ?_) | fail)
    all_goals first | (exfalso; omega) | exact h0
theorem d_markIntS0 (k : Int) (K : Cont) (h0 : K (I k) σ) : ACall Try.prog W0 21 [.lit (.slice none 0 0), I k] σ K := by
  refine by21 (Nat.le_of_ble_eq_true rfl) ?_
  repeat' ((conv => whnf); first | (refine Exists.intro ([] : List Nat) ?_) | (refine And.intro rfl ?_) | (refine And.intro (by decide +kernel) ?_) | (refine And.intro trivial ?_) | (refine Exists.intro _ (And.intro rfl (And.intro rfl (And.intro (Nat.le_of_ble_eq_true rfl) ?_)))) | (refine Exists.intro _ (And.intro rfl (And.intro rfl (And.intro rfl (And.intro (Nat.le_of_ble_eq_true rfl) ?_))))) | (refine And.intro (Exists.intro _ (And.intro rfl rfl)) ?_) | (exact fun hW => absurd hW (by decide +kernel)) | (intro hW; (try simp only [Bool.not_true, Bool.not_false, Bool.not_eq_true', Bool.not_eq_false', decide_eq_true_eq, decide_eq_false_iff_not, reduceCtorEq, Bool.true_eq_false, Bool.false_eq_true, mk_size, List.size_toArray, ByteArray.size_append, ByteArray.size_extract, List.length_cons, List.length_nil, ba_get, ba_empty, Int.toNat_natCast] at hW)) | (refine And.intro (?_ : _ → _) (?_ : _ → _)) | (refine FinR.drop 0 (Nat.zero_le _) (Closed.zero _) rfl ?_) | (refine FinR.keep ?_) | (refine And.intro (det3_agg rfl) ?_) | (refine fL_mk ?_) | (refine And.intro (by (try simp only [mk_size, List.size_toArray, ByteArray.size_append, ByteArray.size_extract, List.length_cons, List.length_nil]); omega) ?_) | (refine And.intro (by (try simp only [mk_size, List.size_toArray, ByteArray.size_append, ByteArray.size_extract, List.length_cons, List.length_nil, wrap64_eq]); omega) ?_) | fail)
  refine LoopR.unroll 1 ?_
  repeat' ((conv => whnf); first | (refine Exists.intro ([] : List Nat) ?_) | (refine And.intro rfl ?_) | (refine And.intro (by decide +kernel) ?_) | (refine And.intro trivial ?_) | (refine Exists.intro _ (And.intro rfl (And.intro rfl (And.intro (Nat.le_of_ble_eq_true rfl) ?_)))) | (refine Exists.intro _ (And.intro rfl (And.intro rfl (And.intro rfl (And.intro (Nat.le_of_ble_eq_true rfl) ?_))))) | (refine And.intro (Exists.intro _ (And.intro rfl rfl)) ?_) | (exact fun hW => absurd hW (by decide +kernel)) | (intro hW; (try simp only [Bool.not_true, Bool.not_false, Bool.not_eq_true', Bool.not_eq_false', decide_eq_true_eq, decide_eq_false_iff_not, reduceCtorEq, Bool.true_eq_false, Bool.false_eq_true, mk_size, List.size_toArray, ByteArray.size_append, ByteArray.size_extract, List.length_cons, List.length_nil, ba_get, ba_empty, Int.toNat_natCast] at hW)) | (refine And.intro (?_ : _ → _) (?_ : _ → _)) | (refine FinR.drop 0 (Nat.zero_le _) (Closed.zero _) rfl ?_) | (refine FinR.keep ?_) | (refine And.intro (det3_agg rfl) ?_) | (refine fL_mk ?_) | (refine And.intro (by (try simp only [mk_size, List.size_toArray, ByteArray.size_append, ByteArray.size_extract, List.length_cons, List.length_nil]); omega) ?_) | (refine And.intro (by (try simp only [mk_size, List.size_toArray, ByteArray.size_append, ByteArray.size_extract, List.length_cons, List.length_nil, wrap64_eq]); omega) ?_) | fail)
  all_goals first | (exfalso; omega) | exact h0
theorem sli_marks {b ver n cap : Nat} {B : Blk} {k : Int} (hB : σ[b]? = some B) (hv : B.ver = ver) : Sli W0 (σ.set b (mB B k n)) 1 en1 (.sl b ver 0 n cap) (marks k n) :=
  .own b ver 0 _ cap _ _ (get_set hB) hv (marks_len k n).symm fun i x hi j v hj => by
    have hlt : i < n := by have := getElem?_lt hi; rwa [marks_len] at this
    cases j with
    | zero =>
      simp only [List.getElem?_cons_zero, Option.some.injEq] at hj
      subst hj
      show ((marks k n).map I ++ B.cells.drop n)[0 + i * 1 + 0]? = _
      rw [show 0 + i * 1 + 0 = i by omega, List.getElem?_append_left (by rw [List.length_map, marks_len]; exact hlt), List.getElem?_map, hi]; rfl
    | succ j => simp at hj
theorem c_heldIntS (a : AV) (n : Nat) (k : Int) (ha : Sli W0 [] 1 en1 a (marks k n)) (hn2 : n ≤ 16777216) (hk : 0 ≤ k ∧ k ≤ 16777216) (K : Cont) (h0 : K (I (k + n)) []) : ACall Try.prog W0 22 [a, I k] [] K := by
  refine by22 (Nat.le_of_ble_eq_true rfl) ?_
  have hl := marks_len k n
  generalize hm : marks k n = xs at ha hl
  cases ha with
  | nil =>
    have : n = 0 := by simpa using hl.symm
    subst this
    rw [show k + ((0 : Nat) : Int) = k by omega] at h0
    repeat' ((conv => whnf); first | (refine Exists.intro ([] : List Nat) ?_) | (refine And.intro rfl ?_) | (refine And.intro (by decide +kernel) ?_) | (refine And.intro trivial ?_) | (refine Exists.intro _ (And.intro rfl (And.intro rfl (And.intro (Nat.le_of_ble_eq_true rfl) ?_)))) | (refine Exists.intro _ (And.intro rfl (And.intro rfl (And.intro rfl (And.intro (Nat.le_of_ble_eq_true rfl) ?_))))) | (refine And.intro (Exists.intro _ (And.intro rfl rfl)) ?_) | (exact fun hW => absurd hW (by decide +kernel)) | (intro hW; (try simp only [Bool.not_true, Bool.not_false, Bool.not_eq_true', Bool.not_eq_false', decide_eq_true_eq, decide_eq_false_iff_not, reduceCtorEq, Bool.true_eq_false, Bool.false_eq_true, mk_size, List.size_toArray, ByteArray.size_append, ByteArray.size_extract, List.length_cons, List.length_nil, ba_get, ba_empty, Int.toNat_natCast] at hW)) | (refine And.intro (?_ : _ → _) (?_ : _ → _)) | (refine FinR.drop 0 (Nat.zero_le _) (Closed.zero _) rfl ?_) | (refine FinR.keep ?_) | (refine And.intro (det3_agg rfl) ?_) | (refine fL_mk ?_) | (refine And.intro (by (try simp only [mk_size, List.size_toArray, ByteArray.size_append, ByteArray.size_extract, List.length_cons, List.length_nil]); omega) ?_) | (refine And.intro (by (try simp only [mk_size, List.size_toArray, ByteArray.size_append, ByteArray.size_extract, List.length_cons, List.length_nil, wrap64_eq]); omega) ?_) | fail)
    refine LoopR.unroll 1 ?_
    repeat' ((conv => whnf); first | (refine Exists.intro ([] : List Nat) ?_) | (refine And.intro rfl ?_) | (refine And.intro (by decide +kernel) ?_) | (refine And.intro trivial ?_) | (refine Exists.intro _ (And.intro rfl (And.intro rfl (And.intro (Nat.le_of_ble_eq_true rfl) ?_)))) | (refine Exists.intro _ (And.intro rfl (And.intro rfl (And.intro rfl (And.intro (Nat.le_of_ble_eq_true rfl) ?_))))) | (refine And.intro (Exists.intro _ (And.intro rfl rfl)) ?_) | (exact fun hW => absurd hW (by decide +kernel)) | (intro hW; (try simp only [Bool.not_true, Bool.not_false, Bool.not_eq_true', Bool.not_eq_false', decide_eq_true_eq, decide_eq_false_iff_not, reduceCtorEq, Bool.true_eq_false, Bool.false_eq_true, mk_size, List.size_toArray, ByteArray.size_append, ByteArray.size_extract, List.length_cons, List.length_nil, ba_get, ba_empty, Int.toNat_natCast] at hW)) | (refine And.intro (?_ : _ → _) (?_ : _ → _)) | (refine FinR.drop 0 (Nat.zero_le _) (Closed.zero _) rfl ?_) | (refine FinR.keep ?_) | (refine And.intro (det3_agg rfl) ?_) | (refine fL_mk ?_) | (refine And.intro (by (try simp only [mk_size, List.size_toArray, ByteArray.size_append, ByteArray.size_extract, List.length_cons, List.length_nil]); omega) ?_) | (refine And.intro (by (try simp only [mk_size, List.size_toArray, ByteArray.size_append, ByteArray.size_extract, List.length_cons, List.length_nil, wrap64_eq]); omega) ?_) | fail)
    all_goals first | (exfalso; omega) | exact h0
  | inn ad n' cap xs hn hc hcm hb hxx =>
    rw [hl] at hn
    subst hn
    repeat' ((conv => whnf); first | (refine Exists.intro ([] : List Nat) ?_) | (refine And.intro rfl ?_) | (refine And.intro (by decide +kernel) ?_) | (refine And.intro trivial ?_) | (refine Exists.intro _ (And.intro rfl (And.intro rfl (And.intro (Nat.le_of_ble_eq_true rfl) ?_)))) | (refine Exists.intro _ (And.intro rfl (And.intro rfl (And.intro rfl (And.intro (Nat.le_of_ble_eq_true rfl) ?_))))) | (refine And.intro (Exists.intro _ (And.intro rfl rfl)) ?_) | (exact fun hW => absurd hW (by decide +kernel)) | (intro hW; (try simp only [Bool.not_true, Bool.not_false, Bool.not_eq_true', Bool.not_eq_false', decide_eq_true_eq, decide_eq_false_iff_not, reduceCtorEq, Bool.true_eq_false, Bool.false_eq_true, mk_size, List.size_toArray, ByteArray.size_append, ByteArray.size_extract, List.length_cons, List.length_nil, ba_get, ba_empty, Int.toNat_natCast] at hW)) | (refine And.intro (?_ : _ → _) (?_ : _ → _)) | (refine FinR.drop 0 (Nat.zero_le _) (Closed.zero _) rfl ?_) | (refine FinR.keep ?_) | (refine And.intro (det3_agg rfl) ?_) | (refine fL_mk ?_) | (refine And.intro (by (try simp only [mk_size, List.size_toArray, ByteArray.size_append, ByteArray.size_extract, List.length_cons, List.length_nil]); omega) ?_) | (refine And.intro (by (try simp only [mk_size, List.size_toArray, ByteArray.size_append, ByteArray.size_extract, List.length_cons, List.length_nil, wrap64_eq]); omega) ?_) | fail)
    refine LoopR.live (fun i : Nat => [(0, .lit (.slice (some ad) n' cap)), (1, I (k + i)), (5, I i)]) (fun i => []) (fun i => i ≤ n') (fun i => n' - i) 0 ⟨rfl, slI' (by omega), rfl, trivial⟩ (.keep rfl) (Nat.zero_le _) ?_
    intro i hi
    by_cases hlt : i < n'
    · have hxi : xs[i]? = some (k + i) := by rw [← hm]; exact marks_get k hlt
      have hld := fun C h => ldIn (W0 := W0) (s := 1) (enc := en1) hb hxx (k := i) hxi rfl (C := C) h
      repeat' ((conv => whnf); first | (refine Exists.intro ([] : List Nat) ?_) | (refine And.intro rfl ?_) | (refine And.intro (by decide +kernel) ?_) | (refine And.intro trivial ?_) | (refine hld _ ?_) | (refine Exists.intro _ (And.intro rfl (And.intro rfl (And.intro (Nat.le_of_ble_eq_true rfl) ?_)))) | (refine Exists.intro _ (And.intro rfl (And.intro rfl (And.intro rfl (And.intro (Nat.le_of_ble_eq_true rfl) ?_))))) | (refine And.intro (Exists.intro _ (And.intro rfl rfl)) ?_) | (exact fun hW => absurd hW (by decide +kernel)) | (intro hW; (try simp only [Bool.not_true, Bool.not_false, Bool.not_eq_true', Bool.not_eq_false', decide_eq_true_eq, decide_eq_false_iff_not, reduceCtorEq, Bool.true_eq_false, Bool.false_eq_true, mk_size, List.size_toArray, ByteArray.size_append, ByteArray.size_extract, List.length_cons, List.length_nil, ba_get, ba_empty, Int.toNat_natCast] at hW)) | (refine And.intro (?_ : _ → _) (?_ : _ → _)) | (refine FinR.drop 0 (Nat.zero_le _) (Closed.zero _) rfl ?_) | (refine FinR.keep ?_) | (refine And.intro (det3_agg rfl) ?_) | (refine fL_mk ?_) | (refine And.intro (by (try simp only [mk_size, List.size_toArray, ByteArray.size_append, ByteArray.size_extract, List.length_cons, List.length_nil]); omega) ?_) | (refine And.intro (by (try simp only [mk_size, List.size_toArray, ByteArray.size_append, ByteArray.size_extract, List.length_cons, List.length_nil, wrap64_eq]); omega) ?_) | fail)
      all_goals first | (exfalso; omega) | (exfalso; simp_all; done) | skip
      exact Again.go (i + 1) ⟨rfl, slI' (wadd k i (by omega)), slI' (wsucc' i (by omega)), trivial⟩ (.keep rfl) (by omega) (by omega)
    · obtain rfl : i = n' := by omega
      repeat' ((conv => whnf); first | (refine Exists.intro ([] : List Nat) ?_) | (refine And.intro rfl ?_) | (refine And.intro (by decide +kernel) ?_) | (refine And.intro trivial ?_) | (refine Exists.intro _ (And.intro rfl (And.intro rfl (And.intro (Nat.le_of_ble_eq_true rfl) ?_)))) | (refine Exists.intro _ (And.intro rfl (And.intro rfl (And.intro rfl (And.intro (Nat.le_of_ble_eq_true rfl) ?_))))) | (refine And.intro (Exists.intro _ (And.intro rfl rfl)) ?_) | (exact fun hW => absurd hW (by decide +kernel)) | (intro hW; (try simp only [Bool.not_true, Bool.not_false, Bool.not_eq_true', Bool.not_eq_false', decide_eq_true_eq, decide_eq_false_iff_not, reduceCtorEq, Bool.true_eq_false, Bool.false_eq_true, mk_size, List.size_toArray, ByteArray.size_append, ByteArray.size_extract, List.length_cons, List.length_nil, ba_get, ba_empty, Int.toNat_natCast] at hW)) | (refine And.intro (?_ : _ → _) (?_ : _ → _)) | (refine FinR.drop 0 (Nat.zero_le _) (Closed.zero _) rfl ?_) | (refine FinR.keep ?_) | (refine And.intro (det3_agg rfl) ?_) | (refine fL_mk ?_) | (refine And.intro (by (try simp only [mk_size, List.size_toArray, ByteArray.size_append, ByteArray.size_extract, List.length_cons, List.length_nil]); omega) ?_) | (refine And.intro (by (try simp only [mk_size, List.size_toArray, ByteArray.size_append, ByteArray.size_extract, List.length_cons, List.length_nil, wrap64_eq]); omega) ?_) | fail)
      all_goals first | (exfalso; omega) | exact h0
  | own b ver off n cap B xs hB => simp at hB
theorem d_heldIntS (a : AV) (n : Nat) (k : Int) (ha : Sli W0 σ 1 en1 a (marks k n)) (hn2 : n ≤ 16777216) (hk : 0 ≤ k ∧ k ≤ 16777216) (K : Cont) (h0 : K (I (k + n)) σ) : ACall Try.prog W0 22 [a, I k] σ K :=
  lift_Sp (by kernel_rfl) rfl (fun _ => rfl) ha (fun W1 a' h K hK => c_heldIntS a' n k h hn2 hk K hK) K h0
end Go.Proofs.Ytbbmlnaekefaaaa
end

section
/- Contracts: pairs, prints: made, compared, marked. -/
set_option linter.unusedVariables false
set_option linter.unusedSimpArgs false
set_option maxRecDepth 100000
set_option maxHeartbeats 4000000
namespace Go.Proofs.Ytbbmlnaekefaaaa
open Go Go.RowKit Go.Proofs.Ytbbmlnaekefaaaa.Abs
variable {W0 : World} {σ : List Blk}
theorem c_toIntA2 (x y : Int) (K : Cont) (h0 : K (.agg [I x, I y]) []) : ACall Try.prog W0 38 [.agg [I x, I y]] [] K := by
  refine by38 (Nat.le_of_ble_eq_true rfl) ?_
  repeat' ((conv => whnf); first | (refine Exists.intro ([] : List Nat) ?_) | (refine And.intro rfl ?_) | (refine And.intro (by decide +kernel) ?_) | (refine And.intro trivial ?_) | (refine LoopR.unroll 3 ?_) | (refine Exists.intro _ (And.intro rfl (And.intro rfl (And.intro (Nat.le_of_ble_eq_true rfl) ?_)))) | (refine Exists.intro _ (And.intro rfl (And.intro rfl (And.intro rfl (And.intro (Nat.le_of_ble_eq_true rfl) ?_))))) | (refine And.intro (Exists.intro _ (And.intro rfl rfl)) ?_) | (exact fun hW => absurd hW (by decide +kernel)) | (intro hW; (try simp only [Bool.not_true, Bool.not_false, Bool.not_eq_true', Bool.not_eq_false', decide_eq_true_eq, decide_eq_false_iff_not, reduceCtorEq, Bool.true_eq_false, Bool.false_eq_true, mk_size, List.size_toArray, ByteArray.size_append, ByteArray.size_extract, List.length_cons, List.length_nil, ba_get, ba_empty, Int.toNat_natCast] at hW)) | (refine And.intro (?_ : _ → _) (?_ : _ → _)) | (refine FinR.drop 0 (Nat.zero_le _) (Closed.zero _) rfl ?_) | (refine FinR.keep ?_) | (refine And.intro (det3_agg rfl) ?_) | (refine fL_mk ?_) | (refine And.intro (by (try simp only [mk_size, List.size_toArray, ByteArray.size_append, ByteArray.size_extract, List.length_cons, List.length_nil]); omega) ?_) | (refine And.intro (by (try simp only [mk_size, List.size_toArray, ByteArray.size_append, ByteArray.size_extract, List.length_cons, List.length_nil, wrap64_eq]); omega) ?_) | fail)
  all_goals first | exact h0 | (refine Eq.mp (congrArg (fun v => K v []) ?_) h0; clear h0; simp_all <;> omega)
theorem d_toIntA2 (x y : Int) (K : Cont) (h0 : K (.agg [I x, I y]) σ) : ACall Try.prog W0 38 [.agg [I x, I y]] σ K :=
  ACall.lift rfl (fun _ => rfl) (fun W1 K _ hK => c_toIntA2 x y K hK) h0
theorem c_eqIntA2 (x y : Int) (K : Cont) (h0 : K (Bo true) []) : ACall Try.prog W0 29 [.agg [I x, I y], .agg [I x, I y]] [] K := by
  refine by29 (Nat.le_of_ble_eq_true rfl) ?_
  repeat' ((conv => whnf); first | (refine Exists.intro ([] : List Nat) ?_) | (refine And.intro rfl ?_) | (refine And.intro (by decide +kernel) ?_) | (refine And.intro trivial ?_) | (refine LoopR.unroll 3 ?_) | (refine Exists.intro _ (And.intro rfl (And.intro rfl (And.intro (Nat.le_of_ble_eq_true rfl) ?_)))) | (refine Exists.intro _ (And.intro rfl (And.intro rfl (And.intro rfl (And.intro (Nat.le_of_ble_eq_true rfl) ?_))))) | (refine And.intro (Exists.intro _ (And.intro rfl rfl)) ?_) | (exact fun hW => absurd hW (by decide +kernel)) | (intro hW; (try simp only [Bool.not_true, Bool.not_false, Bool.not_eq_true', Bool.not_eq_false', decide_eq_true_eq, decide_eq_false_iff_not, reduceCtorEq, Bool.true_eq_false, Bool.false_eq_true, mk_size, List.size_toArray, ByteArray.size_append, ByteArray.size_extract, List.length_cons, List.length_nil, ba_get, ba_empty, Int.toNat_natCast] at hW)) | (refine And.intro (?_ : _ → _) (?_ : _ → _)) | (refine FinR.drop 0 (Nat.zero_le _) (Closed.zero _) rfl ?_) | (refine FinR.keep ?_) | (refine And.intro (det3_agg rfl) ?_) | (refine fL_mk ?_) | (refine And.intro (by (try simp only [mk_size, List.size_toArray, ByteArray.size_append, ByteArray.size_extract, List.length_cons, List.length_nil]); omega) ?_) | (refine And.intro (by (try simp only [mk_size, List.size_toArray, ByteArray.size_append, ByteArray.size_extract, List.length_cons, List.length_nil, wrap64_eq]); omega) ?_) | fail)
  all_goals first | exact h0 | (exfalso; simp_all; done)
theorem d_eqIntA2 (x y : Int) (K : Cont) (h0 : K (Bo true) σ) : ACall Try.prog W0 29 [.agg [I x, I y], .agg [I x, I y]] σ K :=
  ACall.lift rfl (fun _ => rfl) (fun W1 K _ hK => c_eqIntA2 x y K hK) h0
theorem sli_rows {xs : List (List Int)} {b ver s : Nat} {e : TypeId} {z : Nat} {r m : Bool} {cap : Nat} (hx : ∀ x ∈ xs, x.length = s) (hb : σ[b]? = some ⟨jc xs, ver, e, z, r, m⟩) : Sli W0 σ s enI (.sl b ver 0 xs.length cap) xs :=
  .own b ver 0 _ cap _ _ hb rfl rfl fun i x hi j v hj => by
    rw [List.getElem?_map, Option.map_eq_some_iff] at hj
    obtain ⟨n, hn, rfl⟩ := hj
    rw [Nat.zero_add]
    exact jc_get hx hi hn
/-! prints -/
abbrev Pr (a b c d e f g h i : Int) : AV := .agg [I a, I b, I c, I d, I e, I f, I g, I h, I i]
theorem c_toPrint (a b c d e f g h i : Int) (K : Cont) (h0 : K (Pr a b c d e f g h i) []) : ACall Try.prog W0 27 [Pr a b c d e f g h i] [] K := by
  refine by27 (Nat.le_of_ble_eq_true rfl) ?_
  repeat' ((conv => whnf); first | (refine Exists.intro ([] : List Nat) ?_) | (refine And.intro rfl ?_) | (refine And.intro (by decide +kernel) ?_) | (refine And.intro trivial ?_) | (refine d_toSheet (h0 := ?_) ..) | (refine Exists.intro _ (And.intro (fun τ => callW_fn (d_toSheet (h0 := And.intro rfl rfl) ..)) ?_)) | (refine Exists.intro _ (And.intro (callW_fn (d_toSheet (h0 := And.intro rfl rfl) ..)) (And.intro trivial ?_))) | (refine Exists.intro _ (And.intro (callW_fn (d_toSheet (h0 := And.intro rfl rfl) ..)) ?_)) | (refine Exists.intro _ (And.intro (fun τ _ => callW_fn (d_toSheet (h0 := And.intro rfl rfl) ..)) ?_)) | (refine d_toIntA2 (h0 := ?_) ..) | (refine Exists.intro _ (And.intro (fun τ => callW_fn (d_toIntA2 (h0 := And.intro rfl rfl) ..)) ?_)) | (refine Exists.intro _ (And.intro (callW_fn (d_toIntA2 (h0 := And.intro rfl rfl) ..)) (And.intro trivial ?_))) | (refine Exists.intro _ (And.intro (callW_fn (d_toIntA2 (h0 := And.intro rfl rfl) ..)) ?_)) | (refine Exists.intro _ (And.intro (fun τ _ => callW_fn (d_toIntA2 (h0 := And.intro rfl rfl) ..)) ?_)) | (refine Exists.intro _ (And.intro rfl (And.intro rfl (And.intro (Nat.le_of_ble_eq_true rfl) ?_)))) | (refine Exists.intro _ (And.intro rfl (And.intro rfl (And.intro rfl (And.intro (Nat.le_of_ble_eq_true rfl) ?_))))) | (refine And.intro (Exists.intro _ (And.intro rfl rfl)) ?_) | (exact fun hW => absurd hW (by decide +kernel)) | (intro hW; (try simp only [Bool.not_true, Bool.not_false, Bool.not_eq_true', Bool.not_eq_false', decide_eq_true_eq, decide_eq_false_iff_not, reduceCtorEq, Bool.true_eq_false, Bool.false_eq_true, mk_size, List.size_toArray, ByteArray.size_append, ByteArray.size_extract, List.length_cons, List.length_nil, ba_get, ba_empty, Int.toNat_natCast] at hW)) | (refine And.intro (?_ : _ → _) (?_ : _ → _)) | (refine FinR.drop 0 (Nat.zero_le _) (Closed.zero _) rfl ?_) | (refine FinR.keep ?_) | (refine And.intro (det3_agg rfl) ?_) | (refine fL_mk ?_) | (refine And.intro (by (try simp only [mk_size, List.size_toArray, ByteArray.size_append, ByteArray.size_extract, List.length_cons, List.length_nil]); omega) ?_) | (refine And.intro (by (try simp only [mk_size, List.size_toArray, ByteArray.size_append, ByteArray.size_extract, List.length_cons, List.length_nil, wrap64_eq]); omega) ?_) | fail)
  all_goals first | exact h0 | (refine Eq.mp (congrArg (fun v => K v []) ?_) h0; clear h0; simp_all <;> omega)
theorem d_toPrint (a b c d e f g h i : Int) (K : Cont) (h0 : K (Pr a b c d e f g h i) σ) : ACall Try.prog W0 27 [Pr a b c d e f g h i] σ K :=
  ACall.lift rfl (fun _ => rfl) (fun W1 K _ hK => c_toPrint a b c d e f g h i K hK) h0
theorem row9 {xs : List (List Int)} (hx : ∀ x ∈ xs, x.length = 9) {n : Nat} (hlt : n < xs.length) : ∃ a b c d e f g h i, xs[n]? = some [a, b, c, d, e, f, g, h, i] := by
  have hxi : xs[n]? = some xs[n] := List.getElem?_eq_getElem hlt
  have := hx _ (List.mem_of_getElem? hxi)
  rw [hxi]
  match hh : xs[n], this with
  | [a, b, c, d, e, f, g, h, i], _ => exact ⟨a, b, c, d, e, f, g, h, i, rfl⟩
abbrev z9 : List AV := [I 0, I 0, I 0, I 0, I 0, I 0, I 0, I 0, I 0]
theorem c_toPrintS (a : AV) (xs : List (List Int)) (hs : Sli W0 [] 9 enI a xs) (hx : ∀ x ∈ xs, x.length = 9) (hl : xs.length ≤ 1048576) (K : Cont) (h0 : K (.sl 0 0 0 xs.length xs.length) [⟨jc xs, 0, 56, 9, true, true⟩]) : ACall Try.prog W0 8 [a] [] K := by
  refine by8 (Nat.le_of_ble_eq_true rfl) ?_
  cases hs with
  | nil =>
    repeat' ((conv => whnf); first | (refine Exists.intro ([] : List Nat) ?_) | (refine And.intro rfl ?_) | (refine And.intro (by decide +kernel) ?_) | (refine And.intro trivial ?_) | (refine Exists.intro _ (And.intro rfl (And.intro rfl (And.intro (Nat.le_of_ble_eq_true rfl) ?_)))) | (refine Exists.intro _ (And.intro rfl (And.intro rfl (And.intro rfl (And.intro (Nat.le_of_ble_eq_true rfl) ?_))))) | (refine And.intro (Exists.intro _ (And.intro rfl rfl)) ?_) | (exact fun hW => absurd hW (by decide +kernel)) | (intro hW; (try simp only [Bool.not_true, Bool.not_false, Bool.not_eq_true', Bool.not_eq_false', decide_eq_true_eq, decide_eq_false_iff_not, reduceCtorEq, Bool.true_eq_false, Bool.false_eq_true, mk_size, List.size_toArray, ByteArray.size_append, ByteArray.size_extract, List.length_cons, List.length_nil, ba_get, ba_empty, Int.toNat_natCast] at hW)) | (refine And.intro (?_ : _ → _) (?_ : _ → _)) | (refine FinR.drop 0 (Nat.zero_le _) (Closed.zero _) rfl ?_) | (refine FinR.keep ?_) | (refine And.intro (det3_agg rfl) ?_) | (refine fL_mk ?_) | (refine And.intro (by (try simp only [mk_size, List.size_toArray, ByteArray.size_append, ByteArray.size_extract, List.length_cons, List.length_nil]); omega) ?_) | (refine And.intro (by (try simp only [mk_size, List.size_toArray, ByteArray.size_append, ByteArray.size_extract, List.length_cons, List.length_nil, wrap64_eq]); omega) ?_) | fail)
    refine LoopR.unroll 1 ?_
    repeat' ((conv => whnf); first | (refine Exists.intro ([] : List Nat) ?_) | (refine And.intro rfl ?_) | (refine And.intro (by decide +kernel) ?_) | (refine And.intro trivial ?_) | (refine Exists.intro _ (And.intro rfl (And.intro rfl (And.intro (Nat.le_of_ble_eq_true rfl) ?_)))) | (refine Exists.intro _ (And.intro rfl (And.intro rfl (And.intro rfl (And.intro (Nat.le_of_ble_eq_true rfl) ?_))))) | (refine And.intro (Exists.intro _ (And.intro rfl rfl)) ?_) | (exact fun hW => absurd hW (by decide +kernel)) | (intro hW; (try simp only [Bool.not_true, Bool.not_false, Bool.not_eq_true', Bool.not_eq_false', decide_eq_true_eq, decide_eq_false_iff_not, reduceCtorEq, Bool.true_eq_false, Bool.false_eq_true, mk_size, List.size_toArray, ByteArray.size_append, ByteArray.size_extract, List.length_cons, List.length_nil, ba_get, ba_empty, Int.toNat_natCast] at hW)) | (refine And.intro (?_ : _ → _) (?_ : _ → _)) | (refine FinR.drop 0 (Nat.zero_le _) (Closed.zero _) rfl ?_) | (refine FinR.keep ?_) | (refine And.intro (det3_agg rfl) ?_) | (refine fL_mk ?_) | (refine And.intro (by (try simp only [mk_size, List.size_toArray, ByteArray.size_append, ByteArray.size_extract, List.length_cons, List.length_nil]); omega) ?_) | (refine And.intro (by (try simp only [mk_size, List.size_toArray, ByteArray.size_append, ByteArray.size_extract, List.length_cons, List.length_nil, wrap64_eq]); omega) ?_) | fail)
    all_goals first | (exfalso; omega) | exact h0
  | inn ad n cap xs hn hc hm hb hxx =>
    subst hn
    have hmk : (72 : Int) * (xs.length : Int) ≤ 281474976710656 := by omega
    have hmk2 : ((xs.length : Nat) : Int).toNat ≤ maxLen := by unfold maxLen; omega
    repeat' ((conv => whnf); first | (refine And.intro (Int.natCast_nonneg xs.length) (And.intro (Int.le_refl _) (And.intro hmk (And.intro (by omega) (And.intro hmk2 ?_))))) | (refine Exists.intro ([] : List Nat) ?_) | (refine And.intro rfl ?_) | (refine And.intro (by decide +kernel) ?_) | (refine And.intro trivial ?_) | (refine Exists.intro _ (And.intro rfl (And.intro rfl (And.intro (Nat.le_of_ble_eq_true rfl) ?_)))) | (refine Exists.intro _ (And.intro rfl (And.intro rfl (And.intro rfl (And.intro (Nat.le_of_ble_eq_true rfl) ?_))))) | (refine And.intro (Exists.intro _ (And.intro rfl rfl)) ?_) | (exact fun hW => absurd hW (by decide +kernel)) | (intro hW; (try simp only [Bool.not_true, Bool.not_false, Bool.not_eq_true', Bool.not_eq_false', decide_eq_true_eq, decide_eq_false_iff_not, reduceCtorEq, Bool.true_eq_false, Bool.false_eq_true, mk_size, List.size_toArray, ByteArray.size_append, ByteArray.size_extract, List.length_cons, List.length_nil, ba_get, ba_empty, Int.toNat_natCast] at hW)) | (refine And.intro (?_ : _ → _) (?_ : _ → _)) | (refine FinR.drop 0 (Nat.zero_le _) (Closed.zero _) rfl ?_) | (refine FinR.keep ?_) | (refine And.intro (det3_agg rfl) ?_) | (refine fL_mk ?_) | (refine And.intro (by (try simp only [mk_size, List.size_toArray, ByteArray.size_append, ByteArray.size_extract, List.length_cons, List.length_nil]); omega) ?_) | (refine And.intro (by (try simp only [mk_size, List.size_toArray, ByteArray.size_append, ByteArray.size_extract, List.length_cons, List.length_nil, wrap64_eq]); omega) ?_) | fail)
    refine LoopR.live (fun i : Nat => [(0, .lit (.slice (some ad) xs.length cap)), (3, .sl 0 0 0 xs.length xs.length), (4, I i)]) (fun i => [⟨jst xs i z9, 0, 56, 9, true, true⟩]) (fun i => i ≤ xs.length) (fun i => xs.length - i) 0 ⟨rfl, rfl, rfl, trivial⟩ (.keep rfl) (Nat.zero_le _) ?_
    intro i hi
    by_cases hlt : i < xs.length
    · obtain ⟨c0, c1, c2, c3, c4, c5, c6, c7, c8, hxi⟩ := row9 hx hlt
      have hld := fun C h => ldIn (W0 := W0) (s := 9) (enc := enI) hb hxx (k := i) hxi rfl (C := C) h
      have hlen : 0 + ((i : Nat) : Int).toNat * 9 + 9 ≤ (jst xs i z9).length := by rw [jst_len (s := 9) hx rfl hi, Int.toNat_natCast]; omega
      have hst := jst_step (s := 9) (zc := z9) hx rfl hxi
      repeat' ((conv => whnf); first | (refine Exists.intro _ (And.intro rfl (And.intro rfl (And.intro rfl (And.intro hlen ?_))))) | (refine Exists.intro ([] : List Nat) ?_) | (refine And.intro rfl ?_) | (refine And.intro (by decide +kernel) ?_) | (refine And.intro trivial ?_) | (refine hld _ ?_) | (refine d_toPrint (h0 := ?_) ..) | (refine Exists.intro _ (And.intro (fun τ => callW_fn (d_toPrint (h0 := And.intro rfl rfl) ..)) ?_)) | (refine Exists.intro _ (And.intro (callW_fn (d_toPrint (h0 := And.intro rfl rfl) ..)) (And.intro trivial ?_))) | (refine Exists.intro _ (And.intro (callW_fn (d_toPrint (h0 := And.intro rfl rfl) ..)) ?_)) | (refine Exists.intro _ (And.intro (fun τ _ => callW_fn (d_toPrint (h0 := And.intro rfl rfl) ..)) ?_)) | (refine Exists.intro _ (And.intro rfl (And.intro rfl (And.intro (Nat.le_of_ble_eq_true rfl) ?_)))) | (refine Exists.intro _ (And.intro rfl (And.intro rfl (And.intro rfl (And.intro (Nat.le_of_ble_eq_true rfl) ?_))))) | (refine And.intro (Exists.intro _ (And.intro rfl rfl)) ?_) | (exact fun hW => absurd hW (by decide +kernel)) | (intro hW; (try simp only [Bool.not_true, Bool.not_false, Bool.not_eq_true', Bool.not_eq_false', decide_eq_true_eq, decide_eq_false_iff_not, reduceCtorEq, Bool.true_eq_false, Bool.false_eq_true, mk_size, List.size_toArray, ByteArray.size_append, ByteArray.size_extract, List.length_cons, List.length_nil, ba_get, ba_empty, Int.toNat_natCast] at hW)) | (refine And.intro (?_ : _ → _) (?_ : _ → _)) | (refine FinR.drop 0 (Nat.zero_le _) (Closed.zero _) rfl ?_) | (refine FinR.keep ?_) | (refine And.intro (det3_agg rfl) ?_) | (refine fL_mk ?_) | (refine And.intro (by (try simp only [mk_size, List.size_toArray, ByteArray.size_append, ByteArray.size_extract, List.length_cons, List.length_nil]); omega) ?_) | (refine And.intro (by (try simp only [mk_size, List.size_toArray, ByteArray.size_append, ByteArray.size_extract, List.length_cons, List.length_nil, wrap64_eq]); omega) ?_) | fail)
      all_goals first | (exfalso; omega) | skip
      refine Again.go (i + 1) ⟨rfl, rfl, slI' (wsucc' i (by omega)), trivial⟩ (.keep ?_) (by omega) (by omega)
      show _ = [_]
      rw [← hst]
      simp only [Int.toNat_natCast, Nat.zero_add]
      rfl
    · obtain rfl : i = xs.length := by omega
      have e : jst xs xs.length z9 = jc xs := by simp [jst, rep]
      rw [e]
      repeat' ((conv => whnf); first | (refine Exists.intro ([] : List Nat) ?_) | (refine And.intro rfl ?_) | (refine And.intro (by decide +kernel) ?_) | (refine And.intro trivial ?_) | (refine Exists.intro _ (And.intro rfl (And.intro rfl (And.intro (Nat.le_of_ble_eq_true rfl) ?_)))) | (refine Exists.intro _ (And.intro rfl (And.intro rfl (And.intro rfl (And.intro (Nat.le_of_ble_eq_true rfl) ?_))))) | (refine And.intro (Exists.intro _ (And.intro rfl rfl)) ?_) | (exact fun hW => absurd hW (by decide +kernel)) | (intro hW; (try simp only [Bool.not_true, Bool.not_false, Bool.not_eq_true', Bool.not_eq_false', decide_eq_true_eq, decide_eq_false_iff_not, reduceCtorEq, Bool.true_eq_false, Bool.false_eq_true, mk_size, List.size_toArray, ByteArray.size_append, ByteArray.size_extract, List.length_cons, List.length_nil, ba_get, ba_empty, Int.toNat_natCast] at hW)) | (refine And.intro (?_ : _ → _) (?_ : _ → _)) | (refine FinR.drop 0 (Nat.zero_le _) (Closed.zero _) rfl ?_) | (refine FinR.keep ?_) | (refine And.intro (det3_agg rfl) ?_) | (refine fL_mk ?_) | (refine And.intro (by (try simp only [mk_size, List.size_toArray, ByteArray.size_append, ByteArray.size_extract, List.length_cons, List.length_nil]); omega) ?_) | (refine And.intro (by (try simp only [mk_size, List.size_toArray, ByteArray.size_append, ByteArray.size_extract, List.length_cons, List.length_nil, wrap64_eq]); omega) ?_) | fail)
      all_goals first | (exfalso; omega) | exact h0
  | own b ver off n cap B xs hB => simp at hB
theorem d_toPrintS (a : AV) (xs : List (List Int)) (hs : Sli W0 σ 9 enI a xs) (hx : ∀ x ∈ xs, x.length = 9) (hl : xs.length ≤ 1048576) (K : Cont) (h0 : K (.sl σ.length 0 0 xs.length xs.length) (σ ++ [⟨jc xs, 0, 56, 9, true, true⟩])) : ACall Try.prog W0 8 [a] σ K := by
  refine ACall.frameA (K0 := fun v σ' => v = .sl 0 0 0 xs.length xs.length ∧ σ' = [⟨jc xs, 0, 56, 9, true, true⟩]) (by kernel_rfl) (fun W1 ι vs hh hr => ?_) ?_
  · obtain ⟨v1, vs', rfl, hr1, hr2⟩ := Rels.uncons hr
    obtain ⟨a', ha, hs'⟩ := hs.conc hh ⟨v1, hr1⟩
    obtain rfl := hr2.nil_inv
    exact ⟨[a'], Rels.cons (ha _ hr1) Rels.nil, c_toPrintS a' xs hs' hx hl _ ⟨rfl, rfl⟩⟩
  · rintro v σ' ⟨rfl, rfl⟩
    have e : shB σ.length [(⟨jc xs, 0, 56, 9, true, true⟩ : Blk)] = [⟨jc xs, 0, 56, 9, true, true⟩] := by simp [shB, jc_sh]
    rw [e]; exact h0
theorem c_szPrintS (a : AV) (xs : List (List Int)) (m : Int) (ha : Sli W0 [] 9 enI a xs) (hl : xs.length ≤ 9223372036854775807) (hm : 0 ≤ m ∧ m ≤ 1048576) (K : Cont) (h0 : K (I (if m - (xs.length : Nat) < 0 then -1 else m - (xs.length : Nat))) []) : ACall Try.prog W0 6 [a, I m] [] K := by
  refine by6 (Nat.le_of_ble_eq_true rfl) ?_
  have e1 : IntKind.i64.wrap (m - (xs.length : Nat)) = m - (xs.length : Nat) := wrap_i64 _ (by omega) (by omega)
  cases ha with
  | nil =>
    repeat' ((conv => whnf); first | (refine Exists.intro ([] : List Nat) ?_) | (refine And.intro rfl ?_) | (refine And.intro (by decide +kernel) ?_) | (refine And.intro trivial ?_) | (refine Exists.intro _ (And.intro rfl (And.intro rfl (And.intro (Nat.le_of_ble_eq_true rfl) ?_)))) | (refine Exists.intro _ (And.intro rfl (And.intro rfl (And.intro rfl (And.intro (Nat.le_of_ble_eq_true rfl) ?_))))) | (refine And.intro (Exists.intro _ (And.intro rfl rfl)) ?_) | (exact fun hW => absurd hW (by decide +kernel)) | (intro hW; (try simp only [Bool.not_true, Bool.not_false, Bool.not_eq_true', Bool.not_eq_false', decide_eq_true_eq, decide_eq_false_iff_not, reduceCtorEq, Bool.true_eq_false, Bool.false_eq_true, mk_size, List.size_toArray, ByteArray.size_append, ByteArray.size_extract, List.length_cons, List.length_nil, ba_get, ba_empty, Int.toNat_natCast] at hW)) | (refine And.intro (?_ : _ → _) (?_ : _ → _)) | (refine FinR.drop 0 (Nat.zero_le _) (Closed.zero _) rfl ?_) | (refine FinR.keep ?_) | (refine And.intro (det3_agg rfl) ?_) | (refine fL_mk ?_) | (refine And.intro (by (try simp only [mk_size, List.size_toArray, ByteArray.size_append, ByteArray.size_extract, List.length_cons, List.length_nil]); omega) ?_) | (refine And.intro (by (try simp only [mk_size, List.size_toArray, ByteArray.size_append, ByteArray.size_extract, List.length_cons, List.length_nil, wrap64_eq]); omega) ?_) | fail)
    all_goals (have e0 : IntKind.i64.wrap (m - ((0 : Nat) : Int)) = m := by rw [wrap_i64 _ (by omega) (by omega)]; omega)
    all_goals (rw [e0] at hW; first | (exfalso; omega) | (refine kI' h0 ?_; rw [e0, if_neg (by simp; omega)]; simp))
  | inn ad n cap xs hn hc hcm hb hxx =>
    subst hn
    repeat' ((conv => whnf); first | (refine Exists.intro ([] : List Nat) ?_) | (refine And.intro rfl ?_) | (refine And.intro (by decide +kernel) ?_) | (refine And.intro trivial ?_) | (refine Exists.intro _ (And.intro rfl (And.intro rfl (And.intro (Nat.le_of_ble_eq_true rfl) ?_)))) | (refine Exists.intro _ (And.intro rfl (And.intro rfl (And.intro rfl (And.intro (Nat.le_of_ble_eq_true rfl) ?_))))) | (refine And.intro (Exists.intro _ (And.intro rfl rfl)) ?_) | (exact fun hW => absurd hW (by decide +kernel)) | (intro hW; (try simp only [Bool.not_true, Bool.not_false, Bool.not_eq_true', Bool.not_eq_false', decide_eq_true_eq, decide_eq_false_iff_not, reduceCtorEq, Bool.true_eq_false, Bool.false_eq_true, mk_size, List.size_toArray, ByteArray.size_append, ByteArray.size_extract, List.length_cons, List.length_nil, ba_get, ba_empty, Int.toNat_natCast] at hW)) | (refine And.intro (?_ : _ → _) (?_ : _ → _)) | (refine FinR.drop 0 (Nat.zero_le _) (Closed.zero _) rfl ?_) | (refine FinR.keep ?_) | (refine And.intro (det3_agg rfl) ?_) | (refine fL_mk ?_) | (refine And.intro (by (try simp only [mk_size, List.size_toArray, ByteArray.size_append, ByteArray.size_extract, List.length_cons, List.length_nil]); omega) ?_) | (refine And.intro (by (try simp only [mk_size, List.size_toArray, ByteArray.size_append, ByteArray.size_extract, List.length_cons, List.length_nil, wrap64_eq]); omega) ?_) | fail)
    all_goals (rw [e1] at *)
    all_goals (refine kI' h0 ?_; first | rw [if_pos (by omega)] | rw [if_neg (by omega)])
  | own b ver off n cap B xs hB => simp at hB
theorem d_szPrintS (a : AV) (xs : List (List Int)) (m : Int) (ha : Sli W0 σ 9 enI a xs) (hl : xs.length ≤ 9223372036854775807) (hm : 0 ≤ m ∧ m ≤ 1048576) (K : Cont) (h0 : K (I (if m - (xs.length : Nat) < 0 then -1 else m - (xs.length : Nat))) σ) : ACall Try.prog W0 6 [a, I m] σ K :=
  lift_Sp (by kernel_rfl) rfl (fun _ => rfl) ha (fun W1 a' h K hK => c_szPrintS a' xs m h hl hm K hK) K h0
theorem c_eqPrint (a b c d e f g h i : Int) (K : Cont) (h0 : K (Bo true) []) : ACall Try.prog W0 30 [Pr a b c d e f g h i, Pr a b c d e f g h i] [] K := by
  refine by30 (Nat.le_of_ble_eq_true rfl) ?_
  repeat' ((conv => whnf); first | (refine Exists.intro ([] : List Nat) ?_) | (refine And.intro rfl ?_) | (refine And.intro (by decide +kernel) ?_) | (refine And.intro trivial ?_) | (refine d_eqSheet (h0 := ?_) ..) | (refine Exists.intro _ (And.intro (fun τ => callW_fn (d_eqSheet (h0 := And.intro rfl rfl) ..)) ?_)) | (refine Exists.intro _ (And.intro (callW_fn (d_eqSheet (h0 := And.intro rfl rfl) ..)) (And.intro trivial ?_))) | (refine Exists.intro _ (And.intro (callW_fn (d_eqSheet (h0 := And.intro rfl rfl) ..)) ?_)) | (refine Exists.intro _ (And.intro (fun τ _ => callW_fn (d_eqSheet (h0 := And.intro rfl rfl) ..)) ?_)) | (refine d_eqIntA2 (h0 := ?_) ..) | (refine Exists.intro _ (And.intro (fun τ => callW_fn (d_eqIntA2 (h0 := And.intro rfl rfl) ..)) ?_)) | (refine Exists.intro _ (And.intro (callW_fn (d_eqIntA2 (h0 := And.intro rfl rfl) ..)) (And.intro trivial ?_))) | (refine Exists.intro _ (And.intro (callW_fn (d_eqIntA2 (h0 := And.intro rfl rfl) ..)) ?_)) | (refine Exists.intro _ (And.intro (fun τ _ => callW_fn (d_eqIntA2 (h0 := And.intro rfl rfl) ..)) ?_)) | (refine Exists.intro _ (And.intro rfl (And.intro rfl (And.intro (Nat.le_of_ble_eq_true rfl) ?_)))) | (refine Exists.intro _ (And.intro rfl (And.intro rfl (And.intro rfl (And.intro (Nat.le_of_ble_eq_true rfl) ?_))))) | (refine And.intro (Exists.intro _ (And.intro rfl rfl)) ?_) | (exact fun hW => absurd hW (by decide +kernel)) | (intro hW; (try simp only [Bool.not_true, Bool.not_false, Bool.not_eq_true', Bool.not_eq_false', decide_eq_true_eq, decide_eq_false_iff_not, reduceCtorEq, Bool.true_eq_false, Bool.false_eq_true, mk_size, List.size_toArray, ByteArray.size_append, ByteArray.size_extract, List.length_cons, List.length_nil, ba_get, ba_empty, Int.toNat_natCast] at hW)) | (refine And.intro (?_ : _ → _) (?_ : _ → _)) | (refine FinR.drop 0 (Nat.zero_le _) (Closed.zero _) rfl ?_) | (refine FinR.keep ?_) | (refine And.intro (det3_agg rfl) ?_) | (refine fL_mk ?_) | (refine And.intro (by (try simp only [mk_size, List.size_toArray, ByteArray.size_append, ByteArray.size_extract, List.length_cons, List.length_nil]); omega) ?_) | (refine And.intro (by (try simp only [mk_size, List.size_toArray, ByteArray.size_append, ByteArray.size_extract, List.length_cons, List.length_nil, wrap64_eq]); omega) ?_) | fail)
  all_goals first | exact h0 | (exfalso; simp_all [eq6]; done)
theorem d_eqPrint (a b c d e f g h i : Int) (K : Cont) (h0 : K (Bo true) σ) : ACall Try.prog W0 30 [Pr a b c d e f g h i, Pr a b c d e f g h i] σ K :=
  ACall.lift rfl (fun _ => rfl) (fun W1 K _ hK => c_eqPrint a b c d e f g h i K hK) h0
theorem c_eqPrintS (a b : AV) (xs : List (List Int)) (ha : Sli W0 [] 9 enI a xs) (hb' : Sli W0 [] 9 enI b xs) (hx : ∀ x ∈ xs, x.length = 9) (hl : xs.length ≤ 1048576) (K : Cont) (h0 : K (Bo true) []) : ACall Try.prog W0 11 [a, b] [] K := by
  refine by11 (Nat.le_of_ble_eq_true rfl) ?_
  cases ha with
  | nil =>
    cases hb' with
    | nil =>
      repeat' ((conv => whnf); first | (refine Exists.intro ([] : List Nat) ?_) | (refine And.intro rfl ?_) | (refine And.intro (by decide +kernel) ?_) | (refine And.intro trivial ?_) | (refine Exists.intro _ (And.intro rfl (And.intro rfl (And.intro (Nat.le_of_ble_eq_true rfl) ?_)))) | (refine Exists.intro _ (And.intro rfl (And.intro rfl (And.intro rfl (And.intro (Nat.le_of_ble_eq_true rfl) ?_))))) | (refine And.intro (Exists.intro _ (And.intro rfl rfl)) ?_) | (exact fun hW => absurd hW (by decide +kernel)) | (intro hW; (try simp only [Bool.not_true, Bool.not_false, Bool.not_eq_true', Bool.not_eq_false', decide_eq_true_eq, decide_eq_false_iff_not, reduceCtorEq, Bool.true_eq_false, Bool.false_eq_true, mk_size, List.size_toArray, ByteArray.size_append, ByteArray.size_extract, List.length_cons, List.length_nil, ba_get, ba_empty, Int.toNat_natCast] at hW)) | (refine And.intro (?_ : _ → _) (?_ : _ → _)) | (refine FinR.drop 0 (Nat.zero_le _) (Closed.zero _) rfl ?_) | (refine FinR.keep ?_) | (refine And.intro (det3_agg rfl) ?_) | (refine fL_mk ?_) | (refine And.intro (by (try simp only [mk_size, List.size_toArray, ByteArray.size_append, ByteArray.size_extract, List.length_cons, List.length_nil]); omega) ?_) | (refine And.intro (by (try simp only [mk_size, List.size_toArray, ByteArray.size_append, ByteArray.size_extract, List.length_cons, List.length_nil, wrap64_eq]); omega) ?_) | fail)
      all_goals first | (exfalso; omega) | skip
      refine LoopR.unroll 1 ?_
      repeat' ((conv => whnf); first | (refine Exists.intro ([] : List Nat) ?_) | (refine And.intro rfl ?_) | (refine And.intro (by decide +kernel) ?_) | (refine And.intro trivial ?_) | (refine Exists.intro _ (And.intro rfl (And.intro rfl (And.intro (Nat.le_of_ble_eq_true rfl) ?_)))) | (refine Exists.intro _ (And.intro rfl (And.intro rfl (And.intro rfl (And.intro (Nat.le_of_ble_eq_true rfl) ?_))))) | (refine And.intro (Exists.intro _ (And.intro rfl rfl)) ?_) | (exact fun hW => absurd hW (by decide +kernel)) | (intro hW; (try simp only [Bool.not_true, Bool.not_false, Bool.not_eq_true', Bool.not_eq_false', decide_eq_true_eq, decide_eq_false_iff_not, reduceCtorEq, Bool.true_eq_false, Bool.false_eq_true, mk_size, List.size_toArray, ByteArray.size_append, ByteArray.size_extract, List.length_cons, List.length_nil, ba_get, ba_empty, Int.toNat_natCast] at hW)) | (refine And.intro (?_ : _ → _) (?_ : _ → _)) | (refine FinR.drop 0 (Nat.zero_le _) (Closed.zero _) rfl ?_) | (refine FinR.keep ?_) | (refine And.intro (det3_agg rfl) ?_) | (refine fL_mk ?_) | (refine And.intro (by (try simp only [mk_size, List.size_toArray, ByteArray.size_append, ByteArray.size_extract, List.length_cons, List.length_nil]); omega) ?_) | (refine And.intro (by (try simp only [mk_size, List.size_toArray, ByteArray.size_append, ByteArray.size_extract, List.length_cons, List.length_nil, wrap64_eq]); omega) ?_) | fail)
      all_goals first | (exfalso; omega) | exact h0
    | inn ad n cap xs hn hc hcm hb hxx =>
      subst hn
      repeat' ((conv => whnf); first | (refine Exists.intro ([] : List Nat) ?_) | (refine And.intro rfl ?_) | (refine And.intro (by decide +kernel) ?_) | (refine And.intro trivial ?_) | (refine Exists.intro _ (And.intro rfl (And.intro rfl (And.intro (Nat.le_of_ble_eq_true rfl) ?_)))) | (refine Exists.intro _ (And.intro rfl (And.intro rfl (And.intro rfl (And.intro (Nat.le_of_ble_eq_true rfl) ?_))))) | (refine And.intro (Exists.intro _ (And.intro rfl rfl)) ?_) | (exact fun hW => absurd hW (by decide +kernel)) | (intro hW; (try simp only [Bool.not_true, Bool.not_false, Bool.not_eq_true', Bool.not_eq_false', decide_eq_true_eq, decide_eq_false_iff_not, reduceCtorEq, Bool.true_eq_false, Bool.false_eq_true, mk_size, List.size_toArray, ByteArray.size_append, ByteArray.size_extract, List.length_cons, List.length_nil, ba_get, ba_empty, Int.toNat_natCast] at hW)) | (refine And.intro (?_ : _ → _) (?_ : _ → _)) | (refine FinR.drop 0 (Nat.zero_le _) (Closed.zero _) rfl ?_) | (refine FinR.keep ?_) | (refine And.intro (det3_agg rfl) ?_) | (refine fL_mk ?_) | (refine And.intro (by (try simp only [mk_size, List.size_toArray, ByteArray.size_append, ByteArray.size_extract, List.length_cons, List.length_nil]); omega) ?_) | (refine And.intro (by (try simp only [mk_size, List.size_toArray, ByteArray.size_append, ByteArray.size_extract, List.length_cons, List.length_nil, wrap64_eq]); omega) ?_) | fail)
      all_goals first | (exfalso; simp_all; done) | skip
      refine LoopR.unroll 1 ?_
      repeat' ((conv => whnf); first | (refine Exists.intro ([] : List Nat) ?_) | (refine And.intro rfl ?_) | (refine And.intro (by decide +kernel) ?_) | (refine And.intro trivial ?_) | (refine Exists.intro _ (And.intro rfl (And.intro rfl (And.intro (Nat.le_of_ble_eq_true rfl) ?_)))) | (refine Exists.intro _ (And.intro rfl (And.intro rfl (And.intro rfl (And.intro (Nat.le_of_ble_eq_true rfl) ?_))))) | (refine And.intro (Exists.intro _ (And.intro rfl rfl)) ?_) | (exact fun hW => absurd hW (by decide +kernel)) | (intro hW; (try simp only [Bool.not_true, Bool.not_false, Bool.not_eq_true', Bool.not_eq_false', decide_eq_true_eq, decide_eq_false_iff_not, reduceCtorEq, Bool.true_eq_false, Bool.false_eq_true, mk_size, List.size_toArray, ByteArray.size_append, ByteArray.size_extract, List.length_cons, List.length_nil, ba_get, ba_empty, Int.toNat_natCast] at hW)) | (refine And.intro (?_ : _ → _) (?_ : _ → _)) | (refine FinR.drop 0 (Nat.zero_le _) (Closed.zero _) rfl ?_) | (refine FinR.keep ?_) | (refine And.intro (det3_agg rfl) ?_) | (refine fL_mk ?_) | (refine And.intro (by (try simp only [mk_size, List.size_toArray, ByteArray.size_append, ByteArray.size_extract, List.length_cons, List.length_nil]); omega) ?_) | (refine And.intro (by (try simp only [mk_size, List.size_toArray, ByteArray.size_append, ByteArray.size_extract, List.length_cons, List.length_nil, wrap64_eq]); omega) ?_) | fail)
      all_goals first | (exfalso; omega) | exact h0
    | own b ver off n cap B xs hB => simp at hB
  | inn ad n cap xs hn hc hcm hb hxx =>
    subst hn
    cases hb' with
    | nil =>
      repeat' ((conv => whnf); first | (refine Exists.intro ([] : List Nat) ?_) | (refine And.intro rfl ?_) | (refine And.intro (by decide +kernel) ?_) | (refine And.intro trivial ?_) | (refine Exists.intro _ (And.intro rfl (And.intro rfl (And.intro (Nat.le_of_ble_eq_true rfl) ?_)))) | (refine Exists.intro _ (And.intro rfl (And.intro rfl (And.intro rfl (And.intro (Nat.le_of_ble_eq_true rfl) ?_))))) | (refine And.intro (Exists.intro _ (And.intro rfl rfl)) ?_) | (exact fun hW => absurd hW (by decide +kernel)) | (intro hW; (try simp only [Bool.not_true, Bool.not_false, Bool.not_eq_true', Bool.not_eq_false', decide_eq_true_eq, decide_eq_false_iff_not, reduceCtorEq, Bool.true_eq_false, Bool.false_eq_true, mk_size, List.size_toArray, ByteArray.size_append, ByteArray.size_extract, List.length_cons, List.length_nil, ba_get, ba_empty, Int.toNat_natCast] at hW)) | (refine And.intro (?_ : _ → _) (?_ : _ → _)) | (refine FinR.drop 0 (Nat.zero_le _) (Closed.zero _) rfl ?_) | (refine FinR.keep ?_) | (refine And.intro (det3_agg rfl) ?_) | (refine fL_mk ?_) | (refine And.intro (by (try simp only [mk_size, List.size_toArray, ByteArray.size_append, ByteArray.size_extract, List.length_cons, List.length_nil]); omega) ?_) | (refine And.intro (by (try simp only [mk_size, List.size_toArray, ByteArray.size_append, ByteArray.size_extract, List.length_cons, List.length_nil, wrap64_eq]); omega) ?_) | fail)
      all_goals first | (exfalso; simp_all; done) | skip
      refine LoopR.unroll 1 ?_
      repeat' ((conv => whnf); first | (refine Exists.intro ([] : List Nat) ?_) | (refine And.intro rfl ?_) | (refine And.intro (by decide +kernel) ?_) | (refine And.intro trivial ?_) | (refine Exists.intro _ (And.intro rfl (And.intro rfl (And.intro (Nat.le_of_ble_eq_true rfl) ?_)))) | (refine Exists.intro _ (And.intro rfl (And.intro rfl (And.intro rfl (And.intro (Nat.le_of_ble_eq_true rfl) ?_))))) | (refine And.intro (Exists.intro _ (And.intro rfl rfl)) ?_) | (exact fun hW => absurd hW (by decide +kernel)) | (intro hW; (try simp only [Bool.not_true, Bool.not_false, Bool.not_eq_true', Bool.not_eq_false', decide_eq_true_eq, decide_eq_false_iff_not, reduceCtorEq, Bool.true_eq_false, Bool.false_eq_true, mk_size, List.size_toArray, ByteArray.size_append, ByteArray.size_extract, List.length_cons, List.length_nil, ba_get, ba_empty, Int.toNat_natCast] at hW)) | (refine And.intro (?_ : _ → _) (?_ : _ → _)) | (refine FinR.drop 0 (Nat.zero_le _) (Closed.zero _) rfl ?_) | (refine FinR.keep ?_) | (refine And.intro (det3_agg rfl) ?_) | (refine fL_mk ?_) | (refine And.intro (by (try simp only [mk_size, List.size_toArray, ByteArray.size_append, ByteArray.size_extract, List.length_cons, List.length_nil]); omega) ?_) | (refine And.intro (by (try simp only [mk_size, List.size_toArray, ByteArray.size_append, ByteArray.size_extract, List.length_cons, List.length_nil, wrap64_eq]); omega) ?_) | fail)
      all_goals first | (exfalso; simp_all; done) | (exfalso; omega) | exact h0
    | inn ad2 n2 cap2 xs2 hn2 hc2 hcm2 hb2 hxx2 =>
      have hnl : xs.length = n2 := hn2.symm
      subst hn2
      repeat' ((conv => whnf); first | (refine Exists.intro ([] : List Nat) ?_) | (refine And.intro rfl ?_) | (refine And.intro (by decide +kernel) ?_) | (refine And.intro trivial ?_) | (refine Exists.intro _ (And.intro rfl (And.intro rfl (And.intro (Nat.le_of_ble_eq_true rfl) ?_)))) | (refine Exists.intro _ (And.intro rfl (And.intro rfl (And.intro rfl (And.intro (Nat.le_of_ble_eq_true rfl) ?_))))) | (refine And.intro (Exists.intro _ (And.intro rfl rfl)) ?_) | (exact fun hW => absurd hW (by decide +kernel)) | (intro hW; (try simp only [Bool.not_true, Bool.not_false, Bool.not_eq_true', Bool.not_eq_false', decide_eq_true_eq, decide_eq_false_iff_not, reduceCtorEq, Bool.true_eq_false, Bool.false_eq_true, mk_size, List.size_toArray, ByteArray.size_append, ByteArray.size_extract, List.length_cons, List.length_nil, ba_get, ba_empty, Int.toNat_natCast] at hW)) | (refine And.intro (?_ : _ → _) (?_ : _ → _)) | (refine FinR.drop 0 (Nat.zero_le _) (Closed.zero _) rfl ?_) | (refine FinR.keep ?_) | (refine And.intro (det3_agg rfl) ?_) | (refine fL_mk ?_) | (refine And.intro (by (try simp only [mk_size, List.size_toArray, ByteArray.size_append, ByteArray.size_extract, List.length_cons, List.length_nil]); omega) ?_) | (refine And.intro (by (try simp only [mk_size, List.size_toArray, ByteArray.size_append, ByteArray.size_extract, List.length_cons, List.length_nil, wrap64_eq]); omega) ?_) | fail)
      all_goals first | (exfalso; omega) | (exfalso; simp_all; done) | skip
      refine LoopR.live (fun i : Nat => [(0, .lit (.slice (some ad) xs.length cap)), (1, .lit (.slice (some ad2) xs.length cap2)), (5, I i)]) (fun i => []) (fun i => i ≤ xs.length) (fun i => xs.length - i) 0 ⟨rfl, rfl, rfl, trivial⟩ (.keep rfl) (Nat.zero_le _) ?_
      intro i hi
      by_cases hlt : i < xs.length
      · obtain ⟨c0, c1, c2, c3, c4, c5, c6, c7, c8, hxi⟩ := row9 hx hlt
        have hld := fun C h => ldIn (W0 := W0) (s := 9) (enc := enI) hb hxx (k := i) hxi rfl (C := C) h
        have hld2 := fun C h => ldIn (W0 := W0) (s := 9) (enc := enI) hb2 hxx2 (k := i) hxi rfl (C := C) h
        repeat' ((conv => whnf); first | (refine Exists.intro ([] : List Nat) ?_) | (refine And.intro rfl ?_) | (refine And.intro (by decide +kernel) ?_) | (refine And.intro trivial ?_) | (refine hld _ ?_) | (refine hld2 _ ?_) | (refine d_eqPrint (h0 := ?_) ..) | (refine Exists.intro _ (And.intro (fun τ => callW_fn (d_eqPrint (h0 := And.intro rfl rfl) ..)) ?_)) | (refine Exists.intro _ (And.intro (callW_fn (d_eqPrint (h0 := And.intro rfl rfl) ..)) (And.intro trivial ?_))) | (refine Exists.intro _ (And.intro (callW_fn (d_eqPrint (h0 := And.intro rfl rfl) ..)) ?_)) | (refine Exists.intro _ (And.intro (fun τ _ => callW_fn (d_eqPrint (h0 := And.intro rfl rfl) ..)) ?_)) | (refine And.intro rfl (hld _ ?_)) | (refine And.intro rfl (hld2 _ ?_)) | (refine Exists.intro _ (And.intro rfl (And.intro rfl (And.intro (Nat.le_of_ble_eq_true rfl) ?_)))) | (refine Exists.intro _ (And.intro rfl (And.intro rfl (And.intro rfl (And.intro (Nat.le_of_ble_eq_true rfl) ?_))))) | (refine And.intro (Exists.intro _ (And.intro rfl rfl)) ?_) | (exact fun hW => absurd hW (by decide +kernel)) | (intro hW; (try simp only [Bool.not_true, Bool.not_false, Bool.not_eq_true', Bool.not_eq_false', decide_eq_true_eq, decide_eq_false_iff_not, reduceCtorEq, Bool.true_eq_false, Bool.false_eq_true, mk_size, List.size_toArray, ByteArray.size_append, ByteArray.size_extract, List.length_cons, List.length_nil, ba_get, ba_empty, Int.toNat_natCast] at hW)) | (refine And.intro (?_ : _ → _) (?_ : _ → _)) | (refine FinR.drop 0 (Nat.zero_le _) (Closed.zero _) rfl ?_) | (refine FinR.keep ?_) | (refine And.intro (det3_agg rfl) ?_) | (refine fL_mk ?_) | (refine And.intro (by (try simp only [mk_size, List.size_toArray, ByteArray.size_append, ByteArray.size_extract, List.length_cons, List.length_nil]); omega) ?_) | (refine And.intro (by (try simp only [mk_size, List.size_toArray, ByteArray.size_append, ByteArray.size_extract, List.length_cons, List.length_nil, wrap64_eq]); omega) ?_) | fail)
        all_goals first | (exfalso; omega) | (exfalso; simp_all; done) | skip
        exact Again.go (i + 1) ⟨rfl, rfl, slI' (wsucc' i (by omega)), trivial⟩ (.keep rfl) (by omega) (by omega)
      · obtain rfl : i = xs.length := by omega
        repeat' ((conv => whnf); first | (refine Exists.intro ([] : List Nat) ?_) | (refine And.intro rfl ?_) | (refine And.intro (by decide +kernel) ?_) | (refine And.intro trivial ?_) | (refine Exists.intro _ (And.intro rfl (And.intro rfl (And.intro (Nat.le_of_ble_eq_true rfl) ?_)))) | (refine Exists.intro _ (And.intro rfl (And.intro rfl (And.intro rfl (And.intro (Nat.le_of_ble_eq_true rfl) ?_))))) | (refine And.intro (Exists.intro _ (And.intro rfl rfl)) ?_) | (exact fun hW => absurd hW (by decide +kernel)) | (intro hW; (try simp only [Bool.not_true, Bool.not_false, Bool.not_eq_true', Bool.not_eq_false', decide_eq_true_eq, decide_eq_false_iff_not, reduceCtorEq, Bool.true_eq_false, Bool.false_eq_true, mk_size, List.size_toArray, ByteArray.size_append, ByteArray.size_extract, List.length_cons, List.length_nil, ba_get, ba_empty, Int.toNat_natCast] at hW)) | (refine And.intro (?_ : _ → _) (?_ : _ → _)) | (refine FinR.drop 0 (Nat.zero_le _) (Closed.zero _) rfl ?_) | (refine FinR.keep ?_) | (refine And.intro (det3_agg rfl) ?_) | (refine fL_mk ?_) | (refine And.intro (by (try simp only [mk_size, List.size_toArray, ByteArray.size_append, ByteArray.size_extract, List.length_cons, List.length_nil]); omega) ?_) | (refine And.intro (by (try simp only [mk_size, List.size_toArray, ByteArray.size_append, ByteArray.size_extract, List.length_cons, List.length_nil, wrap64_eq]); omega) ?_) | fail)
        all_goals first | (exfalso; omega) | exact h0
    | own b ver off n cap B xs hB => simp at hB
  | own b ver off n cap B xs hB => simp at hB
theorem d_eqPrintS (a b : AV) (xs : List (List Int)) (ha : Sli W0 σ 9 enI a xs) (hb' : Sli W0 σ 9 enI b xs) (hx : ∀ x ∈ xs, x.length = 9) (hl : xs.length ≤ 1048576) (K : Cont) (h0 : K (Bo true) σ) : ACall Try.prog W0 11 [a, b] σ K :=
  lift_Ss (by kernel_rfl) (fun _ => rfl) ha hb' (fun W1 a' b' h h' K hK => c_eqPrintS a' b' xs h h' hx hl K hK) K h0
theorem d_markPrintS (b ver n cap : Nat) (B : Blk) (hB : σ[b]? = some B) (hv : B.ver = ver) (hn : n * 9 ≤ B.cells.length) (hn2 : n ≤ 1048576) (k : Int) (hk : 0 ≤ k ∧ k ≤ 16777216) (K : Cont) (h0 : K (I (k + (n * 9 : Nat))) (σ.set b (mB B k (n * 9)))) : ACall Try.prog W0 12 [.sl b ver 0 n cap, I k] σ K := by
  refine by12 (Nat.le_of_ble_eq_true rfl) ?_
  repeat' ((conv => whnf); first | (refine Exists.intro ([] : List Nat) ?_) | (refine And.intro rfl ?_) | (refine And.intro (by decide +kernel) ?_) | (refine And.intro trivial ?_) | (refine Exists.intro _ (And.intro rfl (And.intro rfl (And.intro (Nat.le_of_ble_eq_true rfl) ?_)))) | (refine Exists.intro _ (And.intro rfl (And.intro rfl (And.intro rfl (And.intro (Nat.le_of_ble_eq_true rfl) ?_))))) | (refine And.intro (Exists.intro _ (And.intro rfl rfl)) ?_) | (exact fun hW => absurd hW (by decide +kernel)) | (intro hW; (try simp only [Bool.not_true, Bool.not_false, Bool.not_eq_true', Bool.not_eq_false', decide_eq_true_eq, decide_eq_false_iff_not, reduceCtorEq, Bool.true_eq_false, Bool.false_eq_true, mk_size, List.size_toArray, ByteArray.size_append, ByteArray.size_extract, List.length_cons, List.length_nil, ba_get, ba_empty, Int.toNat_natCast] at hW)) | (refine And.intro (?_ : _ → _) (?_ : _ → _)) | (refine FinR.drop 0 (Nat.zero_le _) (Closed.zero _) rfl ?_) | (refine FinR.keep ?_) | (refine And.intro (det3_agg rfl) ?_) | (refine fL_mk ?_) | (refine And.intro (by (try simp only [mk_size, List.size_toArray, ByteArray.size_append, ByteArray.size_extract, List.length_cons, List.length_nil]); omega) ?_) | (refine And.intro (by (try simp only [mk_size, List.size_toArray, ByteArray.size_append, ByteArray.size_extract, List.length_cons, List.length_nil, wrap64_eq]); omega) ?_) | fail)
  refine LoopR.live (fun i : Nat => [(0, .sl b ver 0 n cap), (1, I (k + (i * 9 : Nat))), (5, I i)]) (fun i => σ.set b (mB B k (i * 9))) (fun i => i ≤ n) (fun i => n - i) 0 ⟨rfl, slI' (by omega), rfl, trivial⟩ (.keep (by show σ.set b (mB B k (0 * 9)) = σ; rw [Nat.zero_mul, mB_zero, set_self hB])) (Nat.zero_le _) ?_
  intro i hi
  have hcur : ∃ B', (σ.set b (mB B k (i * 9)))[b]? = some B' ∧ B'.ver = ver := ⟨_, get_set hB, hv⟩
  by_cases hlt : i < n
  · skip
    repeat' ((conv => whnf); first | (refine Exists.intro ([] : List Nat) ?_) | (refine And.intro rfl ?_) | (refine And.intro (by decide +kernel) ?_) | (refine And.intro trivial ?_) | (refine And.intro hcur ?_) | (refine st_mark hB hv (i * 9) _ _ (by omega) rfl (by omega) ?_) | (refine Exists.intro _ (And.intro rfl (And.intro rfl (And.intro (Nat.le_of_ble_eq_true rfl) ?_)))) | (refine Exists.intro _ (And.intro rfl (And.intro rfl (And.intro rfl (And.intro (Nat.le_of_ble_eq_true rfl) ?_))))) | (refine And.intro (Exists.intro _ (And.intro rfl rfl)) ?_) | (exact fun hW => absurd hW (by decide +kernel)) | (intro hW; (try simp only [Bool.not_true, Bool.not_false, Bool.not_eq_true', Bool.not_eq_false', decide_eq_true_eq, decide_eq_false_iff_not, reduceCtorEq, Bool.true_eq_false, Bool.false_eq_true, mk_size, List.size_toArray, ByteArray.size_append, ByteArray.size_extract, List.length_cons, List.length_nil, ba_get, ba_empty, Int.toNat_natCast] at hW)) | (refine And.intro (?_ : _ → _) (?_ : _ → _)) | (refine FinR.drop 0 (Nat.zero_le _) (Closed.zero _) rfl ?_) | (refine FinR.keep ?_) | (refine And.intro (det3_agg rfl) ?_) | (refine fL_mk ?_) | (refine And.intro (by (try simp only [mk_size, List.size_toArray, ByteArray.size_append, ByteArray.size_extract, List.length_cons, List.length_nil]); omega) ?_) | (refine And.intro (by (try simp only [mk_size, List.size_toArray, ByteArray.size_append, ByteArray.size_extract, List.length_cons, List.length_nil, wrap64_eq]); omega) ?_) | fail)
    all_goals first | (exfalso; omega) | skip
    refine LoopR.live (fun j : Nat => [(0, .sl b ver 0 n cap), (1, I (k + (i * 9 + 1 + j : Nat))), (5, I i), (6, I j)]) (fun j => σ.set b (mB B k (i * 9 + 1 + j))) (fun j => j ≤ 6) (fun j => 6 - j) 0 ⟨rfl, slI' (wadd k _ (by omega)), rfl, rfl, trivial⟩ (.keep rfl) (Nat.zero_le _) ?_
    intro j hj
    have hcur2 : ∃ B', (σ.set b (mB B k (i * 9 + 1 + j)))[b]? = some B' ∧ B'.ver = ver := ⟨_, get_set hB, hv⟩
    by_cases hlt2 : j < 6
    · skip
      repeat' ((conv => whnf); first | (refine Exists.intro ([] : List Nat) ?_) | (refine And.intro rfl ?_) | (refine And.intro (by decide +kernel) ?_) | (refine And.intro trivial ?_) | (refine And.intro hcur2 ?_) | (refine st_mark hB hv (i * 9 + 1 + j) _ _ (by omega) rfl (by omega) ?_) | (refine Exists.intro _ (And.intro rfl (And.intro rfl (And.intro (Nat.le_of_ble_eq_true rfl) ?_)))) | (refine Exists.intro _ (And.intro rfl (And.intro rfl (And.intro rfl (And.intro (Nat.le_of_ble_eq_true rfl) ?_))))) | (refine And.intro (Exists.intro _ (And.intro rfl rfl)) ?_) | (exact fun hW => absurd hW (by decide +kernel)) | (intro hW; (try simp only [Bool.not_true, Bool.not_false, Bool.not_eq_true', Bool.not_eq_false', decide_eq_true_eq, decide_eq_false_iff_not, reduceCtorEq, Bool.true_eq_false, Bool.false_eq_true, mk_size, List.size_toArray, ByteArray.size_append, ByteArray.size_extract, List.length_cons, List.length_nil, ba_get, ba_empty, Int.toNat_natCast] at hW)) | (refine And.intro (?_ : _ → _) (?_ : _ → _)) | (refine FinR.drop 0 (Nat.zero_le _) (Closed.zero _) rfl ?_) | (refine FinR.keep ?_) | (refine And.intro (det3_agg rfl) ?_) | (refine fL_mk ?_) | (refine And.intro (by (try simp only [mk_size, List.size_toArray, ByteArray.size_append, ByteArray.size_extract, List.length_cons, List.length_nil]); omega) ?_) | (refine And.intro (by (try simp only [mk_size, List.size_toArray, ByteArray.size_append, ByteArray.size_extract, List.length_cons, List.length_nil, wrap64_eq]); omega) ?_) | fail)
      all_goals first | (exfalso; omega) | skip
      exact Again.go (j + 1) ⟨rfl, slI' (wadd k _ (by omega)), rfl, slI' (wsucc' j (by omega)), trivial⟩ (.keep rfl) (by omega) (by omega)
    · obtain rfl : j = 6 := by omega
      repeat' ((conv => whnf); first | (refine Exists.intro ([] : List Nat) ?_) | (refine And.intro rfl ?_) | (refine And.intro (by decide +kernel) ?_) | (refine And.intro trivial ?_) | (refine Exists.intro _ (And.intro rfl (And.intro rfl (And.intro (Nat.le_of_ble_eq_true rfl) ?_)))) | (refine Exists.intro _ (And.intro rfl (And.intro rfl (And.intro rfl (And.intro (Nat.le_of_ble_eq_true rfl) ?_))))) | (refine And.intro (Exists.intro _ (And.intro rfl rfl)) ?_) | (exact fun hW => absurd hW (by decide +kernel)) | (intro hW; (try simp only [Bool.not_true, Bool.not_false, Bool.not_eq_true', Bool.not_eq_false', decide_eq_true_eq, decide_eq_false_iff_not, reduceCtorEq, Bool.true_eq_false, Bool.false_eq_true, mk_size, List.size_toArray, ByteArray.size_append, ByteArray.size_extract, List.length_cons, List.length_nil, ba_get, ba_empty, Int.toNat_natCast] at hW)) | (refine And.intro (?_ : _ → _) (?_ : _ → _)) | (refine FinR.drop 0 (Nat.zero_le _) (Closed.zero _) rfl ?_) | (refine FinR.keep ?_) | (refine And.intro (det3_agg rfl) ?_) | (refine fL_mk ?_) | (refine And.intro (by (try simp only [mk_size, List.size_toArray, ByteArray.size_append, ByteArray.size_extract, List.length_cons, List.length_nil]); omega) ?_) | (refine And.intro (by (try simp only [mk_size, List.size_toArray, ByteArray.size_append, ByteArray.size_extract, List.length_cons, List.length_nil, wrap64_eq]); omega) ?_) | fail)
      all_goals first | (exfalso; omega) | skip
      refine LoopR.live (fun j : Nat => [(0, .sl b ver 0 n cap), (1, I (k + (i * 9 + 7 + j : Nat))), (5, I i), (7, I j)]) (fun j => σ.set b (mB B k (i * 9 + 7 + j))) (fun j => j ≤ 2) (fun j => 2 - j) 0 ⟨rfl, rfl, rfl, rfl, trivial⟩ (.keep rfl) (Nat.zero_le _) ?_
      intro j hj
      have hcur3 : ∃ B', (σ.set b (mB B k (i * 9 + 7 + j)))[b]? = some B' ∧ B'.ver = ver := ⟨_, get_set hB, hv⟩
      by_cases hlt3 : j < 2
      · skip
        repeat' ((conv => whnf); first | (refine Exists.intro ([] : List Nat) ?_) | (refine And.intro rfl ?_) | (refine And.intro (by decide +kernel) ?_) | (refine And.intro trivial ?_) | (refine And.intro hcur3 ?_) | (refine st_mark hB hv (i * 9 + 7 + j) _ _ (by omega) rfl (by omega) ?_) | (refine Exists.intro _ (And.intro rfl (And.intro rfl (And.intro (Nat.le_of_ble_eq_true rfl) ?_)))) | (refine Exists.intro _ (And.intro rfl (And.intro rfl (And.intro rfl (And.intro (Nat.le_of_ble_eq_true rfl) ?_))))) | (refine And.intro (Exists.intro _ (And.intro rfl rfl)) ?_) | (exact fun hW => absurd hW (by decide +kernel)) | (intro hW; (try simp only [Bool.not_true, Bool.not_false, Bool.not_eq_true', Bool.not_eq_false', decide_eq_true_eq, decide_eq_false_iff_not, reduceCtorEq, Bool.true_eq_false, Bool.false_eq_true, mk_size, List.size_toArray, ByteArray.size_append, ByteArray.size_extract, List.length_cons, List.length_nil, ba_get, ba_empty, Int.toNat_natCast] at hW)) | (refine And.intro (?_ : _ → _) (?_ : _ → _)) | (refine FinR.drop 0 (Nat.zero_le _) (Closed.zero _) rfl ?_) | (refine FinR.keep ?_) | (refine And.intro (det3_agg rfl) ?_) | (refine fL_mk ?_) | (refine And.intro (by (try simp only [mk_size, List.size_toArray, ByteArray.size_append, ByteArray.size_extract, List.length_cons, List.length_nil]); omega) ?_) | (refine And.intro (by (try simp only [mk_size, List.size_toArray, ByteArray.size_append, ByteArray.size_extract, List.length_cons, List.length_nil, wrap64_eq]); omega) ?_) | fail)
        all_goals first | (exfalso; omega) | skip
        exact Again.go (j + 1) ⟨rfl, slI' (wadd k _ (by omega)), rfl, slI' (wsucc' j (by omega)), trivial⟩ (.keep rfl) (by omega) (by omega)
      · obtain rfl : j = 2 := by omega
        repeat' ((conv => whnf); first | (refine Exists.intro ([] : List Nat) ?_) | (refine And.intro rfl ?_) | (refine And.intro (by decide +kernel) ?_) | (refine And.intro trivial ?_) | (refine Exists.intro _ (And.intro rfl (And.intro rfl (And.intro (Nat.le_of_ble_eq_true rfl) ?_)))) | (refine Exists.intro _ (And.intro rfl (And.intro rfl (And.intro rfl (And.intro (Nat.le_of_ble_eq_true rfl) ?_))))) | (refine And.intro (Exists.intro _ (And.intro rfl rfl)) ?_) | (exact fun hW => absurd hW (by decide +kernel)) | (intro hW; (try simp only [Bool.not_true, Bool.not_false, Bool.not_eq_true', Bool.not_eq_false', decide_eq_true_eq, decide_eq_false_iff_not, reduceCtorEq, Bool.true_eq_false, Bool.false_eq_true, mk_size, List.size_toArray, ByteArray.size_append, ByteArray.size_extract, List.length_cons, List.length_nil, ba_get, ba_empty, Int.toNat_natCast] at hW)) | (refine And.intro (?_ : _ → _) (?_ : _ → _)) | (refine FinR.drop 0 (Nat.zero_le _) (Closed.zero _) rfl ?_) | (refine FinR.keep ?_) | (refine And.intro (det3_agg rfl) ?_) | (refine fL_mk ?_) | (refine And.intro (by (try simp only [mk_size, List.size_toArray, ByteArray.size_append, ByteArray.size_extract, List.length_cons, List.length_nil]); omega) ?_) | (refine And.intro (by (try simp only [mk_size, List.size_toArray, ByteArray.size_append, ByteArray.size_extract, List.length_cons, List.length_nil, wrap64_eq]); omega) ?_) | fail)
        all_goals first | (exfalso; omega) | skip
        exact Again.go (i + 1) ⟨rfl, slI' (by omega), slI' (wsucc' i (by omega)), trivial⟩ (.keep (by rw [Nat.add_mul])) (by omega) (by omega)
  · obtain rfl : i = n := by omega
    repeat' ((conv => whnf); first | (refine Exists.intro ([] : List Nat) ?_) | (refine And.intro rfl ?_) | (refine And.intro (by decide +kernel) ?_) | (refine And.intro trivial ?_) | (refine And.intro hcur ?_) | (refine Exists.intro _ (And.intro rfl (And.intro rfl (And.intro (Nat.le_of_ble_eq_true rfl) ?_)))) | (refine Exists.intro _ (And.intro rfl (And.intro rfl (And.intro rfl (And.intro (Nat.le_of_ble_eq_true rfl) ?_))))) | (refine And.intro (Exists.intro _ (And.intro rfl rfl)) ?_) | (exact fun hW => absurd hW (by decide +kernel)) | (intro hW; (try simp only [Bool.not_true, Bool.not_false, Bool.not_eq_true', Bool.not_eq_false', decide_eq_true_eq, decide_eq_false_iff_not, reduceCtorEq, Bool.true_eq_false, Bool.false_eq_true, mk_size, List.size_toArray, ByteArray.size_append, ByteArray.size_extract, List.length_cons, List.length_nil, ba_get, ba_empty, Int.toNat_natCast] at hW)) | (refine And.intro (?_ : _ → _) (?_ : _ → _)) | (refine FinR.drop 0 (Nat.zero_le _) (Closed.zero _) rfl ?_) | (refine FinR.keep ?_) | (refine And.intro (det3_agg rfl) ?_) | (refine fL_mk ?_) | (refine And.intro (by (try simp only [mk_size, List.size_toArray, ByteArray.size_append, ByteArray.size_extract, List.length_cons, List.length_nil]); omega) ?_) | (refine And.intro (by (try simp only [mk_size, List.size_toArray, ByteArray.size_append, ByteArray.size_extract, List.length_cons, List.length_nil, wrap64_eq]); omega) ?_) | fail)
    all_goals first | (exfalso; omega) | exact h0
end Go.Proofs.Ytbbmlnaekefaaaa
end

section
/- Contracts: CommonCells. -/
set_option linter.unusedVariables false
set_option linter.unusedSimpArgs false
namespace Go.Proofs.Ytbbmlnaekefaaaa
open Go Go.RowKit Go.Proofs.Ytbbmlnaekefaaaa.Abs
variable {W0 : World} {σ : List Blk}
abbrev R64 (a b c d e f : Nat) : Prop := a < 64 ∧ b < 64 ∧ c < 64 ∧ d < 64 ∧ e < 64 ∧ f < 64
end Go.Proofs.Ytbbmlnaekefaaaa
end
