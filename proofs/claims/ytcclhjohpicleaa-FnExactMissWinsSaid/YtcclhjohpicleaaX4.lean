import Derived.Shelf.SlGeneric
import Derived.Shelf.SlSortCmp.NoneTotal
import Derived.Ground.SlsfProg
import Derived.Test.YtcclhjohpicleaaProg
import Derived.Test.YtcclhjohpicleaaX3
section
/- Arithmetic: sets of cells as numbers; cells that go elsewhere; sheets by their sets. -/
set_option linter.unusedVariables false
set_option linter.unusedSimpArgs false
namespace Go.Proofs.Ytcclhjohpicleaa
open Go Go.RowKit Go.Proofs.Ytcclhjohpicleaa.Abs
/-- the cells that go where g tells -/
def mvN (g : Nat → Nat) (n : Nat) : Nat → Nat
  | 0 => 0
  | m + 1 => mvN g n m ||| (if n.testBit m then 2 ^ g m else 0)
theorem mvN_succ (g : Nat → Nat) (n m : Nat) : mvN g n (m + 1) = mvN g n m ||| (if n.testBit m then 2 ^ g m else 0) := rfl
theorem mvN_bit (g : Nat → Nat) (n j : Nat) : ∀ m, (mvN g n m).testBit j = true ↔ ∃ k, k < m ∧ n.testBit k = true ∧ g k = j
  | 0 => by simp [mvN]
  | m + 1 => by
    rw [mvN_succ, Nat.testBit_or, Bool.or_eq_true, mvN_bit g n j m]
    constructor
    · rintro (⟨k, h1, h2, h3⟩ | h)
      · exact ⟨k, by omega, h2, h3⟩
      · split at h
        · rename_i hm
          rw [Nat.testBit_two_pow] at h
          exact ⟨m, by omega, hm, by simpa using h⟩
        · simp at h
    · rintro ⟨k, h1, h2, h3⟩
      by_cases e : k = m
      · subst e
        right
        rw [if_pos h2, Nat.testBit_two_pow]
        simpa using h3
      · exact .inl ⟨k, by omega, h2, h3⟩
abbrev Perm (g h : Nat → Nat) : Prop := ∀ k, k < 36 → g k < 36 ∧ h k < 36 ∧ g (h k) = k ∧ h (g k) = k
theorem mvN_perm {g h : Nat → Nat} (hp : Perm g h) (n : Nat) {j : Nat} (hj : j < 36) : (mvN g n 36).testBit j = n.testBit (h j) := by
  rw [Bool.eq_iff_iff, mvN_bit]
  obtain ⟨_, h2, h3, _⟩ := hp j hj
  constructor
  · rintro ⟨k, k1, k2, k3⟩
    rw [← k3, (hp k k1).2.2.2]; exact k2
  · intro hb
    exact ⟨h j, h2, hb, h3⟩
theorem mvN_lt {g h : Nat → Nat} (hp : Perm g h) (n : Nat) : mvN g n 36 < 2 ^ 36 := by
  refine Nat.lt_pow_two_of_testBit _ fun i hi => ?_
  rw [Bool.eq_false_iff]
  intro hc
  obtain ⟨k, k1, _, k3⟩ := (mvN_bit g n i 36).1 hc
  have := (hp k k1).1
  omega
theorem mvN_lt' {g : Nat → Nat} (hp : ∀ k, k < 36 → g k < 36) (n m : Nat) (hm : m ≤ 36) : mvN g n m < 2 ^ 36 := by
  refine Nat.lt_pow_two_of_testBit _ fun i hi => ?_
  rw [Bool.eq_false_iff]
  intro hc
  obtain ⟨k, k1, _, k3⟩ := (mvN_bit g n i m).1 hc
  have := hp k (by omega)
  omega
/-- a row of a set -/
def rowN (n i : Nat) : Nat := (n >>> (6 * i)) % 64
theorem rowN_lt (n i : Nat) : rowN n i < 64 := Nat.mod_lt _ (by decide)
theorem rowN_bit (n i j : Nat) : (rowN n i).testBit j = (decide (j < 6) && n.testBit (6 * i + j)) := by
  unfold rowN
  rw [show (64 : Nat) = 2 ^ 6 from rfl, Nat.testBit_mod_two_pow, Nat.testBit_shiftRight]
abbrev ShN (n : Nat) : AV := Sh (rowN n 0 : Nat) (rowN n 1 : Nat) (rowN n 2 : Nat) (rowN n 3 : Nat) (rowN n 4 : Nat) (rowN n 5 : Nat)
theorem rowN_eq (n : Nat) : rowN n 0 = n % 64 ∧ rowN n 1 = n / 64 % 64 ∧ rowN n 2 = n / 4096 % 64 ∧ rowN n 3 = n / 262144 % 64 ∧ rowN n 4 = n / 16777216 % 64 ∧ rowN n 5 = n / 1073741824 % 64 := by
  refine ⟨?_, ?_, ?_, ?_, ?_, ?_⟩ <;> simp [rowN, Nat.shiftRight_eq_div_pow]
theorem setN_rows {n : Nat} (h : n < 2 ^ 36) : setN (rowN n 0) (rowN n 1) (rowN n 2) (rowN n 3) (rowN n 4) (rowN n 5) = n := by
  obtain ⟨e0, e1, e2, e3, e4, e5⟩ := rowN_eq n
  rw [e0, e1, e2, e3, e4, e5]; unfold setN; omega
theorem rows_setN {a b c d e f : Nat} (ha : a < 64) (hb : b < 64) (hc : c < 64) (hd : d < 64) (he : e < 64) (hf : f < 64) :
    rowN (setN a b c d e f) 0 = a ∧ rowN (setN a b c d e f) 1 = b ∧ rowN (setN a b c d e f) 2 = c ∧ rowN (setN a b c d e f) 3 = d ∧ rowN (setN a b c d e f) 4 = e ∧ rowN (setN a b c d e f) 5 = f := by
  obtain ⟨e0, e1, e2, e3, e4, e5⟩ := rowN_eq (setN a b c d e f)
  rw [e0, e1, e2, e3, e4, e5]; unfold setN; omega
theorem shN_of {a b c d e f : Int} (h : shB6 a b c d e f = true) : ∃ n, n < 2 ^ 36 ∧ (rowN n 0 : Nat) = a ∧ (rowN n 1 : Nat) = b ∧ (rowN n 2 : Nat) = c ∧ (rowN n 3 : Nat) = d ∧ (rowN n 4 : Nat) = e ∧ (rowN n 5 : Nat) = f := by
  obtain ⟨a0, b0, c0, d0, e0, f0, rfl, rfl, rfl, rfl, rfl, rfl, h1, h2, h3, h4, h5, h6⟩ := rows_of a b c d e f h
  obtain ⟨r0, r1, r2, r3, r4, r5⟩ := rows_setN h1 h2 h3 h4 h5 h6
  exact ⟨setN a0 b0 c0 d0 e0 f0, setN_lt _ _ _ _ _ _ h1 h2 h3 h4 h5 h6, by rw [r0], by rw [r1], by rw [r2], by rw [r3], by rw [r4], by rw [r5]⟩
theorem shB6_ShN (n : Nat) : shB6 (rowN n 0 : Nat) (rowN n 1 : Nat) (rowN n 2 : Nat) (rowN n 3 : Nat) (rowN n 4 : Nat) (rowN n 5 : Nat) = true := by
  have h := rowN_lt n
  have h0 := h 0; have h1 := h 1; have h2 := h 2; have h3 := h 3; have h4 := h 4; have h5 := h 5
  simp [shB6, inB]; omega
theorem setI_ShN {n : Nat} (h : n < 2 ^ 36) : setI (rowN n 0 : Nat) (rowN n 1 : Nat) (rowN n 2 : Nat) (rowN n 3 : Nat) (rowN n 4 : Nat) (rowN n 5 : Nat) = (n : Nat) := by
  rw [setI_nat _ _ _ _ _ _ (rowN_lt n 0) (rowN_lt n 1) (rowN_lt n 2) (rowN_lt n 3) (rowN_lt n 4) (rowN_lt n 5), setN_rows h]
theorem kSh {K : Cont} {σ : List Blk} {a b c d e f a' b' c' d' e' f' : Int} (h : K (Sh a b c d e f) σ) (ha : a' = a) (hb : b' = b) (hc : c' = c) (hd : d' = d) (he : e' = e) (hf : f' = f) : K (Sh a' b' c' d' e' f') σ := by
  subst ha; subst hb; subst hc; subst hd; subst he; subst hf; exact h
/-! rows of results -/
theorem row_or (n m i : Nat) : rowN (n ||| m) i = rowN n i ||| rowN m i := by
  apply Nat.eq_of_testBit_eq; intro j; simp only [rowN_bit, Nat.testBit_or]; cases decide (j < 6) <;> simp
theorem row_andN (n m i : Nat) : rowN (n &&& m) i = rowN n i &&& rowN m i := by
  apply Nat.eq_of_testBit_eq; intro j; simp only [rowN_bit, Nat.testBit_and]; cases decide (j < 6) <;> simp
theorem b_or : ∀ x : Nat, x < 64 → ∀ y : Nat, y < 64 → bOr .i64 (x : Int) (y : Int) = ((x ||| y : Nat) : Int) := by decide +kernel
/-! shifts -/
def shG (x y k : Nat) : Nat := (k / 6 + y) % 6 * 6 + (k % 6 + x) % 6
def shH (x y k : Nat) : Nat := (k / 6 + (6 - y)) % 6 * 6 + (k % 6 + (6 - x)) % 6
theorem sh_perm : ∀ x, x < 6 → ∀ y, y < 6 → Perm (shG x y) (shH x y) := by decide +kernel
def rotN (x r : Nat) : Nat := ((r <<< x) &&& 63) ||| (r >>> (6 - x))
theorem rot_bit : ∀ x, x < 6 → ∀ r, r < 64 → rotN x r < 64 ∧ ∀ j, j < 6 → (rotN x r).testBit j = r.testBit ((j + (6 - x)) % 6) := by decide +kernel
theorem rot_int : ∀ x : Nat, x < 6 → ∀ r : Nat, r < 64 → bOr .i64 (bAnd .i64 (shL .i64 (r : Int) (x : Int)) 63) (shR .i64 (r : Int) (IntKind.i64.wrap (6 - (x : Int)))) = ((rotN x r : Nat) : Int) := by decide +kernel
theorem rot_row (n x y i : Nat) (hx : x < 6) (hy : y < 6) (hi : i < 6) : rotN x (rowN n i) = rowN (mvN (shG x y) n 36) ((i + y) % 6) := by
  obtain ⟨h1, h2⟩ := rot_bit x hx _ (rowN_lt n i)
  apply Nat.eq_of_testBit_eq; intro j
  rw [rowN_bit]
  by_cases hj : j < 6
  · rw [h2 j hj, rowN_bit, mvN_perm (sh_perm x hx y hy) n (by omega)]
    have e : 6 * i + (j + (6 - x)) % 6 = shH x y (6 * ((i + y) % 6) + j) := by unfold shH; omega
    rw [e]; simp [hj]; omega
  · rw [Nat.testBit_lt_two_pow (Nat.lt_of_lt_of_le h1 (Nat.pow_le_pow_right (by decide : 0 < 2) (by omega : 6 ≤ j)))]
    simp [hj]
end Go.Proofs.Ytcclhjohpicleaa
end

section
/- Contracts: sets that move; sheets by their sets. -/
set_option linter.unusedVariables false
set_option linter.unusedSimpArgs false
set_option maxRecDepth 100000
set_option maxHeartbeats 4000000
namespace Go.Proofs.Ytcclhjohpicleaa
open Go Go.RowKit Go.Proofs.Ytcclhjohpicleaa.Abs
variable {W0 : World} {σ : List Blk}
theorem kB' {K : Cont} {σ : List Blk} {x y : Bool} (h : K (Bo x) σ) (e : y = x) : K (Bo y) σ := e ▸ h
theorem kI' {K : Cont} {σ : List Blk} {x y : Int} (h : K (I x) σ) (e : y = x) : K (I y) σ := e ▸ h
theorem kT2 {K : Cont} {σ : List Blk} {x y x' y' : Int} (h : K (.tup [I x, I y]) σ) (e : x' = x) (e' : y' = y) : K (.tup [I x', I y']) σ := e ▸ e' ▸ h
theorem has_eq (n k : Nat) (hn : n < 18446744073709551616) (hk : k ≤ 64) : decide (bAnd .u64 (shR .u64 (n : Nat) (k : Nat)) 1 = 1) = n.testBit k := by
  rw [shR_u64 n k hk, show (1 : Int) = ((1 : Nat) : Int) from rfl, bAnd_u64 _ _ (Nat.lt_of_le_of_lt (by rw [Nat.shiftRight_eq_div_pow]; exact Nat.div_le_self _ _) hn) (by decide), Bool.eq_iff_iff, decide_eq_true_iff, Nat.testBit, bne_iff_ne, Nat.and_comm]
  have h := Nat.and_one_is_mod (n >>> k)
  rw [Nat.and_comm] at h
  rw [h]; omega
theorem c_has (n k : Nat) (hn : n < 18446744073709551616) (hk : k ≤ 64) (K : Cont) (h0 : K (Bo (n.testBit k)) []) : ACall Try.prog W0 73 [U n, I k] [] K := by
  refine by73 (Nat.le_of_ble_eq_true rfl) ?_
  repeat' ((conv => whnf); first | (refine Exists.intro ([] : List Nat) ?_) | (refine And.intro rfl ?_) | (refine And.intro (by decide +kernel) ?_) | (refine And.intro trivial ?_) | (refine Exists.intro _ (And.intro rfl (And.intro rfl (And.intro (Nat.le_of_ble_eq_true rfl) ?_)))) | (refine Exists.intro _ (And.intro rfl (And.intro rfl (And.intro rfl (And.intro (Nat.le_of_ble_eq_true rfl) ?_))))) | (refine And.intro (Exists.intro _ (And.intro rfl rfl)) ?_) | (exact fun hW => absurd hW (by decide +kernel)) | (intro hW; (try simp only [Bool.not_true, Bool.not_false, Bool.not_eq_true', Bool.not_eq_false', decide_eq_true_eq, decide_eq_false_iff_not, reduceCtorEq, Bool.true_eq_false, Bool.false_eq_true, mk_size, List.size_toArray, ByteArray.size_append, ByteArray.size_extract, List.length_cons, List.length_nil, ba_get, ba_empty, Int.toNat_natCast] at hW)) | (refine And.intro (?_ : _ → _) (?_ : _ → _)) | (refine FinR.drop 0 (Nat.zero_le _) (Closed.zero _) rfl ?_) | (refine FinR.keep ?_) | (refine And.intro (det3_agg rfl) ?_) | (refine fL_mk ?_) | (refine And.intro (by (try simp only [mk_size, List.size_toArray, ByteArray.size_append, ByteArray.size_extract, List.length_cons, List.length_nil]); omega) ?_) | (refine And.intro (by (try simp only [mk_size, List.size_toArray, ByteArray.size_append, ByteArray.size_extract, List.length_cons, List.length_nil, wrap64_eq]); omega) ?_) | fail)
  all_goals exact kB' h0 (has_eq n k hn hk)
theorem d_has (n k : Nat) (hn : n < 18446744073709551616) (hk : k ≤ 64) (K : Cont) (h0 : K (Bo (n.testBit k)) σ) : ACall Try.prog W0 73 [U n, I k] σ K :=
  ACall.lift rfl (fun _ => rfl) (fun W1 K _ hK => c_has n k hn hk K hK) h0
theorem or_bit (g : Nat → Nat) (n k x y : Nat) (hk : k < 36) (hg : ∀ k, k < 36 → g k < 36) (hx : x < 6) (hy : y < 6) (he : g k = y * 6 + x) (hb : n.testBit k = true) :
    bOr .u64 (mvN g n k : Nat) (shL .u64 1 (IntKind.i64.wrap (IntKind.i64.wrap ((y : Int) * 6) + (x : Int)))) = (mvN g n (k + 1) : Nat) := by
  rw [wrap_i64 ((y : Int) * 6) (by omega) (by omega), wrap_i64 _ (by omega) (by omega), show ((y : Int) * 6 + (x : Int)) = ((g k : Nat) : Int) by omega]
  have h36 := hg k hk
  have hp : 2 ^ g k < 2 ^ 36 := Nat.pow_lt_pow_right (by decide) h36
  rw [show (1 : Int) = ((1 : Nat) : Int) from rfl, shL_u64 1 _ (by omega) (by rw [Nat.one_mul]; exact Nat.lt_trans hp (by decide)), Nat.one_mul, bOr_u64 _ _ (Nat.lt_trans (mvN_lt' hg n k (by omega)) (by decide)) (Nat.lt_trans hp (by decide)), mvN_succ, if_pos hb]
theorem slU {a b : Int} (h : a = b) : AV.lit (.int .u64 a) = U b := by rw [h]
theorem slI' {a b : Int} (h : a = b) : AV.lit (.int .i64 a) = I b := by rw [h]
theorem c_moved (n : Nat) (g0 : FuncId) (caps : List AV) (g : Nat → Nat) (hn : n < 2 ^ 36) (hg : ∀ k, k < 36 → g k < 36) (hc : ∀ k : Nat, k < 36 → ∃ x y : Nat, x < 6 ∧ y < 6 ∧ g k = y * 6 + x ∧ ∀ K : Cont, K (.tup [I x, I y]) σ → ACall Try.prog W0 g0 (I (k % 6 : Nat) :: I (k / 6 : Nat) :: caps) σ K)
    (K : Cont) (h0 : K (U (mvN g n 36 : Nat)) σ) : ACall Try.prog W0 86 [U n, .fn (.func g0) [] caps] σ K := by
  refine by86 (Nat.le_of_ble_eq_true rfl) ?_
  repeat' ((conv => whnf); first | (refine Exists.intro ([] : List Nat) ?_) | (refine And.intro rfl ?_) | (refine And.intro (by decide +kernel) ?_) | (refine And.intro trivial ?_) | (refine Exists.intro _ (And.intro rfl (And.intro rfl (And.intro (Nat.le_of_ble_eq_true rfl) ?_)))) | (refine Exists.intro _ (And.intro rfl (And.intro rfl (And.intro rfl (And.intro (Nat.le_of_ble_eq_true rfl) ?_))))) | (refine And.intro (Exists.intro _ (And.intro rfl rfl)) ?_) | (exact fun hW => absurd hW (by decide +kernel)) | (intro hW; (try simp only [Bool.not_true, Bool.not_false, Bool.not_eq_true', Bool.not_eq_false', decide_eq_true_eq, decide_eq_false_iff_not, reduceCtorEq, Bool.true_eq_false, Bool.false_eq_true, mk_size, List.size_toArray, ByteArray.size_append, ByteArray.size_extract, List.length_cons, List.length_nil, ba_get, ba_empty, Int.toNat_natCast] at hW)) | (refine And.intro (?_ : _ → _) (?_ : _ → _)) | (refine FinR.drop 0 (Nat.zero_le _) (Closed.zero _) rfl ?_) | (refine FinR.keep ?_) | (refine And.intro (det3_agg rfl) ?_) | (refine fL_mk ?_) | (refine And.intro (by (try simp only [mk_size, List.size_toArray, ByteArray.size_append, ByteArray.size_extract, List.length_cons, List.length_nil]); omega) ?_) | (refine And.intro (by (try simp only [mk_size, List.size_toArray, ByteArray.size_append, ByteArray.size_extract, List.length_cons, List.length_nil, wrap64_eq]); omega) ?_) | fail)
  refine LoopR.live (fun k : Nat => [(0, U n), (1, .fn (.func g0) [] caps), (5, U (mvN g n k : Nat)), (9, I k)]) (fun _ => σ) (fun k => k ≤ 36) (fun k => 36 - k) 0 ⟨rfl, rfl, rfl, rfl, trivial⟩ (.keep rfl) (Nat.zero_le _) ?_
  intro k hk
  have e1 : ((k : Int)).tmod 6 = ((k % 6 : Nat) : Int) := by rw [Int.tmod_eq_emod_of_nonneg (by omega)]; rfl
  have e2 : IntKind.i64.wrap ((k : Int).tdiv 6) = ((k / 6 : Nat) : Int) := by rw [Int.tdiv_eq_ediv_of_nonneg (by omega), wrap_i64 _ (by omega) (by omega)]; rfl
  have e3 : IntKind.i64.wrap ((k : Int) + 1) = ((k + 1 : Nat) : Int) := by rw [wrap_i64 _ (by omega) (by omega)]; rfl
  by_cases hlt : k < 36
  · obtain ⟨x, y, hx, hy, he, hcall⟩ := hc k hlt
    have hcall' : ∀ K : Cont, K (.tup [I x, I y]) σ → ACall Try.prog W0 g0 (I ((k : Int).tmod 6) :: I (IntKind.i64.wrap ((k : Int).tdiv 6)) :: caps) σ K := by rw [e1, e2]; exact hcall
    have e4 : 0 ≤ IntKind.i64.wrap (IntKind.i64.wrap ((y : Int) * 6) + (x : Int)) := by rw [wrap_i64 ((y : Int) * 6) (by omega) (by omega), wrap_i64 _ (by omega) (by omega)]; omega
    repeat' ((conv => whnf); first | (refine hcall' _ ?_) | (refine And.intro e4 ?_) | (refine Exists.intro ([] : List Nat) ?_) | (refine And.intro rfl ?_) | (refine And.intro (by decide +kernel) ?_) | (refine And.intro trivial ?_) | (refine d_has (hn := Nat.lt_trans hn (by decide)) (hk := by omega) (h0 := ?_) ..) | (refine Exists.intro _ (And.intro rfl (And.intro rfl (And.intro (Nat.le_of_ble_eq_true rfl) ?_)))) | (refine Exists.intro _ (And.intro rfl (And.intro rfl (And.intro rfl (And.intro (Nat.le_of_ble_eq_true rfl) ?_))))) | (refine And.intro (Exists.intro _ (And.intro rfl rfl)) ?_) | (exact fun hW => absurd hW (by decide +kernel)) | (intro hW; (try simp only [Bool.not_true, Bool.not_false, Bool.not_eq_true', Bool.not_eq_false', decide_eq_true_eq, decide_eq_false_iff_not, reduceCtorEq, Bool.true_eq_false, Bool.false_eq_true, mk_size, List.size_toArray, ByteArray.size_append, ByteArray.size_extract, List.length_cons, List.length_nil, ba_get, ba_empty, Int.toNat_natCast] at hW)) | (refine And.intro (?_ : _ → _) (?_ : _ → _)) | (refine FinR.drop 0 (Nat.zero_le _) (Closed.zero _) rfl ?_) | (refine FinR.keep ?_) | (refine And.intro (det3_agg rfl) ?_) | (refine fL_mk ?_) | (refine And.intro (by (try simp only [mk_size, List.size_toArray, ByteArray.size_append, ByteArray.size_extract, List.length_cons, List.length_nil]); omega) ?_) | (refine And.intro (by (try simp only [mk_size, List.size_toArray, ByteArray.size_append, ByteArray.size_extract, List.length_cons, List.length_nil, wrap64_eq]); omega) ?_) | fail)
    all_goals first | (exfalso; omega) | skip
    · exact Again.go (k + 1) ⟨rfl, rfl, slU (or_bit g n k x y hlt hg hx hy he (by assumption)), slI' e3, trivial⟩ (.keep rfl) (by omega) (by omega)
    · refine Again.go (k + 1) ⟨rfl, rfl, slU ?_, slI' e3, trivial⟩ (.keep rfl) (by omega) (by omega)
      rw [mvN_succ, if_neg (by rw [hW]; decide), Nat.or_zero]
  · obtain rfl : k = 36 := by omega
    repeat' ((conv => whnf); first | (refine Exists.intro ([] : List Nat) ?_) | (refine And.intro rfl ?_) | (refine And.intro (by decide +kernel) ?_) | (refine And.intro trivial ?_) | (refine Exists.intro _ (And.intro rfl (And.intro rfl (And.intro (Nat.le_of_ble_eq_true rfl) ?_)))) | (refine Exists.intro _ (And.intro rfl (And.intro rfl (And.intro rfl (And.intro (Nat.le_of_ble_eq_true rfl) ?_))))) | (refine And.intro (Exists.intro _ (And.intro rfl rfl)) ?_) | (exact fun hW => absurd hW (by decide +kernel)) | (intro hW; (try simp only [Bool.not_true, Bool.not_false, Bool.not_eq_true', Bool.not_eq_false', decide_eq_true_eq, decide_eq_false_iff_not, reduceCtorEq, Bool.true_eq_false, Bool.false_eq_true, mk_size, List.size_toArray, ByteArray.size_append, ByteArray.size_extract, List.length_cons, List.length_nil, ba_get, ba_empty, Int.toNat_natCast] at hW)) | (refine And.intro (?_ : _ → _) (?_ : _ → _)) | (refine FinR.drop 0 (Nat.zero_le _) (Closed.zero _) rfl ?_) | (refine FinR.keep ?_) | (refine And.intro (det3_agg rfl) ?_) | (refine fL_mk ?_) | (refine And.intro (by (try simp only [mk_size, List.size_toArray, ByteArray.size_append, ByteArray.size_extract, List.length_cons, List.length_nil]); omega) ?_) | (refine And.intro (by (try simp only [mk_size, List.size_toArray, ByteArray.size_append, ByteArray.size_extract, List.length_cons, List.length_nil, wrap64_eq]); omega) ?_) | fail)
    all_goals first | (exfalso; omega) | exact h0
end Go.Proofs.Ytcclhjohpicleaa
end

section
/- Contracts: shifted sets; sheets of sets; sheets by their sets. -/
set_option linter.unusedVariables false
set_option linter.unusedSimpArgs false
set_option maxRecDepth 100000
set_option maxHeartbeats 4000000
namespace Go.Proofs.Ytcclhjohpicleaa
open Go Go.RowKit Go.Proofs.Ytcclhjohpicleaa.Abs
variable {W0 : World} {σ : List Blk}
theorem tmod6 (n : Int) : n.tmod 6 = if 0 ≤ n then n % 6 else -((-n) % 6) := by
  split
  · rename_i h; exact Int.tmod_eq_emod_of_nonneg h
  · rename_i h
    rw [← Int.tmod_eq_emod_of_nonneg (by omega : 0 ≤ -n), Int.neg_tmod]; omega
theorem rest_eq (n : Int) : (IntKind.i64.wrap (n.tmod 6 + 6)).tmod 6 = n % 6 := by
  rw [tmod6 n]
  have : 0 ≤ (if 0 ≤ n then n % 6 else -((-n) % 6)) + 6 ∧ (if 0 ≤ n then n % 6 else -((-n) % 6)) + 6 < 12 ∧ ((if 0 ≤ n then n % 6 else -((-n) % 6)) + 6) % 6 = n % 6 := by split <;> omega
  rw [wrap_i64 _ (by omega) (by omega), Int.tmod_eq_emod_of_nonneg this.1]
  exact this.2.2
theorem c_rest (n : Int) (x : Nat) (hx : n % 6 = x) (K : Cont) (h0 : K (I x) []) : ACall Try.prog W0 85 [I n] [] K := by
  refine by85 (Nat.le_of_ble_eq_true rfl) ?_
  have e := rest_eq n
  repeat' ((conv => whnf); first | (refine Exists.intro ([] : List Nat) ?_) | (refine And.intro rfl ?_) | (refine And.intro (by decide +kernel) ?_) | (refine And.intro trivial ?_) | (refine Exists.intro _ (And.intro rfl (And.intro rfl (And.intro (Nat.le_of_ble_eq_true rfl) ?_)))) | (refine Exists.intro _ (And.intro rfl (And.intro rfl (And.intro rfl (And.intro (Nat.le_of_ble_eq_true rfl) ?_))))) | (refine And.intro (Exists.intro _ (And.intro rfl rfl)) ?_) | (exact fun hW => absurd hW (by decide +kernel)) | (intro hW; (try simp only [Bool.not_true, Bool.not_false, Bool.not_eq_true', Bool.not_eq_false', decide_eq_true_eq, decide_eq_false_iff_not, reduceCtorEq, Bool.true_eq_false, Bool.false_eq_true, mk_size, List.size_toArray, ByteArray.size_append, ByteArray.size_extract, List.length_cons, List.length_nil, ba_get, ba_empty, Int.toNat_natCast] at hW)) | (refine And.intro (?_ : _ → _) (?_ : _ → _)) | (refine FinR.drop 0 (Nat.zero_le _) (Closed.zero _) rfl ?_) | (refine FinR.keep ?_) | (refine And.intro (det3_agg rfl) ?_) | (refine fL_mk ?_) | (refine And.intro (by (try simp only [mk_size, List.size_toArray, ByteArray.size_append, ByteArray.size_extract, List.length_cons, List.length_nil]); omega) ?_) | (refine And.intro (by (try simp only [mk_size, List.size_toArray, ByteArray.size_append, ByteArray.size_extract, List.length_cons, List.length_nil, wrap64_eq]); omega) ?_) | fail)
  all_goals exact kI' h0 (by rw [e, hx])
theorem d_rest (n : Int) (x : Nat) (hx : n % 6 = x) (K : Cont) (h0 : K (I x) σ) : ACall Try.prog W0 85 [I n] σ K :=
  ACall.lift rfl (fun _ => rfl) (fun W1 K _ hK => c_rest n x hx K hK) h0
theorem c_l2Mod (n : Int) (x : Nat) (hx : n % 6 = x) (K : Cont) (h0 : K (I x) []) : ACall Try.prog W0 84 [I n] [] K := by
  refine by84 (Nat.le_of_ble_eq_true rfl) ?_
  have e := rest_eq n
  repeat' ((conv => whnf); first | (refine Exists.intro ([] : List Nat) ?_) | (refine And.intro rfl ?_) | (refine And.intro (by decide +kernel) ?_) | (refine And.intro trivial ?_) | (refine Exists.intro _ (And.intro rfl (And.intro rfl (And.intro (Nat.le_of_ble_eq_true rfl) ?_)))) | (refine Exists.intro _ (And.intro rfl (And.intro rfl (And.intro rfl (And.intro (Nat.le_of_ble_eq_true rfl) ?_))))) | (refine And.intro (Exists.intro _ (And.intro rfl rfl)) ?_) | (exact fun hW => absurd hW (by decide +kernel)) | (intro hW; (try simp only [Bool.not_true, Bool.not_false, Bool.not_eq_true', Bool.not_eq_false', decide_eq_true_eq, decide_eq_false_iff_not, reduceCtorEq, Bool.true_eq_false, Bool.false_eq_true, mk_size, List.size_toArray, ByteArray.size_append, ByteArray.size_extract, List.length_cons, List.length_nil, ba_get, ba_empty, Int.toNat_natCast] at hW)) | (refine And.intro (?_ : _ → _) (?_ : _ → _)) | (refine FinR.drop 0 (Nat.zero_le _) (Closed.zero _) rfl ?_) | (refine FinR.keep ?_) | (refine And.intro (det3_agg rfl) ?_) | (refine fL_mk ?_) | (refine And.intro (by (try simp only [mk_size, List.size_toArray, ByteArray.size_append, ByteArray.size_extract, List.length_cons, List.length_nil]); omega) ?_) | (refine And.intro (by (try simp only [mk_size, List.size_toArray, ByteArray.size_append, ByteArray.size_extract, List.length_cons, List.length_nil, wrap64_eq]); omega) ?_) | fail)
  all_goals exact kI' h0 (by rw [e, hx])
theorem d_l2Mod (n : Int) (x : Nat) (hx : n % 6 = x) (K : Cont) (h0 : K (I x) σ) : ACall Try.prog W0 84 [I n] σ K :=
  ACall.lift rfl (fun _ => rfl) (fun W1 K _ hK => c_l2Mod n x hx K hK) h0
theorem addrem (a b : Nat) (ha : a < 36) (hb : b < 6) : (IntKind.i64.wrap ((a : Int) + (b : Int))).tmod 6 = (((a + b) % 6 : Nat) : Int) := by
  rw [wrap_i64 _ (by omega) (by omega), Int.tmod_eq_emod_of_nonneg (by omega)]; omega
theorem shClo (x y : Nat) (hx : x < 6) (hy : y < 6) (k : Nat) (hk : k < 36) : ∃ x' y' : Nat, x' < 6 ∧ y' < 6 ∧ shG x y k = y' * 6 + x' ∧ ∀ K : Cont, K (.tup [I x', I y']) [⟨[I x], 0, 3, 0, false, false⟩, ⟨[I y], 0, 3, 0, false, false⟩] →
    ACall Try.prog W0 87 (I (k % 6 : Nat) :: I (k / 6 : Nat) :: [.ptr 0 0 0, .ptr 1 0 0]) [⟨[I x], 0, 3, 0, false, false⟩, ⟨[I y], 0, 3, 0, false, false⟩] K := by
  refine ⟨(k % 6 + x) % 6, (k / 6 + y) % 6, by omega, by omega, rfl, fun K h0 => ?_⟩
  refine by87 (Nat.le_of_ble_eq_true rfl) ?_
  have e1 := addrem (k % 6) x (by omega) hx
  have e2 := addrem (k / 6) y (by omega) hy
  repeat' ((conv => whnf); first | (refine Exists.intro ([] : List Nat) ?_) | (refine And.intro rfl ?_) | (refine And.intro (by decide +kernel) ?_) | (refine And.intro trivial ?_) | (refine Exists.intro _ (And.intro rfl (And.intro rfl (And.intro (Nat.le_of_ble_eq_true rfl) ?_)))) | (refine Exists.intro _ (And.intro rfl (And.intro rfl (And.intro rfl (And.intro (Nat.le_of_ble_eq_true rfl) ?_))))) | (refine And.intro (Exists.intro _ (And.intro rfl rfl)) ?_) | (exact fun hW => absurd hW (by decide +kernel)) | (intro hW; (try simp only [Bool.not_true, Bool.not_false, Bool.not_eq_true', Bool.not_eq_false', decide_eq_true_eq, decide_eq_false_iff_not, reduceCtorEq, Bool.true_eq_false, Bool.false_eq_true, mk_size, List.size_toArray, ByteArray.size_append, ByteArray.size_extract, List.length_cons, List.length_nil, ba_get, ba_empty, Int.toNat_natCast] at hW)) | (refine And.intro (?_ : _ → _) (?_ : _ → _)) | (refine FinR.drop 0 (Nat.zero_le _) (Closed.zero _) rfl ?_) | (refine FinR.keep ?_) | (refine And.intro (det3_agg rfl) ?_) | (refine fL_mk ?_) | (refine And.intro (by (try simp only [mk_size, List.size_toArray, ByteArray.size_append, ByteArray.size_extract, List.length_cons, List.length_nil]); omega) ?_) | (refine And.intro (by (try simp only [mk_size, List.size_toArray, ByteArray.size_append, ByteArray.size_extract, List.length_cons, List.length_nil, wrap64_eq]); omega) ?_) | fail)
  all_goals exact kT2 h0 e1 e2
theorem c_shifted (n : Nat) (hn : n < 2 ^ 36) (dx dy : Int) (x y : Nat) (hx : dx % 6 = x) (hy : dy % 6 = y) (K : Cont) (h0 : K (U (mvN (shG x y) n 36 : Nat)) []) : ACall Try.prog W0 74 [U n, I dx, I dy] [] K := by
  refine by74 (Nat.le_of_ble_eq_true rfl) ?_
  have hx' : x < 6 := by omega
  have hy' : y < 6 := by omega
  repeat' ((conv => whnf); first | (refine Exists.intro ([] : List Nat) ?_) | (refine And.intro rfl ?_) | (refine And.intro (by decide +kernel) ?_) | (refine And.intro trivial ?_) | (refine d_rest (hx := hx) (h0 := ?_) ..) | (refine Exists.intro _ (And.intro (fun τ => callW_fn (d_rest (hx := hx) (h0 := And.intro rfl rfl) ..)) ?_)) | (refine Exists.intro _ (And.intro (callW_fn (d_rest (hx := hx) (h0 := And.intro rfl rfl) ..)) (And.intro trivial ?_))) | (refine Exists.intro _ (And.intro (callW_fn (d_rest (hx := hx) (h0 := And.intro rfl rfl) ..)) ?_)) | (refine Exists.intro _ (And.intro (fun τ _ => callW_fn (d_rest (hx := hx) (h0 := And.intro rfl rfl) ..)) ?_)) | (refine d_rest (hx := hy) (h0 := ?_) ..) | (refine Exists.intro _ (And.intro (fun τ => callW_fn (d_rest (hx := hy) (h0 := And.intro rfl rfl) ..)) ?_)) | (refine Exists.intro _ (And.intro (callW_fn (d_rest (hx := hy) (h0 := And.intro rfl rfl) ..)) (And.intro trivial ?_))) | (refine Exists.intro _ (And.intro (callW_fn (d_rest (hx := hy) (h0 := And.intro rfl rfl) ..)) ?_)) | (refine Exists.intro _ (And.intro (fun τ _ => callW_fn (d_rest (hx := hy) (h0 := And.intro rfl rfl) ..)) ?_)) | (refine c_moved (hn := hn) (hg := fun k hk => (sh_perm x hx' y hy' k hk).1) (hc := fun k hk => shClo x y hx' hy' k hk) (h0 := ?_) ..) | (refine Exists.intro _ (And.intro rfl (And.intro rfl (And.intro (Nat.le_of_ble_eq_true rfl) ?_)))) | (refine Exists.intro _ (And.intro rfl (And.intro rfl (And.intro rfl (And.intro (Nat.le_of_ble_eq_true rfl) ?_))))) | (refine And.intro (Exists.intro _ (And.intro rfl rfl)) ?_) | (exact fun hW => absurd hW (by decide +kernel)) | (intro hW; (try simp only [Bool.not_true, Bool.not_false, Bool.not_eq_true', Bool.not_eq_false', decide_eq_true_eq, decide_eq_false_iff_not, reduceCtorEq, Bool.true_eq_false, Bool.false_eq_true, mk_size, List.size_toArray, ByteArray.size_append, ByteArray.size_extract, List.length_cons, List.length_nil, ba_get, ba_empty, Int.toNat_natCast] at hW)) | (refine And.intro (?_ : _ → _) (?_ : _ → _)) | (refine FinR.drop 0 (Nat.zero_le _) (Closed.zero _) rfl ?_) | (refine FinR.keep ?_) | (refine And.intro (det3_agg rfl) ?_) | (refine fL_mk ?_) | (refine And.intro (by (try simp only [mk_size, List.size_toArray, ByteArray.size_append, ByteArray.size_extract, List.length_cons, List.length_nil]); omega) ?_) | (refine And.intro (by (try simp only [mk_size, List.size_toArray, ByteArray.size_append, ByteArray.size_extract, List.length_cons, List.length_nil, wrap64_eq]); omega) ?_) | fail)
  all_goals exact h0
theorem d_shifted (n : Nat) (hn : n < 2 ^ 36) (dx dy : Int) (x y : Nat) (hx : dx % 6 = x) (hy : dy % 6 = y) (K : Cont) (h0 : K (U (mvN (shG x y) n 36 : Nat)) σ) : ACall Try.prog W0 74 [U n, I dx, I dy] σ K :=
  ACall.lift rfl (fun _ => rfl) (fun W1 K _ hK => c_shifted n hn dx dy x y hx hy K hK) h0
end Go.Proofs.Ytcclhjohpicleaa
end

section
/- Contracts: sheets of sets; the reference's sheets by their sets. -/
set_option linter.unusedVariables false
set_option linter.unusedSimpArgs false
set_option maxRecDepth 100000
set_option maxHeartbeats 4000000
namespace Go.Proofs.Ytcclhjohpicleaa
open Go Go.RowKit Go.Proofs.Ytcclhjohpicleaa.Abs
variable {W0 : World} {σ : List Blk}
theorem c_setOfN (n : Nat) (hn : n < 2 ^ 36) (K : Cont) (h0 : K (.tup [U n, Bo true]) []) : ACall Try.prog W0 79 [ShN n] [] K := by
  refine c_setOf (K := K) (h0 := ?_) ..
  unfold setR
  rw [shB6_ShN, if_pos rfl, setI_ShN hn]; exact h0
theorem d_setOfN (n : Nat) (hn : n < 2 ^ 36) (K : Cont) (h0 : K (.tup [U n, Bo true]) σ) : ACall Try.prog W0 79 [ShN n] σ K :=
  ACall.lift rfl (fun _ => rfl) (fun W1 K _ hK => c_setOfN n hn K hK) h0
abbrev Ce (x y : Int) : AV := .agg [I x, I y]
theorem c_pressed (n k : Nat) (hn : n < 2 ^ 36) (hk : k < 36) (K : Cont) (h0 : K (U (mvN (shG (k % 6) (k / 6)) n 36 : Nat)) []) : ACall Try.prog W0 53 [U n, I k] [] K := by
  refine by53 (Nat.le_of_ble_eq_true rfl) ?_
  have e1 : ((k : Int)).tmod 6 = ((k % 6 : Nat) : Int) := by rw [Int.tmod_eq_emod_of_nonneg (by omega)]; rfl
  have e2 : IntKind.i64.wrap ((k : Int).tdiv 6) = ((k / 6 : Nat) : Int) := by rw [Int.tdiv_eq_ediv_of_nonneg (by omega), wrap_i64 _ (by omega) (by omega)]; rfl
  have h1 : ((k : Int)).tmod 6 % 6 = ((k % 6 : Nat) : Int) := by rw [e1]; omega
  have h2 : IntKind.i64.wrap ((k : Int).tdiv 6) % 6 = ((k / 6 : Nat) : Int) := by rw [e2]; omega
  repeat' ((conv => whnf); first | (refine Exists.intro ([] : List Nat) ?_) | (refine And.intro rfl ?_) | (refine And.intro (by decide +kernel) ?_) | (refine And.intro trivial ?_) | (refine d_shifted (hn := hn) (hx := h1) (hy := h2) (h0 := ?_) ..) | (refine Exists.intro _ (And.intro rfl (And.intro rfl (And.intro (Nat.le_of_ble_eq_true rfl) ?_)))) | (refine Exists.intro _ (And.intro rfl (And.intro rfl (And.intro rfl (And.intro (Nat.le_of_ble_eq_true rfl) ?_))))) | (refine And.intro (Exists.intro _ (And.intro rfl rfl)) ?_) | (exact fun hW => absurd hW (by decide +kernel)) | (intro hW; (try simp only [Bool.not_true, Bool.not_false, Bool.not_eq_true', Bool.not_eq_false', decide_eq_true_eq, decide_eq_false_iff_not, reduceCtorEq, Bool.true_eq_false, Bool.false_eq_true, mk_size, List.size_toArray, ByteArray.size_append, ByteArray.size_extract, List.length_cons, List.length_nil, ba_get, ba_empty, Int.toNat_natCast] at hW)) | (refine And.intro (?_ : _ → _) (?_ : _ → _)) | (refine FinR.drop 0 (Nat.zero_le _) (Closed.zero _) rfl ?_) | (refine FinR.keep ?_) | (refine And.intro (det3_agg rfl) ?_) | (refine fL_mk ?_) | (refine And.intro (by (try simp only [mk_size, List.size_toArray, ByteArray.size_append, ByteArray.size_extract, List.length_cons, List.length_nil]); omega) ?_) | (refine And.intro (by (try simp only [mk_size, List.size_toArray, ByteArray.size_append, ByteArray.size_extract, List.length_cons, List.length_nil, wrap64_eq]); omega) ?_) | fail)
  all_goals exact h0
theorem d_pressed (n k : Nat) (hn : n < 2 ^ 36) (hk : k < 36) (K : Cont) (h0 : K (U (mvN (shG (k % 6) (k / 6)) n 36 : Nat)) σ) : ACall Try.prog W0 53 [U n, I k] σ K :=
  ACall.lift rfl (fun _ => rfl) (fun W1 K _ hK => c_pressed n k hn hk K hK) h0
/-! ### the reference's sheets -/
theorem c_l2ShiftN (n : Nat) (dx dy : Int) (x y : Nat) (hx : dx % 6 = x) (hy : dy % 6 = y) (K : Cont) (h0 : K (ShN (mvN (shG x y) n 36)) []) : ACall Try.prog W0 70 [ShN n, I dx, I dy] [] K := by
  refine by70 (Nat.le_of_ble_eq_true rfl) ?_
  have hx' : x < 6 := by omega
  have r : ∀ i, bOr .i64 (bAnd .i64 (shL .i64 (rowN n i : Nat) (x : Int)) 63) (shR .i64 (rowN n i : Nat) (IntKind.i64.wrap (6 - (x : Int)))) = ((rotN x (rowN n i) : Nat) : Int) := fun i => rot_int x hx' _ (rowN_lt n i)
  have e6 : 0 ≤ IntKind.i64.wrap (6 - (x : Int)) := by rw [wrap_i64 _ (by omega) (by omega)]; omega
  have e0 : 0 ≤ (x : Int) := by omega
  have hy' : y < 6 := by omega
  have qq := fun (i : Nat) (hi : i < 6) => rot_row n x y i hx' hy' hi
  obtain rfl | rfl | rfl | rfl | rfl | rfl : y = 0 ∨ y = 1 ∨ y = 2 ∨ y = 3 ∨ y = 4 ∨ y = 5 := by omega
  · skip
    repeat' ((conv => whnf); first | (refine And.intro e0 ?_) | (refine And.intro e6 ?_) | (refine Exists.intro ([] : List Nat) ?_) | (refine And.intro rfl ?_) | (refine And.intro (by decide +kernel) ?_) | (refine And.intro trivial ?_) | (refine LoopR.unroll 7 ?_) | (refine d_l2Mod (hx := hx) (h0 := ?_) ..) | (refine Exists.intro _ (And.intro (fun τ => callW_fn (d_l2Mod (hx := hx) (h0 := And.intro rfl rfl) ..)) ?_)) | (refine Exists.intro _ (And.intro (callW_fn (d_l2Mod (hx := hx) (h0 := And.intro rfl rfl) ..)) (And.intro trivial ?_))) | (refine Exists.intro _ (And.intro (callW_fn (d_l2Mod (hx := hx) (h0 := And.intro rfl rfl) ..)) ?_)) | (refine Exists.intro _ (And.intro (fun τ _ => callW_fn (d_l2Mod (hx := hx) (h0 := And.intro rfl rfl) ..)) ?_)) | (refine d_l2Mod (hx := hy) (h0 := ?_) ..) | (refine Exists.intro _ (And.intro (fun τ => callW_fn (d_l2Mod (hx := hy) (h0 := And.intro rfl rfl) ..)) ?_)) | (refine Exists.intro _ (And.intro (callW_fn (d_l2Mod (hx := hy) (h0 := And.intro rfl rfl) ..)) (And.intro trivial ?_))) | (refine Exists.intro _ (And.intro (callW_fn (d_l2Mod (hx := hy) (h0 := And.intro rfl rfl) ..)) ?_)) | (refine Exists.intro _ (And.intro (fun τ _ => callW_fn (d_l2Mod (hx := hy) (h0 := And.intro rfl rfl) ..)) ?_)) | (refine Exists.intro _ (And.intro rfl (And.intro rfl (And.intro (Nat.le_of_ble_eq_true rfl) ?_)))) | (refine Exists.intro _ (And.intro rfl (And.intro rfl (And.intro rfl (And.intro (Nat.le_of_ble_eq_true rfl) ?_))))) | (refine And.intro (Exists.intro _ (And.intro rfl rfl)) ?_) | (exact fun hW => absurd hW (by decide +kernel)) | (intro hW; (try simp only [Bool.not_true, Bool.not_false, Bool.not_eq_true', Bool.not_eq_false', decide_eq_true_eq, decide_eq_false_iff_not, reduceCtorEq, Bool.true_eq_false, Bool.false_eq_true, mk_size, List.size_toArray, ByteArray.size_append, ByteArray.size_extract, List.length_cons, List.length_nil, ba_get, ba_empty, Int.toNat_natCast] at hW)) | (refine And.intro (?_ : _ → _) (?_ : _ → _)) | (refine FinR.drop 0 (Nat.zero_le _) (Closed.zero _) rfl ?_) | (refine FinR.keep ?_) | (refine And.intro (det3_agg rfl) ?_) | (refine fL_mk ?_) | (refine And.intro (by (try simp only [mk_size, List.size_toArray, ByteArray.size_append, ByteArray.size_extract, List.length_cons, List.length_nil]); omega) ?_) | (refine And.intro (by (try simp only [mk_size, List.size_toArray, ByteArray.size_append, ByteArray.size_extract, List.length_cons, List.length_nil, wrap64_eq]); omega) ?_) | fail)
    all_goals exact kSh h0 ((r 0).trans (congrArg _ (qq 0 (by decide)))) ((r 1).trans (congrArg _ (qq 1 (by decide)))) ((r 2).trans (congrArg _ (qq 2 (by decide)))) ((r 3).trans (congrArg _ (qq 3 (by decide)))) ((r 4).trans (congrArg _ (qq 4 (by decide)))) ((r 5).trans (congrArg _ (qq 5 (by decide))))
  · skip
    repeat' ((conv => whnf); first | (refine And.intro e0 ?_) | (refine And.intro e6 ?_) | (refine Exists.intro ([] : List Nat) ?_) | (refine And.intro rfl ?_) | (refine And.intro (by decide +kernel) ?_) | (refine And.intro trivial ?_) | (refine LoopR.unroll 7 ?_) | (refine d_l2Mod (hx := hx) (h0 := ?_) ..) | (refine Exists.intro _ (And.intro (fun τ => callW_fn (d_l2Mod (hx := hx) (h0 := And.intro rfl rfl) ..)) ?_)) | (refine Exists.intro _ (And.intro (callW_fn (d_l2Mod (hx := hx) (h0 := And.intro rfl rfl) ..)) (And.intro trivial ?_))) | (refine Exists.intro _ (And.intro (callW_fn (d_l2Mod (hx := hx) (h0 := And.intro rfl rfl) ..)) ?_)) | (refine Exists.intro _ (And.intro (fun τ _ => callW_fn (d_l2Mod (hx := hx) (h0 := And.intro rfl rfl) ..)) ?_)) | (refine d_l2Mod (hx := hy) (h0 := ?_) ..) | (refine Exists.intro _ (And.intro (fun τ => callW_fn (d_l2Mod (hx := hy) (h0 := And.intro rfl rfl) ..)) ?_)) | (refine Exists.intro _ (And.intro (callW_fn (d_l2Mod (hx := hy) (h0 := And.intro rfl rfl) ..)) (And.intro trivial ?_))) | (refine Exists.intro _ (And.intro (callW_fn (d_l2Mod (hx := hy) (h0 := And.intro rfl rfl) ..)) ?_)) | (refine Exists.intro _ (And.intro (fun τ _ => callW_fn (d_l2Mod (hx := hy) (h0 := And.intro rfl rfl) ..)) ?_)) | (refine Exists.intro _ (And.intro rfl (And.intro rfl (And.intro (Nat.le_of_ble_eq_true rfl) ?_)))) | (refine Exists.intro _ (And.intro rfl (And.intro rfl (And.intro rfl (And.intro (Nat.le_of_ble_eq_true rfl) ?_))))) | (refine And.intro (Exists.intro _ (And.intro rfl rfl)) ?_) | (exact fun hW => absurd hW (by decide +kernel)) | (intro hW; (try simp only [Bool.not_true, Bool.not_false, Bool.not_eq_true', Bool.not_eq_false', decide_eq_true_eq, decide_eq_false_iff_not, reduceCtorEq, Bool.true_eq_false, Bool.false_eq_true, mk_size, List.size_toArray, ByteArray.size_append, ByteArray.size_extract, List.length_cons, List.length_nil, ba_get, ba_empty, Int.toNat_natCast] at hW)) | (refine And.intro (?_ : _ → _) (?_ : _ → _)) | (refine FinR.drop 0 (Nat.zero_le _) (Closed.zero _) rfl ?_) | (refine FinR.keep ?_) | (refine And.intro (det3_agg rfl) ?_) | (refine fL_mk ?_) | (refine And.intro (by (try simp only [mk_size, List.size_toArray, ByteArray.size_append, ByteArray.size_extract, List.length_cons, List.length_nil]); omega) ?_) | (refine And.intro (by (try simp only [mk_size, List.size_toArray, ByteArray.size_append, ByteArray.size_extract, List.length_cons, List.length_nil, wrap64_eq]); omega) ?_) | fail)
    all_goals exact kSh h0 ((r 5).trans (congrArg _ (qq 5 (by decide)))) ((r 0).trans (congrArg _ (qq 0 (by decide)))) ((r 1).trans (congrArg _ (qq 1 (by decide)))) ((r 2).trans (congrArg _ (qq 2 (by decide)))) ((r 3).trans (congrArg _ (qq 3 (by decide)))) ((r 4).trans (congrArg _ (qq 4 (by decide))))
  · skip
    repeat' ((conv => whnf); first | (refine And.intro e0 ?_) | (refine And.intro e6 ?_) | (refine Exists.intro ([] : List Nat) ?_) | (refine And.intro rfl ?_) | (refine And.intro (by decide +kernel) ?_) | (refine And.intro trivial ?_) | (refine LoopR.unroll 7 ?_) | (refine d_l2Mod (hx := hx) (h0 := ?_) ..) | (refine Exists.intro _ (And.intro (fun τ => callW_fn (d_l2Mod (hx := hx) (h0 := And.intro rfl rfl) ..)) ?_)) | (refine Exists.intro _ (And.intro (callW_fn (d_l2Mod (hx := hx) (h0 := And.intro rfl rfl) ..)) (And.intro trivial ?_))) | (refine Exists.intro _ (And.intro (callW_fn (d_l2Mod (hx := hx) (h0 := And.intro rfl rfl) ..)) ?_)) | (refine Exists.intro _ (And.intro (fun τ _ => callW_fn (d_l2Mod (hx := hx) (h0 := And.intro rfl rfl) ..)) ?_)) | (refine d_l2Mod (hx := hy) (h0 := ?_) ..) | (refine Exists.intro _ (And.intro (fun τ => callW_fn (d_l2Mod (hx := hy) (h0 := And.intro rfl rfl) ..)) ?_)) | (refine Exists.intro _ (And.intro (callW_fn (d_l2Mod (hx := hy) (h0 := And.intro rfl rfl) ..)) (And.intro trivial ?_))) | (refine Exists.intro _ (And.intro (callW_fn (d_l2Mod (hx := hy) (h0 := And.intro rfl rfl) ..)) ?_)) | (refine Exists.intro _ (And.intro (fun τ _ => callW_fn (d_l2Mod (hx := hy) (h0 := And.intro rfl rfl) ..)) ?_)) | (refine Exists.intro _ (And.intro rfl (And.intro rfl (And.intro (Nat.le_of_ble_eq_true rfl) ?_)))) | (refine Exists.intro _ (And.intro rfl (And.intro rfl (And.intro rfl (And.intro (Nat.le_of_ble_eq_true rfl) ?_))))) | (refine And.intro (Exists.intro _ (And.intro rfl rfl)) ?_) | (exact fun hW => absurd hW (by decide +kernel)) | (intro hW; (try simp only [Bool.not_true, Bool.not_false, Bool.not_eq_true', Bool.not_eq_false', decide_eq_true_eq, decide_eq_false_iff_not, reduceCtorEq, Bool.true_eq_false, Bool.false_eq_true, mk_size, List.size_toArray, ByteArray.size_append, ByteArray.size_extract, List.length_cons, List.length_nil, ba_get, ba_empty, Int.toNat_natCast] at hW)) | (refine And.intro (?_ : _ → _) (?_ : _ → _)) | (refine FinR.drop 0 (Nat.zero_le _) (Closed.zero _) rfl ?_) | (refine FinR.keep ?_) | (refine And.intro (det3_agg rfl) ?_) | (refine fL_mk ?_) | (refine And.intro (by (try simp only [mk_size, List.size_toArray, ByteArray.size_append, ByteArray.size_extract, List.length_cons, List.length_nil]); omega) ?_) | (refine And.intro (by (try simp only [mk_size, List.size_toArray, ByteArray.size_append, ByteArray.size_extract, List.length_cons, List.length_nil, wrap64_eq]); omega) ?_) | fail)
    all_goals exact kSh h0 ((r 4).trans (congrArg _ (qq 4 (by decide)))) ((r 5).trans (congrArg _ (qq 5 (by decide)))) ((r 0).trans (congrArg _ (qq 0 (by decide)))) ((r 1).trans (congrArg _ (qq 1 (by decide)))) ((r 2).trans (congrArg _ (qq 2 (by decide)))) ((r 3).trans (congrArg _ (qq 3 (by decide))))
  · skip
    repeat' ((conv => whnf); first | (refine And.intro e0 ?_) | (refine And.intro e6 ?_) | (refine Exists.intro ([] : List Nat) ?_) | (refine And.intro rfl ?_) | (refine And.intro (by decide +kernel) ?_) | (refine And.intro trivial ?_) | (refine LoopR.unroll 7 ?_) | (refine d_l2Mod (hx := hx) (h0 := ?_) ..) | (refine Exists.intro _ (And.intro (fun τ => callW_fn (d_l2Mod (hx := hx) (h0 := And.intro rfl rfl) ..)) ?_)) | (refine Exists.intro _ (And.intro (callW_fn (d_l2Mod (hx := hx) (h0 := And.intro rfl rfl) ..)) (And.intro trivial ?_))) | (refine Exists.intro _ (And.intro (callW_fn (d_l2Mod (hx := hx) (h0 := And.intro rfl rfl) ..)) ?_)) | (refine Exists.intro _ (And.intro (fun τ _ => callW_fn (d_l2Mod (hx := hx) (h0 := And.intro rfl rfl) ..)) ?_)) | (refine d_l2Mod (hx := hy) (h0 := ?_) ..) | (refine Exists.intro _ (And.intro (fun τ => callW_fn (d_l2Mod (hx := hy) (h0 := And.intro rfl rfl) ..)) ?_)) | (refine Exists.intro _ (And.intro (callW_fn (d_l2Mod (hx := hy) (h0 := And.intro rfl rfl) ..)) (And.intro trivial ?_))) | (refine Exists.intro _ (And.intro (callW_fn (d_l2Mod (hx := hy) (h0 := And.intro rfl rfl) ..)) ?_)) | (refine Exists.intro _ (And.intro (fun τ _ => callW_fn (d_l2Mod (hx := hy) (h0 := And.intro rfl rfl) ..)) ?_)) | (refine Exists.intro _ (And.intro rfl (And.intro rfl (And.intro (Nat.le_of_ble_eq_true rfl) ?_)))) | (refine Exists.intro _ (And.intro rfl (And.intro rfl (And.intro rfl (And.intro (Nat.le_of_ble_eq_true rfl) ?_))))) | (refine And.intro (Exists.intro _ (And.intro rfl rfl)) ?_) | (exact fun hW => absurd hW (by decide +kernel)) | (intro hW; (try simp only [Bool.not_true, Bool.not_false, Bool.not_eq_true', Bool.not_eq_false', decide_eq_true_eq, decide_eq_false_iff_not, reduceCtorEq, Bool.true_eq_false, Bool.false_eq_true, mk_size, List.size_toArray, ByteArray.size_append, ByteArray.size_extract, List.length_cons, List.length_nil, ba_get, ba_empty, Int.toNat_natCast] at hW)) | (refine And.intro (?_ : _ → _) (?_ : _ → _)) | (refine FinR.drop 0 (Nat.zero_le _) (Closed.zero _) rfl ?_) | (refine FinR.keep ?_) | (refine And.intro (det3_agg rfl) ?_) | (refine fL_mk ?_) | (refine And.intro (by (try simp only [mk_size, List.size_toArray, ByteArray.size_append, ByteArray.size_extract, List.length_cons, List.length_nil]); omega) ?_) | (refine And.intro (by (try simp only [mk_size, List.size_toArray, ByteArray.size_append, ByteArray.size_extract, List.length_cons, List.length_nil, wrap64_eq]); omega) ?_) | fail)
    all_goals exact kSh h0 ((r 3).trans (congrArg _ (qq 3 (by decide)))) ((r 4).trans (congrArg _ (qq 4 (by decide)))) ((r 5).trans (congrArg _ (qq 5 (by decide)))) ((r 0).trans (congrArg _ (qq 0 (by decide)))) ((r 1).trans (congrArg _ (qq 1 (by decide)))) ((r 2).trans (congrArg _ (qq 2 (by decide))))
  · skip
    repeat' ((conv => whnf); first | (refine And.intro e0 ?_) | (refine And.intro e6 ?_) | (refine Exists.intro ([] : List Nat) ?_) | (refine And.intro rfl ?_) | (refine And.intro (by decide +kernel) ?_) | (refine And.intro trivial ?_) | (refine LoopR.unroll 7 ?_) | (refine d_l2Mod (hx := hx) (h0 := ?_) ..) | (refine Exists.intro _ (And.intro (fun τ => callW_fn (d_l2Mod (hx := hx) (h0 := And.intro rfl rfl) ..)) ?_)) | (refine Exists.intro _ (And.intro (callW_fn (d_l2Mod (hx := hx) (h0 := And.intro rfl rfl) ..)) (And.intro trivial ?_))) | (refine Exists.intro _ (And.intro (callW_fn (d_l2Mod (hx := hx) (h0 := And.intro rfl rfl) ..)) ?_)) | (refine Exists.intro _ (And.intro (fun τ _ => callW_fn (d_l2Mod (hx := hx) (h0 := And.intro rfl rfl) ..)) ?_)) | (refine d_l2Mod (hx := hy) (h0 := ?_) ..) | (refine Exists.intro _ (And.intro (fun τ => callW_fn (d_l2Mod (hx := hy) (h0 := And.intro rfl rfl) ..)) ?_)) | (refine Exists.intro _ (And.intro (callW_fn (d_l2Mod (hx := hy) (h0 := And.intro rfl rfl) ..)) (And.intro trivial ?_))) | (refine Exists.intro _ (And.intro (callW_fn (d_l2Mod (hx := hy) (h0 := And.intro rfl rfl) ..)) ?_)) | (refine Exists.intro _ (And.intro (fun τ _ => callW_fn (d_l2Mod (hx := hy) (h0 := And.intro rfl rfl) ..)) ?_)) | (refine Exists.intro _ (And.intro rfl (And.intro rfl (And.intro (Nat.le_of_ble_eq_true rfl) ?_)))) | (refine Exists.intro _ (And.intro rfl (And.intro rfl (And.intro rfl (And.intro (Nat.le_of_ble_eq_true rfl) ?_))))) | (refine And.intro (Exists.intro _ (And.intro rfl rfl)) ?_) | (exact fun hW => absurd hW (by decide +kernel)) | (intro hW; (try simp only [Bool.not_true, Bool.not_false, Bool.not_eq_true', Bool.not_eq_false', decide_eq_true_eq, decide_eq_false_iff_not, reduceCtorEq, Bool.true_eq_false, Bool.false_eq_true, mk_size, List.size_toArray, ByteArray.size_append, ByteArray.size_extract, List.length_cons, List.length_nil, ba_get, ba_empty, Int.toNat_natCast] at hW)) | (refine And.intro (?_ : _ → _) (?_ : _ → _)) | (refine FinR.drop 0 (Nat.zero_le _) (Closed.zero _) rfl ?_) | (refine FinR.keep ?_) | (refine And.intro (det3_agg rfl) ?_) | (refine fL_mk ?_) | (refine And.intro (by (try simp only [mk_size, List.size_toArray, ByteArray.size_append, ByteArray.size_extract, List.length_cons, List.length_nil]); omega) ?_) | (refine And.intro (by (try simp only [mk_size, List.size_toArray, ByteArray.size_append, ByteArray.size_extract, List.length_cons, List.length_nil, wrap64_eq]); omega) ?_) | fail)
    all_goals exact kSh h0 ((r 2).trans (congrArg _ (qq 2 (by decide)))) ((r 3).trans (congrArg _ (qq 3 (by decide)))) ((r 4).trans (congrArg _ (qq 4 (by decide)))) ((r 5).trans (congrArg _ (qq 5 (by decide)))) ((r 0).trans (congrArg _ (qq 0 (by decide)))) ((r 1).trans (congrArg _ (qq 1 (by decide))))
  · skip
    repeat' ((conv => whnf); first | (refine And.intro e0 ?_) | (refine And.intro e6 ?_) | (refine Exists.intro ([] : List Nat) ?_) | (refine And.intro rfl ?_) | (refine And.intro (by decide +kernel) ?_) | (refine And.intro trivial ?_) | (refine LoopR.unroll 7 ?_) | (refine d_l2Mod (hx := hx) (h0 := ?_) ..) | (refine Exists.intro _ (And.intro (fun τ => callW_fn (d_l2Mod (hx := hx) (h0 := And.intro rfl rfl) ..)) ?_)) | (refine Exists.intro _ (And.intro (callW_fn (d_l2Mod (hx := hx) (h0 := And.intro rfl rfl) ..)) (And.intro trivial ?_))) | (refine Exists.intro _ (And.intro (callW_fn (d_l2Mod (hx := hx) (h0 := And.intro rfl rfl) ..)) ?_)) | (refine Exists.intro _ (And.intro (fun τ _ => callW_fn (d_l2Mod (hx := hx) (h0 := And.intro rfl rfl) ..)) ?_)) | (refine d_l2Mod (hx := hy) (h0 := ?_) ..) | (refine Exists.intro _ (And.intro (fun τ => callW_fn (d_l2Mod (hx := hy) (h0 := And.intro rfl rfl) ..)) ?_)) | (refine Exists.intro _ (And.intro (callW_fn (d_l2Mod (hx := hy) (h0 := And.intro rfl rfl) ..)) (And.intro trivial ?_))) | (refine Exists.intro _ (And.intro (callW_fn (d_l2Mod (hx := hy) (h0 := And.intro rfl rfl) ..)) ?_)) | (refine Exists.intro _ (And.intro (fun τ _ => callW_fn (d_l2Mod (hx := hy) (h0 := And.intro rfl rfl) ..)) ?_)) | (refine Exists.intro _ (And.intro rfl (And.intro rfl (And.intro (Nat.le_of_ble_eq_true rfl) ?_)))) | (refine Exists.intro _ (And.intro rfl (And.intro rfl (And.intro rfl (And.intro (Nat.le_of_ble_eq_true rfl) ?_))))) | (refine And.intro (Exists.intro _ (And.intro rfl rfl)) ?_) | (exact fun hW => absurd hW (by decide +kernel)) | (intro hW; (try simp only [Bool.not_true, Bool.not_false, Bool.not_eq_true', Bool.not_eq_false', decide_eq_true_eq, decide_eq_false_iff_not, reduceCtorEq, Bool.true_eq_false, Bool.false_eq_true, mk_size, List.size_toArray, ByteArray.size_append, ByteArray.size_extract, List.length_cons, List.length_nil, ba_get, ba_empty, Int.toNat_natCast] at hW)) | (refine And.intro (?_ : _ → _) (?_ : _ → _)) | (refine FinR.drop 0 (Nat.zero_le _) (Closed.zero _) rfl ?_) | (refine FinR.keep ?_) | (refine And.intro (det3_agg rfl) ?_) | (refine fL_mk ?_) | (refine And.intro (by (try simp only [mk_size, List.size_toArray, ByteArray.size_append, ByteArray.size_extract, List.length_cons, List.length_nil]); omega) ?_) | (refine And.intro (by (try simp only [mk_size, List.size_toArray, ByteArray.size_append, ByteArray.size_extract, List.length_cons, List.length_nil, wrap64_eq]); omega) ?_) | fail)
    all_goals exact kSh h0 ((r 1).trans (congrArg _ (qq 1 (by decide)))) ((r 2).trans (congrArg _ (qq 2 (by decide)))) ((r 3).trans (congrArg _ (qq 3 (by decide)))) ((r 4).trans (congrArg _ (qq 4 (by decide)))) ((r 5).trans (congrArg _ (qq 5 (by decide)))) ((r 0).trans (congrArg _ (qq 0 (by decide))))
theorem d_l2ShiftN (n : Nat) (dx dy : Int) (x y : Nat) (hx : dx % 6 = x) (hy : dy % 6 = y) (K : Cont) (h0 : K (ShN (mvN (shG x y) n 36)) σ) : ACall Try.prog W0 70 [ShN n, I dx, I dy] σ K :=
  ACall.lift rfl (fun _ => rfl) (fun W1 K _ hK => c_l2ShiftN n dx dy x y hx hy K hK) h0
end Go.Proofs.Ytcclhjohpicleaa
end

section
/- Contracts: presses, flips. -/
set_option linter.unusedVariables false
set_option linter.unusedSimpArgs false
set_option maxRecDepth 100000
set_option maxHeartbeats 4000000
namespace Go.Proofs.Ytcclhjohpicleaa
open Go Go.RowKit Go.Proofs.Ytcclhjohpicleaa.Abs
variable {W0 : World} {σ : List Blk}
theorem c_l2OrN (n m : Nat) (K : Cont) (h0 : K (ShN (n ||| m)) []) : ACall Try.prog W0 49 [ShN n, ShN m] [] K := by
  refine by49 (Nat.le_of_ble_eq_true rfl) ?_
  have q := fun (i : Nat) => (b_or _ (rowN_lt n i) _ (rowN_lt m i)).trans (congrArg (fun x : Nat => (x : Int)) (row_or n m i).symm)
  repeat' ((conv => whnf); first | (refine Exists.intro ([] : List Nat) ?_) | (refine And.intro rfl ?_) | (refine And.intro (by decide +kernel) ?_) | (refine And.intro trivial ?_) | (refine LoopR.unroll 7 ?_) | (refine Exists.intro _ (And.intro rfl (And.intro rfl (And.intro (Nat.le_of_ble_eq_true rfl) ?_)))) | (refine Exists.intro _ (And.intro rfl (And.intro rfl (And.intro rfl (And.intro (Nat.le_of_ble_eq_true rfl) ?_))))) | (refine And.intro (Exists.intro _ (And.intro rfl rfl)) ?_) | (exact fun hW => absurd hW (by decide +kernel)) | (intro hW; (try simp only [Bool.not_true, Bool.not_false, Bool.not_eq_true', Bool.not_eq_false', decide_eq_true_eq, decide_eq_false_iff_not, reduceCtorEq, Bool.true_eq_false, Bool.false_eq_true, mk_size, List.size_toArray, ByteArray.size_append, ByteArray.size_extract, List.length_cons, List.length_nil, ba_get, ba_empty, Int.toNat_natCast] at hW)) | (refine And.intro (?_ : _ → _) (?_ : _ → _)) | (refine FinR.drop 0 (Nat.zero_le _) (Closed.zero _) rfl ?_) | (refine FinR.keep ?_) | (refine And.intro (det3_agg rfl) ?_) | (refine fL_mk ?_) | (refine And.intro (by (try simp only [mk_size, List.size_toArray, ByteArray.size_append, ByteArray.size_extract, List.length_cons, List.length_nil]); omega) ?_) | (refine And.intro (by (try simp only [mk_size, List.size_toArray, ByteArray.size_append, ByteArray.size_extract, List.length_cons, List.length_nil, wrap64_eq]); omega) ?_) | fail)
  all_goals exact kSh h0 (q 0) (q 1) (q 2) (q 3) (q 4) (q 5)
theorem d_l2OrN (n m : Nat) (K : Cont) (h0 : K (ShN (n ||| m)) σ) : ACall Try.prog W0 49 [ShN n, ShN m] σ K :=
  ACall.lift rfl (fun _ => rfl) (fun W1 K _ hK => c_l2OrN n m K hK) h0
theorem c_l2AndM (n m : Nat) (K : Cont) (h0 : K (ShN (n &&& m)) []) : ACall Try.prog W0 83 [ShN n, ShN m] [] K := by
  refine by83 (Nat.le_of_ble_eq_true rfl) ?_
  have q := fun (i : Nat) => (row_and _ (rowN_lt n i) _ (rowN_lt m i)).trans (congrArg (fun x : Nat => (x : Int)) (row_andN n m i).symm)
  repeat' ((conv => whnf); first | (refine Exists.intro ([] : List Nat) ?_) | (refine And.intro rfl ?_) | (refine And.intro (by decide +kernel) ?_) | (refine And.intro trivial ?_) | (refine LoopR.unroll 7 ?_) | (refine Exists.intro _ (And.intro rfl (And.intro rfl (And.intro (Nat.le_of_ble_eq_true rfl) ?_)))) | (refine Exists.intro _ (And.intro rfl (And.intro rfl (And.intro rfl (And.intro (Nat.le_of_ble_eq_true rfl) ?_))))) | (refine And.intro (Exists.intro _ (And.intro rfl rfl)) ?_) | (exact fun hW => absurd hW (by decide +kernel)) | (intro hW; (try simp only [Bool.not_true, Bool.not_false, Bool.not_eq_true', Bool.not_eq_false', decide_eq_true_eq, decide_eq_false_iff_not, reduceCtorEq, Bool.true_eq_false, Bool.false_eq_true, mk_size, List.size_toArray, ByteArray.size_append, ByteArray.size_extract, List.length_cons, List.length_nil, ba_get, ba_empty, Int.toNat_natCast] at hW)) | (refine And.intro (?_ : _ → _) (?_ : _ → _)) | (refine FinR.drop 0 (Nat.zero_le _) (Closed.zero _) rfl ?_) | (refine FinR.keep ?_) | (refine And.intro (det3_agg rfl) ?_) | (refine fL_mk ?_) | (refine And.intro (by (try simp only [mk_size, List.size_toArray, ByteArray.size_append, ByteArray.size_extract, List.length_cons, List.length_nil]); omega) ?_) | (refine And.intro (by (try simp only [mk_size, List.size_toArray, ByteArray.size_append, ByteArray.size_extract, List.length_cons, List.length_nil, wrap64_eq]); omega) ?_) | fail)
  all_goals exact kSh h0 (q 0) (q 1) (q 2) (q 3) (q 4) (q 5)
theorem d_l2AndM (n m : Nat) (K : Cont) (h0 : K (ShN (n &&& m)) σ) : ACall Try.prog W0 83 [ShN n, ShN m] σ K :=
  ACall.lift rfl (fun _ => rfl) (fun W1 K _ hK => c_l2AndM n m K hK) h0
/-- a stamp that is pressed at a cell -/
def prN (m x y : Nat) : Nat := mvN (shG x y) m 36
theorem prN_lt {m x y : Nat} (hx : x < 6) (hy : y < 6) : prN m x y < 2 ^ 36 := mvN_lt (sh_perm x hx y hy) m
theorem c_l2AtN (n x y : Nat) (hx : x < 6) (hy : y < 6) (K : Cont) (h0 : K (ShN (prN n x y)) []) : ACall Try.prog W0 50 [ShN n, Ce x y] [] K := by
  refine by50 (Nat.le_of_ble_eq_true rfl) ?_
  have h1 : (x : Int) % 6 = x := by omega
  have h2 : (y : Int) % 6 = y := by omega
  repeat' ((conv => whnf); first | (refine Exists.intro ([] : List Nat) ?_) | (refine And.intro rfl ?_) | (refine And.intro (by decide +kernel) ?_) | (refine And.intro trivial ?_) | (refine d_l2ShiftN (hx := h1) (hy := h2) (h0 := ?_) ..) | (refine Exists.intro _ (And.intro rfl (And.intro rfl (And.intro (Nat.le_of_ble_eq_true rfl) ?_)))) | (refine Exists.intro _ (And.intro rfl (And.intro rfl (And.intro rfl (And.intro (Nat.le_of_ble_eq_true rfl) ?_))))) | (refine And.intro (Exists.intro _ (And.intro rfl rfl)) ?_) | (exact fun hW => absurd hW (by decide +kernel)) | (intro hW; (try simp only [Bool.not_true, Bool.not_false, Bool.not_eq_true', Bool.not_eq_false', decide_eq_true_eq, decide_eq_false_iff_not, reduceCtorEq, Bool.true_eq_false, Bool.false_eq_true, mk_size, List.size_toArray, ByteArray.size_append, ByteArray.size_extract, List.length_cons, List.length_nil, ba_get, ba_empty, Int.toNat_natCast] at hW)) | (refine And.intro (?_ : _ → _) (?_ : _ → _)) | (refine FinR.drop 0 (Nat.zero_le _) (Closed.zero _) rfl ?_) | (refine FinR.keep ?_) | (refine And.intro (det3_agg rfl) ?_) | (refine fL_mk ?_) | (refine And.intro (by (try simp only [mk_size, List.size_toArray, ByteArray.size_append, ByteArray.size_extract, List.length_cons, List.length_nil]); omega) ?_) | (refine And.intro (by (try simp only [mk_size, List.size_toArray, ByteArray.size_append, ByteArray.size_extract, List.length_cons, List.length_nil, wrap64_eq]); omega) ?_) | fail)
  all_goals exact h0
theorem d_l2AtN (n x y : Nat) (hx : x < 6) (hy : y < 6) (K : Cont) (h0 : K (ShN (prN n x y)) σ) : ACall Try.prog W0 50 [ShN n, Ce x y] σ K :=
  ACall.lift rfl (fun _ => rfl) (fun W1 K _ hK => c_l2AtN n x y hx hy K hK) h0
theorem c_l2SheetN (n : Nat) (K : Cont) (h0 : K (Bo true) []) : ACall Try.prog W0 60 [ShN n] [] K := by
  refine c_l2Sheet (K := K) (h0 := ?_) ..
  rw [shB6_ShN]; exact h0
theorem d_l2SheetN (n : Nat) (K : Cont) (h0 : K (Bo true) σ) : ACall Try.prog W0 60 [ShN n] σ K :=
  ACall.lift rfl (fun _ => rfl) (fun W1 K _ hK => c_l2SheetN n K hK) h0
abbrev Sh0 : AV := Sh 0 0 0 0 0 0
end Go.Proofs.Ytcclhjohpicleaa
end

section
/- Contracts: the program's presses; flips. -/
set_option linter.unusedVariables false
set_option linter.unusedSimpArgs false
set_option maxRecDepth 100000
set_option maxHeartbeats 4000000
namespace Go.Proofs.Ytcclhjohpicleaa
open Go Go.RowKit Go.Proofs.Ytcclhjohpicleaa.Abs
variable {W0 : World} {σ : List Blk}
theorem bOrU {n m : Nat} (hn : n < 2 ^ 36) (hm : m < 2 ^ 36) : bOr .u64 n m = ((n ||| m : Nat) : Int) := bOr_u64 n m (Nat.lt_trans hn (by decide)) (Nat.lt_trans hm (by decide))
theorem c_twoSetsN (n m : Nat) (hn : n < 2 ^ 36) (hm : m < 2 ^ 36) (K : Cont) (h0 : K (.tup [U n, U m, Bo true]) []) : ACall Try.prog W0 63 [ShN n, ShN m] [] K := by
  refine by63 (Nat.le_of_ble_eq_true rfl) ?_
  repeat' ((conv => whnf); first | (refine Exists.intro ([] : List Nat) ?_) | (refine And.intro rfl ?_) | (refine And.intro (by decide +kernel) ?_) | (refine And.intro trivial ?_) | (refine d_setOfN (n := n) (hn := hn) (h0 := ?_) ..) | (refine d_setOfN (n := m) (hn := hm) (h0 := ?_) ..) | (refine Exists.intro _ (And.intro rfl (And.intro rfl (And.intro (Nat.le_of_ble_eq_true rfl) ?_)))) | (refine Exists.intro _ (And.intro rfl (And.intro rfl (And.intro rfl (And.intro (Nat.le_of_ble_eq_true rfl) ?_))))) | (refine And.intro (Exists.intro _ (And.intro rfl rfl)) ?_) | (exact fun hW => absurd hW (by decide +kernel)) | (intro hW; (try simp only [Bool.not_true, Bool.not_false, Bool.not_eq_true', Bool.not_eq_false', decide_eq_true_eq, decide_eq_false_iff_not, reduceCtorEq, Bool.true_eq_false, Bool.false_eq_true, mk_size, List.size_toArray, ByteArray.size_append, ByteArray.size_extract, List.length_cons, List.length_nil, ba_get, ba_empty, Int.toNat_natCast] at hW)) | (refine And.intro (?_ : _ → _) (?_ : _ → _)) | (refine FinR.drop 0 (Nat.zero_le _) (Closed.zero _) rfl ?_) | (refine FinR.keep ?_) | (refine And.intro (det3_agg rfl) ?_) | (refine fL_mk ?_) | (refine And.intro (by (try simp only [mk_size, List.size_toArray, ByteArray.size_append, ByteArray.size_extract, List.length_cons, List.length_nil]); omega) ?_) | (refine And.intro (by (try simp only [mk_size, List.size_toArray, ByteArray.size_append, ByteArray.size_extract, List.length_cons, List.length_nil, wrap64_eq]); omega) ?_) | fail)
  all_goals exact h0
theorem d_twoSetsN (n m : Nat) (hn : n < 2 ^ 36) (hm : m < 2 ^ 36) (K : Cont) (h0 : K (.tup [U n, U m, Bo true]) σ) : ACall Try.prog W0 63 [ShN n, ShN m] σ K :=
  ACall.lift rfl (fun _ => rfl) (fun W1 K _ hK => c_twoSetsN n m hn hm K hK) h0
end Go.Proofs.Ytcclhjohpicleaa
end

section
/- Contracts: the reference's turns. -/
set_option linter.unusedVariables false
set_option linter.unusedSimpArgs false
set_option maxRecDepth 100000
set_option maxHeartbeats 4000000
namespace Go.Proofs.Ytcclhjohpicleaa
open Go Go.RowKit Go.Proofs.Ytcclhjohpicleaa.Abs
variable {W0 : World} {σ : List Blk}
def rwL (n : Nat) : List AV := [I (rowN n 0 : Nat), I (rowN n 1 : Nat), I (rowN n 2 : Nat), I (rowN n 3 : Nat), I (rowN n 4 : Nat), I (rowN n 5 : Nat)]
def bl (n : Nat) : Blk := ⟨rwL n, 0, 27, 0, false, false⟩
end Go.Proofs.Ytcclhjohpicleaa
end

section
/- Contracts: jobs in a shop. -/
set_option linter.unusedVariables false
set_option linter.unusedSimpArgs false
set_option maxRecDepth 100000
set_option maxHeartbeats 4000000
namespace Go.Proofs.Ytcclhjohpicleaa
open Go Go.RowKit Go.Proofs.Ytcclhjohpicleaa.Abs
variable {W0 : World} {σ : List Blk}
abbrev SpN (n m : Nat) (p q : Int) : AV := Sp (rowN n 0 : Nat) (rowN n 1 : Nat) (rowN n 2 : Nat) (rowN n 3 : Nat) (rowN n 4 : Nat) (rowN n 5 : Nat) (rowN m 0 : Nat) (rowN m 1 : Nat) (rowN m 2 : Nat) (rowN m 3 : Nat) (rowN m 4 : Nat) (rowN m 5 : Nat) p q
abbrev Jb (k a b : Int) : AV := .agg [I k, I a, I b]
abbrev Sp0 : AV := Sp 0 0 0 0 0 0 0 0 0 0 0 0 0 0
end Go.Proofs.Ytcclhjohpicleaa
end

section
/- Contracts: lists of jobs. -/
set_option linter.unusedVariables false
set_option linter.unusedSimpArgs false
set_option maxRecDepth 100000
set_option maxHeartbeats 4000000
namespace Go.Proofs.Ytcclhjohpicleaa
open Go Go.RowKit Go.Proofs.Ytcclhjohpicleaa.Abs
variable {W0 : World} {σ : List Blk}
theorem wsucc' (x : Nat) (hx : x < 4611686018427387904) : IntKind.i64.wrap ((x : Int) + 1) = ((x + 1 : Nat) : Int) := by rw [wrap_i64 _ (by omega) (by omega)]; omega
abbrev enI (l : List Int) : List Value := l.map (Value.int .i64)
/-- the cells of a list of rows -/
def jc (l : List (List Int)) : List AV := (l.map fun x => x.map I).flatten
theorem jc_len {s : Nat} : ∀ {l : List (List Int)}, (∀ x ∈ l, x.length = s) → (jc l).length = l.length * s
  | [], _ => by simp [jc]
  | x :: l, h => by
    have h1 := jc_len (l := l) fun y hy => h y (List.mem_cons_of_mem _ hy)
    have h2 := h x List.mem_cons_self
    show (x.map I ++ jc l).length = _
    rw [List.length_append, List.length_map, h1, h2, List.length_cons, Nat.add_mul]; omega
theorem jc_sh (k : Nat) (l : List (List Int)) : (jc l).map (sh1 k) = jc l := by
  unfold jc
  induction l with
  | nil => rfl
  | cons x l ih =>
    simp only [List.map_cons, List.flatten_cons, List.map_append, ih]
    congr 1
    rw [List.map_map]; rfl
end Go.Proofs.Ytcclhjohpicleaa
end

section
/- Games: the order of sets, row by row. -/
set_option linter.unusedVariables false
set_option linter.unusedSimpArgs false
set_option maxRecDepth 100000
set_option maxHeartbeats 4000000
namespace Go.Proofs.Ytcclhjohpicleaa
open Go Go.RowKit Go.Proofs.Ytcclhjohpicleaa.Abs
variable {W0 : World} {σ : List Blk}
/-- the first rows as one number -/
def preK (n : Nat) : Nat → Nat
  | 0 => 0
  | y + 1 => preK n y * 64 + rowN n y
def kyN (n : Nat) : Nat := preK n 6
def ltS (a b : Nat) : Bool := decide (kyN a < kyN b)
def cmS (a b : Nat) : Int := if kyN a < kyN b then -1 else if kyN b < kyN a then 1 else 0
theorem pre_lt {a b y : Nat} (h : preK a y < preK b y) : ∀ d, preK a (y + d) < preK b (y + d)
  | 0 => h
  | d + 1 => by
    have ih := pre_lt h d
    have h1 := rowN_lt a (y + d)
    show preK a (y + d) * 64 + rowN a (y + d) < preK b (y + d) * 64 + rowN b (y + d)
    omega
theorem pre_row {a b y : Nat} (hy : y < 6) (he : preK a y = preK b y) (h : rowN a y < rowN b y) : kyN a < kyN b := by
  have h1 : preK a (y + 1) < preK b (y + 1) := by
    show preK a y * 64 + rowN a y < preK b y * 64 + rowN b y
    omega
  have h2 := pre_lt h1 (5 - y)
  rw [show y + 1 + (5 - y) = 6 by omega] at h2
  exact h2
theorem ky_inj {a b : Nat} (ha : a < 2 ^ 36) (hb : b < 2 ^ 36) (h : kyN a = kyN b) : a = b := by
  have r := rowN_lt a; have s := rowN_lt b
  have r0 := r 0; have r1 := r 1; have r2 := r 2; have r3 := r 3; have r4 := r 4; have r5 := r 5
  have s0 := s 0; have s1 := s 1; have s2 := s 2; have s3 := s 3; have s4 := s 4; have s5 := s 5
  have e : ∀ n, kyN n = ((((((0 * 64 + rowN n 0) * 64 + rowN n 1) * 64 + rowN n 2) * 64 + rowN n 3) * 64 + rowN n 4) * 64 + rowN n 5) := fun n => rfl
  rw [e, e] at h
  have q0 : rowN a 0 = rowN b 0 := by omega
  have q1 : rowN a 1 = rowN b 1 := by omega
  have q2 : rowN a 2 = rowN b 2 := by omega
  have q3 : rowN a 3 = rowN b 3 := by omega
  have q4 : rowN a 4 = rowN b 4 := by omega
  have q5 : rowN a 5 = rowN b 5 := by omega
  rw [← setN_rows ha, ← setN_rows hb, q0, q1, q2, q3, q4, q5]
theorem cmS_lt {a b : Nat} (h : kyN a < kyN b) : cmS a b = -1 := by rw [cmS, if_pos h]
theorem cmS_gt {a b : Nat} (h : kyN b < kyN a) : cmS a b = 1 := by rw [cmS, if_neg (by omega), if_pos h]
theorem cmS_eq {a b : Nat} (h : kyN a = kyN b) : cmS a b = 0 := by rw [cmS, if_neg (by omega), if_neg (by omega)]
/-! the program's comparison -/
def cpI (a b : Int) : Int := if a < b then -1 else if a > b then 1 else 0
theorem c_nanS (a : Int) (K : Cont) (h0 : K (Bo false) []) : ACall Try.prog W0 98 [U a] [] K := by
  refine by98 (Nat.le_of_ble_eq_true rfl) ?_
  repeat' ((conv => whnf); first | (refine Exists.intro ([] : List Nat) ?_) | (refine And.intro rfl ?_) | (refine And.intro (by decide +kernel) ?_) | (refine And.intro trivial ?_) | (refine Exists.intro _ (And.intro rfl (And.intro rfl (And.intro (Nat.le_of_ble_eq_true rfl) ?_)))) | (refine Exists.intro _ (And.intro rfl (And.intro rfl (And.intro rfl (And.intro (Nat.le_of_ble_eq_true rfl) ?_))))) | (refine And.intro (Exists.intro _ (And.intro rfl rfl)) ?_) | (exact fun hW => absurd hW (by decide +kernel)) | (intro hW; (try simp only [Bool.not_true, Bool.not_false, Bool.not_eq_true', Bool.not_eq_false', decide_eq_true_eq, decide_eq_false_iff_not, reduceCtorEq, Bool.true_eq_false, Bool.false_eq_true, mk_size, List.size_toArray, ByteArray.size_append, ByteArray.size_extract, List.length_cons, List.length_nil, ba_get, ba_empty, Int.toNat_natCast] at hW)) | (refine And.intro (?_ : _ → _) (?_ : _ → _)) | (refine FinR.drop 0 (Nat.zero_le _) (Closed.zero _) rfl ?_) | (refine FinR.keep ?_) | (refine And.intro (det3_agg rfl) ?_) | (refine fL_mk ?_) | (refine And.intro (by (try simp only [mk_size, List.size_toArray, ByteArray.size_append, ByteArray.size_extract, List.length_cons, List.length_nil]); omega) ?_) | (refine And.intro (by (try simp only [mk_size, List.size_toArray, ByteArray.size_append, ByteArray.size_extract, List.length_cons, List.length_nil, wrap64_eq]); omega) ?_) | fail)
  all_goals first | exact h0 | (refine kB' h0 ?_; simp)
theorem d_nanS (a : Int) (K : Cont) (h0 : K (Bo false) σ) : ACall Try.prog W0 98 [U a] σ K :=
  ACall.lift rfl (fun _ => rfl) (fun W1 K _ hK => c_nanS a K hK) h0
theorem c_cmpSet (a b : Int) (K : Cont) (h0 : K (I (cpI a b)) []) : ACall Try.prog W0 82 [U a, U b] [] K := by
  refine by82 (Nat.le_of_ble_eq_true rfl) ?_
  unfold cpI at h0
  by_cases h1 : a < b
  · rw [if_pos h1] at h0
    repeat' ((conv => whnf); first | (refine Exists.intro ([] : List Nat) ?_) | (refine And.intro rfl ?_) | (refine And.intro (by decide +kernel) ?_) | (refine And.intro trivial ?_) | (refine d_nanS (h0 := ?_) ..) | (refine Exists.intro _ (And.intro (fun τ => callW_fn (d_nanS (h0 := And.intro rfl rfl) ..)) ?_)) | (refine Exists.intro _ (And.intro (callW_fn (d_nanS (h0 := And.intro rfl rfl) ..)) (And.intro trivial ?_))) | (refine Exists.intro _ (And.intro (callW_fn (d_nanS (h0 := And.intro rfl rfl) ..)) ?_)) | (refine Exists.intro _ (And.intro (fun τ _ => callW_fn (d_nanS (h0 := And.intro rfl rfl) ..)) ?_)) | (refine Exists.intro _ (And.intro rfl (And.intro rfl (And.intro (Nat.le_of_ble_eq_true rfl) ?_)))) | (refine Exists.intro _ (And.intro rfl (And.intro rfl (And.intro rfl (And.intro (Nat.le_of_ble_eq_true rfl) ?_))))) | (refine And.intro (Exists.intro _ (And.intro rfl rfl)) ?_) | (exact fun hW => absurd hW (by decide +kernel)) | (intro hW; (try simp only [Bool.not_true, Bool.not_false, Bool.not_eq_true', Bool.not_eq_false', decide_eq_true_eq, decide_eq_false_iff_not, reduceCtorEq, Bool.true_eq_false, Bool.false_eq_true, mk_size, List.size_toArray, ByteArray.size_append, ByteArray.size_extract, List.length_cons, List.length_nil, ba_get, ba_empty, Int.toNat_natCast] at hW)) | (refine And.intro (?_ : _ → _) (?_ : _ → _)) | (refine FinR.drop 0 (Nat.zero_le _) (Closed.zero _) rfl ?_) | (refine FinR.keep ?_) | (refine And.intro (det3_agg rfl) ?_) | (refine fL_mk ?_) | (refine And.intro (by (try simp only [mk_size, List.size_toArray, ByteArray.size_append, ByteArray.size_extract, List.length_cons, List.length_nil]); omega) ?_) | (refine And.intro (by (try simp only [mk_size, List.size_toArray, ByteArray.size_append, ByteArray.size_extract, List.length_cons, List.length_nil, wrap64_eq]); omega) ?_) | fail)
    all_goals first | exact h0 | (exfalso; omega) | (exfalso; simp_all; done)
  · rw [if_neg h1] at h0
    by_cases h2 : a > b
    · rw [if_pos h2] at h0
      repeat' ((conv => whnf); first | (refine Exists.intro ([] : List Nat) ?_) | (refine And.intro rfl ?_) | (refine And.intro (by decide +kernel) ?_) | (refine And.intro trivial ?_) | (refine d_nanS (h0 := ?_) ..) | (refine Exists.intro _ (And.intro (fun τ => callW_fn (d_nanS (h0 := And.intro rfl rfl) ..)) ?_)) | (refine Exists.intro _ (And.intro (callW_fn (d_nanS (h0 := And.intro rfl rfl) ..)) (And.intro trivial ?_))) | (refine Exists.intro _ (And.intro (callW_fn (d_nanS (h0 := And.intro rfl rfl) ..)) ?_)) | (refine Exists.intro _ (And.intro (fun τ _ => callW_fn (d_nanS (h0 := And.intro rfl rfl) ..)) ?_)) | (refine Exists.intro _ (And.intro rfl (And.intro rfl (And.intro (Nat.le_of_ble_eq_true rfl) ?_)))) | (refine Exists.intro _ (And.intro rfl (And.intro rfl (And.intro rfl (And.intro (Nat.le_of_ble_eq_true rfl) ?_))))) | (refine And.intro (Exists.intro _ (And.intro rfl rfl)) ?_) | (exact fun hW => absurd hW (by decide +kernel)) | (intro hW; (try simp only [Bool.not_true, Bool.not_false, Bool.not_eq_true', Bool.not_eq_false', decide_eq_true_eq, decide_eq_false_iff_not, reduceCtorEq, Bool.true_eq_false, Bool.false_eq_true, mk_size, List.size_toArray, ByteArray.size_append, ByteArray.size_extract, List.length_cons, List.length_nil, ba_get, ba_empty, Int.toNat_natCast] at hW)) | (refine And.intro (?_ : _ → _) (?_ : _ → _)) | (refine FinR.drop 0 (Nat.zero_le _) (Closed.zero _) rfl ?_) | (refine FinR.keep ?_) | (refine And.intro (det3_agg rfl) ?_) | (refine fL_mk ?_) | (refine And.intro (by (try simp only [mk_size, List.size_toArray, ByteArray.size_append, ByteArray.size_extract, List.length_cons, List.length_nil]); omega) ?_) | (refine And.intro (by (try simp only [mk_size, List.size_toArray, ByteArray.size_append, ByteArray.size_extract, List.length_cons, List.length_nil, wrap64_eq]); omega) ?_) | fail)
      all_goals first | exact h0 | (exfalso; omega) | (exfalso; simp_all; done)
    · rw [if_neg h2] at h0
      repeat' ((conv => whnf); first | (refine Exists.intro ([] : List Nat) ?_) | (refine And.intro rfl ?_) | (refine And.intro (by decide +kernel) ?_) | (refine And.intro trivial ?_) | (refine d_nanS (h0 := ?_) ..) | (refine Exists.intro _ (And.intro (fun τ => callW_fn (d_nanS (h0 := And.intro rfl rfl) ..)) ?_)) | (refine Exists.intro _ (And.intro (callW_fn (d_nanS (h0 := And.intro rfl rfl) ..)) (And.intro trivial ?_))) | (refine Exists.intro _ (And.intro (callW_fn (d_nanS (h0 := And.intro rfl rfl) ..)) ?_)) | (refine Exists.intro _ (And.intro (fun τ _ => callW_fn (d_nanS (h0 := And.intro rfl rfl) ..)) ?_)) | (refine Exists.intro _ (And.intro rfl (And.intro rfl (And.intro (Nat.le_of_ble_eq_true rfl) ?_)))) | (refine Exists.intro _ (And.intro rfl (And.intro rfl (And.intro rfl (And.intro (Nat.le_of_ble_eq_true rfl) ?_))))) | (refine And.intro (Exists.intro _ (And.intro rfl rfl)) ?_) | (exact fun hW => absurd hW (by decide +kernel)) | (intro hW; (try simp only [Bool.not_true, Bool.not_false, Bool.not_eq_true', Bool.not_eq_false', decide_eq_true_eq, decide_eq_false_iff_not, reduceCtorEq, Bool.true_eq_false, Bool.false_eq_true, mk_size, List.size_toArray, ByteArray.size_append, ByteArray.size_extract, List.length_cons, List.length_nil, ba_get, ba_empty, Int.toNat_natCast] at hW)) | (refine And.intro (?_ : _ → _) (?_ : _ → _)) | (refine FinR.drop 0 (Nat.zero_le _) (Closed.zero _) rfl ?_) | (refine FinR.keep ?_) | (refine And.intro (det3_agg rfl) ?_) | (refine fL_mk ?_) | (refine And.intro (by (try simp only [mk_size, List.size_toArray, ByteArray.size_append, ByteArray.size_extract, List.length_cons, List.length_nil]); omega) ?_) | (refine And.intro (by (try simp only [mk_size, List.size_toArray, ByteArray.size_append, ByteArray.size_extract, List.length_cons, List.length_nil, wrap64_eq]); omega) ?_) | fail)
      all_goals first | exact h0 | (exfalso; omega) | (exfalso; simp_all; done)
theorem d_cmpSet (a b : Int) (K : Cont) (h0 : K (I (cpI a b)) σ) : ACall Try.prog W0 82 [U a, U b] σ K :=
  ACall.lift rfl (fun _ => rfl) (fun W1 K _ hK => c_cmpSet a b K hK) h0
theorem row_u (n y : Nat) (hy : y < 6) (hn : n < 2 ^ 64) : bAnd .u64 (shR .u64 (n : Nat) (IntKind.i64.wrap ((y : Int) * 6))) 63 = (rowN n y : Nat) := by
  rw [wrap_i64 _ (by omega) (by omega), show ((y : Int) * 6) = ((6 * y : Nat) : Int) by omega, shR_u64 n _ (by omega), show (63 : Int) = ((63 : Nat) : Int) from rfl, bAnd_u64 _ _ (Nat.lt_of_le_of_lt (by rw [Nat.shiftRight_eq_div_pow]; exact Nat.div_le_self _ _) hn) (by decide)]
  have e : (n >>> (6 * y)) &&& 63 = rowN n y := by unfold rowN; exact Nat.and_two_pow_sub_one_eq_mod _ 6
  rw [e]
theorem c_compareSets (a b : Nat) (ha : a < 2 ^ 36) (hb : b < 2 ^ 36) (K : Cont) (h0 : K (I (cmS a b)) []) : ACall Try.prog W0 65 [U a, U b] [] K := by
  refine by65 (Nat.le_of_ble_eq_true rfl) ?_
  repeat' ((conv => whnf); first | (refine Exists.intro ([] : List Nat) ?_) | (refine And.intro rfl ?_) | (refine And.intro (by decide +kernel) ?_) | (refine And.intro trivial ?_) | (refine Exists.intro _ (And.intro rfl (And.intro rfl (And.intro (Nat.le_of_ble_eq_true rfl) ?_)))) | (refine Exists.intro _ (And.intro rfl (And.intro rfl (And.intro rfl (And.intro (Nat.le_of_ble_eq_true rfl) ?_))))) | (refine And.intro (Exists.intro _ (And.intro rfl rfl)) ?_) | (exact fun hW => absurd hW (by decide +kernel)) | (intro hW; (try simp only [Bool.not_true, Bool.not_false, Bool.not_eq_true', Bool.not_eq_false', decide_eq_true_eq, decide_eq_false_iff_not, reduceCtorEq, Bool.true_eq_false, Bool.false_eq_true, mk_size, List.size_toArray, ByteArray.size_append, ByteArray.size_extract, List.length_cons, List.length_nil, ba_get, ba_empty, Int.toNat_natCast] at hW)) | (refine And.intro (?_ : _ → _) (?_ : _ → _)) | (refine FinR.drop 0 (Nat.zero_le _) (Closed.zero _) rfl ?_) | (refine FinR.keep ?_) | (refine And.intro (det3_agg rfl) ?_) | (refine fL_mk ?_) | (refine And.intro (by (try simp only [mk_size, List.size_toArray, ByteArray.size_append, ByteArray.size_extract, List.length_cons, List.length_nil]); omega) ?_) | (refine And.intro (by (try simp only [mk_size, List.size_toArray, ByteArray.size_append, ByteArray.size_extract, List.length_cons, List.length_nil, wrap64_eq]); omega) ?_) | fail)
  refine LoopR.live (fun y : Nat => [(0, U a), (1, U b), (7, I y)]) (fun _ => []) (fun y => y ≤ 6 ∧ preK a y = preK b y) (fun y => 6 - y) 0 ⟨rfl, rfl, rfl, trivial⟩ (.keep rfl) ⟨Nat.zero_le _, rfl⟩ ?_
  rintro y ⟨hy, he⟩
  have ew : IntKind.i64.wrap ((y : Nat) + 1 : Int) = ((y + 1 : Nat) : Int) := wsucc' y (by omega)
  by_cases hlt : y < 6
  · have e1 := row_u a y hlt (Nat.lt_trans ha (by decide))
    have e2 := row_u b y hlt (Nat.lt_trans hb (by decide))
    have e3 : 0 ≤ IntKind.i64.wrap ((y : Int) * 6) := by rw [wrap_i64 _ (by omega) (by omega)]; omega
    have hc := fun (τ : List Blk) (K : Cont) (h : K (I (cpI (rowN a y : Nat) (rowN b y : Nat))) τ) => d_cmpSet (W0 := W0) (σ := τ) _ _ K h
    unfold cpI at hc
    by_cases h1 : rowN a y < rowN b y
    · rw [if_pos (by omega)] at hc
      rw [cmS_lt (pre_row hlt he h1)] at h0
      repeat' ((conv => whnf); first | (refine And.intro e3 ?_) | (rw [e1]) | (rw [e2]) | (refine Exists.intro ([] : List Nat) ?_) | (refine And.intro rfl ?_) | (refine And.intro (by decide +kernel) ?_) | (refine And.intro trivial ?_) | (refine Exists.intro _ (And.intro (fun τ => callW_fn (hc _ _ (And.intro rfl rfl))) ?_)) | (refine Exists.intro _ (And.intro rfl (And.intro rfl (And.intro (Nat.le_of_ble_eq_true rfl) ?_)))) | (refine Exists.intro _ (And.intro rfl (And.intro rfl (And.intro rfl (And.intro (Nat.le_of_ble_eq_true rfl) ?_))))) | (refine And.intro (Exists.intro _ (And.intro rfl rfl)) ?_) | (exact fun hW => absurd hW (by decide +kernel)) | (intro hW; (try simp only [Bool.not_true, Bool.not_false, Bool.not_eq_true', Bool.not_eq_false', decide_eq_true_eq, decide_eq_false_iff_not, reduceCtorEq, Bool.true_eq_false, Bool.false_eq_true, mk_size, List.size_toArray, ByteArray.size_append, ByteArray.size_extract, List.length_cons, List.length_nil, ba_get, ba_empty, Int.toNat_natCast] at hW)) | (refine And.intro (?_ : _ → _) (?_ : _ → _)) | (refine FinR.drop 0 (Nat.zero_le _) (Closed.zero _) rfl ?_) | (refine FinR.keep ?_) | (refine And.intro (det3_agg rfl) ?_) | (refine fL_mk ?_) | (refine And.intro (by (try simp only [mk_size, List.size_toArray, ByteArray.size_append, ByteArray.size_extract, List.length_cons, List.length_nil]); omega) ?_) | (refine And.intro (by (try simp only [mk_size, List.size_toArray, ByteArray.size_append, ByteArray.size_extract, List.length_cons, List.length_nil, wrap64_eq]); omega) ?_) | fail)
      all_goals first | exact h0 | (exfalso; omega) | (exfalso; simp_all; done) | exact kB' h0 hd
    · by_cases h2 : rowN b y < rowN a y
      · rw [if_neg (by omega), if_pos (by omega)] at hc
        rw [cmS_gt (pre_row hlt he.symm h2)] at h0
        repeat' ((conv => whnf); first | (refine And.intro e3 ?_) | (rw [e1]) | (rw [e2]) | (refine Exists.intro ([] : List Nat) ?_) | (refine And.intro rfl ?_) | (refine And.intro (by decide +kernel) ?_) | (refine And.intro trivial ?_) | (refine Exists.intro _ (And.intro (fun τ => callW_fn (hc _ _ (And.intro rfl rfl))) ?_)) | (refine Exists.intro _ (And.intro rfl (And.intro rfl (And.intro (Nat.le_of_ble_eq_true rfl) ?_)))) | (refine Exists.intro _ (And.intro rfl (And.intro rfl (And.intro rfl (And.intro (Nat.le_of_ble_eq_true rfl) ?_))))) | (refine And.intro (Exists.intro _ (And.intro rfl rfl)) ?_) | (exact fun hW => absurd hW (by decide +kernel)) | (intro hW; (try simp only [Bool.not_true, Bool.not_false, Bool.not_eq_true', Bool.not_eq_false', decide_eq_true_eq, decide_eq_false_iff_not, reduceCtorEq, Bool.true_eq_false, Bool.false_eq_true, mk_size, List.size_toArray, ByteArray.size_append, ByteArray.size_extract, List.length_cons, List.length_nil, ba_get, ba_empty, Int.toNat_natCast] at hW)) | (refine And.intro (?_ : _ → _) (?_ : _ → _)) | (refine FinR.drop 0 (Nat.zero_le _) (Closed.zero _) rfl ?_) | (refine FinR.keep ?_) | (refine And.intro (det3_agg rfl) ?_) | (refine fL_mk ?_) | (refine And.intro (by (try simp only [mk_size, List.size_toArray, ByteArray.size_append, ByteArray.size_extract, List.length_cons, List.length_nil]); omega) ?_) | (refine And.intro (by (try simp only [mk_size, List.size_toArray, ByteArray.size_append, ByteArray.size_extract, List.length_cons, List.length_nil, wrap64_eq]); omega) ?_) | fail)
        all_goals first | exact h0 | (exfalso; omega) | (exfalso; simp_all; done) | skip
      · rw [if_neg (by omega), if_neg (by omega)] at hc
        repeat' ((conv => whnf); first | (rw [ew]) | (refine And.intro e3 ?_) | (rw [e1]) | (rw [e2]) | (refine Exists.intro ([] : List Nat) ?_) | (refine And.intro rfl ?_) | (refine And.intro (by decide +kernel) ?_) | (refine And.intro trivial ?_) | (refine Exists.intro _ (And.intro (fun τ => callW_fn (hc _ _ (And.intro rfl rfl))) ?_)) | (refine Exists.intro _ (And.intro rfl (And.intro rfl (And.intro (Nat.le_of_ble_eq_true rfl) ?_)))) | (refine Exists.intro _ (And.intro rfl (And.intro rfl (And.intro rfl (And.intro (Nat.le_of_ble_eq_true rfl) ?_))))) | (refine And.intro (Exists.intro _ (And.intro rfl rfl)) ?_) | (exact fun hW => absurd hW (by decide +kernel)) | (intro hW; (try simp only [Bool.not_true, Bool.not_false, Bool.not_eq_true', Bool.not_eq_false', decide_eq_true_eq, decide_eq_false_iff_not, reduceCtorEq, Bool.true_eq_false, Bool.false_eq_true, mk_size, List.size_toArray, ByteArray.size_append, ByteArray.size_extract, List.length_cons, List.length_nil, ba_get, ba_empty, Int.toNat_natCast] at hW)) | (refine And.intro (?_ : _ → _) (?_ : _ → _)) | (refine FinR.drop 0 (Nat.zero_le _) (Closed.zero _) rfl ?_) | (refine FinR.keep ?_) | (refine And.intro (det3_agg rfl) ?_) | (refine fL_mk ?_) | (refine And.intro (by (try simp only [mk_size, List.size_toArray, ByteArray.size_append, ByteArray.size_extract, List.length_cons, List.length_nil]); omega) ?_) | (refine And.intro (by (try simp only [mk_size, List.size_toArray, ByteArray.size_append, ByteArray.size_extract, List.length_cons, List.length_nil, wrap64_eq]); omega) ?_) | fail)
        all_goals first | (exfalso; omega) | (exfalso; simp_all; done) | skip
        exact Again.go (y + 1) ⟨rfl, rfl, rfl, trivial⟩ (.keep rfl) ⟨by omega, by show preK a y * 64 + rowN a y = preK b y * 64 + rowN b y; omega⟩ (by omega)
  · obtain rfl : y = 6 := by omega
    rw [cmS_eq he] at h0
    repeat' ((conv => whnf); first | (refine Exists.intro ([] : List Nat) ?_) | (refine And.intro rfl ?_) | (refine And.intro (by decide +kernel) ?_) | (refine And.intro trivial ?_) | (refine Exists.intro _ (And.intro rfl (And.intro rfl (And.intro (Nat.le_of_ble_eq_true rfl) ?_)))) | (refine Exists.intro _ (And.intro rfl (And.intro rfl (And.intro rfl (And.intro (Nat.le_of_ble_eq_true rfl) ?_))))) | (refine And.intro (Exists.intro _ (And.intro rfl rfl)) ?_) | (exact fun hW => absurd hW (by decide +kernel)) | (intro hW; (try simp only [Bool.not_true, Bool.not_false, Bool.not_eq_true', Bool.not_eq_false', decide_eq_true_eq, decide_eq_false_iff_not, reduceCtorEq, Bool.true_eq_false, Bool.false_eq_true, mk_size, List.size_toArray, ByteArray.size_append, ByteArray.size_extract, List.length_cons, List.length_nil, ba_get, ba_empty, Int.toNat_natCast] at hW)) | (refine And.intro (?_ : _ → _) (?_ : _ → _)) | (refine FinR.drop 0 (Nat.zero_le _) (Closed.zero _) rfl ?_) | (refine FinR.keep ?_) | (refine And.intro (det3_agg rfl) ?_) | (refine fL_mk ?_) | (refine And.intro (by (try simp only [mk_size, List.size_toArray, ByteArray.size_append, ByteArray.size_extract, List.length_cons, List.length_nil]); omega) ?_) | (refine And.intro (by (try simp only [mk_size, List.size_toArray, ByteArray.size_append, ByteArray.size_extract, List.length_cons, List.length_nil, wrap64_eq]); omega) ?_) | fail)
    all_goals first | exact h0 | (exfalso; omega)
/-! the reference's -/
theorem rw_ld {n y : Nat} (hy : y < 6) {off : Nat} (ho : off = y) : mkAV false (((rwL n).drop off).take 1) = I (rowN n y : Nat) := by
  subst ho
  match off, hy with
  | 0, _ => rfl
  | 1, _ => rfl
  | 2, _ => rfl
  | 3, _ => rfl
  | 4, _ => rfl
  | 5, _ => rfl
theorem c_l2Before (a b : Nat) (K : Cont) (h0 : K (Bo (ltS a b)) []) : ACall Try.prog W0 62 [ShN a, ShN b] [] K := by
  refine by62 (Nat.le_of_ble_eq_true rfl) ?_
  repeat' ((conv => whnf); first | (refine Exists.intro ([] : List Nat) ?_) | (refine And.intro rfl ?_) | (refine And.intro (by decide +kernel) ?_) | (refine And.intro trivial ?_) | (refine Exists.intro _ (And.intro rfl (And.intro rfl (And.intro (Nat.le_of_ble_eq_true rfl) ?_)))) | (refine Exists.intro _ (And.intro rfl (And.intro rfl (And.intro rfl (And.intro (Nat.le_of_ble_eq_true rfl) ?_))))) | (refine And.intro (Exists.intro _ (And.intro rfl rfl)) ?_) | (exact fun hW => absurd hW (by decide +kernel)) | (intro hW; (try simp only [Bool.not_true, Bool.not_false, Bool.not_eq_true', Bool.not_eq_false', decide_eq_true_eq, decide_eq_false_iff_not, reduceCtorEq, Bool.true_eq_false, Bool.false_eq_true, mk_size, List.size_toArray, ByteArray.size_append, ByteArray.size_extract, List.length_cons, List.length_nil, ba_get, ba_empty, Int.toNat_natCast] at hW)) | (refine And.intro (?_ : _ → _) (?_ : _ → _)) | (refine FinR.drop 0 (Nat.zero_le _) (Closed.zero _) rfl ?_) | (refine FinR.keep ?_) | (refine And.intro (det3_agg rfl) ?_) | (refine fL_mk ?_) | (refine And.intro (by (try simp only [mk_size, List.size_toArray, ByteArray.size_append, ByteArray.size_extract, List.length_cons, List.length_nil]); omega) ?_) | (refine And.intro (by (try simp only [mk_size, List.size_toArray, ByteArray.size_append, ByteArray.size_extract, List.length_cons, List.length_nil, wrap64_eq]); omega) ?_) | fail)
  refine LoopR.live (fun y : Nat => [(2, .ptr 0 0 0), (3, .ptr 1 0 0), (5, I y)]) (fun _ => [bl a, bl b]) (fun y => y ≤ 6 ∧ preK a y = preK b y) (fun y => 6 - y) 0 ⟨rfl, rfl, rfl, trivial⟩ (.keep rfl) ⟨Nat.zero_le _, rfl⟩ ?_
  rintro y ⟨hy, he⟩
  have ew : IntKind.i64.wrap ((y : Nat) + 1 : Int) = ((y + 1 : Nat) : Int) := wsucc' y (by omega)
  by_cases hlt : y < 6
  · have hoff : 0 + 0 + ((y : Nat) : Int).toNat * 1 = y := by rw [Int.toNat_natCast]; omega
    have hle : ∀ n, 0 + 0 + ((y : Nat) : Int).toNat * 1 + 1 ≤ (rwL n).length := fun n => by rw [hoff]; show y + 1 ≤ 6; omega
    have hl := fun n => rw_ld (n := n) hlt hoff
    by_cases h1 : rowN a y < rowN b y
    · have hk := pre_row hlt he h1
      rw [show ltS a b = true from decide_eq_true hk] at h0
      have hd : decide (((rowN a y : Nat) : Int) < (rowN b y : Nat)) = true := decide_eq_true (by omega)
      repeat' ((conv => whnf); first | (refine Exists.intro (bl a) (And.intro rfl (And.intro rfl (And.intro (hle a) ?_))); rw [show (bl a).cells = rwL a from rfl, hl a]) | (refine Exists.intro (bl b) (And.intro rfl (And.intro rfl (And.intro (hle b) ?_))); rw [show (bl b).cells = rwL b from rfl, hl b]) | (refine Exists.intro ([] : List Nat) ?_) | (refine And.intro rfl ?_) | (refine And.intro (by decide +kernel) ?_) | (refine And.intro trivial ?_) | (refine Exists.intro _ (And.intro rfl (And.intro rfl (And.intro (Nat.le_of_ble_eq_true rfl) ?_)))) | (refine Exists.intro _ (And.intro rfl (And.intro rfl (And.intro rfl (And.intro (Nat.le_of_ble_eq_true rfl) ?_))))) | (refine And.intro (Exists.intro _ (And.intro rfl rfl)) ?_) | (exact fun hW => absurd hW (by decide +kernel)) | (intro hW; (try simp only [Bool.not_true, Bool.not_false, Bool.not_eq_true', Bool.not_eq_false', decide_eq_true_eq, decide_eq_false_iff_not, reduceCtorEq, Bool.true_eq_false, Bool.false_eq_true, mk_size, List.size_toArray, ByteArray.size_append, ByteArray.size_extract, List.length_cons, List.length_nil, ba_get, ba_empty, Int.toNat_natCast] at hW)) | (refine And.intro (?_ : _ → _) (?_ : _ → _)) | (refine FinR.drop 0 (Nat.zero_le _) (Closed.zero _) rfl ?_) | (refine FinR.keep ?_) | (refine And.intro (det3_agg rfl) ?_) | (refine fL_mk ?_) | (refine And.intro (by (try simp only [mk_size, List.size_toArray, ByteArray.size_append, ByteArray.size_extract, List.length_cons, List.length_nil]); omega) ?_) | (refine And.intro (by (try simp only [mk_size, List.size_toArray, ByteArray.size_append, ByteArray.size_extract, List.length_cons, List.length_nil, wrap64_eq]); omega) ?_) | fail)
      all_goals first | exact h0 | (exfalso; omega) | (exfalso; simp_all; done) | exact kB' h0 hd
    · by_cases h2 : rowN b y < rowN a y
      · have hk := pre_row hlt he.symm h2
        rw [show ltS a b = false from decide_eq_false (by omega)] at h0
        have hd : decide (((rowN a y : Nat) : Int) < (rowN b y : Nat)) = false := decide_eq_false (by omega)
        repeat' ((conv => whnf); first | (refine Exists.intro (bl a) (And.intro rfl (And.intro rfl (And.intro (hle a) ?_))); rw [show (bl a).cells = rwL a from rfl, hl a]) | (refine Exists.intro (bl b) (And.intro rfl (And.intro rfl (And.intro (hle b) ?_))); rw [show (bl b).cells = rwL b from rfl, hl b]) | (refine Exists.intro ([] : List Nat) ?_) | (refine And.intro rfl ?_) | (refine And.intro (by decide +kernel) ?_) | (refine And.intro trivial ?_) | (refine Exists.intro _ (And.intro rfl (And.intro rfl (And.intro (Nat.le_of_ble_eq_true rfl) ?_)))) | (refine Exists.intro _ (And.intro rfl (And.intro rfl (And.intro rfl (And.intro (Nat.le_of_ble_eq_true rfl) ?_))))) | (refine And.intro (Exists.intro _ (And.intro rfl rfl)) ?_) | (exact fun hW => absurd hW (by decide +kernel)) | (intro hW; (try simp only [Bool.not_true, Bool.not_false, Bool.not_eq_true', Bool.not_eq_false', decide_eq_true_eq, decide_eq_false_iff_not, reduceCtorEq, Bool.true_eq_false, Bool.false_eq_true, mk_size, List.size_toArray, ByteArray.size_append, ByteArray.size_extract, List.length_cons, List.length_nil, ba_get, ba_empty, Int.toNat_natCast] at hW)) | (refine And.intro (?_ : _ → _) (?_ : _ → _)) | (refine FinR.drop 0 (Nat.zero_le _) (Closed.zero _) rfl ?_) | (refine FinR.keep ?_) | (refine And.intro (det3_agg rfl) ?_) | (refine fL_mk ?_) | (refine And.intro (by (try simp only [mk_size, List.size_toArray, ByteArray.size_append, ByteArray.size_extract, List.length_cons, List.length_nil]); omega) ?_) | (refine And.intro (by (try simp only [mk_size, List.size_toArray, ByteArray.size_append, ByteArray.size_extract, List.length_cons, List.length_nil, wrap64_eq]); omega) ?_) | fail)
        all_goals first | exact h0 | (exfalso; omega) | (exfalso; simp_all; done) | exact kB' h0 hd
      · skip
        repeat' ((conv => whnf); first | (rw [ew]) | (refine Exists.intro (bl a) (And.intro rfl (And.intro rfl (And.intro (hle a) ?_))); rw [show (bl a).cells = rwL a from rfl, hl a]) | (refine Exists.intro (bl b) (And.intro rfl (And.intro rfl (And.intro (hle b) ?_))); rw [show (bl b).cells = rwL b from rfl, hl b]) | (refine Exists.intro ([] : List Nat) ?_) | (refine And.intro rfl ?_) | (refine And.intro (by decide +kernel) ?_) | (refine And.intro trivial ?_) | (refine Exists.intro _ (And.intro rfl (And.intro rfl (And.intro (Nat.le_of_ble_eq_true rfl) ?_)))) | (refine Exists.intro _ (And.intro rfl (And.intro rfl (And.intro rfl (And.intro (Nat.le_of_ble_eq_true rfl) ?_))))) | (refine And.intro (Exists.intro _ (And.intro rfl rfl)) ?_) | (exact fun hW => absurd hW (by decide +kernel)) | (intro hW; (try simp only [Bool.not_true, Bool.not_false, Bool.not_eq_true', Bool.not_eq_false', decide_eq_true_eq, decide_eq_false_iff_not, reduceCtorEq, Bool.true_eq_false, Bool.false_eq_true, mk_size, List.size_toArray, ByteArray.size_append, ByteArray.size_extract, List.length_cons, List.length_nil, ba_get, ba_empty, Int.toNat_natCast] at hW)) | (refine And.intro (?_ : _ → _) (?_ : _ → _)) | (refine FinR.drop 0 (Nat.zero_le _) (Closed.zero _) rfl ?_) | (refine FinR.keep ?_) | (refine And.intro (det3_agg rfl) ?_) | (refine fL_mk ?_) | (refine And.intro (by (try simp only [mk_size, List.size_toArray, ByteArray.size_append, ByteArray.size_extract, List.length_cons, List.length_nil]); omega) ?_) | (refine And.intro (by (try simp only [mk_size, List.size_toArray, ByteArray.size_append, ByteArray.size_extract, List.length_cons, List.length_nil, wrap64_eq]); omega) ?_) | fail)
        all_goals first | (exfalso; omega) | (exfalso; simp_all; done) | skip
        exact Again.go (y + 1) ⟨rfl, rfl, rfl, trivial⟩ (.keep rfl) ⟨by omega, by show preK a y * 64 + rowN a y = preK b y * 64 + rowN b y; omega⟩ (by omega)
  · obtain rfl : y = 6 := by omega
    rw [show ltS a b = false from decide_eq_false (by have : kyN a = kyN b := he; omega)] at h0
    repeat' ((conv => whnf); first | (refine Exists.intro ([] : List Nat) ?_) | (refine And.intro rfl ?_) | (refine And.intro (by decide +kernel) ?_) | (refine And.intro trivial ?_) | (refine Exists.intro _ (And.intro rfl (And.intro rfl (And.intro (Nat.le_of_ble_eq_true rfl) ?_)))) | (refine Exists.intro _ (And.intro rfl (And.intro rfl (And.intro rfl (And.intro (Nat.le_of_ble_eq_true rfl) ?_))))) | (refine And.intro (Exists.intro _ (And.intro rfl rfl)) ?_) | (exact fun hW => absurd hW (by decide +kernel)) | (intro hW; (try simp only [Bool.not_true, Bool.not_false, Bool.not_eq_true', Bool.not_eq_false', decide_eq_true_eq, decide_eq_false_iff_not, reduceCtorEq, Bool.true_eq_false, Bool.false_eq_true, mk_size, List.size_toArray, ByteArray.size_append, ByteArray.size_extract, List.length_cons, List.length_nil, ba_get, ba_empty, Int.toNat_natCast] at hW)) | (refine And.intro (?_ : _ → _) (?_ : _ → _)) | (refine FinR.drop 0 (Nat.zero_le _) (Closed.zero _) rfl ?_) | (refine FinR.keep ?_) | (refine And.intro (det3_agg rfl) ?_) | (refine fL_mk ?_) | (refine And.intro (by (try simp only [mk_size, List.size_toArray, ByteArray.size_append, ByteArray.size_extract, List.length_cons, List.length_nil]); omega) ?_) | (refine And.intro (by (try simp only [mk_size, List.size_toArray, ByteArray.size_append, ByteArray.size_extract, List.length_cons, List.length_nil, wrap64_eq]); omega) ?_) | fail)
    all_goals first | exact h0 | (exfalso; omega)
theorem d_l2Before (a b : Nat) (K : Cont) (h0 : K (Bo (ltS a b)) σ) : ACall Try.prog W0 62 [ShN a, ShN b] σ K :=
  ACall.lift rfl (fun _ => rfl) (fun W1 K _ hK => c_l2Before a b K hK) h0
end Go.Proofs.Ytcclhjohpicleaa
end

section
/- Contracts: lists of numbers and of pairs that the laws compare, mark, hold. -/
set_option linter.unusedVariables false
set_option linter.unusedSimpArgs false
set_option maxRecDepth 100000
set_option maxHeartbeats 4000000
namespace Go.Proofs.Ytcclhjohpicleaa
open Go Go.RowKit Go.Proofs.Ytcclhjohpicleaa.Abs
variable {W0 : World} {σ : List Blk}
theorem fS_mk {l : List Blk} {K : List Blk → Prop} (h : K l) : fS l K := by rw [fS_eq]; exact h
theorem set_self {α : Type} {l : List α} {i : Nat} {a : α} (h : l[i]? = some a) : l.set i a = l := by
  have := (List.getElem?_eq_some_iff.1 h)
  obtain ⟨h1, h2⟩ := this
  subst h2
  exact List.set_getElem_self h1
abbrev en1 (n : Int) : List Value := [.int .i64 n]
end Go.Proofs.Ytcclhjohpicleaa
end

section
/- Contracts: pairs, prints: made, compared, marked. -/
set_option linter.unusedVariables false
set_option linter.unusedSimpArgs false
set_option maxRecDepth 100000
set_option maxHeartbeats 4000000
namespace Go.Proofs.Ytcclhjohpicleaa
open Go Go.RowKit Go.Proofs.Ytcclhjohpicleaa.Abs
variable {W0 : World} {σ : List Blk}
/-! prints -/
abbrev Pr (a b c d e f g h i : Int) : AV := .agg [I a, I b, I c, I d, I e, I f, I g, I h, I i]
abbrev z9 : List AV := [I 0, I 0, I 0, I 0, I 0, I 0, I 0, I 0, I 0]
end Go.Proofs.Ytcclhjohpicleaa
end

section
/- Contracts: CommonCells. -/
set_option linter.unusedVariables false
set_option linter.unusedSimpArgs false
namespace Go.Proofs.Ytcclhjohpicleaa
open Go Go.RowKit Go.Proofs.Ytcclhjohpicleaa.Abs
variable {W0 : World} {σ : List Blk}
abbrev R64 (a b c d e f : Nat) : Prop := a < 64 ∧ b < 64 ∧ c < 64 ∧ d < 64 ∧ e < 64 ∧ f < 64
theorem c_l2CountN (a b c d e f : Nat) (h : R64 a b c d e f) (K : Cont) (h0 : K (I (ones 64 (setN a b c d e f) : Nat)) []) : ACall Try.prog W0 61 [Sh a b c d e f] [] K := by
  obtain ⟨ha, hb, hc, hd, he, hf⟩ := h
  refine c_l2Count _ _ _ _ _ _ (by omega) (by omega) (by omega) (by omega) (by omega) (by omega) K ?_
  rw [ones_setN a b c d e f ha hb hc hd he hf] at h0
  have e1 : (0 : Int) + pcz a + pcz b + pcz c + pcz d + pcz e + pcz f = ((ones 6 a + (ones 6 b + (ones 6 c + (ones 6 d + (ones 6 e + ones 6 f)))) : Nat) : Int) := by
    simp only [pcz, Int.toNat_natCast]; omega
  rw [e1]; exact h0
end Go.Proofs.Ytcclhjohpicleaa
end

section
/- Contracts: prints and their cells; lists of prints; layers. -/
set_option linter.unusedVariables false
set_option linter.unusedSimpArgs false
set_option maxRecDepth 100000
set_option maxHeartbeats 4000000
namespace Go.Proofs.Ytcclhjohpicleaa
open Go Go.RowKit Go.Proofs.Ytcclhjohpicleaa.Abs
variable {W0 : World} {σ : List Blk}
/-- a valid print by its parts -/
structure PrParts (x : List Int) where
  n : Nat
  u : Nat
  v : Nat
theorem c_l2CountM (n : Nat) (hn : n < 2 ^ 36) (K : Cont) (h0 : K (I (ones 64 n : Nat)) []) : ACall Try.prog W0 61 [ShN n] [] K := by
  refine c_l2CountN _ _ _ _ _ _ ⟨rowN_lt n 0, rowN_lt n 1, rowN_lt n 2, rowN_lt n 3, rowN_lt n 4, rowN_lt n 5⟩ K ?_
  rw [setN_rows hn]; exact h0
theorem d_l2CountM (n : Nat) (hn : n < 2 ^ 36) (K : Cont) (h0 : K (I (ones 64 n : Nat)) σ) : ACall Try.prog W0 61 [ShN n] σ K :=
  ACall.lift rfl (fun _ => rfl) (fun W1 K _ hK => c_l2CountM n hn K hK) h0
end Go.Proofs.Ytcclhjohpicleaa
end

section
/- Contracts: layers of prints. -/
set_option linter.unusedVariables false
set_option linter.unusedSimpArgs false
set_option maxRecDepth 100000
set_option maxHeartbeats 4000000
namespace Go.Proofs.Ytcclhjohpicleaa
open Go Go.RowKit Go.Proofs.Ytcclhjohpicleaa.Abs
variable {W0 : World} {σ : List Blk}
theorem closNil (k : Nat) : Closed k [] := fun B hB => by cases hB
theorem closCons {k : Nat} {B : Blk} {l : List Blk} (h : B.cells.all (bel1 k) = true) (hs : Closed k l) : Closed k (B :: l) := fun B' hB => by
  rcases List.mem_cons.1 hB with rfl | hB
  · exact h
  · exact hs B' hB
theorem belI (k : Nat) (l : List Int) : (l.map I).all (bel1 k) = true := by
  rw [List.all_map]; exact List.all_eq_true.2 fun _ _ => rfl
theorem belJ (k : Nat) (xs : List (List Int)) : (jc xs).all (bel1 k) = true := by
  refine List.all_eq_true.2 fun v hv => ?_
  obtain ⟨l, hl, hv⟩ := List.mem_flatten.1 hv
  obtain ⟨x, _, rfl⟩ := List.mem_map.1 hl
  exact List.all_eq_true.1 (belI k x) v hv
end Go.Proofs.Ytcclhjohpicleaa
end

section
/- Contracts: places of layers of which something is so. -/
set_option linter.unusedVariables false
set_option linter.unusedSimpArgs false
set_option maxRecDepth 100000
set_option maxHeartbeats 4000000
namespace Go.Proofs.Ytcclhjohpicleaa
open Go Go.RowKit Go.Proofs.Ytcclhjohpicleaa.Abs
variable {W0 : World} {σ : List Blk}
/-- the places at which something is so, rising; and those from the end on, falling -/
def selN (q : Nat → Bool) : Nat → List Int
  | 0 => []
  | n + 1 => selN q n ++ if q n then [(n : Int)] else []
theorem selN_succ (q : Nat → Bool) (n : Nat) : selN q (n + 1) = selN q n ++ if q n then [(n : Int)] else [] := rfl
theorem selN_len (q : Nat → Bool) : ∀ n, (selN q n).length ≤ n
  | 0 => Nat.le_refl _
  | n + 1 => by
    have := selN_len q n
    rw [selN_succ, List.length_append]; split <;> simp <;> omega
theorem selN_congr {q q' : Nat → Bool} : ∀ {n}, (∀ i, i < n → q i = q' i) → selN q n = selN q' n
  | 0, _ => rfl
  | n + 1, h => by rw [selN_succ, selN_succ, h n (by omega), selN_congr fun i hi => h i (by omega)]
end Go.Proofs.Ytcclhjohpicleaa
end

section
/- Contracts: hidden and whole prints. -/
set_option linter.unusedVariables false
set_option linter.unusedSimpArgs false
set_option maxRecDepth 100000
set_option maxHeartbeats 4000000
namespace Go.Proofs.Ytcclhjohpicleaa
open Go Go.RowKit Go.Proofs.Ytcclhjohpicleaa.Abs
variable {W0 : World} {σ : List Blk}
theorem sh_I (k : Nat) (l : List Int) : (l.map I).map (sh1 k) = l.map I := by rw [List.map_map]; rfl
abbrev outB (l : List Int) : Blk := ⟨l.map I, l.length, 3, 1, true, true⟩
abbrev nilA : AV := .lit (.slice none 0 0)
/-! the reference: what is seen of prints -/
def shR (n : Nat) : List Int := [(rowN n 0 : Nat), (rowN n 1 : Nat), (rowN n 2 : Nat), (rowN n 3 : Nat), (rowN n 4 : Nat), (rowN n 5 : Nat)]
theorem jc_append (a b : List (List Int)) : jc (a ++ b) = jc a ++ jc b := by simp [jc]
abbrev z6 : List Int := [0, 0, 0, 0, 0, 0]
/-- rows of which the last ones are filled -/
def suf (S : List (List Int)) (k : Nat) : List (List Int) := List.replicate k z6 ++ S.drop k
end Go.Proofs.Ytcclhjohpicleaa
end

section
/- Contracts: hidden and whole prints of the reference. -/
set_option linter.unusedVariables false
set_option linter.unusedSimpArgs false
set_option maxRecDepth 100000
set_option maxHeartbeats 4000000
namespace Go.Proofs.Ytcclhjohpicleaa
open Go Go.RowKit Go.Proofs.Ytcclhjohpicleaa.Abs
variable {W0 : World} {σ : List Blk}
theorem ones_pos : ∀ (k x : Nat), x < 2 ^ k → ones k x = 0 → x = 0
  | 0, x, h, _ => by omega
  | k + 1, x, h, e => by
    have e' : x % 2 + ones k (x / 2) = 0 := e
    have := ones_pos k (x / 2) (by rw [Nat.pow_succ] at h; omega) (by omega)
    omega
theorem ones_dec (n : Nat) (h : n < 2 ^ 36) : decide (((ones 64 n : Nat) : Int) = 0) = decide (n = 0) := by
  refine decide_eq_decide.2 ⟨fun e => ones_pos 64 n (by omega) (by omega), fun e => ?_⟩
  subst e; rw [ones_zero]; rfl
theorem jc_row {rows : List (List Int)} {s i off : Nat} {x : List Int} (hr : ∀ r ∈ rows, r.length = s) (h : rows[i]? = some x) (ho : off = i * s) : mkAV true (((jc rows).drop off).take s) = .agg (x.map I) := by
  subst ho
  have hi := getElem?_lt h
  have e : rows = rows.take i ++ x :: rows.drop (i + 1) := by
    have := List.drop_eq_getElem_cons hi
    rw [(List.getElem?_eq_some_iff.1 h).2] at this
    rw [← this, List.take_append_drop]
  have hl : (jc (rows.take i)).length = i * s := by rw [jc_len (s := s) fun r h => hr r (List.mem_of_mem_take h), List.length_take, Nat.min_eq_left (by omega)]
  have hl2 : (x.map I).length = s := by rw [List.length_map]; exact hr _ (List.mem_of_getElem? h)
  have e1 : jc rows = jc (rows.take i) ++ (x.map I ++ jc (rows.drop (i + 1))) := (congrArg jc e).trans (jc_append _ _)
  rw [e1, List.drop_left' hl, List.take_left' hl2]; rfl
end Go.Proofs.Ytcclhjohpicleaa
end

section
/- Contracts: prints that overlap. -/
set_option linter.unusedVariables false
set_option linter.unusedSimpArgs false
set_option maxRecDepth 100000
set_option maxHeartbeats 4000000
namespace Go.Proofs.Ytcclhjohpicleaa
open Go Go.RowKit Go.Proofs.Ytcclhjohpicleaa.Abs
variable {W0 : World} {σ : List Blk}
/-- pairs of places -/
def inn (q : Nat → Nat → Bool) (i : Nat) : Nat → List (List Int)
  | 0 => []
  | m + 1 => inn q i m ++ if q i (i + 1 + m) then [[(i : Int), ((i + 1 + m : Nat) : Int)]] else []
abbrev prsB (l : List (List Int)) : Blk := ⟨jc l, l.length, 70, 2, true, true⟩
end Go.Proofs.Ytcclhjohpicleaa
end

section
/- Contracts: pictures. -/
set_option linter.unusedVariables false
set_option linter.unusedSimpArgs false
set_option maxRecDepth 100000
set_option maxHeartbeats 4000000
namespace Go.Proofs.Ytcclhjohpicleaa
open Go Go.RowKit Go.Proofs.Ytcclhjohpicleaa.Abs
variable {W0 : World} {σ : List Blk}
abbrev Pi (q : List Int) : AV := .agg (q.map I)
abbrev z36 : List Int := List.replicate 36 0
end Go.Proofs.Ytcclhjohpicleaa
end

section
/- Contracts: the last prints. -/
set_option linter.unusedVariables false
set_option linter.unusedSimpArgs false
set_option maxRecDepth 100000
set_option maxHeartbeats 4000000
namespace Go.Proofs.Ytcclhjohpicleaa
open Go Go.RowKit Go.Proofs.Ytcclhjohpicleaa.Abs
variable {W0 : World} {σ : List Blk}
theorem eqC_I : ∀ (n : Nat) (l m : List Int), l.length = n → m.length = n → eqC (List.replicate n .int) (l.map (Value.int .i64)) (m.map (Value.int .i64)) = some (decide (l = m))
  | 0, [], [], _, _ => rfl
  | n + 1, x :: l, y :: m, h1, h2 => by
    have h := eqC_I n l m (by simpa using h1) (by simpa using h2)
    show (if IntKind.i64 = IntKind.i64 then (eqC (List.replicate n .int) (l.map (Value.int .i64)) (m.map (Value.int .i64))).map (decide (x = y) && ·) else none) = _
    rw [if_pos rfl, h]
    show some (decide (x = y) && decide (l = m)) = _
    congr 1
    rw [Bool.eq_iff_iff]; simp
  | 0, _ :: _, _, h, _ => by simp at h
  | n + 1, [], _, h, _ => by simp at h
  | 0, [], _ :: _, _, h => by simp at h
  | n + 1, _ :: _, [], _, h => by simp at h
/-- the cells at which something is so -/
def whN (f : Nat → Bool) : Nat → Nat
  | 0 => 0
  | m + 1 => whN f m ||| (if f m then 2 ^ m else 0)
theorem whN_succ (f : Nat → Bool) (m : Nat) : whN f (m + 1) = whN f m ||| (if f m then 2 ^ m else 0) := rfl
theorem whN_bit (f : Nat → Bool) (j : Nat) : ∀ m, (whN f m).testBit j = (decide (j < m) && f j)
  | 0 => by simp [whN]
  | m + 1 => by
    rw [whN_succ, Nat.testBit_or, whN_bit f j m]
    by_cases e : j = m
    · subst e
      cases hf : f j <;> simp [Nat.testBit_two_pow]
    · have e2 : (if f m then 2 ^ m else 0).testBit j = false := by
        split
        · rw [Nat.testBit_two_pow]; simp; omega
        · simp
      rw [e2, Bool.or_false]
      congr 1
      exact decide_eq_decide.2 (by omega)
theorem whN_lt (f : Nat → Bool) {m : Nat} (hm : m ≤ 36) : whN f m < 2 ^ 36 := by
  refine Nat.lt_pow_two_of_testBit _ fun i hi => ?_
  rw [whN_bit]; simp; omega
theorem wh_or {f : Nat → Bool} {k : Nat} (hk : k < 36) (hf : f k = true) : bOr .u64 (whN f k : Nat) (shL .u64 1 (k : Nat)) = (whN f (k + 1) : Nat) := by
  have hp : 2 ^ k < 2 ^ 36 := Nat.pow_lt_pow_right (by decide) hk
  rw [show (1 : Int) = ((1 : Nat) : Int) from rfl, shL_u64 1 k (by omega) (by rw [Nat.one_mul]; exact Nat.lt_trans hp (by decide)), Nat.one_mul, bOrU (whN_lt f (by omega)) hp, whN_succ, if_pos hf]
theorem c_where (g0 : FuncId) (caps : List AV) (f : Nat → Bool) (hc : ∀ k : Nat, k < 36 → ∀ K : Cont, K (Bo (f k)) σ → ACall Try.prog W0 g0 (I k :: caps) σ K) (K : Cont) (h0 : K (U (whN f 36 : Nat)) σ) : ACall Try.prog W0 71 [.fn (.func g0) [] caps] σ K := by
  refine by71 (Nat.le_of_ble_eq_true rfl) ?_
  repeat' ((conv => whnf); first | (refine Exists.intro ([] : List Nat) ?_) | (refine And.intro rfl ?_) | (refine And.intro (by decide +kernel) ?_) | (refine And.intro trivial ?_) | (refine Exists.intro _ (And.intro rfl (And.intro rfl (And.intro (Nat.le_of_ble_eq_true rfl) ?_)))) | (refine Exists.intro _ (And.intro rfl (And.intro rfl (And.intro rfl (And.intro (Nat.le_of_ble_eq_true rfl) ?_))))) | (refine And.intro (Exists.intro _ (And.intro rfl rfl)) ?_) | (exact fun hW => absurd hW (by decide +kernel)) | (intro hW; (try simp only [Bool.not_true, Bool.not_false, Bool.not_eq_true', Bool.not_eq_false', decide_eq_true_eq, decide_eq_false_iff_not, reduceCtorEq, Bool.true_eq_false, Bool.false_eq_true, mk_size, List.size_toArray, ByteArray.size_append, ByteArray.size_extract, List.length_cons, List.length_nil, ba_get, ba_empty, Int.toNat_natCast] at hW)) | (refine And.intro (?_ : _ → _) (?_ : _ → _)) | (refine FinR.drop 0 (Nat.zero_le _) (Closed.zero _) rfl ?_) | (refine FinR.keep ?_) | (refine And.intro (det3_agg rfl) ?_) | (refine fL_mk ?_) | (refine And.intro (by (try simp only [mk_size, List.size_toArray, ByteArray.size_append, ByteArray.size_extract, List.length_cons, List.length_nil]); omega) ?_) | (refine And.intro (by (try simp only [mk_size, List.size_toArray, ByteArray.size_append, ByteArray.size_extract, List.length_cons, List.length_nil, wrap64_eq]); omega) ?_) | fail)
  refine LoopR.live (fun k : Nat => [(0, .fn (.func g0) [] caps), (3, U (whN f k : Nat)), (5, I k)]) (fun _ => σ) (fun k => k ≤ 36) (fun k => 36 - k) 0 ⟨rfl, rfl, rfl, trivial⟩ (.keep rfl) (Nat.zero_le _) ?_
  intro k hk
  by_cases hlt : k < 36
  · have hcall := hc k hlt
    cases hf : f k with
    | true =>
      rw [hf] at hcall
      repeat' ((conv => whnf); first | (refine hcall _ ?_) | (refine Exists.intro ([] : List Nat) ?_) | (refine And.intro rfl ?_) | (refine And.intro (by decide +kernel) ?_) | (refine And.intro trivial ?_) | (refine Exists.intro _ (And.intro rfl (And.intro rfl (And.intro (Nat.le_of_ble_eq_true rfl) ?_)))) | (refine Exists.intro _ (And.intro rfl (And.intro rfl (And.intro rfl (And.intro (Nat.le_of_ble_eq_true rfl) ?_))))) | (refine And.intro (Exists.intro _ (And.intro rfl rfl)) ?_) | (exact fun hW => absurd hW (by decide +kernel)) | (intro hW; (try simp only [Bool.not_true, Bool.not_false, Bool.not_eq_true', Bool.not_eq_false', decide_eq_true_eq, decide_eq_false_iff_not, reduceCtorEq, Bool.true_eq_false, Bool.false_eq_true, mk_size, List.size_toArray, ByteArray.size_append, ByteArray.size_extract, List.length_cons, List.length_nil, ba_get, ba_empty, Int.toNat_natCast] at hW)) | (refine And.intro (?_ : _ → _) (?_ : _ → _)) | (refine FinR.drop 0 (Nat.zero_le _) (Closed.zero _) rfl ?_) | (refine FinR.keep ?_) | (refine And.intro (det3_agg rfl) ?_) | (refine fL_mk ?_) | (refine And.intro (by (try simp only [mk_size, List.size_toArray, ByteArray.size_append, ByteArray.size_extract, List.length_cons, List.length_nil]); omega) ?_) | (refine And.intro (by (try simp only [mk_size, List.size_toArray, ByteArray.size_append, ByteArray.size_extract, List.length_cons, List.length_nil, wrap64_eq]); omega) ?_) | fail)
      all_goals first | (exfalso; omega) | (exfalso; simp_all; done) | skip
      exact Again.go (k + 1) ⟨rfl, slU (wh_or hlt hf), slI' (wsucc' k (by omega)), trivial⟩ (.keep rfl) (by omega) (by omega)
    | false =>
      rw [hf] at hcall
      have e : whN f (k + 1) = whN f k := by rw [whN_succ, hf, if_neg (by decide), Nat.or_zero]
      repeat' ((conv => whnf); first | (refine hcall _ ?_) | (refine Exists.intro ([] : List Nat) ?_) | (refine And.intro rfl ?_) | (refine And.intro (by decide +kernel) ?_) | (refine And.intro trivial ?_) | (refine Exists.intro _ (And.intro rfl (And.intro rfl (And.intro (Nat.le_of_ble_eq_true rfl) ?_)))) | (refine Exists.intro _ (And.intro rfl (And.intro rfl (And.intro rfl (And.intro (Nat.le_of_ble_eq_true rfl) ?_))))) | (refine And.intro (Exists.intro _ (And.intro rfl rfl)) ?_) | (exact fun hW => absurd hW (by decide +kernel)) | (intro hW; (try simp only [Bool.not_true, Bool.not_false, Bool.not_eq_true', Bool.not_eq_false', decide_eq_true_eq, decide_eq_false_iff_not, reduceCtorEq, Bool.true_eq_false, Bool.false_eq_true, mk_size, List.size_toArray, ByteArray.size_append, ByteArray.size_extract, List.length_cons, List.length_nil, ba_get, ba_empty, Int.toNat_natCast] at hW)) | (refine And.intro (?_ : _ → _) (?_ : _ → _)) | (refine FinR.drop 0 (Nat.zero_le _) (Closed.zero _) rfl ?_) | (refine FinR.keep ?_) | (refine And.intro (det3_agg rfl) ?_) | (refine fL_mk ?_) | (refine And.intro (by (try simp only [mk_size, List.size_toArray, ByteArray.size_append, ByteArray.size_extract, List.length_cons, List.length_nil]); omega) ?_) | (refine And.intro (by (try simp only [mk_size, List.size_toArray, ByteArray.size_append, ByteArray.size_extract, List.length_cons, List.length_nil, wrap64_eq]); omega) ?_) | fail)
      all_goals first | (exfalso; omega) | (exfalso; simp_all; done) | skip
      exact Again.go (k + 1) ⟨rfl, slU (by rw [e]), slI' (wsucc' k (by omega)), trivial⟩ (.keep rfl) (by omega) (by omega)
  · obtain rfl : k = 36 := by omega
    repeat' ((conv => whnf); first | (refine Exists.intro ([] : List Nat) ?_) | (refine And.intro rfl ?_) | (refine And.intro (by decide +kernel) ?_) | (refine And.intro trivial ?_) | (refine Exists.intro _ (And.intro rfl (And.intro rfl (And.intro (Nat.le_of_ble_eq_true rfl) ?_)))) | (refine Exists.intro _ (And.intro rfl (And.intro rfl (And.intro rfl (And.intro (Nat.le_of_ble_eq_true rfl) ?_))))) | (refine And.intro (Exists.intro _ (And.intro rfl rfl)) ?_) | (exact fun hW => absurd hW (by decide +kernel)) | (intro hW; (try simp only [Bool.not_true, Bool.not_false, Bool.not_eq_true', Bool.not_eq_false', decide_eq_true_eq, decide_eq_false_iff_not, reduceCtorEq, Bool.true_eq_false, Bool.false_eq_true, mk_size, List.size_toArray, ByteArray.size_append, ByteArray.size_extract, List.length_cons, List.length_nil, ba_get, ba_empty, Int.toNat_natCast] at hW)) | (refine And.intro (?_ : _ → _) (?_ : _ → _)) | (refine FinR.drop 0 (Nat.zero_le _) (Closed.zero _) rfl ?_) | (refine FinR.keep ?_) | (refine And.intro (det3_agg rfl) ?_) | (refine fL_mk ?_) | (refine And.intro (by (try simp only [mk_size, List.size_toArray, ByteArray.size_append, ByteArray.size_extract, List.length_cons, List.length_nil]); omega) ?_) | (refine And.intro (by (try simp only [mk_size, List.size_toArray, ByteArray.size_append, ByteArray.size_extract, List.length_cons, List.length_nil, wrap64_eq]); omega) ?_) | fail)
    all_goals first | (exfalso; omega) | exact h0
end Go.Proofs.Ytcclhjohpicleaa
end

section
/- Contracts: the law of the last prints. -/
set_option linter.unusedVariables false
set_option linter.unusedSimpArgs false
set_option maxRecDepth 100000
set_option maxHeartbeats 4000000
namespace Go.Proofs.Ytcclhjohpicleaa
open Go Go.RowKit Go.Proofs.Ytcclhjohpicleaa.Abs
variable {W0 : World} {σ : List Blk}
theorem sh_out1 (k : Nat) (l : List Int) : shB k [outB l] = [outB l] := by simp only [shB, List.map_cons, List.map_nil, outB, sh_I]
end Go.Proofs.Ytcclhjohpicleaa
end

section
/- Contracts: pictures of prints in an order. -/
set_option linter.unusedVariables false
set_option linter.unusedSimpArgs false
set_option maxRecDepth 100000
set_option maxHeartbeats 4000000
namespace Go.Proofs.Ytcclhjohpicleaa
open Go Go.RowKit Go.Proofs.Ytcclhjohpicleaa.Abs
variable {W0 : World} {σ : List Blk}
/-! the program -/
theorem c_list (n : Nat) (hn : n < 2 ^ 36) (K : Cont) (h0 : ∀ cap, K (.sl 0 (selN n.testBit 36).length 0 (selN n.testBit 36).length cap) [outB (selN n.testBit 36)]) : ACall Try.prog W0 52 [U n] [] K := by
  refine by52 (Nat.le_of_ble_eq_true rfl) ?_
  repeat' ((conv => whnf); first | (refine Exists.intro ([] : List Nat) ?_) | (refine And.intro rfl ?_) | (refine And.intro (by decide +kernel) ?_) | (refine And.intro trivial ?_) | (refine Exists.intro _ (And.intro rfl (And.intro rfl (And.intro (Nat.le_of_ble_eq_true rfl) ?_)))) | (refine Exists.intro _ (And.intro rfl (And.intro rfl (And.intro rfl (And.intro (Nat.le_of_ble_eq_true rfl) ?_))))) | (refine And.intro (Exists.intro _ (And.intro rfl rfl)) ?_) | (exact fun hW => absurd hW (by decide +kernel)) | (intro hW; (try simp only [Bool.not_true, Bool.not_false, Bool.not_eq_true', Bool.not_eq_false', decide_eq_true_eq, decide_eq_false_iff_not, reduceCtorEq, Bool.true_eq_false, Bool.false_eq_true, mk_size, List.size_toArray, ByteArray.size_append, ByteArray.size_extract, List.length_cons, List.length_nil, ba_get, ba_empty, Int.toNat_natCast] at hW)) | (refine And.intro (?_ : _ → _) (?_ : _ → _)) | (refine FinR.drop 0 (Nat.zero_le _) (Closed.zero _) rfl ?_) | (refine FinR.keep ?_) | (refine And.intro (det3_agg rfl) ?_) | (refine fL_mk ?_) | (refine And.intro (by (try simp only [mk_size, List.size_toArray, ByteArray.size_append, ByteArray.size_extract, List.length_cons, List.length_nil]); omega) ?_) | (refine And.intro (by (try simp only [mk_size, List.size_toArray, ByteArray.size_append, ByteArray.size_extract, List.length_cons, List.length_nil, wrap64_eq]); omega) ?_) | fail)
  refine LoopR.live (fun y : Nat × Nat => [(0, U n), (3, .sl 0 (selN n.testBit y.1).length 0 (selN n.testBit y.1).length y.2), (6, I y.1)]) (fun y => [outB (selN n.testBit y.1)]) (fun y => y.1 ≤ 36) (fun y => 36 - y.1) (0, 0) ⟨rfl, rfl, rfl, trivial⟩ (.keep rfl) (Nat.zero_le _) ?_
  rintro ⟨i, cp⟩ hi
  dsimp only at hi
  have hsl := selN_len n.testBit i
  have hq := selN_succ n.testBit i
  by_cases hlt : i < 36
  · skip
    repeat' ((conv => whnf); first | (refine Exists.intro ([] : List Nat) ?_) | (refine And.intro rfl ?_) | (refine And.intro (by decide +kernel) ?_) | (refine And.intro trivial ?_) | (refine d_has (hn := Nat.lt_trans hn (by decide)) (hk := by omega) (h0 := ?_) ..) | (refine Exists.intro _ (And.intro rfl (And.intro rfl (And.intro rfl (And.intro rfl (And.intro rfl (And.intro rfl (And.intro (by decide) (And.intro (by simp [List.length_map]) (And.intro rfl (And.intro (by (try dsimp only); unfold maxLen; omega) (And.intro (by (try dsimp only); omega) (fun cap' hcap1 hcap2 => ?_))))))))))))) | (refine Exists.intro _ (And.intro rfl (And.intro rfl (And.intro (Nat.le_of_ble_eq_true rfl) ?_)))) | (refine Exists.intro _ (And.intro rfl (And.intro rfl (And.intro rfl (And.intro (Nat.le_of_ble_eq_true rfl) ?_))))) | (refine And.intro (Exists.intro _ (And.intro rfl rfl)) ?_) | (exact fun hW => absurd hW (by decide +kernel)) | (intro hW; (try simp only [Bool.not_true, Bool.not_false, Bool.not_eq_true', Bool.not_eq_false', decide_eq_true_eq, decide_eq_false_iff_not, reduceCtorEq, Bool.true_eq_false, Bool.false_eq_true, mk_size, List.size_toArray, ByteArray.size_append, ByteArray.size_extract, List.length_cons, List.length_nil, ba_get, ba_empty, Int.toNat_natCast] at hW)) | (refine And.intro (?_ : _ → _) (?_ : _ → _)) | (refine FinR.drop 0 (Nat.zero_le _) (Closed.zero _) rfl ?_) | (refine FinR.keep ?_) | (refine And.intro (det3_agg rfl) ?_) | (refine fL_mk ?_) | (refine And.intro (by (try simp only [mk_size, List.size_toArray, ByteArray.size_append, ByteArray.size_extract, List.length_cons, List.length_nil]); omega) ?_) | (refine And.intro (by (try simp only [mk_size, List.size_toArray, ByteArray.size_append, ByteArray.size_extract, List.length_cons, List.length_nil, wrap64_eq]); omega) ?_) | fail)
    all_goals first | (exfalso; omega) | skip
    · rw [hW, if_pos rfl] at hq
      refine Again.go (i + 1, _) ⟨rfl, (by show AV.sl _ _ _ _ _ = AV.sl _ _ _ _ _; rw [hq, List.length_append]; rfl), slI' (wsucc' i (by omega)), trivial⟩ (.keep ?_) (by dsimp only; omega) (by dsimp only; omega)
      dsimp only [outB]
      rw [hq, List.length_append, List.map_append]; rfl
    · rw [hW, if_neg (by decide), List.append_nil] at hq
      refine Again.go (i + 1, cp) ⟨rfl, (by show AV.sl _ _ _ _ _ = AV.sl _ _ _ _ _; rw [hq]), slI' (wsucc' i (by omega)), trivial⟩ (.keep ?_) (by dsimp only; omega) (by dsimp only; omega)
      dsimp only [outB]
      rw [hq]
  · obtain rfl : i = 36 := by omega
    have h0 := h0 cp
    repeat' ((conv => whnf); first | (refine Exists.intro ([] : List Nat) ?_) | (refine And.intro rfl ?_) | (refine And.intro (by decide +kernel) ?_) | (refine And.intro trivial ?_) | (refine Exists.intro _ (And.intro rfl (And.intro rfl (And.intro (Nat.le_of_ble_eq_true rfl) ?_)))) | (refine Exists.intro _ (And.intro rfl (And.intro rfl (And.intro rfl (And.intro (Nat.le_of_ble_eq_true rfl) ?_))))) | (refine And.intro (Exists.intro _ (And.intro rfl rfl)) ?_) | (exact fun hW => absurd hW (by decide +kernel)) | (intro hW; (try simp only [Bool.not_true, Bool.not_false, Bool.not_eq_true', Bool.not_eq_false', decide_eq_true_eq, decide_eq_false_iff_not, reduceCtorEq, Bool.true_eq_false, Bool.false_eq_true, mk_size, List.size_toArray, ByteArray.size_append, ByteArray.size_extract, List.length_cons, List.length_nil, ba_get, ba_empty, Int.toNat_natCast] at hW)) | (refine And.intro (?_ : _ → _) (?_ : _ → _)) | (refine FinR.drop 0 (Nat.zero_le _) (Closed.zero _) rfl ?_) | (refine FinR.keep ?_) | (refine And.intro (det3_agg rfl) ?_) | (refine fL_mk ?_) | (refine And.intro (by (try simp only [mk_size, List.size_toArray, ByteArray.size_append, ByteArray.size_extract, List.length_cons, List.length_nil]); omega) ?_) | (refine And.intro (by (try simp only [mk_size, List.size_toArray, ByteArray.size_append, ByteArray.size_extract, List.length_cons, List.length_nil, wrap64_eq]); omega) ?_) | fail)
    all_goals first | (exfalso; omega) | exact h0
theorem d_list (n : Nat) (hn : n < 2 ^ 36) (K : Cont) (h0 : ∀ cap, K (.sl (σ.length + 0) (selN n.testBit 36).length 0 (selN n.testBit 36).length cap) (σ ++ [outB (selN n.testBit 36)])) : ACall Try.prog W0 52 [U n] σ K := by
  refine ACall.frame (K0 := fun v σ' => ∃ cap, v = .sl 0 (selN n.testBit 36).length 0 (selN n.testBit 36).length cap ∧ σ' = [outB (selN n.testBit 36)]) rfl (fun W1 _ => c_list n hn _ fun cap => ⟨cap, rfl, rfl⟩) ?_
  rintro v σ' ⟨cap, rfl, rfl⟩
  rw [sh_out1]; exact h0 cap
theorem selN_mem (f : Nat → Bool) : ∀ n, ∀ k ∈ selN f n, ∃ m : Nat, k = m ∧ m < n
  | 0, k, h => by cases h
  | n + 1, k, h => by
    rw [selN_succ] at h
    rcases List.mem_append.1 h with h | h
    · obtain ⟨m, e, hm⟩ := selN_mem f n k h
      exact ⟨m, e, by omega⟩
    · split at h
      · exact ⟨n, List.mem_singleton.1 h, by omega⟩
      · cases h
end Go.Proofs.Ytcclhjohpicleaa
end

section
/- Contracts: lists in order; blocks that grow. -/
set_option linter.unusedVariables false
set_option linter.unusedSimpArgs false
set_option maxRecDepth 100000
set_option maxHeartbeats 4000000
namespace Go.Proofs.Ytcclhjohpicleaa
open Go Go.RowKit Go.Proofs.Ytcclhjohpicleaa.Abs
variable {W0 : World} {σ : List Blk}
theorem getl {σ : List Blk} {B : Blk} : (σ ++ [B])[σ.length]? = some B := by simp
theorem set_last {σ : List Blk} {B B' : Blk} : (σ ++ [B]).set σ.length B' = σ ++ [B'] := by
  rw [List.set_append_right _ _ (Nat.le_refl _), Nat.sub_self]; rfl
theorem getx1 {σ τ : List Blk} {b : Nat} {B : Blk} (h : σ[b]? = some B) : (σ ++ τ)[b]? = some B := by
  rw [List.getElem?_append_left (getElem?_lt h)]; exact h
/-! the first one of the shortest -/
section
variable (M : Nat → Bool) (s : Nat → List Int) (pl : List Int)
end
abbrev plainL (n : Nat) : List Int := selN (fun _ => true) n
end Go.Proofs.Ytcclhjohpicleaa
end

section
/- The abstract logic, part T: resolved code cut into parts; between two parts only the slots and blocks that are told stay. -/
set_option linter.unusedVariables false
set_option linter.unusedSimpArgs false
namespace Go.Proofs.Ytcclhjohpicleaa.Abs
open Go Go.RowKit
def seqN : Nat → RC → Bool
  | 0, _ => true
  | n + 1, .seq _ b => seqN n b
  | _ + 1, _ => false
def headN : Nat → RC → RC
  | 0, _ => .skip
  | n + 1, .seq a b => .seq a (headN n b)
  | _ + 1, r => r
def tailN : Nat → RC → RC
  | 0, r => r
  | n + 1, .seq _ b => tailN n b
  | _ + 1, r => r
/-! ### of all blocks some are kept, under new numbers: block i is what was block bs[i] -/
def ren0 (bs : List Nat) : AV → AV
  | .ptr b ver off => .ptr (bs.getD b 0) ver off
  | v => v
def ren1 (bs : List Nat) : AV → AV
  | .ptr b ver off => .ptr (bs.getD b 0) ver off
  | .sl b ver off n c => .sl (bs.getD b 0) ver off n c
  | .fn f first caps => .fn f (first.map (ren0 bs)) (caps.map (ren0 bs))
  | v => v
def ren2 (bs : List Nat) : AV → AV
  | .agg cs => .agg (cs.map (ren1 bs))
  | v => ren1 bs v
def ren3 (bs : List Nat) : AV → AV
  | .tup vs => .tup (vs.map (ren2 bs))
  | v => ren2 bs v
def renB (bs : List Nat) (B : Blk) : Blk := { B with cells := B.cells.map (ren1 bs) }
def idn (bs : List Nat) : Nat → Bool
  | 0 => true
  | m + 1 => idn bs m && (bs[m]? == some m)
abbrev locT (ι : Loc) (bs : List Nat) : Loc := bs.map fun b => ι.getD b (0, 0)
/-- a block that is kept: what it is now, what it was -/
inductive KeepB (bs : List Nat) (B' B : Blk) : Prop
  | lits (e : B = B') (h : ∀ c ∈ B'.cells, ∃ u, c = .lit u)
  | low (m : Nat) (e : B = B') (hm : idn bs m = true) (h : B'.cells.all (bel1 m) = true)
  | ren (e : B = renB bs B') (h : B'.cells.all (bel1 bs.length) = true)
def keepL (all : List Nat) (σ : List Blk) (bs : List Nat) (σ' : List Blk) : Prop :=
  List.rec (motive := fun _ => List Blk → Prop) (fun σ' => σ' = []) (fun b _ ih σ' => match σ' with
    | [] => False
    | B' :: σ' => (∃ B, σ[b]? = some B ∧ KeepB all B' B) ∧ ih σ') bs σ'
structure Gc (b0 : Nat) (fr : Fr) (σ : List Blk) (fr' : Fr) (σ' : List Blk) (bs : List Nat) : Prop where
  z : b0 = 0
  nd : bs.Nodup
  blk : keepL bs σ bs σ'
  slots : ∀ t, fr' t = .junk ∨ (fr t = ren3 bs (fr' t) ∧ bel3 bs.length (fr' t) = true)
section
variable {ι : Loc} {σ σ' : List Blk} {bs : List Nat} {w : World} {W0 : World}
theorem keepL_len {all : List Nat} : ∀ {bs : List Nat} {σ' : List Blk}, keepL all σ bs σ' → σ'.length = bs.length
  | [], σ', h => by rw [show σ' = [] from h]; rfl
  | b :: bs, [], h => h.elim
  | b :: bs, B' :: σ', h => by rw [List.length_cons, List.length_cons, keepL_len h.2]
theorem keepL_get {all : List Nat} : ∀ {bs : List Nat} {σ' : List Blk}, keepL all σ bs σ' → ∀ {i b : Nat} {B' : Blk}, bs[i]? = some b → σ'[i]? = some B' → ∃ B, σ[b]? = some B ∧ KeepB all B' B
  | [], σ', h, i, b, B', h1, _ => by simp at h1
  | b :: bs, [], h, _, _, _, _, _ => h.elim
  | b :: bs, B :: σ', h, 0, b', B', h1, h2 => by cases h1; cases h2; exact h.1
  | b :: bs, B :: σ', h, i + 1, b', B', h1, h2 => keepL_get h.2 h1 h2
theorem KeepB.same {B' B : Blk} (h : KeepB bs B' B) : B.ver = B'.ver ∧ B.e = B'.e ∧ B.esz = B'.esz ∧ B.row = B'.row ∧ B.room = B'.room := by
  cases h with
  | lits e h => rw [e]; exact ⟨rfl, rfl, rfl, rfl, rfl⟩
  | low m e hm h => rw [e]; exact ⟨rfl, rfl, rfl, rfl, rfl⟩
  | ren e h => rw [e]; exact ⟨rfl, rfl, rfl, rfl, rfl⟩
theorem idn_get : ∀ {m i : Nat}, idn bs m = true → i < m → bs[i]? = some i
  | 0, i, _, h => by omega
  | m + 1, i, hm, h => by
    unfold idn at hm
    rw [Bool.and_eq_true] at hm
    by_cases e : i = m
    · subst e; exact eq_of_beq hm.2
    · exact idn_get hm.1 (by omega)
theorem locT_at {i b : Nat} {q : Nat × Nat} (h1 : bs[i]? = some b) (h2 : ι[b]? = some q) : (locT ι bs)[i]? = some q := by
  unfold locT
  rw [List.getElem?_map, h1]
  show some (ι.getD b (0, 0)) = _
  rw [List.getD_eq_getElem?_getD, h2]; rfl
theorem locT_get {i : Nat} {q : Nat × Nat} (hb : ∀ b ∈ bs, b < ι.length) (h : (locT ι bs)[i]? = some q) : ∃ b, bs[i]? = some b ∧ ι[b]? = some q := by
  unfold locT at h
  rw [List.getElem?_map, Option.map_eq_some_iff] at h
  obtain ⟨b, h1, h2⟩ := h
  refine ⟨b, h1, ?_⟩
  have hlt := hb b (List.mem_of_getElem? h1)
  rw [List.getD_eq_getElem?_getD, List.getElem?_eq_getElem hlt] at h2
  rw [List.getElem?_eq_getElem hlt]; exact congrArg some h2
theorem kept_at (hk : keepL bs σ bs σ') {i : Nat} (hi : i < bs.length) : ∃ b B B', bs[i]? = some b ∧ bs.getD i 0 = b ∧ σ[b]? = some B ∧ σ'[i]? = some B' ∧ KeepB bs B' B := by
  have h1 := List.getElem?_eq_getElem hi
  have h2 : σ'[i]? = some (σ'[i]'(by rw [keepL_len hk]; exact hi)) := List.getElem?_eq_getElem _
  obtain ⟨B, h3, h4⟩ := keepL_get hk h1 h2
  exact ⟨_, B, _, h1, by rw [List.getD_eq_getElem?_getD, h1]; rfl, h3, h2, h4⟩
theorem ptrRel.ren (hk : keepL bs σ bs σ') {b ver off : Nat} {x : Value} (hb : b < bs.length) (h : ptrRel ι σ (bs.getD b 0) ver off x) : ptrRel (locT ι bs) σ' b ver off x := by
  obtain ⟨b1, B1, B', e1, e2, e3, e4, e5⟩ := kept_at hk hb
  obtain ⟨B, hB, hv, h1, hc, hm⟩ := h
  rw [e2, e3] at hB; cases hB
  have hs := e5.same
  have hmm := mapB_eq (B := B1) (B' := B') hs.2.2.1.symm hs.2.2.2.1.symm
  refine ⟨B', e4, by rw [← hs.1]; exact hv, h1, fun e => ?_, fun q1 q2 => ?_⟩
  · obtain ⟨c, t, hi, he⟩ := hc (by rw [hs.1]; exact e)
    exact ⟨c, t, locT_at e1 (e2 ▸ hi), by rw [hmm]; exact he⟩
  · obtain ⟨c, t, hi, he⟩ := hm (by rw [← hmm]; exact q1) (by rw [hs.1]; exact q2)
    exact ⟨c, t, locT_at e1 (e2 ▸ hi), he⟩
theorem slRel.ren (hk : keepL bs σ bs σ') {b ver off len cap : Nat} {x : Value} (hb : b < bs.length) (h : slRel ι σ (bs.getD b 0) ver off len cap x) : slRel (locT ι bs) σ' b ver off len cap x := by
  obtain ⟨b1, B1, B', e1, e2, e3, e4, e5⟩ := kept_at hk hb
  obtain ⟨B, hB, hv, h1, hc, hm⟩ := h
  rw [e2, e3] at hB; cases hB
  have hs := e5.same
  refine ⟨B', e4, by rw [← hs.1]; exact hv, h1, fun e => ?_, by rw [mapB_eq hs.2.2.1.symm hs.2.2.2.1.symm]; exact hm⟩
  obtain ⟨c, t, hi, he, k1, k2, k3⟩ := hc (by rw [hs.1]; exact e)
  exact ⟨c, t, locT_at e1 (e2 ▸ hi), he, k1, k2, fun hr hc => by rw [← hs.2.2.1]; exact k3 (by rw [hs.2.2.2.1]; exact hr) hc⟩
theorem Rels.unmap {α β γ : Type} {R : α → β → Prop} {R' : γ → β → Prop} {f : γ → α} {l : List γ} {m : List β} (h : Rels R (l.map f) m) (hr : ∀ a ∈ l, ∀ b, R (f a) b → R' a b) : Rels R' l m :=
  ⟨by rw [← h.1, List.length_map], fun i a b ha hb => hr a (List.mem_of_getElem? ha) b (h.2 i (f a) b (by rw [List.getElem?_map, ha]; rfl) hb)⟩
theorem rel0.ren (hk : keepL bs σ bs σ') {v : AV} {x : Value} (hb : bel0 bs.length v = true) (h : rel0 ι σ (ren0 bs v) x) : rel0 (locT ι bs) σ' v x := by
  cases v <;> first | exact h | exact ptrRel.ren hk (by simpa [bel0] using hb) h
theorem rel1.ren (hk : keepL bs σ bs σ') {v : AV} {x : Value} (hb : bel1 bs.length v = true) (h : rel1 ι σ (ren1 bs v) x) : rel1 (locT ι bs) σ' v x := by
  cases v with
  | ptr b ver off => exact ptrRel.ren hk (by simpa [bel1] using hb) h
  | sl b ver off len cap => exact slRel.ren hk (by simpa [bel1] using hb) h
  | fn f first caps =>
    obtain ⟨l1, l2, e, h1, h2⟩ := h
    simp only [bel1, Bool.and_eq_true] at hb
    exact ⟨l1, l2, e, h1.unmap fun a ha _ h => rel0.ren hk (List.all_eq_true.1 hb.1 a ha) h, h2.unmap fun a ha _ h => rel0.ren hk (List.all_eq_true.1 hb.2 a ha) h⟩
  | _ => exact h
theorem crel.ren (hk : keepL bs σ bs σ') {v : AV} {x : Value} (hb : bel1 bs.length v = true) (h : crel ι σ (ren1 bs v) x) : crel (locT ι bs) σ' v x := ⟨rel1.ren hk hb h.1, h.2⟩
theorem rel2.ren (hk : keepL bs σ bs σ') {v : AV} {x : Value} (hb : bel2 bs.length v = true) (h : rel2 ι σ (ren2 bs v) x) : rel2 (locT ι bs) σ' v x := by
  cases v with
  | agg cs => obtain ⟨l, e, h1⟩ := h; exact ⟨l, e, h1.unmap fun a ha _ h => crel.ren hk (List.all_eq_true.1 hb a ha) h⟩
  | ptr b ver off => exact ptrRel.ren hk (by simpa [bel2, bel1] using hb) h
  | sl b ver off len cap => exact slRel.ren hk (by simpa [bel2, bel1] using hb) h
  | fn f first caps => exact rel1.ren (v := .fn f first caps) hk hb h
  | _ => exact h
theorem rel3.ren (hk : keepL bs σ bs σ') {v : AV} {x : Value} (hb : bel3 bs.length v = true) (h : rel3 ι σ (ren3 bs v) x) : rel3 (locT ι bs) σ' v x := by
  cases v with
  | tup vs => obtain ⟨l, e, h1⟩ := h; exact ⟨l, e, h1.unmap fun a ha _ h => rel2.ren hk (List.all_eq_true.1 hb a ha) h⟩
  | agg cs => exact rel2.ren (v := .agg cs) hk hb h
  | ptr b ver off => exact ptrRel.ren hk (by simpa [bel3, bel2, bel1] using hb) h
  | sl b ver off len cap => exact slRel.ren hk (by simpa [bel3, bel2, bel1] using hb) h
  | fn f first caps => exact rel1.ren (v := .fn f first caps) hk hb h
  | _ => exact h
theorem ren0_id {m : Nat} (hm : idn bs m = true) {v : AV} (h : bel0 m v = true) : ren0 bs v = v := by
  cases v with
  | ptr b ver off =>
    have hb : b < m := by simpa [bel0] using h
    show AV.ptr (bs.getD b 0) ver off = _
    rw [List.getD_eq_getElem?_getD, idn_get hm hb]; rfl
  | _ => rfl
theorem ren0s_id {m : Nat} (hm : idn bs m = true) : ∀ {l : List AV}, l.all (bel0 m) = true → l.map (ren0 bs) = l
  | [], _ => rfl
  | a :: l, h => by
    rw [List.all_cons, Bool.and_eq_true] at h
    rw [List.map_cons, ren0_id hm h.1, ren0s_id hm h.2]
theorem ren1_id {m : Nat} (hm : idn bs m = true) {v : AV} (h : bel1 m v = true) : ren1 bs v = v := by
  cases v with
  | ptr b ver off =>
    have hb : b < m := by simpa [bel1] using h
    show AV.ptr (bs.getD b 0) ver off = _
    rw [List.getD_eq_getElem?_getD, idn_get hm hb]; rfl
  | sl b ver off n c =>
    have hb : b < m := by simpa [bel1] using h
    show AV.sl (bs.getD b 0) ver off n c = _
    rw [List.getD_eq_getElem?_getD, idn_get hm hb]; rfl
  | fn f first caps =>
    simp only [bel1, Bool.and_eq_true] at h
    show AV.fn f (first.map (ren0 bs)) (caps.map (ren0 bs)) = _
    rw [ren0s_id hm h.1, ren0s_id hm h.2]
  | _ => rfl
theorem ren1s_id {m : Nat} (hm : idn bs m = true) : ∀ {l : List AV}, l.all (bel1 m) = true → l.map (ren1 bs) = l
  | [], _ => rfl
  | a :: l, h => by
    rw [List.all_cons, Bool.and_eq_true] at h
    rw [List.map_cons, ren1_id hm h.1, ren1s_id hm h.2]
theorem bel1_lt {m k : Nat} (hmk : m ≤ k) {v : AV} (h : bel1 m v = true) : bel1 k v = true := by
  have h0 : ∀ {l : List AV}, l.all (bel0 m) = true → l.all (bel0 k) = true := fun hl => by
    rw [List.all_eq_true] at hl ⊢
    intro a ha
    have := hl a ha
    cases a <;> first | rfl | (simp only [bel0, decide_eq_true_eq] at this ⊢; omega)
  cases v with
  | ptr b ver off => simp only [bel1, decide_eq_true_eq] at h ⊢; omega
  | sl b ver off n c => simp only [bel1, decide_eq_true_eq] at h ⊢; omega
  | fn f first caps =>
    simp only [bel1, Bool.and_eq_true] at h ⊢
    exact ⟨h0 h.1, h0 h.2⟩
  | _ => rfl
theorem idn_le {m : Nat} (hm : idn bs m = true) : m ≤ bs.length := by
  cases m with
  | zero => exact Nat.zero_le _
  | succ m => have := getElem?_lt (idn_get hm (Nat.lt_succ_self m)); omega
theorem KeepB.cells {B' B : Blk} (h : KeepB bs B' B) : B.cells = B'.cells.map (ren1 bs) ∧ B'.cells.all (bel1 bs.length) = true := by
  cases h with
  | lits e h =>
    subst e
    have h1 : ∀ c ∈ B.cells, bel1 0 c = true := fun c hc => by obtain ⟨u, rfl⟩ := h c hc; rfl
    have h2 : B.cells.all (bel1 0) = true := List.all_eq_true.2 h1
    exact ⟨(ren1s_id (m := 0) rfl h2).symm, List.all_eq_true.2 fun c hc => bel1_lt (Nat.zero_le _) (h1 c hc)⟩
  | low m e hm h =>
    subst e
    exact ⟨(ren1s_id hm h).symm, List.all_eq_true.2 fun c hc => bel1_lt (idn_le hm) (List.all_eq_true.1 h c hc)⟩
  | ren e h => rw [e]; exact ⟨rfl, h⟩
theorem HRel.gc (h : HRel W0 ι σ w) (nd : bs.Nodup) (hk : keepL bs σ bs σ') : HRel W0 (locT ι bs) σ' w := by
  have hb : ∀ b ∈ bs, b < ι.length := by
    intro b hb
    obtain ⟨i, hi⟩ := List.mem_iff_getElem?.1 hb
    obtain ⟨b1, B1, B', e1, e2, e3, e4, e5⟩ := kept_at hk (getElem?_lt hi)
    rw [hi] at e1; cases e1
    rw [h.len]; exact getElem?_lt e3
  refine ⟨h.below, by simp [keepL_len hk], fun i j c t t' hi hj => ?_, fun i c t hi => ?_, fun i B' c t hi hj hm => ?_, fun i B' c t hi hj hm => ?_, h.drw⟩
  · obtain ⟨b, k1, k2⟩ := locT_get hb hi
    obtain ⟨b', k3, k4⟩ := locT_get hb hj
    have e := h.inj b b' c t t' k2 k4
    subst e
    exact (List.getElem?_inj (getElem?_lt k1) nd).1 (k1.trans k3.symm)
  · obtain ⟨b, k1, k2⟩ := locT_get hb hi
    exact h.dom b c t k2
  · obtain ⟨b, k1, k2⟩ := locT_get hb hj
    obtain ⟨B, hB, hKB⟩ := keepL_get hk k1 hi
    have hs := hKB.same
    have hmm : mapB B' = mapB B := mapB_eq hs.2.2.1.symm hs.2.2.2.1.symm
    obtain ⟨es, clk, m1, m3⟩ := h.mp b B c t hB k2 (by rw [← hmm]; exact hm)
    have hc := hKB.cells
    refine ⟨es, clk, m1, ?_⟩
    rw [hc.1] at m3
    exact m3.unmap fun a ha x hx => crel.ren hk (List.all_eq_true.1 hc.2 a ha) hx
  · obtain ⟨b, k1, k2⟩ := locT_get hb hj
    obtain ⟨B, hB, hKB⟩ := keepL_get hk k1 hi
    have hs := hKB.same
    have hmm : mapB B' = mapB B := mapB_eq hs.2.2.1.symm hs.2.2.2.1.symm
    obtain ⟨vs', rest, m1, m2, m3, m4⟩ := h.blk b B c t hB k2 (by rw [← hmm]; exact hm)
    have hc := hKB.cells
    have hfz : fzOf B' t = fzOf B t := by unfold fzOf; rw [hs.2.2.2.1, hs.2.2.2.2]
    refine ⟨vs', rest, by rw [← hs.2.1, hfz]; exact m1, m2, ?_, fun hr => m4 (by rw [hs.2.2.2.2]; exact hr)⟩
    rw [hc.1] at m3
    exact m3.unmap fun a ha x hx => crel.ren hk (List.all_eq_true.1 hc.2 a ha) hx
theorem FRel.gc {n : Nat} {fr fr' : Fr} {a : Act} (hk : keepL bs σ bs σ') (hf : ∀ t, fr' t = .junk ∨ (fr t = ren3 bs (fr' t) ∧ bel3 bs.length (fr' t) = true)) (h : FRel ι σ n fr a) : FRel (locT ι bs) σ' n fr' a := by
  refine ⟨h.1, fun t => ?_⟩
  rcases hf t with e | ⟨e, hb⟩
  · rw [e]; exact trivial
  · have := h.2 t
    rw [e] at this
    exact rel3.ren hk hb this
end
theorem frL_gc {bs : List Nat} {fr : Fr} : ∀ {l : List (Nat × AV)}, agr (l.map fun p => (p.1, ren3 bs p.2)) fr → l.all (fun p => bel3 bs.length p.2) = true → ∀ t, frL l t = .junk ∨ (fr t = ren3 bs (frL l t) ∧ bel3 bs.length (frL l t) = true)
  | [], _, _, t => .inl rfl
  | p :: l, h, hb, t => by
    rw [List.map_cons, agr_cons] at h
    rw [List.all_cons, Bool.and_eq_true] at hb
    rw [frL_cons]
    cases he : Nat.beq t p.1 with
    | true =>
      have e : t = p.1 := Nat.eq_of_beq_eq_true he
      right
      refine ⟨?_, hb.1⟩
      rw [e, h.1]; rfl
    | false => exact frL_gc h.2 hb.2 t
/-- between two parts: what is forgotten is forgotten, the rest is told -/
structure CutAt (b0 : Nat) (M : Fr → List Blk → Prop) (fr : Fr) (σ : List Blk) : Prop where
  ex : ∃ fr'' σ'', (Forget b0 fr σ fr'' σ'' ∨ ∃ bs, Gc b0 fr σ fr'' σ'' bs) ∧ M fr'' σ''
def cutP (b0 : Nat) (M : Fr → List Blk → Prop) (Q : CPost) : CPost := fun e fr σ => match e with
  | .normal => CutAt b0 M fr σ
  | e => Q e fr σ
def liveM {X : Type} (sh : X → List (Nat × AV)) (st : X → List Blk) (inv : X → Prop) (fr : Fr) (σ : List Blk) : Prop := ∃ x, fr = frL (sh x) ∧ σ = st x ∧ inv x
theorem CutAt.go {X : Type} {b0 : Nat} {sh : X → List (Nat × AV)} {st : X → List Blk} {inv : X → Prop} {fr : Fr} {σ : List Blk} (x : X) (ha : agr (sh x) fr) (hg : Fgt b0 (sh x) σ (st x)) (hi : inv x) : CutAt b0 (liveM sh st inv) fr σ :=
  ⟨_, _, .inl (hg.forget ha), x, rfl, rfl, hi⟩
/-- the blocks bs are kept alone, under new numbers -/
theorem CutAt.gc {X : Type} {sh : X → List (Nat × AV)} {st : X → List Blk} {inv : X → Prop} {fr : Fr} {σ : List Blk} (bs : List Nat) (nd : bs.Nodup) (x : X) (ha : agr ((sh x).map fun p => (p.1, ren3 bs p.2)) fr) (hb : (sh x).all (fun p => bel3 bs.length p.2) = true) (hk : keepL bs σ bs (st x)) (hi : inv x) : CutAt 0 (liveM sh st inv) fr σ :=
  ⟨_, _, .inr ⟨bs, rfl, nd, hk, frL_gc ha hb⟩, x, rfl, rfl, hi⟩
/-- resolved code with cuts -/
inductive RWs (P : Program) (W0 : World) (b0 : Nat) : RC → Fr → List Blk → CPost → Prop
  | base {r : RC} {fr : Fr} {σ : List Blk} {Q : CPost} (h : Closed σ.length σ → rW P W0 b0 r fr σ Q) : RWs P W0 b0 r fr σ Q
  | cut {r : RC} {fr : Fr} {σ : List Blk} {Q : CPost} (n : Nat) (M : Fr → List Blk → Prop) (hs : seqN n r = true) (h1 : Closed σ.length σ → rW P W0 b0 (headN n r) fr σ (cutP b0 M Q)) (h2 : ∀ fr' σ', M fr' σ' → RWs P W0 b0 (tailN n r) fr' σ' Q) : RWs P W0 b0 r fr σ Q
theorem RWs.live {P : Program} {W0 : World} {b0 : Nat} {r : RC} {fr : Fr} {σ : List Blk} {Q : CPost} {X : Type} (n : Nat) (sh : X → List (Nat × AV)) (st : X → List Blk) (inv : X → Prop) (hs : seqN n r = true)
    (h1 : Closed σ.length σ → rW P W0 b0 (headN n r) fr σ (cutP b0 (liveM sh st inv) Q)) (h2 : ∀ x, inv x → RWs P W0 b0 (tailN n r) (frL (sh x)) (st x) Q) : RWs P W0 b0 r fr σ Q :=
  .cut n _ hs h1 fun fr' σ' ⟨x, e1, e2, hx⟩ => e1 ▸ e2 ▸ h2 x hx
theorem RWs.closed {P : Program} {W0 : World} {b0 : Nat} {r : RC} {fr : Fr} {σ : List Blk} {Q : CPost} (h : Closed σ.length σ → RWs P W0 b0 r fr σ Q) : RWs P W0 b0 r fr σ Q := by
  by_cases hc : Closed σ.length σ
  · exact h hc
  · exact .base fun h' => absurd h' hc
section
variable {P : Program} {W0 : World} {ι0 : Loc} {σ0 : List Blk} {n : Nat} {cuts : Nat → Nat}
end
section
variable {P : Program} {W0 : World} {σ : List Blk}
end
section
variable {P : Program} {W0 : World} {σ : List Blk}
/-- of all new blocks some are kept, under new numbers -/
theorem ACall.only {g : FuncId} {args : List AV} {K0 K : Cont} (h : ACall P W0 g args [] K0) (hk : ∀ v S, K0 v S → ∃ (bs : List Nat) (Bs : List Blk) (v' : AV), bs.Nodup ∧ keepL bs S bs Bs ∧ v = ren3 bs v' ∧ bel3 bs.length v' = true ∧ K v' Bs) : ACall P W0 g args [] K := by
  refine ⟨h.ok, fun ι w vs hh hr => (h.run ι w vs hh hr).mono fun e w' ⟨v, ι', S, av, he, hk0, h3, h4, h5⟩ => ?_⟩
  obtain ⟨bs, Bs, v', hnd, hkl, rfl, hb, hK⟩ := hk _ _ hk0
  exact ⟨v, _, Bs, v', he, hK, h3.gc hnd hkl, ⟨Nat.zero_le _, fun i C C' hi => by simp at hi, fun i C C' hi => by simp at hi⟩, rel3.ren hkl hb h5⟩
end
end Go.Proofs.Ytcclhjohpicleaa.Abs
end

section
/- Games: slices.Compact. -/
set_option linter.unusedVariables false
set_option linter.unusedSimpArgs false
set_option maxRecDepth 100000
set_option maxHeartbeats 4000000
namespace Go.Proofs.Ytcclhjohpicleaa
open Go Go.RowKit Go.Proofs.Ytcclhjohpicleaa.Abs
variable {W0 : World} {σ : List Blk}
abbrev Un (n : Nat) : AV := U (n : Int)
/-- of equal neighbours one is kept -/
def ddN (l : List Nat) : Nat → List Nat
  | 0 => []
  | i + 1 => ddN l i ++ if 0 < i ∧ l.getD (i - 1) 0 = l.getD i 0 then [] else [l.getD i 0]
def ddL (l : List Nat) : List Nat := ddN l l.length
theorem ddN_succ (l : List Nat) (i : Nat) : ddN l (i + 1) = ddN l i ++ if 0 < i ∧ l.getD (i - 1) 0 = l.getD i 0 then [] else [l.getD i 0] := rfl
theorem ddN_len (l : List Nat) : ∀ i, (ddN l i).length ≤ i
  | 0 => Nat.le_refl _
  | i + 1 => by
    have := ddN_len l i
    rw [ddN_succ, List.length_append]
    split <;> simp <;> omega
theorem un_le {D : List Nat} {i off : Nat} (h : i < D.length) (ho : off = i) : off + 1 ≤ (D.map Un).length := by rw [List.length_map]; omega
theorem un_ld {D : List Nat} {i off : Nat} (h : i < D.length) (ho : off = i) : mkAV false (((D.map Un).drop off).take 1) = Un (D.getD i 0) := by
  subst ho
  rw [← List.map_drop, List.drop_eq_getElem_cons h, List.getD_eq_getElem?_getD, List.getElem?_eq_getElem h]; rfl
theorem un_set {D : List Nat} {i x : Nat} (h : i < D.length) : (D.map Un).take i ++ [Un x] ++ (D.map Un).drop (i + 1) = (D.set i x).map Un := by
  rw [List.map_set, List.set_eq_take_append_cons_drop, if_pos (by rw [List.length_map]; exact h), List.append_assoc]; rfl
theorem take_ld {l : List Nat} {i : Nat} (h : i < l.length) : l.take (i + 1) = l.take i ++ [l.getD i 0] := by
  rw [List.take_add_one, List.getD_eq_getElem?_getD, List.getElem?_eq_getElem h]; rfl
theorem drop_ld {D l : List Nat} {k i : Nat} (h : D.drop k = l.drop k) (hi : k ≤ i) : D.getD i 0 = l.getD i 0 := by
  have e := congrArg (fun z : List Nat => z[i - k]?) h
  simp only [List.getElem?_drop] at e
  rw [show k + (i - k) = i by omega] at e
  rw [List.getD_eq_getElem?_getD, List.getD_eq_getElem?_getD, e]
theorem set_take {D : List Nat} {k x : Nat} (h : k < D.length) : (D.set k x).take (k + 1) = D.take k ++ [x] := by
  rw [List.take_set, List.take_add_one, List.getElem?_eq_getElem h]
  rw [List.set_append_right _ _ (by rw [List.length_take]; omega), List.length_take, Nat.min_eq_left (by omega), Nat.sub_self]; rfl
theorem set_drop {D : List Nat} {k i x : Nat} (h : k < i) : (D.set k x).drop i = D.drop i := by
  rw [List.drop_set, if_pos h]
theorem getsG {i : Nat} {B X : Blk} (h : σ[i]? = some B) : (σ.set i X)[i]? = some X := by rw [List.getElem?_set_self (getElem?_lt h)]
structure GDX where
  j : Nat
  D : List Nat
theorem d_Compact (b ver cap : Nat) (B : Blk) (l : List Nat) (hB : σ[b]? = some B) (hv : B.ver = ver) (hz : B.esz = 1) (hc : B.cells = l.map Un) (hcap : l.length ≤ cap) (hl : l.length ≤ 1000) (K : Cont) (h0 : ∀ rest cap', K (.sl b ver 0 (ddL l).length cap') (σ.set b { B with cells := (ddL l).map Un ++ rest })) : ACall Try.prog W0 66 [.sl b ver 0 l.length cap] σ K := by
  have hsame : σ.set b { B with cells := l.map Un } = σ := by
    have e : ({ B with cells := l.map Un } : Blk) = B := by rw [← hc]
    rw [e, set_self hB]
  have hdl := ddN_len l
  refine by66 (Nat.le_of_ble_eq_true rfl) ?_
  by_cases h2 : l.length < 2
  · have e : ddL l = l := by
      match l, h2 with
      | [], _ => rfl
      | [x], _ => rfl
      | _ :: _ :: _, h => exact absurd h (by simp)
    have h0 := h0 [] cap
    rw [e, List.append_nil, hsame] at h0
    repeat' ((conv => whnf); first | (refine Exists.intro ([] : List Nat) ?_) | (refine And.intro rfl ?_) | (refine And.intro (by decide +kernel) ?_) | (refine And.intro trivial ?_) | (refine And.intro ⟨_, hB, hv⟩ ?_) | (refine Exists.intro _ (And.intro rfl (And.intro rfl (And.intro (Nat.le_of_ble_eq_true rfl) ?_)))) | (refine Exists.intro _ (And.intro rfl (And.intro rfl (And.intro rfl (And.intro (Nat.le_of_ble_eq_true rfl) ?_))))) | (refine And.intro (Exists.intro _ (And.intro rfl rfl)) ?_) | (exact fun hW => absurd hW (by decide +kernel)) | (intro hW; (try simp only [Bool.not_true, Bool.not_false, Bool.not_eq_true', Bool.not_eq_false', decide_eq_true_eq, decide_eq_false_iff_not, reduceCtorEq, Bool.true_eq_false, Bool.false_eq_true, mk_size, List.size_toArray, ByteArray.size_append, ByteArray.size_extract, List.length_cons, List.length_nil, ba_get, ba_empty, Int.toNat_natCast] at hW)) | (refine And.intro (?_ : _ → _) (?_ : _ → _)) | (refine FinR.drop 0 (Nat.zero_le _) (Closed.zero _) rfl ?_) | (refine FinR.keep ?_) | (refine And.intro (det3_agg rfl) ?_) | (refine fL_mk ?_) | (refine And.intro (by (try simp only [mk_size, List.size_toArray, ByteArray.size_append, ByteArray.size_extract, List.length_cons, List.length_nil]); omega) ?_) | (refine And.intro (by (try simp only [mk_size, List.size_toArray, ByteArray.size_append, ByteArray.size_extract, List.length_cons, List.length_nil, wrap64_eq]); omega) ?_) | fail)
    all_goals first | exact h0 | (exfalso; omega) | skip
    skip
  · skip
    repeat' ((conv => whnf); first | (refine Exists.intro ([] : List Nat) ?_) | (refine And.intro rfl ?_) | (refine And.intro (by decide +kernel) ?_) | (refine And.intro trivial ?_) | (refine And.intro ⟨_, hB, hv⟩ ?_) | (refine Exists.intro _ (And.intro rfl (And.intro rfl (And.intro (Nat.le_of_ble_eq_true rfl) ?_)))) | (refine Exists.intro _ (And.intro rfl (And.intro rfl (And.intro rfl (And.intro (Nat.le_of_ble_eq_true rfl) ?_))))) | (refine And.intro (Exists.intro _ (And.intro rfl rfl)) ?_) | (exact fun hW => absurd hW (by decide +kernel)) | (intro hW; (try simp only [Bool.not_true, Bool.not_false, Bool.not_eq_true', Bool.not_eq_false', decide_eq_true_eq, decide_eq_false_iff_not, reduceCtorEq, Bool.true_eq_false, Bool.false_eq_true, mk_size, List.size_toArray, ByteArray.size_append, ByteArray.size_extract, List.length_cons, List.length_nil, ba_get, ba_empty, Int.toNat_natCast] at hW)) | (refine And.intro (?_ : _ → _) (?_ : _ → _)) | (refine FinR.drop 0 (Nat.zero_le _) (Closed.zero _) rfl ?_) | (refine FinR.keep ?_) | (refine And.intro (det3_agg rfl) ?_) | (refine fL_mk ?_) | (refine And.intro (by (try simp only [mk_size, List.size_toArray, ByteArray.size_append, ByteArray.size_extract, List.length_cons, List.length_nil]); omega) ?_) | (refine And.intro (by (try simp only [mk_size, List.size_toArray, ByteArray.size_append, ByteArray.size_extract, List.length_cons, List.length_nil, wrap64_eq]); omega) ?_) | fail)
    all_goals first | (exfalso; omega) | skip
    skip
    refine LoopR.live (fun k : Nat => [(0, .sl b ver 0 l.length cap), (3, I k)]) (fun _ => σ) (fun k => 1 ≤ k ∧ k ≤ l.length ∧ ddN l k = l.take k) (fun k => l.length - k) 1 ⟨rfl, rfl, trivial⟩ (.keep rfl) ⟨Nat.le_refl _, by omega, ?_⟩ ?_
    · rw [ddN_succ, if_neg (by omega), take_ld (by omega)]; rfl
    rintro k ⟨hk1, hk, hd⟩
    have ew : IntKind.i64.wrap ((k : Nat) + 1 : Int) = ((k + 1 : Nat) : Int) := wsucc' k (by omega)
    by_cases hlt : k < l.length
    · have ek : IntKind.i64.wrap (((k : Nat) : Int) - 1) = ((k - 1 : Nat) : Int) := by rw [wrap_i64 _ (by omega) (by omega)]; omega
      have o1 : 0 + ((k : Nat) : Int).toNat * 1 = k := by rw [Int.toNat_natCast]; omega
      have o2 : 0 + ((k - 1 : Nat) : Int).toNat * 1 = k - 1 := by rw [Int.toNat_natCast]; omega
      have l1 := un_le (D := l) hlt o1
      have l2 := un_le (D := l) (i := k - 1) (by omega) o2
      have d1 := un_ld (D := l) hlt o1
      have d2 := un_ld (D := l) (i := k - 1) (by omega) o2
      rw [← hc] at l1 l2 d1 d2
      by_cases he : l.getD (k - 1) 0 = l.getD k 0
      · have hde : decide (((l.getD k 0 : Nat) : Int) = ((l.getD (k - 1) 0 : Nat) : Int)) = true := decide_eq_true (by omega)
        repeat' ((conv => whnf); first | (rw [ek]) | (rw [ew]) | (refine Exists.intro _ (And.intro hB (And.intro hv (And.intro l1 ?_))); rw [d1]) | (refine Exists.intro _ (And.intro hB (And.intro hv (And.intro l2 ?_))); rw [d2]) | (rw [hde]) | (refine Exists.intro ([] : List Nat) ?_) | (refine And.intro rfl ?_) | (refine And.intro (by decide +kernel) ?_) | (refine And.intro trivial ?_) | (refine And.intro ⟨_, hB, hv⟩ ?_) | (refine Exists.intro _ (And.intro hB (And.intro hv (And.intro (fun _ => hz) (And.intro (by omega) (And.intro (by omega) (And.intro (by omega) ?_))))))) | (refine Exists.intro _ (And.intro rfl (And.intro rfl (And.intro (Nat.le_of_ble_eq_true rfl) ?_)))) | (refine Exists.intro _ (And.intro rfl (And.intro rfl (And.intro rfl (And.intro (Nat.le_of_ble_eq_true rfl) ?_))))) | (refine And.intro (Exists.intro _ (And.intro rfl rfl)) ?_) | (exact fun hW => absurd hW (by decide +kernel)) | (intro hW; (try simp only [Bool.not_true, Bool.not_false, Bool.not_eq_true', Bool.not_eq_false', decide_eq_true_eq, decide_eq_false_iff_not, reduceCtorEq, Bool.true_eq_false, Bool.false_eq_true, mk_size, List.size_toArray, ByteArray.size_append, ByteArray.size_extract, List.length_cons, List.length_nil, ba_get, ba_empty, Int.toNat_natCast] at hW)) | (refine And.intro (?_ : _ → _) (?_ : _ → _)) | (refine FinR.drop 0 (Nat.zero_le _) (Closed.zero _) rfl ?_) | (refine FinR.keep ?_) | (refine And.intro (det3_agg rfl) ?_) | (refine fL_mk ?_) | (refine And.intro (by (try simp only [mk_size, List.size_toArray, ByteArray.size_append, ByteArray.size_extract, List.length_cons, List.length_nil]); omega) ?_) | (refine And.intro (by (try simp only [mk_size, List.size_toArray, ByteArray.size_append, ByteArray.size_extract, List.length_cons, List.length_nil, wrap64_eq]); omega) ?_) | fail)
        all_goals first | (exfalso; omega) | (exfalso; simp_all; done) | skip
        skip
        have hq0 : ddN l (k + 1) = l.take k := by rw [ddN_succ, if_pos ⟨by omega, he⟩, List.append_nil, hd]
        refine LoopR.live (fun x : GDX => [(0, .sl b ver 0 l.length cap), (3, I (ddN l (k + x.j)).length), (4, .sl b ver (0 + k * 1) (l.length - k) (cap - k)), (5, I x.j)]) (fun x => σ.set b { B with cells := x.D.map Un }) (fun x => 1 ≤ x.j ∧ x.j ≤ l.length - k ∧ x.D.length = l.length ∧ x.D.take (ddN l (k + x.j)).length = ddN l (k + x.j) ∧ x.D.drop (k + x.j - 1) = l.drop (k + x.j - 1) ∧ (ddN l (k + x.j)).length + 1 ≤ k + x.j) (fun x => l.length - k - x.j) ⟨1, l⟩ ⟨rfl, (by show I ((k : Nat) : Int) = I (((ddN l (k + 1)).length : Nat) : Int); rw [hq0, List.length_take, Nat.min_eq_left (by omega)]), (by show AV.sl b ver (if cap = ((k : Nat) : Int).toNat then 0 else 0 + ((k : Nat) : Int).toNat * 1) _ _ = _; rw [if_neg (by rw [Int.toNat_natCast]; omega)]; rfl), rfl, trivial⟩ (.keep hsame) ⟨Nat.le_refl _, by show 1 ≤ l.length - k; omega, rfl, by rw [hq0, List.length_take, Nat.min_eq_left (by omega)], rfl, by rw [hq0, List.length_take, Nat.min_eq_left (by omega)]; exact Nat.le_refl _⟩ ?_
        rintro ⟨j, D⟩ ⟨hj1, hj, hDl, hDt, hDd, hDk⟩
        dsimp only at hj1 hj hDl hDt hDd hDk
        have hB' : (σ.set b { B with cells := D.map Un })[b]? = some { B with cells := D.map Un } := getsG hB
        have ew2 : IntKind.i64.wrap ((j : Nat) + 1 : Int) = ((j + 1 : Nat) : Int) := wsucc' j (by omega)
        have hdk := hdl (k + j)
        by_cases hlt2 : j < l.length - k
        · have ej : IntKind.i64.wrap (((j : Nat) : Int) - 1) = ((j - 1 : Nat) : Int) := by rw [wrap_i64 _ (by omega) (by omega)]; omega
          have o3 : 0 + k * 1 + ((j : Nat) : Int).toNat * 1 = k + j := by rw [Int.toNat_natCast]; omega
          have o4 : 0 + k * 1 + ((j - 1 : Nat) : Int).toNat * 1 = k + j - 1 := by rw [Int.toNat_natCast]; omega
          have l3 := un_le (D := D) (i := k + j) (by omega) o3
          have l4 := un_le (D := D) (i := k + j - 1) (by omega) o4
          have d3 := un_ld (D := D) (i := k + j) (by omega) o3
          have d4 := un_ld (D := D) (i := k + j - 1) (by omega) o4
          rw [drop_ld hDd (by omega)] at d3 d4
          have hs := ddN_succ l (k + j)
          have hdr : D.drop (k + (j + 1) - 1) = l.drop (k + (j + 1) - 1) := by
            have := congrArg (List.drop 1) hDd
            rw [List.drop_drop, List.drop_drop] at this
            rw [show k + (j + 1) - 1 = k + j - 1 + 1 by omega]; exact this
          by_cases he2 : l.getD (k + j - 1) 0 = l.getD (k + j) 0
          · have hde2 : decide (((l.getD (k + j) 0 : Nat) : Int) = ((l.getD (k + j - 1) 0 : Nat) : Int)) = true := decide_eq_true (by omega)
            rw [if_pos ⟨by omega, he2⟩, List.append_nil] at hs
            repeat' ((conv => whnf); first | (rw [ej]) | (rw [ew2]) | (refine Exists.intro _ (And.intro hB' (And.intro hv (And.intro l3 ?_))); rw [show ({ B with cells := D.map Un } : Blk).cells = D.map Un from rfl, d3]) | (refine Exists.intro _ (And.intro hB' (And.intro hv (And.intro l4 ?_))); rw [show ({ B with cells := D.map Un } : Blk).cells = D.map Un from rfl, d4]) | (rw [hde2]) | (refine Exists.intro ([] : List Nat) ?_) | (refine And.intro rfl ?_) | (refine And.intro (by decide +kernel) ?_) | (refine And.intro trivial ?_) | (refine And.intro ⟨_, hB', hv⟩ ?_) | (refine Exists.intro _ (And.intro rfl (And.intro rfl (And.intro (Nat.le_of_ble_eq_true rfl) ?_)))) | (refine Exists.intro _ (And.intro rfl (And.intro rfl (And.intro rfl (And.intro (Nat.le_of_ble_eq_true rfl) ?_))))) | (refine And.intro (Exists.intro _ (And.intro rfl rfl)) ?_) | (exact fun hW => absurd hW (by decide +kernel)) | (intro hW; (try simp only [Bool.not_true, Bool.not_false, Bool.not_eq_true', Bool.not_eq_false', decide_eq_true_eq, decide_eq_false_iff_not, reduceCtorEq, Bool.true_eq_false, Bool.false_eq_true, mk_size, List.size_toArray, ByteArray.size_append, ByteArray.size_extract, List.length_cons, List.length_nil, ba_get, ba_empty, Int.toNat_natCast] at hW)) | (refine And.intro (?_ : _ → _) (?_ : _ → _)) | (refine FinR.drop 0 (Nat.zero_le _) (Closed.zero _) rfl ?_) | (refine FinR.keep ?_) | (refine And.intro (det3_agg rfl) ?_) | (refine fL_mk ?_) | (refine And.intro (by (try simp only [mk_size, List.size_toArray, ByteArray.size_append, ByteArray.size_extract, List.length_cons, List.length_nil]); omega) ?_) | (refine And.intro (by (try simp only [mk_size, List.size_toArray, ByteArray.size_append, ByteArray.size_extract, List.length_cons, List.length_nil, wrap64_eq]); omega) ?_) | fail)
            all_goals first | (exfalso; omega) | (exfalso; simp_all; done) | skip
            skip
            exact Again.go ⟨j + 1, D⟩ ⟨rfl, (by show I (((ddN l (k + j)).length : Nat) : Int) = I (((ddN l (k + j + 1)).length : Nat) : Int); rw [hs]), rfl, rfl, trivial⟩ (.keep rfl) ⟨by show 1 ≤ j + 1; omega, by show j + 1 ≤ _; omega, hDl, by show D.take (ddN l (k + j + 1)).length = ddN l (k + j + 1); rw [hs]; exact hDt, hdr, by show (ddN l (k + j + 1)).length + 1 ≤ k + (j + 1); rw [hs]; omega⟩ (by show l.length - k - (j + 1) < l.length - k - j; omega)
          · have hde2 : decide (((l.getD (k + j) 0 : Nat) : Int) = ((l.getD (k + j - 1) 0 : Nat) : Int)) = false := decide_eq_false (by omega)
            rw [if_neg (fun h => he2 h.2)] at hs
            have hkk : (ddN l (k + j)).length < D.length := by omega
            have o5 : 0 + (((ddN l (k + j)).length : Nat) : Int).toNat * 1 = (ddN l (k + j)).length := by rw [Int.toNat_natCast]; omega
            have l5 := un_le (D := D) hkk o5
            have ew3 : IntKind.i64.wrap (((ddN l (k + j)).length : Nat) + 1 : Int) = (((ddN l (k + j)).length + 1 : Nat) : Int) := wsucc' _ (by omega)
            repeat' ((conv => whnf); first | (rw [ej]) | (rw [ew2]) | (refine Exists.intro _ (And.intro hB' (And.intro hv (And.intro l3 ?_))); rw [show ({ B with cells := D.map Un } : Blk).cells = D.map Un from rfl, d3]) | (refine Exists.intro _ (And.intro hB' (And.intro hv (And.intro l4 ?_))); rw [show ({ B with cells := D.map Un } : Blk).cells = D.map Un from rfl, d4]) | (rw [hde2]) | (rw [ew3]) | (refine Exists.intro ([] : List Nat) ?_) | (refine And.intro rfl ?_) | (refine And.intro (by decide +kernel) ?_) | (refine And.intro trivial ?_) | (refine And.intro ⟨_, hB', hv⟩ ?_) | (refine Exists.intro _ (And.intro hB' (And.intro hv (And.intro rfl (And.intro l5 ?_))))) | (refine fS_mk ?_) | (refine Exists.intro _ (And.intro rfl (And.intro rfl (And.intro (Nat.le_of_ble_eq_true rfl) ?_)))) | (refine Exists.intro _ (And.intro rfl (And.intro rfl (And.intro rfl (And.intro (Nat.le_of_ble_eq_true rfl) ?_))))) | (refine And.intro (Exists.intro _ (And.intro rfl rfl)) ?_) | (exact fun hW => absurd hW (by decide +kernel)) | (intro hW; (try simp only [Bool.not_true, Bool.not_false, Bool.not_eq_true', Bool.not_eq_false', decide_eq_true_eq, decide_eq_false_iff_not, reduceCtorEq, Bool.true_eq_false, Bool.false_eq_true, mk_size, List.size_toArray, ByteArray.size_append, ByteArray.size_extract, List.length_cons, List.length_nil, ba_get, ba_empty, Int.toNat_natCast] at hW)) | (refine And.intro (?_ : _ → _) (?_ : _ → _)) | (refine FinR.drop 0 (Nat.zero_le _) (Closed.zero _) rfl ?_) | (refine FinR.keep ?_) | (refine And.intro (det3_agg rfl) ?_) | (refine fL_mk ?_) | (refine And.intro (by (try simp only [mk_size, List.size_toArray, ByteArray.size_append, ByteArray.size_extract, List.length_cons, List.length_nil]); omega) ?_) | (refine And.intro (by (try simp only [mk_size, List.size_toArray, ByteArray.size_append, ByteArray.size_extract, List.length_cons, List.length_nil, wrap64_eq]); omega) ?_) | fail)
            all_goals first | (exfalso; omega) | (exfalso; simp_all; done) | skip
            skip
            have hlen1 : (ddN l (k + j + 1)).length = (ddN l (k + j)).length + 1 := by rw [hs, List.length_append]; rfl
            refine Again.go ⟨j + 1, D.set (ddN l (k + j)).length (l.getD (k + j) 0)⟩ ⟨rfl, (by show I (((ddN l (k + j)).length + 1 : Nat) : Int) = I (((ddN l (k + j + 1)).length : Nat) : Int); rw [hlen1]), rfl, rfl, trivial⟩ (.keep ?_) ⟨by show 1 ≤ j + 1; omega, by show j + 1 ≤ _; omega, by show (D.set _ _).length = _; rw [List.length_set]; exact hDl, ?_, ?_, by show (ddN l (k + j + 1)).length + 1 ≤ k + (j + 1); rw [hlen1]; omega⟩ (by show l.length - k - (j + 1) < l.length - k - j; omega)
            · show σ.set b { B with cells := (D.set (ddN l (k + j)).length (l.getD (k + j) 0)).map Un } = (σ.set b { B with cells := D.map Un }).set b { B with cells := (D.map Un).take (0 + (((ddN l (k + j)).length : Nat) : Int).toNat * 1) ++ [Un (l.getD (k + j) 0)] ++ (D.map Un).drop (0 + (((ddN l (k + j)).length : Nat) : Int).toNat * 1 + 1) }
              rw [List.set_set, o5, un_set hkk]
            · show (D.set _ _).take (ddN l (k + j + 1)).length = ddN l (k + j + 1)
              rw [hlen1, set_take hkk, hDt, hs]
            · show (D.set _ _).drop (k + (j + 1) - 1) = l.drop (k + (j + 1) - 1)
              rw [set_drop (by omega)]; exact hdr
        · obtain rfl : j = l.length - k := by omega
          rw [show k + (l.length - k) = l.length by omega] at hDt hDd hDk hdk ⊢
          have o6 : 0 + (((ddN l l.length).length : Nat) : Int).toNat * 1 = (ddN l l.length).length := by rw [Int.toNat_natCast]; omega
          have hcapk : ¬ cap = (((ddN l l.length).length : Nat) : Int).toNat := by rw [Int.toNat_natCast]; omega
          have hcap0 : ¬ cap = Int.toNat 0 := by show ¬ cap = 0; omega
          have lc : 0 + (((ddN l l.length).length : Nat) : Int).toNat * 1 + (((l.length : Nat) : Int).toNat - (((ddN l l.length).length : Nat) : Int).toNat) * 1 ≤ (D.map Un).length := by rw [List.length_map, Int.toNat_natCast, Int.toNat_natCast]; omega
          repeat' ((conv => whnf); first | (rw [if_neg hcapk]) | (rw [if_neg hcap0]) | (refine Exists.intro ([] : List Nat) ?_) | (refine And.intro rfl ?_) | (refine And.intro (by decide +kernel) ?_) | (refine And.intro trivial ?_) | (refine Exists.intro _ (And.intro (getsG hB') (And.intro hv (And.intro (fun _ => hz) (And.intro (by omega) (And.intro (by omega) (And.intro (by omega) ?_))))))) | (refine And.intro ⟨_, getsG hB', hv⟩ ?_) | (refine And.intro ⟨_, hB', hv⟩ ?_) | (refine Exists.intro _ (And.intro hB' (And.intro hv (And.intro (fun _ => hz) (And.intro (by omega) (And.intro (by omega) (And.intro (by omega) ?_))))))) | (refine Exists.intro _ (And.intro hB' (And.intro hv (And.intro lc ?_)))) | (refine fS_mk ?_) | (refine Exists.intro _ (And.intro rfl (And.intro rfl (And.intro (Nat.le_of_ble_eq_true rfl) ?_)))) | (refine Exists.intro _ (And.intro rfl (And.intro rfl (And.intro rfl (And.intro (Nat.le_of_ble_eq_true rfl) ?_))))) | (refine And.intro (Exists.intro _ (And.intro rfl rfl)) ?_) | (exact fun hW => absurd hW (by decide +kernel)) | (intro hW; (try simp only [Bool.not_true, Bool.not_false, Bool.not_eq_true', Bool.not_eq_false', decide_eq_true_eq, decide_eq_false_iff_not, reduceCtorEq, Bool.true_eq_false, Bool.false_eq_true, mk_size, List.size_toArray, ByteArray.size_append, ByteArray.size_extract, List.length_cons, List.length_nil, ba_get, ba_empty, Int.toNat_natCast] at hW)) | (refine And.intro (?_ : _ → _) (?_ : _ → _)) | (refine FinR.drop 0 (Nat.zero_le _) (Closed.zero _) rfl ?_) | (refine FinR.keep ?_) | (refine And.intro (det3_agg rfl) ?_) | (refine fL_mk ?_) | (refine And.intro (by (try simp only [mk_size, List.size_toArray, ByteArray.size_append, ByteArray.size_extract, List.length_cons, List.length_nil]); omega) ?_) | (refine And.intro (by (try simp only [mk_size, List.size_toArray, ByteArray.size_append, ByteArray.size_extract, List.length_cons, List.length_nil, wrap64_eq]); omega) ?_) | fail)
          all_goals first | (exfalso; omega) | skip
          skip
          have hcut : (D.map Un).take (0 + (((ddN l l.length).length : Nat) : Int).toNat * 1) = (ddL l).map Un := by rw [o6, ← List.map_take, hDt]; rfl
          show K (.sl b ver 0 (ddL l).length cap) ((σ.set b { B with cells := D.map Un }).set b { B with cells := (D.map Un).take (0 + (((ddN l l.length).length : Nat) : Int).toNat * 1) ++ rep (((l.length : Nat) : Int).toNat - (((ddN l l.length).length : Nat) : Int).toNat) [U 0] ++ (D.map Un).drop (0 + (((ddN l l.length).length : Nat) : Int).toNat * 1 + (((l.length : Nat) : Int).toNat - (((ddN l l.length).length : Nat) : Int).toNat) * 1) })
          rw [List.set_set, hcut, List.append_assoc]
          exact h0 _ cap
      · have hde : decide (((l.getD k 0 : Nat) : Int) = ((l.getD (k - 1) 0 : Nat) : Int)) = false := decide_eq_false (by omega)
        repeat' ((conv => whnf); first | (rw [ek]) | (rw [ew]) | (refine Exists.intro _ (And.intro hB (And.intro hv (And.intro l1 ?_))); rw [d1]) | (refine Exists.intro _ (And.intro hB (And.intro hv (And.intro l2 ?_))); rw [d2]) | (rw [hde]) | (refine Exists.intro ([] : List Nat) ?_) | (refine And.intro rfl ?_) | (refine And.intro (by decide +kernel) ?_) | (refine And.intro trivial ?_) | (refine And.intro ⟨_, hB, hv⟩ ?_) | (refine Exists.intro _ (And.intro hB (And.intro hv (And.intro (fun _ => hz) (And.intro (by omega) (And.intro (by omega) (And.intro (by omega) ?_))))))) | (refine Exists.intro _ (And.intro rfl (And.intro rfl (And.intro (Nat.le_of_ble_eq_true rfl) ?_)))) | (refine Exists.intro _ (And.intro rfl (And.intro rfl (And.intro rfl (And.intro (Nat.le_of_ble_eq_true rfl) ?_))))) | (refine And.intro (Exists.intro _ (And.intro rfl rfl)) ?_) | (exact fun hW => absurd hW (by decide +kernel)) | (intro hW; (try simp only [Bool.not_true, Bool.not_false, Bool.not_eq_true', Bool.not_eq_false', decide_eq_true_eq, decide_eq_false_iff_not, reduceCtorEq, Bool.true_eq_false, Bool.false_eq_true, mk_size, List.size_toArray, ByteArray.size_append, ByteArray.size_extract, List.length_cons, List.length_nil, ba_get, ba_empty, Int.toNat_natCast] at hW)) | (refine And.intro (?_ : _ → _) (?_ : _ → _)) | (refine FinR.drop 0 (Nat.zero_le _) (Closed.zero _) rfl ?_) | (refine FinR.keep ?_) | (refine And.intro (det3_agg rfl) ?_) | (refine fL_mk ?_) | (refine And.intro (by (try simp only [mk_size, List.size_toArray, ByteArray.size_append, ByteArray.size_extract, List.length_cons, List.length_nil]); omega) ?_) | (refine And.intro (by (try simp only [mk_size, List.size_toArray, ByteArray.size_append, ByteArray.size_extract, List.length_cons, List.length_nil, wrap64_eq]); omega) ?_) | fail)
        all_goals first | (exfalso; omega) | (exfalso; simp_all; done) | skip
        skip
        exact Again.go (k + 1) ⟨rfl, rfl, trivial⟩ (.keep rfl) ⟨by omega, by omega, by rw [ddN_succ, if_neg (fun h => he h.2), hd, take_ld hlt]⟩ (by omega)
    · obtain rfl : k = l.length := by omega
      have h0 := h0 [] cap
      have e : ddL l = l := by show ddN l l.length = l; rw [hd, List.take_length]
      rw [e, List.append_nil, hsame] at h0
      repeat' ((conv => whnf); first | (refine Exists.intro ([] : List Nat) ?_) | (refine And.intro rfl ?_) | (refine And.intro (by decide +kernel) ?_) | (refine And.intro trivial ?_) | (refine And.intro ⟨_, hB, hv⟩ ?_) | (refine Exists.intro _ (And.intro rfl (And.intro rfl (And.intro (Nat.le_of_ble_eq_true rfl) ?_)))) | (refine Exists.intro _ (And.intro rfl (And.intro rfl (And.intro rfl (And.intro (Nat.le_of_ble_eq_true rfl) ?_))))) | (refine And.intro (Exists.intro _ (And.intro rfl rfl)) ?_) | (exact fun hW => absurd hW (by decide +kernel)) | (intro hW; (try simp only [Bool.not_true, Bool.not_false, Bool.not_eq_true', Bool.not_eq_false', decide_eq_true_eq, decide_eq_false_iff_not, reduceCtorEq, Bool.true_eq_false, Bool.false_eq_true, mk_size, List.size_toArray, ByteArray.size_append, ByteArray.size_extract, List.length_cons, List.length_nil, ba_get, ba_empty, Int.toNat_natCast] at hW)) | (refine And.intro (?_ : _ → _) (?_ : _ → _)) | (refine FinR.drop 0 (Nat.zero_le _) (Closed.zero _) rfl ?_) | (refine FinR.keep ?_) | (refine And.intro (det3_agg rfl) ?_) | (refine fL_mk ?_) | (refine And.intro (by (try simp only [mk_size, List.size_toArray, ByteArray.size_append, ByteArray.size_extract, List.length_cons, List.length_nil]); omega) ?_) | (refine And.intro (by (try simp only [mk_size, List.size_toArray, ByteArray.size_append, ByteArray.size_extract, List.length_cons, List.length_nil, wrap64_eq]); omega) ?_) | fail)
      all_goals first | exact h0 | (exfalso; omega) | skip
      skip
end Go.Proofs.Ytcclhjohpicleaa
end

section
/-
  DERIVED: THE SHELF's CONTRACTS AT THIS DUMP, IN PLAIN WORDS (tools/lay-plain.mjs out of 'TrySortShelf.lean', which tools/lay-shelf.mjs wrote): THE SAME DECLARATIONS UNDER THE SAME NAMES: 'import', 'namespace', 'open', 'def', 'theorem' AND NOTHING ELSE: no command of the shelf's: FOR A HAND-IN. Each laying: the table of numbers ('.._ren') and one theorem, a field a fact of the dump's own or the kernel's comparison; each contract: ONE APPLICATION.
-/
namespace Go.Proofs
open Go.Shelf
def Try.sortL_ren : Go.Shelf.Ren := ⟨fun | 6 => 64 | 15 => 81 | 14 => 80 | 28 => 96 | 29 => 97 | 20 => 88 | 21 => 89 | 22 => 90 | 23 => 91 | 24 => 92 | 25 => 93 | 26 => 94 | 27 => 95 | 46 => 99 | 47 => 100 | 48 => 101 | 49 => 102 | 50 => 103 | 57 => 104 | n => n, fun | 22 => 59 | 24 => 47 | 25 => 84 | 3 => 3 | 39 => 100 | 0 => 0 | 53 => 112 | 55 => 46 | 4 => 4 | 46 => 106 | 45 => 105 | 50 => 30 | 5 => 5 | 9 => 9 | 66 => 115 | 70 => 119 | 76 => 121 | 77 => 114 | n => n, fun | n => n⟩
theorem Try.sortL : Go.Proofs.SlLaysF.n6 Try.prog Try.sortL_ren := {
  mixed := by kernel_rfl
  f6 := ⟨Try.f64.name, by decide, Try.func64.trans (congrArg some (by kernel_rfl))⟩
  f14 := ⟨Try.f80.name, by decide, Try.func80.trans (congrArg some (by kernel_rfl))⟩
  f15 := Try.func81.trans (congrArg some (by kernel_rfl))
  f20 := ⟨Try.f88.name, by decide, Try.func88.trans (congrArg some (by kernel_rfl))⟩
  f21 := ⟨Try.f89.name, by decide, Try.func89.trans (congrArg some (by kernel_rfl))⟩
  f22 := ⟨Try.f90.name, by decide, Try.func90.trans (congrArg some (by kernel_rfl))⟩
  f23 := ⟨Try.f91.name, by decide, Try.func91.trans (congrArg some (by kernel_rfl))⟩
  f24 := ⟨Try.f92.name, by decide, Try.func92.trans (congrArg some (by kernel_rfl))⟩
  f25 := ⟨Try.f93.name, by decide, Try.func93.trans (congrArg some (by kernel_rfl))⟩
  f26 := ⟨Try.f94.name, by decide, Try.func94.trans (congrArg some (by kernel_rfl))⟩
  f27 := ⟨Try.f95.name, by decide, Try.func95.trans (congrArg some (by kernel_rfl))⟩
  f28 := Try.func96.trans (congrArg some (by kernel_rfl))
  f29 := Try.func97.trans (congrArg some (by kernel_rfl))
  f46 := ⟨Try.f99.name, by decide, Try.func99.trans (congrArg some (by kernel_rfl))⟩
  f47 := Try.func100.trans (congrArg some (by kernel_rfl))
  f48 := Try.func101.trans (congrArg some (by kernel_rfl))
  f49 := ⟨Try.f102.name, by decide, Try.func102.trans (congrArg some (by kernel_rfl))⟩
  f50 := ⟨Try.f103.name, by decide, Try.func103.trans (congrArg some (by kernel_rfl))⟩
  f57 := ⟨Try.f104.name, by decide, Try.func104.trans (congrArg some (by kernel_rfl))⟩
  t0 := Try.underlying0
  a0 := Try.isAgg0
  z0 := Try.sizeOf0
  v0 := Try.zeroValue0
  t3 := Try.underlying3
  a3 := Try.isAgg3
  z3 := Try.sizeOf3
  v3 := Try.zeroValue3
  t4 := Try.underlying4
  a4 := Try.isAgg4
  z4 := Try.sizeOf4
  v4 := Try.zeroValue4
  t5 := Try.underlying5
  a5 := Try.isAgg5
  z5 := Try.sizeOf5
  v5 := Try.zeroValue5
  t9 := Try.underlying9
  a9 := Try.isAgg9
  z9 := Try.sizeOf9
  v9 := Try.zeroValue9
  t22 := Try.underlying59
  a22 := Try.isAgg59
  z22 := Try.sizeOf59
  v22 := Try.zeroValue59
  a24 := Try.isAgg47
  z24 := Try.sizeOf47
  t25 := Try.underlying84
  a25 := Try.isAgg84
  z25 := Try.sizeOf84
  v25 := Try.zeroValue84
  t39 := Try.underlying100
  a39 := Try.isAgg100
  z39 := Try.sizeOf100
  v39 := Try.zeroValue100
  t45 := Try.underlying105
  a45 := Try.isAgg105
  z45 := Try.sizeOf105
  v45 := Try.zeroValue105
  t46 := Try.underlying106
  a46 := Try.isAgg106
  z46 := Try.sizeOf106
  v46 := Try.zeroValue106
  t50 := Try.underlying30
  a50 := Try.isAgg30
  z50 := Try.sizeOf30
  v50 := Try.zeroValue30
  t53 := Try.underlying112
  a53 := Try.isAgg112
  z53 := Try.sizeOf112
  v53 := Try.zeroValue112
  t55 := Try.underlying46
  a55 := Try.isAgg46
  z55 := Try.sizeOf46
  v55 := Try.zeroValue46
  t66 := Try.underlying115
  a66 := Try.isAgg115
  z66 := Try.sizeOf115
  v66 := Try.zeroValue115
  t70 := Try.underlying119
  a70 := Try.isAgg119
  z70 := Try.sizeOf119
  v70 := Try.zeroValue119
  t76 := Try.underlying121
  a76 := Try.isAgg121
  z76 := Try.sizeOf121
  v76 := Try.zeroValue121
  t77 := Try.underlying114
  a77 := Try.isAgg114
  z77 := Try.sizeOf114
  v77 := Try.zeroValue114 }
end Go.Proofs
end

section
/- Games: slices.SortFunc of own sets, by the kit's contract. -/
set_option linter.unusedVariables false
set_option linter.unusedSimpArgs false
set_option maxRecDepth 100000
set_option maxHeartbeats 4000000
namespace Go.Proofs.Ytcclhjohpicleaa
open Go Go.RowKit Go.Proofs.Ytcclhjohpicleaa.Abs Go.Shelf Go.Lib Go.Sort
variable {W0 : World} {σ : List Blk}
abbrev S36 := Fin 68719476736
instance : Inhabited S36 := ⟨⟨0, by decide⟩⟩
def encS (x : S36) : Value := .int .u64 ((x.val : Nat) : Int)
def cfS (x y : S36) : Int := cmS x.val y.val
theorem ltS_iff {a b : Nat} : ltS a b = true ↔ kyN a < kyN b := decide_eq_true_iff
theorem ltS_false {a b : Nat} : ltS a b = false ↔ kyN b ≤ kyN a := by unfold ltS; rw [decide_eq_false_iff_not]; omega
theorem ltOf_cfS (x y : S36) : ltOf cfS x y = ltS x.val y.val := by
  unfold ltOf cfS cmS ltS
  by_cases h1 : kyN x.val < kyN y.val
  · rw [if_pos h1, decide_eq_true h1]; rfl
  · rw [if_neg h1, decide_eq_false h1]
    split <;> rfl
theorem swoS : SWO (ltOf cfS) where
  irrefl x := by rw [ltOf_cfS, ltS_false]; exact Nat.le_refl _
  trans x y z h1 h2 := by rw [ltOf_cfS, ltS_iff] at *; omega
  ntrans x y z h1 h2 := by rw [ltOf_cfS, ltS_false] at *; omega
theorem totS (x y : S36) (h1 : ltOf cfS x y = false) (h2 : ltOf cfS y x = false) : x = y := by
  rw [ltOf_cfS, ltS_false] at *
  exact Fin.ext (ky_inj (Nat.lt_of_lt_of_le x.2 (by decide)) (Nat.lt_of_lt_of_le y.2 (by decide)) (by omega))
theorem world_ext {a b : World} (h1 : a.heap = b.heap) (h2 : a.tape = b.tape) (h3 : a.drawn = b.drawn) (h4 : a.os = b.os) (h5 : a.output = b.output) : a = b := by
  cases a; cases b; simp_all
theorem below_grow {w w' : World} (h : Below w.heap.size w w') (hd : w.drawn ≤ w'.drawn) : ∃ q os, w' = grow (w.drewN q) os := by
  refine ⟨w'.drawn - w.drawn, w'.heap.extract w.heap.size w'.heap.size, world_ext ?_ h.tape ?_ h.os h.output⟩
  · apply Array.ext_getElem?
    intro k
    show w'.heap[k]? = (w.heap ++ w'.heap.extract w.heap.size w'.heap.size)[k]?
    rw [Array.getElem?_append]
    split
    · rename_i hk; exact h.block k hk
    · rename_i hk
      rw [Array.getElem?_extract]
      by_cases h2 : k < w'.heap.size
      · rw [if_pos (by have := h.size; omega)]; congr 1; omega
      · rw [if_neg (by have := h.size; omega)]; exact Array.getElem?_eq_none (by omega)
  · show w'.drawn = w.drawn + (w'.drawn - w.drawn)
    omega
theorem cmpS (blk off size : Nat) (w : World) : CmpLays1 Try.prog 65 #[] encS cfS blk off size w := fun m os dk _ x y => by
  have h := c_compareSets (W0 := sortWorld encS w blk off m dk os) x.val y.val (Nat.lt_of_lt_of_le x.2 (by decide)) (Nat.lt_of_lt_of_le y.2 (by decide)) (fun v σ => v = I (cfS x y) ∧ σ = []) ⟨rfl, rfl⟩
  refine (h.run [] _ [encS x, encS y] (HRel.nil _) (Rels.cons rfl (Rels.cons rfl Rels.nil))).mono ?_
  rintro e w' ⟨v, ι', σ', av, he, ⟨rfl, rfl⟩, hh, hx, hr⟩
  have hv : v = .int .i64 (cfS x y) := hr
  subst hv
  exact ⟨he, below_grow hh.below hh.drw⟩
/-- sorted -/
def srtL (l : List Nat) : List Nat := l.mergeSort fun x y => !ltS y x
theorem srtL_len (l : List Nat) : (srtL l).length = l.length := List.length_mergeSort l
theorem srtL_perm (l : List Nat) : (srtL l).Perm l := List.mergeSort_perm l _
theorem srtL_pair (l : List Nat) : (srtL l).Pairwise fun x y => kyN x ≤ kyN y := by
  refine (List.pairwise_mergeSort (le := fun x y => !ltS y x) (fun a b c h1 h2 => ?_) (fun a b => ?_) l).imp fun h => ?_
  · simp only [Bool.not_eq_true', ltS_false] at *; omega
  · simp only [Bool.or_eq_true, Bool.not_eq_true', ltS_false]; omega
  · simpa only [Bool.not_eq_true', ltS_false] using h
def arS (l : List Nat) (hl : ∀ x ∈ l, x < 2 ^ 36) : List S36 := l.attach.map fun x => ⟨x.1, Nat.lt_of_lt_of_le (hl x.1 x.2) (by decide)⟩
theorem arS_val (l : List Nat) (hl : ∀ x ∈ l, x < 2 ^ 36) : (arS l hl).map (·.val) = l := by
  unfold arS
  rw [List.map_map]
  exact List.attach_map_subtype_val l
theorem arS_srt (l : List Nat) (hl : ∀ x ∈ l, x < 2 ^ 36) : ((arS l hl).mergeSort fun x y => !(ltOf cfS) y x).map (·.val) = srtL l := by
  rw [List.map_mergeSort (s := fun x y => !ltS y x) (fun a _ b _ => by rw [ltOf_cfS]), arS_val]; rfl
theorem rels_un {ι : Abs.Loc} : ∀ {l : List Nat} {us : List Value}, Rels (crel ι σ) (l.map Un) us → us = l.map fun n : Nat => Value.int .u64 (n : Int)
  | [], us, h => h.nil_inv
  | x :: l, us, h => by
    obtain ⟨u, us', rfl, h1, h2⟩ := Rels.uncons h
    rw [rels_un h2, show u = .int .u64 (x : Int) from h1.1]; rfl
theorem un_rels {ι : Abs.Loc} : ∀ (l : List Nat), Rels (crel ι σ) (l.map Un) (l.map fun n : Nat => Value.int .u64 (n : Int))
  | [] => Rels.nil
  | x :: l => Rels.cons ⟨rfl, rfl⟩ (un_rels l)
theorem map_encS (l : List S36) : l.map encS = (l.map (·.val)).map fun n : Nat => Value.int .u64 (n : Int) := by rw [List.map_map]; rfl
theorem put_cells (d : List S36) (us rest : List Value) (h : us.length = d.length) : putCells encS 0 d.toArray (us ++ rest).toArray = (d.map encS ++ rest).toArray := by
  apply Array.ext_getElem?
  intro k
  unfold putCells
  rw [Array.getElem?_mapIdx]
  simp only [List.getElem?_toArray, List.size_toArray, Nat.zero_le, true_and, Nat.zero_add, Nat.sub_zero]
  by_cases hk : k < d.length
  · rw [List.getElem?_append_left (by omega), List.getElem?_append_left (by rw [List.length_map]; omega), List.getElem?_eq_getElem (by omega), Option.map_some, if_pos hk, List.getElem?_map, List.getElem?_eq_getElem hk, Option.map_some]
    congr 2
    rw [getElem!_pos d.toArray k (by simpa using hk)]; simp
  · rw [List.getElem?_append_right (by omega), List.getElem?_append_right (by rw [List.length_map]; omega), List.length_map, h]
    cases rest[k - d.length]? with
    | none => rfl
    | some x => rw [Option.map_some, if_neg hk]
theorem d_Sort (b ver cap : Nat) (B : Blk) (l : List Nat) (hl : ∀ x ∈ l, x < 2 ^ 36) (hB : σ[b]? = some B) (hv : B.ver = ver) (hrow : B.row = true) (hc : B.cells = l.map Un) (hlen : l.length ≤ 1000) (K : Cont) (h0 : K (.tup []) (σ.set b { B with cells := (srtL l).map Un })) : ACall Try.prog W0 64 [.sl b ver 0 l.length cap, .lit (.func (.func 65) #[] #[])] σ K := by
  refine ⟨by kernel_rfl, fun ι w vs hh hr => ?_⟩
  obtain ⟨v1, vs1, rfl, hr1, hr2⟩ := Rels.uncons hr
  obtain ⟨v2, vs2, rfl, hr3, hr4⟩ := Rels.uncons hr2
  obtain rfl := hr4.nil_inv
  have e2 : v2 = .func (.func 65) #[] #[] := hr3
  subst e2
  have hr1' : slRel ι σ b ver 0 l.length cap v1 := hr1
  have hmB := slRel_not hr1' hB
  obtain ⟨c, t, hi, rfl, hnc, hcm, _⟩ := slRel_now hr1' hB hv
  obtain ⟨us, rest, hheap, htot, hrel, hroom⟩ := hh.blk b B c t hB hi hmB
  rw [fzOf_row hrow] at hheap
  rw [hc] at hrel
  have hus := rels_un hrel
  have hul : us.length = l.length := by rw [hus, List.length_map]
  generalize hd : arS l hl = d
  have hdv : d.map (·.val) = l := by rw [← hd]; exact arS_val l hl
  have hds : (d.mergeSort fun x y => !(ltOf cfS) y x).map (·.val) = srtL l := by rw [← hd]; exact arS_srt l hl
  have hdl : d.length = l.length := by rw [← hdv, List.length_map]
  have hclt : c < w.heap.size := (hh.dom b c t hi).2
  have hH : Holds encS w c 0 d.toArray := fun j hj => by
    have hj' : j < d.length := by simpa using hj
    constructor
    · simp only [World.cell?, hheap, Option.isSome_none, Bool.false_eq_true, if_false, Nat.zero_add, List.getElem?_toArray]
      rw [List.getElem?_append_left (by omega), hus, List.getElem?_map, ← hdv, List.getElem?_map, List.getElem?_eq_getElem hj', getElem!_pos d.toArray j (by simpa using hj')]; simp [encS]
    · simp [World.frozen?, hheap]
  have eg : ∀ args w, (callFunc 65 args).run Try.prog w = .ok (.enter 65 args) w := enters_of Try.func65 (by kernel_rfl) rfl
  have hS := Any.slices_SortFunc_total Try.sortL encS (fun _ => rfl) cfS swoS 65 #[] c 0 cap d.toArray w eg (cmpS c 0 _ w) hH hclt (by simp; omega) totS
  rw [show d.toArray.size = l.length by simpa using hdl] at hS
  change Calls Try.prog 64 _ _ _ at hS
  refine hS.mono fun e w' ⟨he, n, os, hw⟩ => ?_
  generalize hd' : (d.mergeSort fun x y => !(ltOf cfS) y x) = d' at hw hds
  have hl' : d'.length = l.length := by rw [← hd', List.length_mergeSort]; exact hdl
  have hwr := hh.write hB hi (cs := (srtL l).map Un) (vs := d'.map encS) (rest := rest) (by rw [List.length_append, List.length_map, hl', ← hul, ← List.length_append]; exact htot) (by rw [map_encS, hds]; exact un_rels _) hroom hmB
  refine ⟨.tuple #[], ι, _, .tup [], he, h0, hwr.1.after ?_ ?_, hwr.2, [], rfl, Rels.nil⟩
  · subst hw
    have hsz : (w.setRow c (d'.map encS ++ rest).toArray).heap.size = w.heap.size := by simp [World.setRow]
    have hm : ∀ k, k < w.heap.size → (grow (putRow encS (Sort.ahead w n) c 0 d'.toArray) os).heap[k]? = (w.setRow c (d'.map encS ++ rest).toArray).heap[k]? := fun k hk => by
      show ((w.heap.modify c (onCells (putCells encS 0 d'.toArray))) ++ os)[k]? = (w.heap.modify c _)[k]?
      rw [Array.getElem?_append_left (by simpa using hk), Array.getElem?_modify, Array.getElem?_modify]
      split
      · rename_i e
        subst e
        rw [hheap, Option.map_some, Option.map_some]
        show some (Obj.cells (putCells encS 0 d'.toArray (us ++ rest).toArray) B.e (0, 0)) = some (Obj.cells (d'.map encS ++ rest).toArray B.e (0, 0))
        rw [put_cells d' us rest (by omega)]
      · rfl
    refine ⟨rfl, rfl, rfl, ?_, fun k hk => hm k (by rw [hsz] at hk; exact hk)⟩
    rw [hsz]
    show w.heap.size ≤ ((w.heap.modify c _) ++ os).size
    simp
  · subst hw
    show w.drawn ≤ w.drawn + n
    omega
end Go.Proofs.Ytcclhjohpicleaa
end

section
/- Games: the sheets that can come of one free press; plain laws. -/
set_option linter.unusedVariables false
set_option linter.unusedSimpArgs false
set_option maxRecDepth 100000
namespace Go.Proofs.Ytcclhjohpicleaa
open Go Go.RowKit Go.Proofs.Ytcclhjohpicleaa.Abs
/-- a stamp that is pressed at a cell's number -/
def prK (m k : Nat) : Nat := prN m (k % 6) (k / 6)
theorem prK_lt {m k : Nat} (hk : k < 36) : prK m k < 2 ^ 36 := prN_lt (by omega) (by omega)
/-- whether a press is free -/
def frF (n m k : Nat) : Bool := decide (prK m k &&& n = 0)
/-- the numbers of the cells at which a press is free -/
def frS (n m : Nat) : List Int := selN (frF n m) 36
/-- what comes of the free presses -/
def cdL (n m : Nat) : List Nat := (frS n m).map fun k => n ||| prK m k.toNat
def nxL (n m : Nat) : List Nat := ddL (srtL (cdL n m))
theorem selN_sat {f : Nat → Bool} : ∀ {n : Nat} {k : Nat}, ((k : Nat) : Int) ∈ selN f n → f k = true
  | 0, k, h => by cases h
  | n + 1, k, h => by
    rw [selN_succ] at h
    rcases List.mem_append.1 h with h | h
    · exact selN_sat h
    · split at h
      · rename_i hf
        have := List.mem_singleton.1 h
        have e : k = n := by omega
        rw [e]; exact hf
      · cases h
theorem prK_ne {m k : Nat} (hm : m < 2 ^ 36) (h0 : m ≠ 0) (hk : k < 36) : prK m k ≠ 0 := by
  intro h
  apply h0
  apply Nat.eq_of_testBit_eq
  intro i
  rw [Nat.zero_testBit]
  by_cases hi : i < 36
  · cases hb : m.testBit i with
    | false => rfl
    | true =>
      have : (prK m k).testBit (shG (k % 6) (k / 6) i) = true := (mvN_bit _ _ _ 36).2 ⟨i, hi, hb, rfl⟩
      rw [h, Nat.zero_testBit] at this; cases this
  · exact Nat.testBit_lt_two_pow (Nat.lt_of_lt_of_le hm (Nat.pow_le_pow_right (by decide) (by omega)))
theorem selN_wh (f : Nat → Bool) : selN (whN f 36).testBit 36 = selN f 36 :=
  selN_congr fun k hk => by rw [whN_bit, decide_eq_true hk, Bool.true_and]
theorem cdL_lt {n m : Nat} (hn : n < 2 ^ 36) : ∀ x ∈ cdL n m, x < 2 ^ 36 := by
  intro x hx
  obtain ⟨k, hk, rfl⟩ := List.mem_map.1 hx
  obtain ⟨j, rfl, hj⟩ := selN_mem _ _ _ hk
  exact Nat.or_lt_two_pow hn (by rw [Int.toNat_natCast]; exact prK_lt hj)
theorem cdL_len (n m : Nat) : (cdL n m).length ≤ 36 := by
  unfold cdL frS
  rw [List.length_map]
  exact selN_len _ _
/-! strictly ascending lists -/
abbrev Asc (l : List Nat) : Prop := l.Pairwise fun x y => kyN x < kyN y
theorem asc_ext : ∀ {a b : List Nat}, Asc a → Asc b → (∀ x, x ∈ a ↔ x ∈ b) → a = b
  | [], [], _, _, _ => rfl
  | [], y :: b, _, _, h => absurd ((h y).2 List.mem_cons_self) (by simp)
  | x :: a, [], _, _, h => absurd ((h x).1 List.mem_cons_self) (by simp)
  | x :: a, y :: b, ha, hb, h => by
    have ha' := List.pairwise_cons.1 ha
    have hb' := List.pairwise_cons.1 hb
    have e : x = y := by
      rcases List.mem_cons.1 ((h x).1 List.mem_cons_self) with e | e
      · exact e
      · rcases List.mem_cons.1 ((h y).2 List.mem_cons_self) with e2 | e2
        · exact e2.symm
        · have := hb'.1 x e; have := ha'.1 y e2; omega
    subst e
    rw [asc_ext ha'.2 hb'.2 fun z => ?_]
    constructor
    · intro hz
      rcases List.mem_cons.1 ((h z).1 (List.mem_cons_of_mem _ hz)) with e | e
      · subst e; have := ha'.1 z hz; omega
      · exact e
    · intro hz
      rcases List.mem_cons.1 ((h z).2 (List.mem_cons_of_mem _ hz)) with e | e
      · subst e; have := hb'.1 z hz; omega
      · exact e
theorem ddN_asc {l : List Nat} (hl : ∀ x ∈ l, x < 2 ^ 36) (hs : l.Pairwise fun x y => kyN x ≤ kyN y) : ∀ i, i ≤ l.length → Asc (ddN l i) ∧ ∀ x, x ∈ ddN l i ↔ x ∈ l.take i
  | 0, _ => ⟨List.Pairwise.nil, fun x => by simp [ddN]⟩
  | i + 1, hi => by
    obtain ⟨h1, h2⟩ := ddN_asc hl hs i (by omega)
    have hli : l.getD i 0 = l[i]'(by omega) := by rw [List.getD_eq_getElem?_getD, List.getElem?_eq_getElem (by omega)]; rfl
    have hcov : ∀ x, x ∈ ddN l i → 0 < i ∧ kyN x ≤ kyN (l.getD (i - 1) 0) := by
      intro x hx
      obtain ⟨j, hj⟩ := List.getElem?_of_mem ((h2 x).1 hx)
      have hlt := getElem?_lt hj
      rw [List.length_take] at hlt
      rw [List.getElem?_take, if_pos (by omega), List.getElem?_eq_getElem (by omega)] at hj
      cases hj
      refine ⟨by omega, ?_⟩
      rw [List.getD_eq_getElem?_getD, List.getElem?_eq_getElem (by omega : i - 1 < l.length), Option.getD_some]
      by_cases e : j = i - 1
      · subst e; exact Nat.le_refl _
      · exact List.pairwise_iff_getElem.1 hs j (i - 1) (by omega) (by omega) (by omega)
    rw [ddN_succ, take_ld (by omega)]
    split
    · rename_i he
      rw [List.append_nil]
      refine ⟨h1, fun x => ?_⟩
      rw [h2, List.mem_append, List.mem_singleton]
      constructor
      · exact .inl
      · rintro (h | h)
        · exact h
        · rw [h, ← he.2]
          have : l.getD (i - 1) 0 = (l.take i)[i - 1]'(by rw [List.length_take]; omega) := by
            rw [List.getD_eq_getElem?_getD, List.getElem?_eq_getElem (by omega : i - 1 < l.length), List.getElem_take]; rfl
          rw [this]; exact List.getElem_mem _
    · rename_i he
      refine ⟨List.pairwise_append.2 ⟨h1, List.pairwise_singleton _ _, fun x hx y hy => ?_⟩, fun x => by rw [List.mem_append, List.mem_append, h2]⟩
      rw [List.mem_singleton.1 hy]
      obtain ⟨hi0, hle⟩ := hcov x hx
      have hne : l.getD (i - 1) 0 ≠ l.getD i 0 := fun e => he ⟨hi0, e⟩
      have e1 : l.getD (i - 1) 0 = l[i - 1]'(by omega) := by rw [List.getD_eq_getElem?_getD, List.getElem?_eq_getElem (by omega : i - 1 < l.length)]; rfl
      have hle2 : kyN (l.getD (i - 1) 0) ≤ kyN (l.getD i 0) := by rw [e1, hli]; exact List.pairwise_iff_getElem.1 hs (i - 1) i (by omega) (by omega) (by omega)
      have hk : kyN (l.getD (i - 1) 0) ≠ kyN (l.getD i 0) := fun e => hne (ky_inj (by rw [e1]; exact hl _ (List.getElem_mem _)) (by rw [hli]; exact hl _ (List.getElem_mem _)) e)
      omega
theorem nxL_asc {n m : Nat} (hn : n < 2 ^ 36) : Asc (nxL n m) ∧ ∀ x, x ∈ nxL n m ↔ x ∈ cdL n m := by
  have hp := srtL_perm (cdL n m)
  obtain ⟨h1, h2⟩ := ddN_asc (l := srtL (cdL n m)) (fun x hx => cdL_lt hn x (hp.mem_iff.1 hx)) (srtL_pair _) _ (Nat.le_refl _)
  refine ⟨h1, fun x => ?_⟩
  show x ∈ ddN _ _ ↔ _
  rw [h2, List.take_length, hp.mem_iff]
/-! the reference's insertion -/
def insR (x : Nat) : List Nat → List Nat
  | [] => [x]
  | y :: L => if ltS y x then y :: insR x L else if y = x then y :: L else x :: y :: L
theorem insR_at (x : Nat) : ∀ (L : List Nat) (n : Nat), n ≤ L.length → (∀ i, i < n → ltS (L.getD i 0) x = true) → (n < L.length → ltS (L.getD n 0) x = false) → insR x L = if n < L.length ∧ L.getD n 0 = x then L else L.take n ++ x :: L.drop n
  | [], n, hn, _, _ => by
    obtain rfl : n = 0 := by simpa using hn
    rw [if_neg (by simp)]; rfl
  | y :: L, 0, _, _, h => by
    have h := h (by simp)
    have h : ltS y x = false := h
    unfold insR
    rw [h, if_neg (by decide)]
    by_cases e : y = x
    · rw [if_pos e, if_pos ⟨by simp, e⟩]
    · rw [if_neg e, if_neg (fun h => e h.2)]; rfl
  | y :: L, n + 1, hn, h1, h2 => by
    have hy : ltS y x = true := h1 0 (by omega)
    unfold insR
    rw [hy, if_pos rfl, insR_at x L n (by simpa using hn) (fun i hi => h1 (i + 1) (by omega)) (fun h => h2 (by simpa using h))]
    by_cases e : n < L.length ∧ L.getD n 0 = x
    · rw [if_pos e, if_pos ⟨by simpa using e.1, e.2⟩]
    · rw [if_neg e, if_neg (fun h => e ⟨by simpa using h.1, h.2⟩)]; rfl
theorem insR_asc {x : Nat} (hx : x < 2 ^ 36) : ∀ {L : List Nat}, (∀ y ∈ L, y < 2 ^ 36) → Asc L → Asc (insR x L) ∧ ∀ z, z ∈ insR x L ↔ z = x ∨ z ∈ L
  | [], _, _ => ⟨List.pairwise_singleton _ _, fun z => by simp [insR]⟩
  | y :: L, hL, h => by
    have h' := List.pairwise_cons.1 h
    obtain ⟨i1, i2⟩ := insR_asc hx (fun z hz => hL z (List.mem_cons_of_mem _ hz)) h'.2
    unfold insR
    by_cases h1 : ltS y x = true
    · rw [if_pos h1]
      rw [ltS_iff] at h1
      refine ⟨List.pairwise_cons.2 ⟨fun z hz => ?_, i1⟩, fun z => ?_⟩
      · rcases (i2 z).1 hz with e | e
        · rw [e]; exact h1
        · exact h'.1 z e
      · rw [List.mem_cons, i2, List.mem_cons]
        constructor
        · rintro (h | h | h)
          · exact .inr (.inl h)
          · exact .inl h
          · exact .inr (.inr h)
        · rintro (h | h | h)
          · exact .inr (.inl h)
          · exact .inl h
          · exact .inr (.inr h)
    · rw [if_neg h1]
      have h2 : ltS y x = false := by simpa using h1
      rw [ltS_false] at h2
      by_cases e : y = x
      · rw [if_pos e]
        refine ⟨h, fun z => ⟨.inr, ?_⟩⟩
        rintro (h | h)
        · rw [h, ← e]; exact List.mem_cons_self
        · exact h
      · rw [if_neg e]
        have hne : kyN x ≠ kyN y := fun q => e (ky_inj hx (hL y List.mem_cons_self) q).symm
        refine ⟨List.pairwise_cons.2 ⟨fun z hz => ?_, h⟩, fun z => List.mem_cons⟩
        rcases List.mem_cons.1 hz with q | q
        · rw [q]; omega
        · have := h'.1 z q; omega
/-- inserted one by one -/
def rxL (l : List Nat) : List Nat := l.foldl (fun L x => insR x L) []
theorem rxL_snoc (l : List Nat) (x : Nat) : rxL (l ++ [x]) = insR x (rxL l) := by unfold rxL; rw [List.foldl_append]; rfl
theorem rx_aux : ∀ (l : List Nat) (L : List Nat), (∀ x ∈ l, x < 2 ^ 36) → (∀ y ∈ L, y < 2 ^ 36) → Asc L → Asc (l.foldl (fun L x => insR x L) L) ∧ ∀ z, z ∈ l.foldl (fun L x => insR x L) L ↔ z ∈ l ∨ z ∈ L
  | [], L, _, _, h => ⟨h, fun z => by simp⟩
  | x :: l, L, hl, hL, h => by
    have hx := hl x List.mem_cons_self
    obtain ⟨i1, i2⟩ := insR_asc hx hL h
    obtain ⟨j1, j2⟩ := rx_aux l (insR x L) (fun y hy => hl y (List.mem_cons_of_mem _ hy)) (fun y hy => by
      rcases (i2 y).1 hy with e | e
      · rw [e]; exact hx
      · exact hL y e) i1
    refine ⟨j1, fun z => ?_⟩
    show z ∈ l.foldl _ (insR x L) ↔ _
    rw [j2, i2, List.mem_cons]
    constructor
    · rintro (h | h | h)
      · exact .inl (.inr h)
      · exact .inl (.inl h)
      · exact .inr h
    · rintro ((h | h) | h)
      · exact .inr (.inl h)
      · exact .inl h
      · exact .inr (.inr h)
theorem rx_all {l : List Nat} (hl : ∀ x ∈ l, x < 2 ^ 36) : Asc (rxL l) ∧ ∀ z, z ∈ rxL l ↔ z ∈ l := by
  obtain ⟨h1, h2⟩ := rx_aux l [] hl (fun y hy => by cases hy) List.Pairwise.nil
  exact ⟨h1, fun z => (h2 z).trans (by simp)⟩
/-- both sides list the same sheets, in the same order -/
theorem rx_nx {n m : Nat} (hn : n < 2 ^ 36) : rxL (cdL n m) = nxL n m := by
  have hc := cdL_lt (m := m) hn
  have hx := nxL_asc (m := m) hn
  generalize cdL n m = c at hc hx ⊢
  generalize nxL n m = d at hx ⊢
  obtain ⟨h1, h2⟩ := rx_all hc
  exact asc_ext h1 hx.1 fun x => (h2 x).trans (hx.2 x).symm
theorem nxL_lt {n m : Nat} (hn : n < 2 ^ 36) : ∀ x ∈ nxL n m, x < 2 ^ 36 := fun x hx => cdL_lt hn x (((nxL_asc hn).2 x).1 hx)
theorem nxL_len (n m : Nat) : (nxL n m).length ≤ 36 := by
  have h := ddN_len (srtL (cdL n m)) (srtL (cdL n m)).length
  have := cdL_len n m
  rw [srtL_len] at h
  show (ddN (srtL (cdL n m)) (srtL (cdL n m)).length).length ≤ 36
  rw [srtL_len]; omega
/-- a free press adds cells -/
theorem nxL_gt {n m : Nat} (hn : n < 2 ^ 36) (hm : m < 2 ^ 36) (h0 : m ≠ 0) : ∀ x ∈ nxL n m, n < x := by
  intro x hx
  obtain ⟨k, hk, rfl⟩ := List.mem_map.1 (((nxL_asc hn).2 x).1 hx)
  obtain ⟨j, rfl, hj⟩ := selN_mem _ _ _ hk
  have hfr : frF n m j = true := selN_sat hk
  rw [Int.toNat_natCast]
  have hz : prK m j &&& n = 0 := by unfold frF at hfr; exact of_decide_eq_true hfr
  have hne : prK m j ≠ 0 := prK_ne hm h0 hj
  have hle : n ≤ n ||| prK m j := Nat.left_le_or
  rcases Nat.lt_or_ge n (n ||| prK m j) with h | h
  · exact h
  · exfalso
    have e : n ||| prK m j = n := by omega
    apply hne
    apply Nat.eq_of_testBit_eq
    intro i
    have e1 := congrArg (fun z => Nat.testBit z i) e
    have e2 := congrArg (fun z => Nat.testBit z i) hz
    simp only [Nat.testBit_or, Nat.testBit_and, Nat.zero_testBit] at e1 e2 ⊢
    cases h1 : (prK m j).testBit i <;> simp_all
end Go.Proofs.Ytcclhjohpicleaa
end
