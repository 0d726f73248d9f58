/- Arithmetic: sets of cells as numbers; cells that go elsewhere; sheets by their sets. -/
import Derived.Test.YthncpkdhcfaflaaC8
set_option linter.unusedVariables false
set_option linter.unusedSimpArgs false
namespace Go.Proofs.Ythncpkdhcfaflaa
open Go Go.RowKit Go.Proofs.Ythncpkdhcfaflaa.Abs
/-- the cells that go where g tells -/
def mvN (g : Nat → Nat) (n : Nat) : Nat → Nat
  | 0 => 0
  | m + 1 => mvN g n m ||| (if n.testBit m then 2 ^ g m else 0)
theorem mvN_succ (g : Nat → Nat) (n m : Nat) : mvN g n (m + 1) = mvN g n m ||| (if n.testBit m then 2 ^ g m else 0) := rfl
theorem mvN_bit (g : Nat → Nat) (n j : Nat) : ∀ m, (mvN g n m).testBit j = true ↔ ∃ k, k < m ∧ n.testBit k = true ∧ g k = j
  | 0 => by simp [mvN]
  | m + 1 => by
    rw [mvN_succ, Nat.testBit_or, Bool.or_eq_true, mvN_bit g n j m]
    constructor
    · rintro (⟨k, h1, h2, h3⟩ | h)
      · exact ⟨k, by omega, h2, h3⟩
      · split at h
        · rename_i hm
          rw [Nat.testBit_two_pow] at h
          exact ⟨m, by omega, hm, by simpa using h⟩
        · simp at h
    · rintro ⟨k, h1, h2, h3⟩
      by_cases e : k = m
      · subst e
        right
        rw [if_pos h2, Nat.testBit_two_pow]
        simpa using h3
      · exact .inl ⟨k, by omega, h2, h3⟩
abbrev Perm (g h : Nat → Nat) : Prop := ∀ k, k < 36 → g k < 36 ∧ h k < 36 ∧ g (h k) = k ∧ h (g k) = k
theorem mvN_perm {g h : Nat → Nat} (hp : Perm g h) (n : Nat) {j : Nat} (hj : j < 36) : (mvN g n 36).testBit j = n.testBit (h j) := by
  rw [Bool.eq_iff_iff, mvN_bit]
  obtain ⟨_, h2, h3, _⟩ := hp j hj
  constructor
  · rintro ⟨k, k1, k2, k3⟩
    rw [← k3, (hp k k1).2.2.2]; exact k2
  · intro hb
    exact ⟨h j, h2, hb, h3⟩
theorem mvN_lt {g h : Nat → Nat} (hp : Perm g h) (n : Nat) : mvN g n 36 < 2 ^ 36 := by
  refine Nat.lt_pow_two_of_testBit _ fun i hi => ?_
  rw [Bool.eq_false_iff]
  intro hc
  obtain ⟨k, k1, _, k3⟩ := (mvN_bit g n i 36).1 hc
  have := (hp k k1).1
  omega
theorem mvN_lt' {g : Nat → Nat} (hp : ∀ k, k < 36 → g k < 36) (n m : Nat) (hm : m ≤ 36) : mvN g n m < 2 ^ 36 := by
  refine Nat.lt_pow_two_of_testBit _ fun i hi => ?_
  rw [Bool.eq_false_iff]
  intro hc
  obtain ⟨k, k1, _, k3⟩ := (mvN_bit g n i m).1 hc
  have := hp k (by omega)
  omega
/-- a row of a set -/
def rowN (n i : Nat) : Nat := (n >>> (6 * i)) % 64
theorem rowN_lt (n i : Nat) : rowN n i < 64 := Nat.mod_lt _ (by decide)
theorem rowN_bit (n i j : Nat) : (rowN n i).testBit j = (decide (j < 6) && n.testBit (6 * i + j)) := by
  unfold rowN
  rw [show (64 : Nat) = 2 ^ 6 from rfl, Nat.testBit_mod_two_pow, Nat.testBit_shiftRight]
abbrev ShN (n : Nat) : AV := Sh (rowN n 0 : Nat) (rowN n 1 : Nat) (rowN n 2 : Nat) (rowN n 3 : Nat) (rowN n 4 : Nat) (rowN n 5 : Nat)
theorem rowN_eq (n : Nat) : rowN n 0 = n % 64 ∧ rowN n 1 = n / 64 % 64 ∧ rowN n 2 = n / 4096 % 64 ∧ rowN n 3 = n / 262144 % 64 ∧ rowN n 4 = n / 16777216 % 64 ∧ rowN n 5 = n / 1073741824 % 64 := by
  refine ⟨?_, ?_, ?_, ?_, ?_, ?_⟩ <;> simp [rowN, Nat.shiftRight_eq_div_pow]
theorem setN_rows {n : Nat} (h : n < 2 ^ 36) : setN (rowN n 0) (rowN n 1) (rowN n 2) (rowN n 3) (rowN n 4) (rowN n 5) = n := by
  obtain ⟨e0, e1, e2, e3, e4, e5⟩ := rowN_eq n
  rw [e0, e1, e2, e3, e4, e5]; unfold setN; omega
theorem rows_setN {a b c d e f : Nat} (ha : a < 64) (hb : b < 64) (hc : c < 64) (hd : d < 64) (he : e < 64) (hf : f < 64) :
    rowN (setN a b c d e f) 0 = a ∧ rowN (setN a b c d e f) 1 = b ∧ rowN (setN a b c d e f) 2 = c ∧ rowN (setN a b c d e f) 3 = d ∧ rowN (setN a b c d e f) 4 = e ∧ rowN (setN a b c d e f) 5 = f := by
  obtain ⟨e0, e1, e2, e3, e4, e5⟩ := rowN_eq (setN a b c d e f)
  rw [e0, e1, e2, e3, e4, e5]; unfold setN; omega
theorem shN_of {a b c d e f : Int} (h : shB6 a b c d e f = true) : ∃ n, n < 2 ^ 36 ∧ (rowN n 0 : Nat) = a ∧ (rowN n 1 : Nat) = b ∧ (rowN n 2 : Nat) = c ∧ (rowN n 3 : Nat) = d ∧ (rowN n 4 : Nat) = e ∧ (rowN n 5 : Nat) = f := by
  obtain ⟨a0, b0, c0, d0, e0, f0, rfl, rfl, rfl, rfl, rfl, rfl, h1, h2, h3, h4, h5, h6⟩ := rows_of a b c d e f h
  obtain ⟨r0, r1, r2, r3, r4, r5⟩ := rows_setN h1 h2 h3 h4 h5 h6
  exact ⟨setN a0 b0 c0 d0 e0 f0, setN_lt _ _ _ _ _ _ h1 h2 h3 h4 h5 h6, by rw [r0], by rw [r1], by rw [r2], by rw [r3], by rw [r4], by rw [r5]⟩
theorem shB6_ShN (n : Nat) : shB6 (rowN n 0 : Nat) (rowN n 1 : Nat) (rowN n 2 : Nat) (rowN n 3 : Nat) (rowN n 4 : Nat) (rowN n 5 : Nat) = true := by
  have h := rowN_lt n
  have h0 := h 0; have h1 := h 1; have h2 := h 2; have h3 := h 3; have h4 := h 4; have h5 := h 5
  simp [shB6, inB]; omega
theorem setI_ShN {n : Nat} (h : n < 2 ^ 36) : setI (rowN n 0 : Nat) (rowN n 1 : Nat) (rowN n 2 : Nat) (rowN n 3 : Nat) (rowN n 4 : Nat) (rowN n 5 : Nat) = (n : Nat) := by
  rw [setI_nat _ _ _ _ _ _ (rowN_lt n 0) (rowN_lt n 1) (rowN_lt n 2) (rowN_lt n 3) (rowN_lt n 4) (rowN_lt n 5), setN_rows h]
theorem kSh {K : Cont} {σ : List Blk} {a b c d e f a' b' c' d' e' f' : Int} (h : K (Sh a b c d e f) σ) (ha : a' = a) (hb : b' = b) (hc : c' = c) (hd : d' = d) (he : e' = e) (hf : f' = f) : K (Sh a' b' c' d' e' f') σ := by
  subst ha; subst hb; subst hc; subst hd; subst he; subst hf; exact h
/-! rows of results -/
theorem row_or (n m i : Nat) : rowN (n ||| m) i = rowN n i ||| rowN m i := by
  apply Nat.eq_of_testBit_eq; intro j; simp only [rowN_bit, Nat.testBit_or]; cases decide (j < 6) <;> simp
theorem row_andN (n m i : Nat) : rowN (n &&& m) i = rowN n i &&& rowN m i := by
  apply Nat.eq_of_testBit_eq; intro j; simp only [rowN_bit, Nat.testBit_and]; cases decide (j < 6) <;> simp
theorem row_xor (n m i : Nat) : rowN (n ^^^ m) i = rowN n i ^^^ rowN m i := by
  apply Nat.eq_of_testBit_eq; intro j; simp only [rowN_bit, Nat.testBit_xor]; cases decide (j < 6) <;> simp
theorem b_or : ∀ x : Nat, x < 64 → ∀ y : Nat, y < 64 → bOr .i64 (x : Int) (y : Int) = ((x ||| y : Nat) : Int) := by decide +kernel
theorem b_xor : ∀ x : Nat, x < 64 → ∀ y : Nat, y < 64 → bXor .i64 (x : Int) (y : Int) = ((x ^^^ y : Nat) : Int) := by decide +kernel
/-- all cells -/
def fullN : Nat := 68719476735
theorem full_bit {j : Nat} (h : j < 36) : fullN.testBit j = true := by
  rw [show fullN = 2 ^ 36 - 1 from rfl, Nat.testBit_two_pow_sub_one]; simpa using h
theorem fullRow : ∀ i, i < 6 → rowN fullN i = 63 := by decide +kernel
theorem b_not : ∀ x : Nat, x < 64 → IntKind.i64.wrap (63 - (x : Int)) = ((63 ^^^ x : Nat) : Int) := by decide +kernel
theorem row_not (n i : Nat) (hi : i < 6) : rowN (fullN ^^^ n) i = 63 ^^^ rowN n i := by rw [row_xor, fullRow i hi]
/-! shifts -/
def shG (x y k : Nat) : Nat := (k / 6 + y) % 6 * 6 + (k % 6 + x) % 6
def shH (x y k : Nat) : Nat := (k / 6 + (6 - y)) % 6 * 6 + (k % 6 + (6 - x)) % 6
theorem sh_perm : ∀ x, x < 6 → ∀ y, y < 6 → Perm (shG x y) (shH x y) := by decide +kernel
def rotN (x r : Nat) : Nat := ((r <<< x) &&& 63) ||| (r >>> (6 - x))
theorem rot_bit : ∀ x, x < 6 → ∀ r, r < 64 → rotN x r < 64 ∧ ∀ j, j < 6 → (rotN x r).testBit j = r.testBit ((j + (6 - x)) % 6) := by decide +kernel
theorem rot_int : ∀ x : Nat, x < 6 → ∀ r : Nat, r < 64 → bOr .i64 (bAnd .i64 (shL .i64 (r : Int) (x : Int)) 63) (shR .i64 (r : Int) (IntKind.i64.wrap (6 - (x : Int)))) = ((rotN x r : Nat) : Int) := by decide +kernel
theorem rot_row (n x y i : Nat) (hx : x < 6) (hy : y < 6) (hi : i < 6) : rotN x (rowN n i) = rowN (mvN (shG x y) n 36) ((i + y) % 6) := by
  obtain ⟨h1, h2⟩ := rot_bit x hx _ (rowN_lt n i)
  apply Nat.eq_of_testBit_eq; intro j
  rw [rowN_bit]
  by_cases hj : j < 6
  · rw [h2 j hj, rowN_bit, mvN_perm (sh_perm x hx y hy) n (by omega)]
    have e : 6 * i + (j + (6 - x)) % 6 = shH x y (6 * ((i + y) % 6) + j) := by unfold shH; omega
    rw [e]; simp [hj]; omega
  · rw [Nat.testBit_lt_two_pow (Nat.lt_of_lt_of_le h1 (Nat.pow_le_pow_right (by decide : 0 < 2) (by omega : 6 ≤ j)))]
    simp [hj]
end Go.Proofs.Ythncpkdhcfaflaa
