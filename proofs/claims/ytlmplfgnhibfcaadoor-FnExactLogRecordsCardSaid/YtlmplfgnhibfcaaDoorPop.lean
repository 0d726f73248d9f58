/- Plain laws: digits of numbers, and that the parallel count of bits counts them. -/
import Derived.Test.YtlmplfgnhibfcaaDoorAbsE
set_option linter.unusedVariables false
set_option linter.unusedSimpArgs false
namespace Go.Proofs.YtlmplfgnhibfcaaDoor
open Go Go.Proofs.YtlmplfgnhibfcaaDoor.Abs

/-- the number of ones among the lowest n digits to base two -/
def ones : Nat → Nat → Nat
  | 0, _ => 0
  | n + 1, x => x % 2 + ones n (x / 2)

theorem testBit_dig (k d x i : Nat) (hd : d < 2 ^ k) : (d + 2 ^ k * x).testBit i = if i < k then d.testBit i else x.testBit (i - k) := by
  rw [Nat.add_comm, Nat.testBit_two_pow_mul_add x hd i]

theorem land_dig (k d e x y : Nat) (hd : d < 2 ^ k) (he : e < 2 ^ k) : (d + 2 ^ k * x) &&& (e + 2 ^ k * y) = (d &&& e) + 2 ^ k * (x &&& y) := by
  apply Nat.eq_of_testBit_eq
  intro i
  rw [Nat.testBit_and, testBit_dig k d x i hd, testBit_dig k e y i he, testBit_dig k (d &&& e) _ i (Nat.and_lt_two_pow d he)]
  split <;> simp [Nat.testBit_and]
theorem lor_dig (k d e x y : Nat) (hd : d < 2 ^ k) (he : e < 2 ^ k) : (d + 2 ^ k * x) ||| (e + 2 ^ k * y) = (d ||| e) + 2 ^ k * (x ||| y) := by
  apply Nat.eq_of_testBit_eq
  intro i
  rw [Nat.testBit_or, testBit_dig k d x i hd, testBit_dig k e y i he, testBit_dig k (d ||| e) _ i (Nat.or_lt_two_pow hd he)]
  split <;> simp [Nat.testBit_or]
theorem lxor_dig (k d e x y : Nat) (hd : d < 2 ^ k) (he : e < 2 ^ k) : (d + 2 ^ k * x) ^^^ (e + 2 ^ k * y) = (d ^^^ e) + 2 ^ k * (x ^^^ y) := by
  apply Nat.eq_of_testBit_eq
  intro i
  rw [Nat.testBit_xor, testBit_dig k d x i hd, testBit_dig k e y i he, testBit_dig k (d ^^^ e) _ i (Nat.xor_lt_two_pow hd he)]
  split <;> simp [Nat.testBit_xor]
/-- a shift to the right under a mask that lets no bit of the next digit in -/
theorem shr_land_dig (k s d m x y : Nat) (hs : s ≤ k) (hd : d < 2 ^ k) (hm : m < 2 ^ (k - s)) : ((d + 2 ^ k * x) >>> s) &&& (m + 2 ^ k * y) = ((d >>> s) &&& m) + 2 ^ k * ((x >>> s) &&& y) := by
  have hm' : m < 2 ^ k := Nat.lt_of_lt_of_le hm (Nat.pow_le_pow_right (by omega) (by omega))
  have hdm : (d >>> s) &&& m < 2 ^ k := Nat.and_lt_two_pow _ hm'
  apply Nat.eq_of_testBit_eq
  intro i
  rw [Nat.testBit_and, Nat.testBit_shiftRight, testBit_dig k d x _ hd, testBit_dig k m y i hm', testBit_dig k _ _ i hdm]
  by_cases hi : i < k
  · simp only [hi, if_true, Nat.testBit_and, Nat.testBit_shiftRight]
    by_cases h2 : s + i < k
    · simp [h2]
    · have : m.testBit i = false := Nat.testBit_lt_two_pow (Nat.lt_of_lt_of_le hm (Nat.pow_le_pow_right (by omega) (by omega)))
      simp [this]
  · have h2 : ¬ s + i < k := by omega
    simp only [hi, h2, if_false, Nat.testBit_and, Nat.testBit_shiftRight]
    rw [show s + i - k = s + (i - k) by omega]

/-! ### the parallel count, byte by byte -/
def mk (m : Nat) : Nat → Nat
  | 0 => 0
  | n + 1 => m + 256 * mk m n
def s1 (n x : Nat) : Nat := ((x >>> 1) &&& mk 85 n) + (x &&& mk 85 n)
def s2 (n x : Nat) : Nat := ((x >>> 2) &&& mk 51 n) + (x &&& mk 51 n)
def s3 (n x : Nat) : Nat := ((x >>> 4) + x) &&& mk 15 n
def b1 (d : Nat) : Nat := ((d >>> 1) &&& 85) + (d &&& 85)
def b2 (d : Nat) : Nat := ((d >>> 2) &&& 51) + (d &&& 51)
def b3 (d : Nat) : Nat := ((d >>> 4) + d) &&& 15
theorem s1_dig (n d x : Nat) (hd : d < 256) : s1 (n + 1) (d + 256 * x) = b1 d + 256 * s1 n x := by
  have h1 := shr_land_dig 8 1 d 85 x (mk 85 n) (by omega) hd (by decide)
  have h2 := land_dig 8 d 85 x (mk 85 n) hd (by decide)
  simp only [s1, b1, mk, Nat.reducePow] at *
  rw [h1, h2]; omega
theorem s2_dig (n d x : Nat) (hd : d < 256) : s2 (n + 1) (d + 256 * x) = b2 d + 256 * s2 n x := by
  have h1 := shr_land_dig 8 2 d 51 x (mk 51 n) (by omega) hd (by decide)
  have h2 := land_dig 8 d 51 x (mk 51 n) hd (by decide)
  simp only [s2, b2, mk, Nat.reducePow] at *
  rw [h1, h2]; omega
theorem land15 (x : Nat) : x &&& 15 = x % 16 := Nat.and_two_pow_sub_one_eq_mod x 4
theorem s3_dig (n d x : Nat) (hd : d / 16 + d + 16 * (x % 16) < 256) : s3 (n + 1) (d + 256 * x) = b3 d + 256 * s3 n x := by
  have e : (d + 256 * x) >>> 4 + (d + 256 * x) = (d / 16 + d + 16 * (x % 16)) + 256 * ((x >>> 4) + x) := by
    simp only [Nat.shiftRight_eq_div_pow, Nat.reducePow]; omega
  have h2 := land_dig 8 (d / 16 + d + 16 * (x % 16)) 15 ((x >>> 4) + x) (mk 15 n) hd (by decide)
  simp only [s3, b3, mk, Nat.reducePow] at *
  rw [e, h2, land15, land15]
  simp only [Nat.shiftRight_eq_div_pow, Nat.reducePow]; omega
theorem byte_ones : ∀ d, d < 256 → b3 (b2 (b1 d)) = ones 8 d ∧ b1 d < 256 ∧ b2 (b1 d) < 256 ∧ b2 (b1 d) / 16 ≤ 4 ∧ b2 (b1 d) % 16 ≤ 4 := by decide +kernel
theorem s1_0 (x : Nat) : s1 0 x = 0 := by simp [s1, mk]
theorem s2_0 (x : Nat) : s2 0 x = 0 := by simp [s2, mk]
theorem s3_0 (x : Nat) : s3 0 x = 0 := by simp [s3, mk]
theorem ones8 (d x : Nat) (hd : d < 256) : ones 8 (d + 256 * x) = ones 8 d := by
  simp only [ones]; omega
theorem ones_le : ∀ n x, ones n x ≤ n
  | 0, _ => Nat.le_refl _
  | n + 1, x => by have := ones_le n (x / 2); simp only [ones]; omega
theorem ones_add : ∀ (n m x : Nat), ones (n + m) x = ones n x + ones m (x / 2 ^ n)
  | 0, m, x => by simp [ones]
  | n + 1, m, x => by
    rw [show n + 1 + m = (n + m) + 1 by omega]
    simp only [ones]
    rw [ones_add n m, Nat.div_div_eq_div_mul, Nat.pow_succ, Nat.mul_comm 2]
    omega

/-- the bytes of the parallel count are the counts of the bytes -/
def cnt : Nat → Nat → Nat
  | 0, _ => 0
  | n + 1, x => ones 8 (x % 256) + 256 * cnt n (x / 256)
theorem s2_s1_low (n x : Nat) : s2 n (s1 n x) % 16 ≤ 4 := by
  cases n with
  | zero => rw [s2_0]; decide
  | succ n =>
    have hd : x % 256 < 256 := Nat.mod_lt _ (by omega)
    rw [show x = x % 256 + 256 * (x / 256) by omega, s1_dig _ _ _ hd, s2_dig _ _ _ (byte_ones _ hd).2.1]
    have := (byte_ones _ hd).2.2.2.2
    omega
theorem s3_s2_s1 : ∀ (n x : Nat), s3 n (s2 n (s1 n x)) = cnt n x
  | 0, x => s3_0 _
  | n + 1, x => by
    have hd : x % 256 < 256 := Nat.mod_lt _ (by omega)
    obtain ⟨h1, h2, h3, h4, h5⟩ := byte_ones _ hd
    have hl := s2_s1_low n (x / 256)
    conv => lhs; rw [show x = x % 256 + 256 * (x / 256) by omega]
    rw [s1_dig _ _ _ hd, s2_dig _ _ _ h2, s3_dig _ _ _ (by omega), h1, s3_s2_s1 n]
    rfl
theorem ones_cnt (x : Nat) : ones 64 x = ones 8 (x % 256) + ones 8 (x / 256 % 256) + ones 8 (x / 256 / 256 % 256) + ones 8 (x / 256 / 256 / 256 % 256) + ones 8 (x / 256 / 256 / 256 / 256 % 256) + ones 8 (x / 256 / 256 / 256 / 256 / 256 % 256) + ones 8 (x / 256 / 256 / 256 / 256 / 256 / 256 % 256) + ones 8 (x / 256 / 256 / 256 / 256 / 256 / 256 / 256 % 256) := by
  have step : ∀ m y, ones (8 + m) y = ones 8 (y % 256) + ones m (y / 256) := fun m y => by
    rw [ones_add 8 m y]
    congr 1
    conv => lhs; rw [show y = y % 256 + 256 * (y / 256) by omega]
    exact ones8 _ _ (Nat.mod_lt _ (by omega))
  have h0 : ones 64 x = ones (8 + (8 + (8 + (8 + (8 + (8 + (8 + (8 + 0)))))))) x := rfl
  have hz : ∀ y, ones 0 y = 0 := fun _ => rfl
  rw [h0, step, step, step, step, step, step, step, step, hz]
  simp only [Nat.add_zero, Nat.add_assoc]
/-- the last steps add the bytes up -/
theorem div_dig (k d r : Nat) (hd : d < k) : (d + k * r) / k = r := by
  rw [Nat.add_mul_div_left _ _ (by omega), Nat.div_eq_of_lt hd, Nat.zero_add]
theorem fin_lin (y2 y3 D p q r t v u : Nat) (e3 : y3 = y2 + D) (k1 : y2 = (p + 256 * q + 65536 * r + 16777216 * t) + 4294967296 * (v + 256 * u)) (k2 : D = v + 256 * u) : y3 = (p + v) + 128 * (2 * q + 512 * r + 131072 * t + 33554432 * (v + 256 * u) + 2 * u) := by omega
theorem fin_bytes (y2 y3 p q r t v u : Nat) (e3 : y3 = y2 + y2 / 4294967296) (k1 : y2 = (p + 256 * q + 65536 * r + 16777216 * t) + 4294967296 * (v + 256 * u)) (k2 : y2 / 4294967296 = v + 256 * u) (k3 : p + v < 128) : y3 % 128 = p + v := by
  rw [fin_lin y2 y3 _ p q r t v u e3 k1 k2, Nat.add_mul_mod_self_left]
  exact Nat.mod_eq_of_lt k3
theorem sum_bytes (c0 c1 c2 c3 c4 c5 c6 c7 : Nat) (h0 : c0 ≤ 8) (h1 : c1 ≤ 8) (h2 : c2 ≤ 8) (h3 : c3 ≤ 8) (h4 : c4 ≤ 8) (h5 : c5 ≤ 8) (h6 : c6 ≤ 8) (h7 : c7 ≤ 8) (y y1 y2 y3 : Nat)
    (hy : y = c0 + 256 * (c1 + 256 * (c2 + 256 * (c3 + 256 * (c4 + 256 * (c5 + 256 * (c6 + 256 * c7))))))) (e1 : y1 = y + y / 256) (e2 : y2 = y1 + y1 / 65536) (e3 : y3 = y2 + y2 / 4294967296) :
    y3 % 128 = (c0 + c1 + c2 + c3) + (c4 + c5 + c6 + c7) := by
  have g1 : y / 256 = c1 + 256 * (c2 + 256 * (c3 + 256 * (c4 + 256 * (c5 + 256 * (c6 + 256 * c7))))) := by rw [hy]; exact div_dig 256 c0 _ (by omega)
  have f1 : y1 = ((c0 + c1) + 256 * (c1 + c2)) + 65536 * ((c2 + c3) + 256 * ((c3 + c4) + 256 * ((c4 + c5) + 256 * ((c5 + c6) + 256 * ((c6 + c7) + 256 * c7))))) := by rw [e1, g1, hy]; omega
  have g2 : y1 / 65536 = (c2 + c3) + 256 * ((c3 + c4) + 256 * ((c4 + c5) + 256 * ((c5 + c6) + 256 * ((c6 + c7) + 256 * c7)))) := by rw [f1]; exact div_dig 65536 _ _ (by omega)
  have f2 : y2 = ((c0 + c1 + c2 + c3) + 256 * (c1 + c2 + c3 + c4) + 65536 * (c2 + c3 + c4 + c5) + 16777216 * (c3 + c4 + c5 + c6)) + 4294967296 * ((c4 + c5 + c6 + c7) + 256 * ((c5 + c6 + c7) + 256 * ((c6 + c7) + 256 * c7))) := by rw [e2, g2, f1]; omega
  have g3 : y2 / 4294967296 = (c4 + c5 + c6 + c7) + 256 * ((c5 + c6 + c7) + 256 * ((c6 + c7) + 256 * c7)) := by rw [f2]; exact div_dig 4294967296 _ _ (by omega)
  exact fin_bytes y2 y3 (c0 + c1 + c2 + c3) (c1 + c2 + c3 + c4) (c2 + c3 + c4 + c5) (c3 + c4 + c5 + c6) (c4 + c5 + c6 + c7) ((c5 + c6 + c7) + 256 * ((c6 + c7) + 256 * c7)) e3 f2 g3 (by clear hy e1 e2 e3 g1 f1 g2 f2 g3; omega)
end Go.Proofs.YtlmplfgnhibfcaaDoor
