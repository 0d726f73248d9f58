/- Contracts: the cells that sheet and stamp have in common. -/
import Derived.Test.YthncpkdhcfaflaaC7
set_option linter.unusedVariables false
set_option linter.unusedSimpArgs false
namespace Go.Proofs.Ythncpkdhcfaflaa
open Go Go.RowKit Go.Proofs.Ythncpkdhcfaflaa.Abs
variable {W0 : World} {σ : List Blk}
theorem row_and : ∀ x : Nat, x < 64 → ∀ y : Nat, y < 64 → bAnd .i64 (x : Int) (y : Int) = ((x &&& y : Nat) : Int) := by decide +kernel
theorem row_and_lt (x y : Nat) (hx : x < 64) : x &&& y < 64 := Nat.lt_of_le_of_lt Nat.and_le_left hx
theorem inB_iff (x a b : Int) : inB x a b = true ↔ a ≤ x ∧ x ≤ b := by simp [inB]
/-- the rows of a sheet that is right, as numbers -/
theorem rows_of (a b c d e f : Int) (h : shB6 a b c d e f = true) : ∃ a0 b0 c0 d0 e0 f0 : Nat, a = a0 ∧ b = b0 ∧ c = c0 ∧ d = d0 ∧ e = e0 ∧ f = f0 ∧ a0 < 64 ∧ b0 < 64 ∧ c0 < 64 ∧ d0 < 64 ∧ e0 < 64 ∧ f0 < 64 := by
  simp only [shB6, Bool.and_eq_true, inB_iff] at h
  exact ⟨a.toNat, b.toNat, c.toNat, d.toNat, e.toNat, f.toNat, by omega, by omega, by omega, by omega, by omega, by omega, by omega, by omega, by omega, by omega, by omega, by omega⟩
/-- the number of a sheet's set -/
def setN (a b c d e f : Nat) : Nat := a + 64 * (b + 64 * (c + 64 * (d + 64 * (e + 64 * f))))
theorem wrapu (x : Nat) (h : x < 64) : IntKind.u64.wrap (x : Int) = x := wrap_u64 x (by omega)
theorem setI_nat (a b c d e f : Nat) (ha : a < 64) (hb : b < 64) (hc : c < 64) (hd : d < 64) (he : e < 64) (hf : f < 64) : setI a b c d e f = (setN a b c d e f : Nat) := by
  have or_step : ∀ k x y : Nat, x < 2 ^ k → k ≤ 30 → y < 64 → bOr .u64 (x : Int) (shL .u64 (IntKind.u64.wrap (y : Int)) ((k : Nat) : Int)) = ((x + 2 ^ k * y : Nat) : Int) := by
    intro k x y hx hk hy
    have hp : 2 ^ k ≤ 2 ^ 30 := Nat.pow_le_pow_right (by omega) hk
    have hy' : y * 2 ^ k ≤ 63 * 2 ^ 30 := Nat.mul_le_mul (by omega) hp
    rw [wrapu y hy, shL_u64 y k (by omega) (Nat.lt_of_le_of_lt hy' (by decide)), bOr_u64 _ _ (by omega) (Nat.lt_of_le_of_lt hy' (by decide))]
    have h1 := lor_dig k x 0 0 y hx (Nat.two_pow_pos k)
    rw [Nat.mul_zero, Nat.add_zero, Nat.zero_add, Nat.or_zero, Nat.zero_or] at h1
    rw [Nat.mul_comm y, h1]
  unfold setI setN
  have e0 : bOr .u64 0 (shL .u64 (IntKind.u64.wrap (a : Int)) 0) = ((a : Nat) : Int) := by
    have := or_step 0 0 a (by decide) (by omega) ha
    simpa using this
  rw [e0]
  have e1 := or_step 6 a b (by omega) (by omega) hb
  have e2 := or_step 12 _ c (show a + 2 ^ 6 * b < 2 ^ 12 by omega) (by omega) hc
  have e3 := or_step 18 _ d (show a + 2 ^ 6 * b + 2 ^ 12 * c < 2 ^ 18 by omega) (by omega) hd
  have e4 := or_step 24 _ e (show a + 2 ^ 6 * b + 2 ^ 12 * c + 2 ^ 18 * d < 2 ^ 24 by omega) (by omega) he
  have e5 := or_step 30 _ f (show a + 2 ^ 6 * b + 2 ^ 12 * c + 2 ^ 18 * d + 2 ^ 24 * e < 2 ^ 30 by omega) (by omega) hf
  rw [show (6 : Int) = ((6 : Nat) : Int) from rfl, e1, show (12 : Int) = ((12 : Nat) : Int) from rfl, e2, show (18 : Int) = ((18 : Nat) : Int) from rfl, e3, show (24 : Int) = ((24 : Nat) : Int) from rfl, e4, show (30 : Int) = ((30 : Nat) : Int) from rfl, e5]
  refine congrArg (fun n : Nat => (n : Int)) ?_
  omega
theorem ones_zero : ∀ n, ones n 0 = 0
  | 0 => rfl
  | n + 1 => by simp only [ones]; rw [Nat.zero_div, ones_zero n]
theorem ones6 (d x : Nat) (hd : d < 64) : ones 6 (d + 64 * x) = ones 6 d := by
  simp only [ones]; omega
theorem ones_step6 (m d x : Nat) (hd : d < 64) : ones (6 + m) (d + 64 * x) = ones 6 d + ones m x := by
  rw [ones_add 6 m, ones6 d x hd, show (d + 64 * x) / 2 ^ 6 = x from div_dig 64 d x hd]
theorem ones_setN (a b c d e f : Nat) (ha : a < 64) (hb : b < 64) (hc : c < 64) (hd : d < 64) (he : e < 64) (hf : f < 64) : ones 64 (setN a b c d e f) = ones 6 a + (ones 6 b + (ones 6 c + (ones 6 d + (ones 6 e + ones 6 f)))) := by
  have h64 : ∀ y, ones 64 y = ones (6 + (6 + (6 + (6 + (6 + (6 + 28)))))) y := fun _ => rfl
  have hl : ones (6 + 28) f = ones 6 f := by
    have h := ones_step6 28 f 0 hf
    rw [Nat.mul_zero, Nat.add_zero, ones_zero, Nat.add_zero] at h
    exact h
  unfold setN
  rw [h64, ones_step6 _ a _ ha, ones_step6 _ b _ hb, ones_step6 _ c _ hc, ones_step6 _ d _ hd, ones_step6 _ e _ he, hl]
theorem and_setN (a b c d e f a' b' c' d' e' f' : Nat) (ha : a < 64) (hb : b < 64) (hc : c < 64) (hd : d < 64) (he : e < 64) (ha' : a' < 64) (hb' : b' < 64) (hc' : c' < 64) (hd' : d' < 64) (he' : e' < 64) :
    setN a b c d e f &&& setN a' b' c' d' e' f' = setN (a &&& a') (b &&& b') (c &&& c') (d &&& d') (e &&& e') (f &&& f') := by
  unfold setN
  have h6 : (64 : Nat) = 2 ^ 6 := by decide
  rw [h6] at *
  rw [land_dig 6 a a' _ _ ha ha', land_dig 6 b b' _ _ hb hb', land_dig 6 c c' _ _ hc hc', land_dig 6 d d' _ _ hd hd', land_dig 6 e e' _ _ he he']
theorem setN_lt (a b c d e f : Nat) (ha : a < 64) (hb : b < 64) (hc : c < 64) (hd : d < 64) (he : e < 64) (hf : f < 64) : setN a b c d e f < 68719476736 := by unfold setN; omega
end Go.Proofs.Ythncpkdhcfaflaa
