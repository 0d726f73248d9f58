/- Plain law: what the library's count of ones computes is the number of ones. -/
import Derived.Test.YthncpkdhcfaflaaPop2
set_option linter.unusedVariables false
set_option linter.unusedSimpArgs false
namespace Go.Proofs.Ythncpkdhcfaflaa
open Go Go.Proofs.Ythncpkdhcfaflaa.Abs
def p1 (x : Int) : Int := IntKind.u64.wrap (bAnd .u64 (shR .u64 x 1) 6148914691236517205 + bAnd .u64 x 6148914691236517205)
def p2 (x : Int) : Int := IntKind.u64.wrap (bAnd .u64 (shR .u64 x 2) 3689348814741910323 + bAnd .u64 x 3689348814741910323)
def p3 (x : Int) : Int := bAnd .u64 (IntKind.u64.wrap (shR .u64 x 4 + x)) 1085102592571150095
def p4 (k : Int) (x : Int) : Int := IntKind.u64.wrap (x + shR .u64 x k)
def pcI (x : Int) : Int := bAnd .i64 (IntKind.i64.wrap (p4 32 (p4 16 (p4 8 (p3 (p2 (p1 x))))))) 127

theorem cnt_lt : ∀ n x, cnt n x ≤ mk 8 n
  | 0, _ => Nat.le_refl _
  | n + 1, x => by
    have := cnt_lt n (x / 256)
    have := ones_le 8 (x % 256)
    simp only [cnt, mk]; omega
theorem p1_nat (x : Nat) (hx : x < 18446744073709551616) : p1 x = (s1 8 x : Nat) := by
  have hm : mk 85 8 = 6148914691236517205 := by decide
  have a1 := shR_u64 x 1 (by omega)
  have h1 : x >>> 1 < 18446744073709551616 := Nat.lt_of_le_of_lt (Nat.shiftRight_le _ _) hx
  have l1 : (x >>> 1) &&& mk 85 8 ≤ 6148914691236517205 := by rw [hm]; exact Nat.and_le_right
  have l2 : x &&& mk 85 8 ≤ 6148914691236517205 := by rw [hm]; exact Nat.and_le_right
  unfold p1 s1
  rw [show (1 : Int) = ((1 : Nat) : Int) from rfl, a1, show (6148914691236517205 : Int) = ((mk 85 8 : Nat) : Int) by rw [hm]; rfl, bAnd_u64 _ _ h1 (by rw [hm]; decide), bAnd_u64 _ _ hx (by rw [hm]; decide)]
  rw [← Int.natCast_add]
  exact wrap_u64 _ (by omega)
theorem p2_nat (x : Nat) (hx : x < 18446744073709551616) : p2 x = (s2 8 x : Nat) := by
  have hm : mk 51 8 = 3689348814741910323 := by decide
  have a1 := shR_u64 x 2 (by omega)
  have h1 : x >>> 2 < 18446744073709551616 := Nat.lt_of_le_of_lt (Nat.shiftRight_le _ _) hx
  have l1 : (x >>> 2) &&& mk 51 8 ≤ 3689348814741910323 := by rw [hm]; exact Nat.and_le_right
  have l2 : x &&& mk 51 8 ≤ 3689348814741910323 := by rw [hm]; exact Nat.and_le_right
  unfold p2 s2
  rw [show (2 : Int) = ((2 : Nat) : Int) from rfl, a1, show (3689348814741910323 : Int) = ((mk 51 8 : Nat) : Int) by rw [hm]; rfl, bAnd_u64 _ _ h1 (by rw [hm]; decide), bAnd_u64 _ _ hx (by rw [hm]; decide)]
  rw [← Int.natCast_add]
  exact wrap_u64 _ (by omega)
theorem p3_nat (x : Nat) (hx : x ≤ 7378697629483820646) : p3 x = (s3 8 x : Nat) := by
  have hm : mk 15 8 = 1085102592571150095 := by decide
  have a1 := shR_u64 x 4 (by omega)
  have h1 : x >>> 4 ≤ x := Nat.shiftRight_le _ _
  unfold p3 s3
  rw [show (4 : Int) = ((4 : Nat) : Int) from rfl, a1, ← Int.natCast_add, wrap_u64 _ (by omega), show (1085102592571150095 : Int) = ((mk 15 8 : Nat) : Int) by rw [hm]; rfl, bAnd_u64 _ _ (by omega) (by rw [hm]; decide)]
theorem p4_nat (k x : Nat) (hk : k ≤ 64) (hx : x < 9223372036854775808) : p4 k x = ((x + x / 2 ^ k : Nat) : Int) := by
  have a1 := shR_u64 x k hk
  have h1 : x >>> k ≤ x := Nat.shiftRight_le _ _
  unfold p4
  rw [a1, ← Int.natCast_add, wrap_u64 _ (by omega), Nat.shiftRight_eq_div_pow]
theorem bAnd127 (n : Nat) (h : n < 9223372036854775808) : bAnd .i64 (n : Int) 127 = ((n % 128 : Nat) : Int) := by
  have e : (BitVec.ofInt 64 (n : Int) &&& BitVec.ofInt 64 (127 : Int)).toNat = n % 128 := by
    rw [BitVec.toNat_and, show (127 : Int) = ((127 : Nat) : Int) from rfl, BitVec.ofInt_natCast, BitVec.ofInt_natCast, BitVec.toNat_ofNat, BitVec.toNat_ofNat, Nat.mod_eq_of_lt (show n < 2 ^ 64 by omega), Nat.mod_eq_of_lt (show 127 < 2 ^ 64 by decide)]
    exact Nat.and_two_pow_sub_one_eq_mod n 7
  unfold bAnd
  rw [show IntKind.i64.bits = 64 from rfl, e]
  exact wrap_i64 _ (by omega) (by omega)
theorem s1_le (x : Nat) : s1 8 x ≤ 12297829382473034410 := by
  have hm : mk 85 8 = 6148914691236517205 := by decide
  have l1 : (x >>> 1) &&& mk 85 8 ≤ 6148914691236517205 := by rw [hm]; exact Nat.and_le_right
  have l2 : x &&& mk 85 8 ≤ 6148914691236517205 := by rw [hm]; exact Nat.and_le_right
  unfold s1; omega
theorem s2_le (x : Nat) : s2 8 x ≤ 7378697629483820646 := by
  have hm : mk 51 8 = 3689348814741910323 := by decide
  have l1 : (x >>> 2) &&& mk 51 8 ≤ 3689348814741910323 := by rw [hm]; exact Nat.and_le_right
  have l2 : x &&& mk 51 8 ≤ 3689348814741910323 := by rw [hm]; exact Nat.and_le_right
  unfold s2; omega
theorem cnt_succ (n x : Nat) : cnt (n + 1) x = ones 8 (x % 256) + 256 * cnt n (x / 256) := rfl
theorem cnt8 (x : Nat) : cnt 8 x = ones 8 (x % 256) + 256 * (ones 8 (x / 256 % 256) + 256 * (ones 8 (x / 256 / 256 % 256) + 256 * (ones 8 (x / 256 / 256 / 256 % 256) + 256 * (ones 8 (x / 256 / 256 / 256 / 256 % 256) + 256 * (ones 8 (x / 256 / 256 / 256 / 256 / 256 % 256) + 256 * (ones 8 (x / 256 / 256 / 256 / 256 / 256 / 256 % 256) + 256 * ones 8 (x / 256 / 256 / 256 / 256 / 256 / 256 / 256 % 256))))))) := by
  rw [cnt_succ 7, cnt_succ 6, cnt_succ 5, cnt_succ 4, cnt_succ 3, cnt_succ 2, cnt_succ 1, cnt_succ 0]
  rfl
theorem pcI_ones (x : Nat) (hx : x < 18446744073709551616) : pcI x = (ones 64 x : Nat) := by
  have hc := cnt_lt 8 x
  rw [show mk 8 8 = 578721382704613384 by decide] at hc
  have hd1 : cnt 8 x / 2 ^ 8 ≤ cnt 8 x := Nat.div_le_self _ _
  unfold pcI
  rw [p1_nat x hx, p2_nat _ (Nat.lt_of_le_of_lt (s1_le x) (by decide)), p3_nat _ (s2_le _), s3_s2_s1]
  have e1 := p4_nat 8 (cnt 8 x) (by omega) (by omega)
  have hy1 : cnt 8 x + cnt 8 x / 2 ^ 8 ≤ 1157442765409226768 := by omega
  generalize hY1 : cnt 8 x + cnt 8 x / 2 ^ 8 = Y1 at e1 hy1
  have hd2 : Y1 / 2 ^ 16 ≤ Y1 := Nat.div_le_self _ _
  have e2 := p4_nat 16 Y1 (by omega) (by omega)
  have hy2 : Y1 + Y1 / 2 ^ 16 ≤ 2314885530818453536 := by omega
  generalize hY2 : Y1 + Y1 / 2 ^ 16 = Y2 at e2 hy2
  have hd3 : Y2 / 2 ^ 32 ≤ Y2 := Nat.div_le_self _ _
  have e3 := p4_nat 32 Y2 (by omega) (by omega)
  have hy3 : Y2 + Y2 / 2 ^ 32 ≤ 4629771061636907072 := by omega
  generalize hY3 : Y2 + Y2 / 2 ^ 32 = Y3 at e3 hy3
  rw [show (8 : Int) = ((8 : Nat) : Int) from rfl, e1, show (16 : Int) = ((16 : Nat) : Int) from rfl, e2, show (32 : Int) = ((32 : Nat) : Int) from rfl, e3, wrap_i64 _ (by omega) (by omega), bAnd127 _ (by omega)]
  refine congrArg (fun n : Nat => (n : Int)) ?_
  have hb : ∀ y, ones 8 y ≤ 8 := ones_le 8
  have hcnt := cnt8 x
  have k1 : Y1 = cnt 8 x + cnt 8 x / 256 := by clear hcnt; omega
  have k2 : Y2 = Y1 + Y1 / 65536 := by clear hcnt; omega
  have k3 : Y3 = Y2 + Y2 / 4294967296 := by clear hcnt; omega
  rw [sum_bytes _ _ _ _ _ _ _ _ (hb _) (hb _) (hb _) (hb _) (hb _) (hb _) (hb _) (hb _) (cnt 8 x) Y1 Y2 Y3 hcnt k1 k2 k3, ones_cnt]
  simp only [Nat.add_assoc]
end Go.Proofs.Ythncpkdhcfaflaa
