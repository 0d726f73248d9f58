/- Plain laws: operations on the machine's unsigned words, as numbers. -/
import Derived.Test.YtlmplfgnhibfcaaDoorPop
set_option linter.unusedVariables false
set_option linter.unusedSimpArgs false
namespace Go.Proofs.YtlmplfgnhibfcaaDoor
open Go Go.Proofs.YtlmplfgnhibfcaaDoor.Abs

theorem wrap_u64 (n : Nat) (h : n < 18446744073709551616) : IntKind.u64.wrap (n : Int) = (n : Int) := by
  simp [IntKind.wrap, IntKind.signed, IntKind.bits]
  omega
theorem wrap_i64 (n : Int) (h0 : -9223372036854775808 ≤ n) (h1 : n ≤ 9223372036854775807) : IntKind.i64.wrap n = n := by
  simp [IntKind.wrap, IntKind.signed, IntKind.bits]
  omega
theorem bAnd_u64 (n m : Nat) (hn : n < 18446744073709551616) (hm : m < 18446744073709551616) : bAnd .u64 n m = ((n &&& m : Nat) : Int) := by
  have h : n &&& m < 18446744073709551616 := Nat.lt_of_le_of_lt Nat.and_le_left hn
  have e : (BitVec.ofInt 64 (n : Int) &&& BitVec.ofInt 64 (m : Int)).toNat = n &&& m := by
    rw [BitVec.toNat_and, BitVec.ofInt_natCast, BitVec.ofInt_natCast, BitVec.toNat_ofNat, BitVec.toNat_ofNat, Nat.mod_eq_of_lt hn, Nat.mod_eq_of_lt hm]
  unfold bAnd
  rw [show IntKind.u64.bits = 64 from rfl, e]
  exact wrap_u64 _ h
theorem bOr_u64 (n m : Nat) (hn : n < 18446744073709551616) (hm : m < 18446744073709551616) : bOr .u64 n m = ((n ||| m : Nat) : Int) := by
  have h : n ||| m < 18446744073709551616 := Nat.or_lt_two_pow (n := 64) hn hm
  have e : (BitVec.ofInt 64 (n : Int) ||| BitVec.ofInt 64 (m : Int)).toNat = n ||| m := by
    rw [BitVec.toNat_or, BitVec.ofInt_natCast, BitVec.ofInt_natCast, BitVec.toNat_ofNat, BitVec.toNat_ofNat, Nat.mod_eq_of_lt hn, Nat.mod_eq_of_lt hm]
  unfold bOr
  rw [show IntKind.u64.bits = 64 from rfl, e]
  exact wrap_u64 _ h
theorem bXor_u64 (n m : Nat) (hn : n < 18446744073709551616) (hm : m < 18446744073709551616) : bXor .u64 n m = ((n ^^^ m : Nat) : Int) := by
  have h : n ^^^ m < 18446744073709551616 := Nat.xor_lt_two_pow (n := 64) hn hm
  have e : (BitVec.ofInt 64 (n : Int) ^^^ BitVec.ofInt 64 (m : Int)).toNat = n ^^^ m := by
    rw [BitVec.toNat_xor, BitVec.ofInt_natCast, BitVec.ofInt_natCast, BitVec.toNat_ofNat, BitVec.toNat_ofNat, Nat.mod_eq_of_lt hn, Nat.mod_eq_of_lt hm]
  unfold bXor
  rw [show IntKind.u64.bits = 64 from rfl, e]
  exact wrap_u64 _ h
theorem shR_u64 (n s : Nat) (hs : s ≤ 64) : shR .u64 n s = ((n >>> s : Nat) : Int) := by
  unfold shR
  rw [show IntKind.u64.bits = 64 from rfl, Int.toNat_natCast, Nat.min_eq_left hs, Nat.shiftRight_eq_div_pow, Int.fdiv_eq_ediv_of_nonneg _ (Int.le_of_lt (Int.pow_pos (by decide)))]
  simp
theorem shL_u64 (n s : Nat) (hs : s ≤ 64) (h : n * 2 ^ s < 18446744073709551616) : shL .u64 n s = ((n * 2 ^ s : Nat) : Int) := by
  unfold shL
  rw [show IntKind.u64.bits = 64 from rfl, Int.toNat_natCast, Nat.min_eq_left hs]
  have := wrap_u64 (n * 2 ^ s) h
  simpa using this
end Go.Proofs.YtlmplfgnhibfcaaDoor
