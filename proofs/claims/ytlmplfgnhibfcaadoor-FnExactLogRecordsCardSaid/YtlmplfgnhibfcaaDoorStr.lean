/- Plain laws: strings as lists of bytes. -/
import Derived.Test.YtlmplfgnhibfcaaDoorPop2
import Derived.Test.YtlmplfgnhibfcaaDoorAbsR
import Derived.Lib.Strings
import Derived.Lib.Bytealg
import Derived.Lib.ItoaNum
set_option linter.unusedVariables false
namespace Go.Proofs.YtlmplfgnhibfcaaDoor
open Go Go.RowKit Go.Proofs.YtlmplfgnhibfcaaDoor.Abs
abbrev Bs := List UInt8
abbrev bs (l : Bs) : ByteArray := ⟨l.toArray⟩
theorem bs_tl (s : ByteArray) : bs (tl s) = s := by cases s; rfl
theorem tl_bs (l : Bs) : tl (bs l) = l := rfl
theorem tl_mk (a : Array UInt8) : tl ⟨a⟩ = a.toList := rfl
theorem tl_append (a b : ByteArray) : tl (a ++ b) = tl a ++ tl b := by simp [tl]
theorem tl_extract (s : ByteArray) (i j : Nat) : tl (s.extract i j) = ((tl s).drop i).take (j - i) := Lib.extract_data _ _ _
theorem tl_ext {a b : ByteArray} (h : tl a = tl b) : a = b := by rw [← bs_tl a, ← bs_tl b, h]
theorem toList_tl (s : ByteArray) : s.toList = tl s := Lib.toList_data s
theorem iN (n : Nat) (h : n < 9223372036854775807) : IntKind.i64.wrap ((n : Int) + 1) = ((n + 1 : Nat) : Int) := by
  rw [wrap_i64 _ (by omega) (by omega)]; omega
/-- one more byte is looked at -/
theorem all_step {α : Type} {p : α → Bool} {l : List α} {i : Nat} {d : α} (hi : i < l.length) : (l.take (i + 1)).all p = ((l.take i).all p && p (l.getD i d)) := by
  rw [List.take_add_one, List.all_append]
  simp [List.getD, List.getElem?_eq_getElem hi]
theorem all_take_true {α : Type} {p : α → Bool} {l : List α} {i : Nat} (hi : l.length ≤ i) (h : (l.take i).all p = true) : l.all p = true := by
  rwa [List.take_of_length_le hi] at h
theorem all_false {α : Type} {p : α → Bool} {l : List α} {i : Nat} {d : α} (hi : i < l.length) (h : p (l.getD i d) = false) : l.all p = false := by
  rw [Bool.eq_false_iff]; intro h'
  have := List.all_eq_true.1 h' (l.getD i d) (by simp [List.getD, List.getElem?_eq_getElem hi])
  rw [h] at this; cases this
theorem any_not (l : Bs) (b : UInt8) : l.any (· == b) = !l.all (fun c => !(c == b)) := by
  induction l with
  | nil => rfl
  | cons a l ih => simp only [List.any_cons, List.all_cons, ih, Bool.not_and, Bool.not_not]
/-- a byte that is plain -/
def plc (c : UInt8) : Bool := decide (32 ≤ c.toNat) && decide (c.toNat ≤ 126) && !decide (c.toNat = 35)
def plain (l : Bs) : Bool := l.all plc
/-- a number's digits -/
def numB (n : Nat) : ByteArray := bs (Lib.decDigits n)
theorem dec_small {n : Nat} (h : n < 10) : Lib.decDigits n = [UInt8.ofNat (48 + n)] := by rw [Lib.decDigits, dif_pos h]
theorem dec_big {n : Nat} (h : ¬ n < 10) : Lib.decDigits n = Lib.decDigits (n / 10) ++ [UInt8.ofNat (48 + n % 10)] := by rw [Lib.decDigits, dif_neg h]
theorem dec_len : ∀ (k n : Nat), n < 10 ^ (k + 1) → (Lib.decDigits n).length ≤ k + 1
  | 0, n, h => by rw [dec_small (by omega)]; simp
  | k + 1, n, h => by
    by_cases h' : n < 10
    · rw [dec_small h']; simp
    · rw [dec_big h']
      have := dec_len k (n / 10) (by rw [Nat.pow_succ] at h; omega)
      simp; omega
theorem numB_size {n : Nat} (h : n < 10000000000000000000) : (numB n).size ≤ 19 := by
  rw [← tl_len, numB, tl_bs]; exact dec_len 18 n h
theorem numB_size6 {n : Nat} (h : n < 1000000) : (numB n).size ≤ 6 := by
  rw [← tl_len, numB, tl_bs]; exact dec_len 5 n h
theorem numB_pos (n : Nat) : 1 ≤ (numB n).size := by
  rw [← tl_len, numB, tl_bs]
  by_cases h' : n < 10
  · rw [dec_small h']; simp
  · rw [dec_big h']; simp
/-- a text's sum -/
def sumN (l : Bs) : Nat := l.foldl (fun h c => (41 * h + c.toNat + 1) % 999979) 7
theorem sum_step {l : Bs} {i : Nat} (hi : i < l.length) : sumN (l.take (i + 1)) = (41 * sumN (l.take i) + (l.getD i 0).toNat + 1) % 999979 := by
  unfold sumN
  rw [List.take_add_one, List.foldl_append]
  simp [List.getD, List.getElem?_eq_getElem hi]
theorem sum_lt (l : Bs) : sumN l < 999979 := by
  unfold sumN
  rcases List.eq_nil_or_concat l with h | ⟨l', c, h⟩ <;> subst h
  · decide
  · rw [List.concat_eq_append, List.foldl_append]; simp only [List.foldl_cons, List.foldl_nil]; exact Nat.mod_lt _ (by decide)
end Go.Proofs.YtlmplfgnhibfcaaDoor
