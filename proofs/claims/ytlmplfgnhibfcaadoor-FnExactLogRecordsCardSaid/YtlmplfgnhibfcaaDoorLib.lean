/- Contracts of Go's library, as abstract calls. -/
import Derived.Test.YtlmplfgnhibfcaaDoorS1
import Derived.Test.YtlmplfgnhibfcaaDoorShelf
set_option linter.unusedVariables false
set_option linter.unusedSimpArgs false
set_option maxRecDepth 100000
namespace Go.Proofs.YtlmplfgnhibfcaaDoor
open Go Go.RowKit Go.Proofs.YtlmplfgnhibfcaaDoor.Abs
variable {W0 : World} {σ : List Blk}
theorem index_cons (b : UInt8) (l : Bs) (c : UInt8) : Lib.indexByte (b :: l) c = if b == c then 0 else if Lib.indexByte l c == -1 then -1 else Lib.indexByte l c + 1 := rfl
theorem index_any' (l : Bs) (c : UInt8) : 0 ≤ Lib.indexByte l c ↔ l.any (· == c) = true := by
  induction l with
  | nil => simp [Lib.indexByte]
  | cons b l ih =>
    have h := Lib.indexByte_ge l c
    rw [List.any_cons, Bool.or_eq_true, ← ih, index_cons]
    by_cases e : (b == c) = true
    · rw [if_pos e]; simp [e]
    · rw [if_neg e]
      by_cases e2 : (Lib.indexByte l c == -1) = true
      · rw [if_pos e2]; have := eq_of_beq e2; constructor
        · omega
        · rintro (h' | h')
          · exact (e h').elim
          · omega
      · rw [if_neg e2]
        have : Lib.indexByte l c ≠ -1 := by simpa using e2
        constructor
        · intro _; right; omega
        · rintro (h' | h')
          · exact (e h').elim
          · omega
theorem index_any (l : Bs) (c : UInt8) : decide (0 ≤ Lib.indexByte l c) = l.any (· == c) := by
  rw [Bool.eq_iff_iff, decide_eq_true_iff, index_any']
theorem d_Contains1 (s : ByteArray) (c : UInt8) (K : Cont) (h0 : K (Bo ((tl s).any (· == c))) σ) : ACall Tryd.prog W0 43 [St s, St ⟨#[c]⟩] σ K :=
  ACall.ofCalls1 (vs := [.string s, .string ⟨#[c]⟩]) (by kernel_rfl) (fun w _ => (Tryd.strings_Contains_one s c w).mono fun e w' ⟨h1, h2⟩ => by subst h2; exact ⟨h1, Below.refl _ _⟩) (kB h0 (index_any _ _).symm)
theorem d_Index1 (s : ByteArray) (c : UInt8) (K : Cont) (h0 : K (I (Lib.indexByte (tl s) c)) σ) : ACall Tryd.prog W0 42 [St s, St ⟨#[c]⟩] σ K :=
  ACall.ofCalls1 (vs := [.string s, .string ⟨#[c]⟩]) (by kernel_rfl) (fun w _ => (Tryd.stringslite_Index_one s c w).mono fun e w' ⟨h1, h2⟩ => by subst h2; exact ⟨h1, Below.refl _ _⟩) h0
end Go.Proofs.YtlmplfgnhibfcaaDoor
