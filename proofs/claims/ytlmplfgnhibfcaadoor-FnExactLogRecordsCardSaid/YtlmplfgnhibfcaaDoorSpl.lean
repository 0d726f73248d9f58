/- Plain laws: the parts of a text between bytes; what comes before a byte. -/
import Derived.Test.YtlmplfgnhibfcaaDoorStr
set_option linter.unusedVariables false
namespace Go.Proofs.YtlmplfgnhibfcaaDoor
open Go Go.RowKit Go.Proofs.YtlmplfgnhibfcaaDoor.Abs
def splitL (b : UInt8) : Bs → List Bs
  | [] => [[]]
  | c :: l => if c == b then [] :: splitL b l else match splitL b l with
    | [] => [[c]]
    | x :: xs => (c :: x) :: xs
/-- what comes before the byte, what behind it -/
def bef (b : UInt8) (l : Bs) : Bs := l.takeWhile (fun c => !(c == b))
def aft (b : UInt8) (l : Bs) : Bs := l.drop ((bef b l).length + 1)
theorem splitL_ne (b : UInt8) (l : Bs) : splitL b l ≠ [] := by
  cases l with
  | nil => simp [splitL]
  | cons c l => simp only [splitL]; split; simp; split <;> simp
theorem splitL_cons_ne {b c : UInt8} {l : Bs} (h : (c == b) = false) : ∃ x xs, splitL b l = x :: xs ∧ splitL b (c :: l) = (c :: x) :: xs := by
  cases hs : splitL b l with
  | nil => exact (splitL_ne b l hs).elim
  | cons x xs => exact ⟨x, xs, rfl, by simp only [splitL, h, hs]; rfl⟩
theorem split_none {b : UInt8} {l : Bs} (h : l.all (fun c => !(c == b)) = true) : splitL b l = [l] := by
  induction l with
  | nil => rfl
  | cons c l ih =>
    simp only [List.all_cons, Bool.and_eq_true, Bool.not_eq_true'] at h
    obtain ⟨x, xs, h1, h2⟩ := splitL_cons_ne (l := l) h.1
    rw [ih h.2] at h1; cases h1; rw [h2]
theorem split_hit {b : UInt8} : ∀ {p : Bs} {t : Bs}, p.all (fun c => !(c == b)) = true → splitL b (p ++ b :: t) = p :: splitL b t
  | [], t, _ => by simp [splitL]
  | c :: p, t, h => by
    simp only [List.all_cons, Bool.and_eq_true, Bool.not_eq_true'] at h
    obtain ⟨x, xs, h1, h2⟩ := splitL_cons_ne (l := p ++ b :: t) h.1
    rw [split_hit h.2] at h1; cases h1
    exact h2
theorem bef_all (b : UInt8) (l : Bs) : (bef b l).all (fun c => !(c == b)) = true := by
  induction l with
  | nil => rfl
  | cons c l ih =>
    unfold bef at ih ⊢
    rw [List.takeWhile_cons]
    split
    · rename_i h; rw [List.all_cons, h, ih]; rfl
    · rfl
/-- either the byte does not occur, or it stands behind what comes before it -/
theorem bef_cases (b : UInt8) (l : Bs) : (l.any (· == b) = false ∧ bef b l = l) ∨ (l.any (· == b) = true ∧ l = bef b l ++ b :: aft b l) := by
  induction l with
  | nil => exact .inl ⟨rfl, rfl⟩
  | cons c l ih =>
    cases h : c == b with
    | true =>
      right
      rw [List.any_cons, h]
      refine ⟨rfl, ?_⟩
      have e := eq_of_beq h
      subst e
      simp [bef, aft, List.takeWhile_cons]
    | false =>
      have e1 : bef b (c :: l) = c :: bef b l := by simp [bef, List.takeWhile_cons, h]
      rcases ih with ⟨h1, h2⟩ | ⟨h1, h2⟩
      · left; rw [List.any_cons, h, h1, e1, h2]; exact ⟨rfl, rfl⟩
      · right; rw [List.any_cons, h, h1, e1]
        refine ⟨rfl, ?_⟩
        have e2 : aft b (c :: l) = aft b l := by simp [aft, e1]
        rw [e2, List.cons_append, ← h2]
theorem split_head (b : UInt8) (l : Bs) : splitL b l = bef b l :: (if l.any (· == b) then splitL b (aft b l) else []) := by
  rcases bef_cases b l with ⟨h1, h2⟩ | ⟨h1, h2⟩
  · rw [h1, h2, split_none]; rfl
    rw [any_not, Bool.not_eq_false'] at h1; exact h1
  · rw [h1, if_pos rfl]
    conv => lhs; rw [h2]
    exact split_hit (bef_all b l)
/-- a text with a byte in it, the byte not before: what comes before it and behind it -/
theorem bef_of {b : UInt8} {p t : Bs} (h : p.any (· == b) = false) : bef b (p ++ b :: t) = p ∧ aft b (p ++ b :: t) = t ∧ (p ++ b :: t).any (· == b) = true := by
  rw [any_not, Bool.not_eq_false', List.all_eq_true] at h
  have e : bef b (p ++ b :: t) = p := by
    unfold bef
    rw [List.takeWhile_append_of_pos h]
    simp
  refine ⟨e, ?_, by simp⟩
  unfold aft
  rw [e, List.drop_append]
  simp
/-- the loop's step: a piece ends -/
theorem split_step {b : UInt8} {l : Bs} {f i : Nat} (hf : f ≤ i) (hi : i < l.length) (hn : ((l.drop f).take (i - f)).all (fun c => !(c == b)) = true) (hb : (l.getD i 0 == b) = true) : splitL b (l.drop f) = (l.drop f).take (i - f) :: splitL b (l.drop (i + 1)) := by
  have e : l.drop f = (l.drop f).take (i - f) ++ b :: l.drop (i + 1) := by
    have h1 : l.drop f = (l.drop f).take (i - f) ++ (l.drop f).drop (i - f) := (List.take_append_drop _ _).symm
    have h2 : (l.drop f).drop (i - f) = l.drop i := by rw [List.drop_drop]; congr 1; omega
    have h3 : l.drop i = l.getD i 0 :: l.drop (i + 1) := by
      rw [List.drop_eq_getElem_cons hi]; simp [List.getD, List.getElem?_eq_getElem hi]
    rw [h2, h3, eq_of_beq hb] at h1
    exact h1
  conv => lhs; rw [e]
  exact split_hit hn
/-- the loop's step: a piece grows -/
theorem piece_step {p : UInt8 → Bool} {l : Bs} {f i : Nat} (hf : f ≤ i) (hi : i < l.length) (hn : ((l.drop f).take (i - f)).all p = true) (hb : p (l.getD i 0) = true) : ((l.drop f).take (i + 1 - f)).all p = true := by
  have e : i + 1 - f = (i - f) + 1 := by omega
  rw [e, all_step (d := 0) (by rw [List.length_drop]; omega), hn]
  have : (l.drop f).getD (i - f) 0 = l.getD i 0 := by simp only [List.getD]; rw [List.getElem?_drop]; congr 2; omega
  rw [this, hb]; rfl
end Go.Proofs.YtlmplfgnhibfcaaDoor
