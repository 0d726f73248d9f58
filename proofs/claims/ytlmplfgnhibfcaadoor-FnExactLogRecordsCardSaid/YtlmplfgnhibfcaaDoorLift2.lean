/- From a contract to the statement: arguments of several kinds of cells. -/
import Derived.Test.YtlmplfgnhibfcaaDoorLift
import Derived.Test.YtlmplfgnhibfcaaDoorAbsR
set_option linter.unusedVariables false
set_option linter.unusedSimpArgs false
namespace Go.Proofs.YtlmplfgnhibfcaaDoor
open Go Go.RowKit Go.Proofs.YtlmplfgnhibfcaaDoor.Abs
def kOf : Option TypeDesc → Nat
  | some (.int .i64) => 0
  | some .string => 1
  | some .bool => 2
  | _ => 9
def okK (k : Nat) (x : Value) : Prop := match k with
  | 0 => ∃ m, x = .int .i64 m ∧ IntKind.i64.has m
  | 1 => ∃ s : ByteArray, x = .string s ∧ s.size ≤ 9223372036854775807
  | 2 => ∃ b, x = .bool b
  | _ => True
theorem okK_of_cell {P : Program} {w : World} {base : Nat} {u : TypeId} {v : Value} (hok : Cell.okWide P w .any base u v) : okK (kOf (P.underlying u)) v := by
  unfold Cell.okWide at hok
  cases hu : P.underlying u with
  | none => exact trivial
  | some d =>
    rw [hu] at hok
    cases d with
    | int k =>
      cases k with
      | i64 =>
        unfold Cell.ok at hok
        rw [hu] at hok
        cases v <;> simp at hok
        exact ⟨_, by rw [hok.1], hok.2⟩
      | _ => exact trivial
    | string =>
      unfold Cell.ok at hok
      rw [hu] at hok
      cases v with
      | string s =>
        have h1 : (s.size : Int) ≤ IntKind.i64.max := hok
        have h2 : IntKind.i64.max = 9223372036854775807 := by decide
        exact ⟨s, rfl, by omega⟩
      | _ => simp at hok
    | bool =>
      unfold Cell.ok at hok
      rw [hu] at hok
      cases v with
      | bool b => exact ⟨b, rfl⟩
      | _ => simp at hok
    | _ => exact trivial
theorem val_of_okWide {P : Program} {w : World} {base k : Nat} {t : TypeId} {v : Value} (ha : aggP P t = some false) (hk : kOf (P.underlying t) = k) (h : Value.okWide P w .any base t v) : okK k v := by
  subst hk
  refine okK_of_cell (base := base) (w := w) ?_
  unfold aggP at ha
  obtain ⟨d, hd, hg⟩ := Option.map_eq_some_iff.1 ha
  unfold Value.okWide at h
  rw [hd] at h
  cases d <;> first | exact h | (simp [isAggD] at hg)
theorem flat_of_okWide {P : Program} {w : World} {base n : Nat} {t : TypeId} {v : Value} {ks : List Nat} (ha : aggP P t = some true) (hs : P.cellsOf t = n)
    (hk : ((P.cellTypes P.depth t).map fun ts => ts.map fun u => kOf (P.underlying u)) = some ks) (hn : ks.length = n)
    (h : Value.okWide P w .any base t v) : ∃ l : List Value, l.length = n ∧ v = .agg l.toArray ∧ ∀ (i : Nat) (x : Value) (k : Nat), l[i]? = some x → ks[i]? = some k → okK k x := by
  obtain ⟨ts, hc, hks⟩ := Option.map_eq_some_iff.1 hk
  have hd : ∃ cs, v = .agg cs ∧ cs.size = P.cellsOf t ∧ Row.okWide P w .any base t cs := by
    unfold aggP at ha
    obtain ⟨d, hd, hg⟩ := Option.map_eq_some_iff.1 ha
    unfold Value.okWide at h
    rw [hd] at h
    cases d <;> first | exact h | (simp [isAggD] at hg)
  obtain ⟨cs, rfl, hsz, ts', hts, hn', hall⟩ := hd
  rw [hc] at hts; cases hts
  have hlen : ts.length = n := by rw [← hn, ← hks]; simp
  refine ⟨cs.toList, by simp [hsz, hs], by simp, fun i x k hx hk' => ?_⟩
  obtain ⟨u, hu, hok⟩ := hall i x (by simpa using hx)
  have hi : i < n := by
    have := (List.getElem?_eq_some_iff.1 hk').1
    omega
  rw [hlen, Nat.mod_eq_of_lt hi] at hu
  rw [← hks, List.getElem?_map, hu] at hk'
  cases hk'
  exact okK_of_cell hok
theorem cons_of_len {α : Type} {l : List α} {n : Nat} (h : l.length = n + 1) : ∃ a l', l = a :: l' ∧ l'.length = n := by
  cases l with
  | nil => simp at h
  | cons a l' => exact ⟨a, l', rfl, by simpa using h⟩
theorem nil_of_len {α : Type} {l : List α} (h : l.length = 0) : l = [] := List.length_eq_zero_iff.1 h
theorem rel_agg (l : List Value) (h : l.all (·.oneCell') = true) : rel3 [] [] (.agg (l.map AV.lit)) (.agg l.toArray) :=
  ⟨l, rfl, by simp, fun i a b ha hb => by
    rw [List.getElem?_map, hb] at ha
    cases ha
    exact ⟨rfl, List.all_eq_true.1 h b (List.mem_of_getElem? hb)⟩⟩
end Go.Proofs.YtlmplfgnhibfcaaDoor
