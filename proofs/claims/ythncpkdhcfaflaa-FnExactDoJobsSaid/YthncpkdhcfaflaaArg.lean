/- From a contract to the statement: slices that came in. -/
import Derived.Test.YthncpkdhcfaflaaLift2
import Derived.Deep.Slices
set_option linter.unusedVariables false
set_option linter.unusedSimpArgs false
namespace Go.Proofs.Ythncpkdhcfaflaa
open Go Go.RowKit Go.Proofs.Ythncpkdhcfaflaa.Abs Go.ChangeShapes Go.WideShapes
/-- of which kind a cell of a type is -/
def kindT (P : Program) : Nat → TypeId → Nat → Nat
  | 0, _, _ => 9
  | d + 1, t, j => match P.underlying t with
    | some (.struct fs) => match fs.toList.find? (fun f => decide (f.offset ≤ j) && decide (j < f.offset + P.cellsOf f.type)) with
      | some f => kindT P d f.type (j - f.offset)
      | none => 9
    | some (.array n e) => if 0 < P.cellsOf e ∧ j / P.cellsOf e < n then kindT P d e (j % P.cellsOf e) else 9
    | u => kOf u
section
variable {H : Type} {enc : TypeId × Value → H} {P : Program} {w : World} {base : Nat} {spare : Nat → Bool} {held : Bool}
theorem okK_trod : ∀ (d : Nat) (t : TypeId) (fuel : Nat) (cs : List Value) (x : DataW H × List MemPlace) (j : Nat) (v : Value), DataW.trod enc P w base spare held fuel t cs = some x → cs[j]? = some v → okK (kindT P d t j) v
  | 0, _, _, _, _, _, _, _, _ => trivial
  | d + 1, t, fuel, cs, x, j, v, h, hj => by
    unfold kindT
    cases hu : P.underlying t with
    | none => exact trivial
    | some u =>
      cases u with
      | struct fs =>
        dsimp only
        cases hf : fs.toList.find? (fun f => decide (f.offset ≤ j) && decide (j < f.offset + P.cellsOf f.type)) with
        | none => exact trivial
        | some f =>
          dsimp only
          have h1 := List.find?_some hf
          simp only [Bool.and_eq_true, decide_eq_true_eq] at h1
          obtain ⟨i, hi⟩ := List.mem_iff_getElem?.1 (List.mem_of_find?_eq_some hf)
          obtain ⟨xs, n, rfl, rfl, hl, hxl, hall⟩ := DataW.trod_struct hu h
          have hi' : fs[i]? = some f := by simpa using hi
          have h2 := hall i f hi'
          have hlt : i < xs.length := by rw [hxl]; simpa using (getElem?_lt hi)
          rw [List.getElem?_eq_getElem hlt] at h2
          refine okK_trod d f.type n _ _ (j - f.offset) v h2 ?_
          rw [List.getElem?_take, if_pos (by omega), List.getElem?_drop, show f.offset + (j - f.offset) = j by omega]
          exact hj
      | array n e =>
        dsimp only
        split
        · rename_i hlt
          obtain ⟨xs, m, rfl, rfl, hl, hxl, hall⟩ := DataW.trod_array hu h
          have h2 := hall _ hlt.2
          rw [List.getElem?_eq_getElem (by rw [hxl]; exact hlt.2)] at h2
          refine okK_trod d e m _ _ (j % P.cellsOf e) v h2 ?_
          rw [List.getElem?_take, if_pos (Nat.mod_lt _ hlt.1), List.getElem?_drop, show j / P.cellsOf e * P.cellsOf e + j % P.cellsOf e = j by rw [Nat.mul_comm]; exact Nat.div_add_mod _ _]
          exact hj
        · exact trivial
      | int k =>
        cases k with
        | i64 =>
          obtain ⟨n, rfl, rfl, hw⟩ := DataW.trod_int hu h
          cases j with
          | zero =>
            simp at hj; subst hj
            simp only [Lit.wf, Bool.and_eq_true, decide_eq_true_eq] at hw
            exact ⟨n, rfl, hw⟩
          | succ j => simp at hj
        | _ => exact trivial
      | string =>
        obtain ⟨s, rfl, rfl, hs⟩ := DataW.trod_string hu h
        cases j with
        | zero =>
          simp at hj; subst hj
          exact ⟨s, rfl, hs⟩
        | succ j => simp at hj
      | bool =>
        obtain ⟨b, rfl, rfl⟩ := DataW.trod_bool hu h
        cases j with
        | zero =>
          simp at hj; subst hj
          exact ⟨b, rfl⟩
        | succ j => simp at hj
      | _ => exact trivial
theorem shape_lt {b : Nat} {r : TypeId × Nat} (h : w.shape? b = some r) : b < w.heap.size := by
  unfold World.shape? at h
  cases hb : w.heap[b]? with
  | none => rw [hb] at h; simp at h
  | some o => exact (Array.getElem?_eq_some_iff.1 hb).1
/-- the ints of an element's cells -/
def intsOf (cs : List Value) : List Int := cs.map fun v => match v with | .int _ m => m | _ => 0
theorem intsOf_map {cs : List Value} (h : ∀ v ∈ cs, ∃ m, v = Value.int .i64 m ∧ IntKind.i64.has m) : (intsOf cs).map (Value.int .i64) = cs ∧ ∀ n ∈ intsOf cs, IntKind.i64.has n := by
  induction cs with
  | nil => exact ⟨rfl, fun n hn => by cases hn⟩
  | cons v cs ih =>
    obtain ⟨m, rfl, hm⟩ := h v List.mem_cons_self
    obtain ⟨h1, h2⟩ := ih fun v hv => h v (List.mem_cons_of_mem _ hv)
    refine ⟨by show Value.int .i64 m :: (intsOf cs).map _ = _; rw [h1], fun n hn => ?_⟩
    rcases List.mem_cons.1 hn with rfl | hn
    · exact hm
    · exact h2 n hn
abbrev encL (l : List Int) : List Value := l.map (Value.int .i64)
theorem sli_arg {t e : TypeId} {s fuel : Nat} {v : Value} {x : DataW H × List MemPlace} {b0 : Nat} (ht : P.underlying t = some (.slice e)) (hs : P.cellsOf e = s) (hk : ∀ j, j < s → kindT P 20 e j = 0) (hv : Value.okWide P w .any b0 t v)
    (h : DataW.trod enc P w base spare held fuel t [v] = some x) : ∃ xs : List (List Int), Sli w [] s encL (.lit v) xs ∧ ∀ x ∈ xs, x.length = s ∧ ∀ n ∈ x, IntKind.i64.has n := by
  rcases Deep.open_slice ht h with ⟨hc, _⟩ | ⟨a, len, cap, m, n, D, Pl, hc, hb, hl, hm, hmm, rfl, hx⟩
  · cases hc
    exact ⟨[], .nil, fun x hx => by cases hx⟩
  · cases hc
    have hlm : len ≤ m := by rw [hmm]; split <;> omega
    have hblk : a.block < w.heap.size := by
      unfold Value.okWide at hv
      rw [ht] at hv
      unfold Cell.okWide at hv
      rw [ht] at hv
      unfold Cell.ok at hv
      rw [ht] at hv
      obtain ⟨_, _, _, _, row, cells, hsh, _⟩ := hv
      exact shape_lt hsh
    have hel : ∀ i, i < len → ∃ l : List Int, l.length = s ∧ (∀ n ∈ l, IntKind.i64.has n) ∧ ∀ (j : Nat) (v : Value), (encL l)[j]? = some v → w.cell? ((a.add (i * s)).add j) = some v ∧ v.oneCell' = true := by
      intro i hi
      obtain ⟨cs', h1, h2⟩ := hx i (by omega)
      rw [hs] at h1
      obtain ⟨_, hlen, hcell⟩ := World.cells?_some h1
      have hall : ∀ v ∈ cs', ∃ m, v = Value.int .i64 m ∧ IntKind.i64.has m := by
        intro v hv
        obtain ⟨j, hj⟩ := List.mem_iff_getElem?.1 hv
        have := okK_trod 20 e n cs' _ j v h2 hj
        rw [hk j (by have := getElem?_lt hj; omega)] at this
        exact this
      obtain ⟨h3, h4⟩ := intsOf_map hall
      refine ⟨intsOf cs', by simp [intsOf, hlen], h4, fun j v hj => ?_⟩
      rw [show encL (intsOf cs') = cs' from h3] at hj
      refine ⟨by rw [hcell j (by have := getElem?_lt hj; omega)]; exact hj, ?_⟩
      obtain ⟨m', rfl, _⟩ := hall v (List.mem_of_getElem? hj)
      rfl
    obtain ⟨f, hf⟩ := Deep.choose_lt (α := List Int) hel
    refine ⟨(List.range len).map f, .inn a len cap _ (by simp) hl hm hblk ?_, ?_⟩
    · intro i x hi j v hj
      rw [List.getElem?_map, Option.map_eq_some_iff] at hi
      obtain ⟨i', hi', rfl⟩ := hi
      have hi2 : i' = i ∧ i < len := by
        have h5 := getElem?_lt hi'
        rw [List.length_range] at h5
        rw [List.getElem?_range h5] at hi'
        exact ⟨(Option.some.inj hi').symm, h5⟩
      obtain ⟨rfl, h6⟩ := hi2
      exact (hf i' h6).2.2 j v hj
    · intro x hx'
      obtain ⟨i, hi, rfl⟩ := List.mem_map.1 hx'
      have h6 := List.mem_range.1 hi
      exact ⟨(hf i h6).1, (hf i h6).2.1⟩
theorem sli_max {s : Nat} {a : AV} {xs : List (List Int)} (h : Sli w [] s encL a xs) : xs.length ≤ maxLen := by
  cases h with
  | nil => exact Nat.zero_le _
  | inn ad n cap xs hn hc hm hb hx => omega
  | own b ver off n cap B xs hB => simp at hB
theorem sli_argT {t e : TypeId} {s : Nat} {v : Value} {d : DataW H} {ps : List MemPlace} {b0 : Nat} (ht : P.underlying t = some (.slice e)) (hs : P.cellsOf e = s) (hk : ∀ j, j < s → kindT P 20 e j = 0) (hv : Value.okWide P w .any b0 t v)
    (h : DataW.Trod enc P w base spare held t v d ps) : ∃ xs : List (List Int), Sli w [] s encL (.lit v) xs ∧ (∀ x ∈ xs, x.length = s ∧ ∀ n ∈ x, IntKind.i64.has n) ∧ xs.length ≤ maxLen := by
  obtain ⟨fuel, h⟩ := h
  have hc : v.cells.toList = [v] := by
    unfold Value.okWide at hv
    rw [ht] at hv
    unfold Cell.okWide at hv
    rw [ht] at hv
    unfold Cell.ok at hv
    rw [ht] at hv
    cases v <;> first | rfl | exact hv.elim
  rw [hc] at h
  obtain ⟨xs, h1, h2⟩ := sli_arg ht hs hk hv h
  exact ⟨xs, h1, h2, sli_max h1⟩
end
end Go.Proofs.Ythncpkdhcfaflaa
