/- The abstract logic, part C: slices that are made, appended to and cut; arithmetic, comparisons, conversions. -/
import Derived.Test.YtlmplfgnhibfcaaDoorAbsB
set_option linter.unusedVariables false
set_option linter.unusedSimpArgs false
namespace Go.Proofs.YtlmplfgnhibfcaaDoor.Abs
open Go Go.RowKit

section
variable {P : Program} {W0 : World} {ι : Loc} {σ : List Blk} {w : World} {K : Cont}

theorem getElem?_set_self' {α : Type} {l : List α} {i : Nat} {a b : α} (h : l[i]? = some a) : (l.set i b)[i]? = some b := by
  rw [List.getElem?_set]; simp [getElem?_lt h]

/-- A block of the model's own, of no further concern. -/
theorem HRel.garbage (h : HRel W0 ι σ w) (o : Obj) : HRel W0 ι σ (w.alloc o) := by
  refine ⟨h.below.alloc h.below.size o, h.len, h.inj, fun i c t hi => ?_, fun i B c t hB hi => ?_⟩
  · have := h.dom i c t hi
    exact ⟨this.1, Nat.lt_trans this.2 (by show w.heap.size < (w.heap.push _).size; simp)⟩
  · obtain ⟨vs, rest, h1, h2, h3, h4⟩ := h.blk i B c t hB hi
    refine ⟨vs, rest, ?_, h2, h3, h4⟩
    have hclt := (h.dom i c t hi).2
    show (w.heap.push _)[c]? = _
    rw [Array.getElem?_push_lt hclt, ← h1, Array.getElem?_eq_getElem hclt]

theorem Ext.bump {b : Nat} {B : Blk} {cs : List AV} {q : Nat × Nat} (hB : σ[b]? = some B) : Ext ι σ (ι.set b q) (σ.set b { B with cells := cs, ver := B.ver + 1, room := true }) := by
  refine ⟨by simp, fun j C C' hC hC' => ?_, fun j C C' hC hC' he => ?_⟩
  · rw [List.getElem?_set] at hC'
    split at hC'
    · rename_i hij
      subst hij
      rw [hB] at hC; cases hC
      split at hC' <;> cases hC'
      exact ⟨Nat.le_succ _, rfl, rfl⟩
    · rw [hC] at hC'; cases hC'; exact ⟨Nat.le_refl _, rfl, rfl⟩
  · rw [List.getElem?_set] at hC'
    split at hC'
    · rename_i hij
      subst hij
      rw [hB] at hC; cases hC
      split at hC' <;> cases hC'
      simp at he
    · rename_i hij
      rw [List.getElem?_set, if_neg hij]

/-- An own block is written anew at its place, one version on. -/
theorem HRel.writeV (h : HRel W0 ι σ w) {b : Nat} {B : Blk} {c t : Nat} (hB : σ[b]? = some B) (hi : ι[b]? = some (c, t))
    {cs : List AV} {vs rest : List Value} (hl : (vs ++ rest).length = t) (hc : Rels (crel ι σ) cs vs) :
    HRel W0 ι (σ.set b { B with cells := cs, ver := B.ver + 1, room := true }) (w.setRow c (vs ++ rest).toArray) ∧ Ext ι σ ι (σ.set b { B with cells := cs, ver := B.ver + 1, room := true }) := by
  have hx : Ext ι σ ι (σ.set b { B with cells := cs, ver := B.ver + 1, room := true }) := by
    have hq := Ext.bump (ι := ι) (cs := cs) (q := (c, t)) hB
    rwa [show ι.set b (c, t) = ι from by
      apply List.ext_getElem?; intro j; rw [List.getElem?_set]; split
      · rename_i e; subst e; rw [if_pos (getElem?_lt hi)]; exact hi.symm
      · rfl] at hq
  obtain ⟨vs0, rest0, h1, h2, h3, h4⟩ := h.blk b B c t hB hi
  have hcW := (h.dom b c t hi).1
  have hhp : (w.setRow c (vs ++ rest).toArray).heap[c]? = some (.cells (vs ++ rest).toArray B.e (0, 0)) := setRow_heap w c _ _ _ _ h1
  have hsz : (w.setRow c (vs ++ rest).toArray).heap.size = w.heap.size := by simp [World.setRow]
  have hoth : ∀ k, k ≠ c → (w.setRow c (vs ++ rest).toArray).heap[k]? = w.heap[k]? := fun k hk => by
    simp only [World.setRow, Array.getElem?_modify]
    rw [if_neg (fun e => hk e.symm)]
  refine ⟨⟨⟨h.below.os, h.below.tape, h.below.output, by rw [hsz]; exact h.below.size, fun k hk => (hoth k (by omega)).trans (h.below.block k hk)⟩, by simp [h.len], h.inj, fun j c' t' hj => by rw [hsz]; exact h.dom j c' t' hj, ?_⟩, hx⟩
  intro j C c' t' hC hj
  rw [List.getElem?_set] at hC
  split at hC
  · rename_i hij
    subst hij
    rw [hi] at hj; cases hj
    split at hC <;> cases hC
    exact ⟨vs, rest, hhp, hl, hc.mono fun _ _ => crel.mono hx, fun h => by cases h⟩
  · rename_i hij
    obtain ⟨vs', rest', k1, k2, k3, k4⟩ := h.blk j C c' t' hC hj
    have hne : c' ≠ c := fun e => hij (by subst e; exact h.inj b j c' t t' hi hj)
    exact ⟨vs', rest', (hoth c' hne).trans k1, k2, k3.mono fun _ _ => crel.mono hx, k4⟩

/-- An own block goes to a new place, one version on. -/
theorem HRel.relocate (h : HRel W0 ι σ w) {b : Nat} {B : Blk} (hB : σ[b]? = some B) {cs : List AV} {vs rest : List Value} (hc : Rels (crel ι σ) cs vs) :
    HRel W0 (ι.set b (w.heap.size, (vs ++ rest).length)) (σ.set b { B with cells := cs, ver := B.ver + 1, room := true }) (w.alloc (.cells (vs ++ rest).toArray B.e)) ∧
    Ext ι σ (ι.set b (w.heap.size, (vs ++ rest).length)) (σ.set b { B with cells := cs, ver := B.ver + 1, room := true }) := by
  have hx := Ext.bump (ι := ι) (cs := cs) (q := (w.heap.size, (vs ++ rest).length)) hB
  have hsz : w.heap.size < (w.alloc (.cells (vs ++ rest).toArray B.e)).heap.size := by show w.heap.size < (w.heap.push _).size; simp
  refine ⟨⟨h.below.alloc h.below.size _, by simp [h.len], ?_, ?_, ?_⟩, hx⟩
  · intro i j c t t' hi hj
    rw [List.getElem?_set] at hi hj
    split at hi <;> split at hj
    · omega
    · split at hi <;> cases hi
      have := (h.dom j _ t' hj).2
      omega
    · split at hj <;> cases hj
      have := (h.dom i _ t hi).2
      omega
    · exact h.inj i j c t t' hi hj
  · intro i c t hi
    rw [List.getElem?_set] at hi
    split at hi
    · split at hi <;> cases hi
      exact ⟨h.below.size, hsz⟩
    · have := h.dom i c t hi; exact ⟨this.1, Nat.lt_trans this.2 hsz⟩
  · intro j C c t hC hj
    rw [List.getElem?_set] at hC hj
    split at hC
    · rename_i hij
      rw [if_pos hij] at hj
      split at hC <;> cases hC
      split at hj <;> cases hj
      exact ⟨vs, rest, by show (w.heap.push _)[w.heap.size]? = _; simp, rfl, hc.mono fun _ _ => crel.mono hx, fun h => by cases h⟩
    · rename_i hij
      rw [if_neg hij] at hj
      obtain ⟨vs', rest', k1, k2, k3, k4⟩ := h.blk j C c t hC hj
      have hclt := (h.dom j c t hj).2
      refine ⟨vs', rest', ?_, k2, k3.mono fun _ _ => crel.mono hx, k4⟩
      show (w.heap.push _)[c]? = _
      rw [Array.getElem?_push_lt hclt, ← k1, Array.getElem?_eq_getElem hclt]

/-! ### append -/
/-- append of known cells to an own row that ends where its block's cells end -/
def appendW (P : Program) (t : TypeId) (s : AV) (m : Nat) (news : List AV) (σ : List Blk) (K : Cont) : Prop :=
  match sliceP P t, s with
  | some (e, esz, by_), .sl b ver off n _ =>
    ∃ B, σ[b]? = some B ∧ B.ver = ver ∧ off = 0 ∧ B.row = true ∧ B.e = e ∧ B.esz = esz ∧ 0 < esz ∧ n * esz = B.cells.length ∧ news.length = m * esz ∧ n + m ≤ maxLen ∧ (n + m) * by_ ≤ 140737488355328 ∧
      ∀ cap, n + m ≤ cap → cap ≤ maxLen → K (.sl b (ver + 1) 0 (n + m) cap) (σ.set b { B with cells := B.cells ++ news, ver := B.ver + 1, room := true })
  | some (e, esz, by_), .lit (.slice none 0 0) => 0 < esz ∧ news.length = m * esz ∧ m ≤ maxLen ∧ m * by_ ≤ 140737488355328 ∧ (m = 0 → K (.lit (.slice none 0 0)) σ) ∧
      (0 < m → ∀ cap, m ≤ cap → cap ≤ maxLen → K (.sl σ.length 0 0 m cap) (σ ++ [⟨news, 0, e, esz, true, true⟩]))
  | _, _ => False

theorem appendW_sound {t : TypeId} {sv : AV} {x : Value} {m : Nat} {news : List AV} (h : appendW P t sv m news σ K) (hh : HRel W0 ι σ w) (hr : rel3 ι σ sv x)
    (hz : ∀ e s b, sliceP P t = some (e, s, b) → ∃ z, zeroP P e = some z ∧ z.cells.size = s)
    {ad : Addr} {c : Nat} {vs : List Value} (hv : Rels (crel ι σ) news vs) (hat : ∀ (j : Nat) (u : Value), vs[j]? = some u → w.cell? (ad.add j) = some u) (ty : TypeId) :
    Yields P W0 ι σ w K (Builtin.append_ #[t, t] ty #[x, .slice (some ad) m c]) := by
  have hone : ∀ u ∈ vs, u.oneCell' = true := fun u hu => by
    obtain ⟨i, hi⟩ := List.getElem?_of_mem hu
    have hlt := getElem?_lt hi
    rw [← hv.1] at hlt
    exact (hv.2 i _ u (List.getElem?_eq_getElem hlt) hi).2
  unfold appendW at h
  split at h
  · rename_i e esz by_ b ver off n cap0 hs
    obtain ⟨B, hB, hver, rfl, hrow, rfl, hesz, hpos, hend, hnl, hml, hbytes, hk⟩ := h
    obtain ⟨cc, tt, hi, rfl, hnc, hcm, htot⟩ := slRel_now hr hB hver
    have ht : 0 < cap0 → cap0 * esz = tt := fun hp => by have := htot hrow hp; rw [Nat.zero_add, hesz] at this; exact this
    obtain ⟨i, hu, hii, hsz, hby⟩ := sliceP_inv hs
    obtain ⟨z, hzz, hzs⟩ := hz _ _ _ hs
    obtain ⟨i', hi', hz'⟩ := zero_info hzz
    rw [hii] at hi'; cases hi'
    subst hsz; subst hby
    obtain ⟨us, rest, hheap, htl, hrel, _⟩ := hh.blk b B cc tt hB hi
    have hul : us.length = n * i.size := by rw [← hrel.1]; exact hend.symm
    have hvl : vs.length = m * i.size := by rw [← hv.1]; exact hnl
    by_cases hroom : n + m ≤ cap0
    · have hfit : n * i.size + vs.length ≤ (us ++ rest).length := by
        rcases Nat.eq_zero_or_pos cap0 with h0 | h0
        · have hn0 : n = 0 := by omega
          have hm0 : m = 0 := by omega
          subst hn0; subst hm0
          rw [hvl]; omega
        · rw [htl, ← ht h0, hvl, ← Nat.add_mul]; exact Nat.mul_le_mul_right _ hroom
      have hrun := run_append_room (P := P) w t ty B.e i hu hii cc n cap0 (us ++ rest).toArray hheap ad m c vs hvl hat hone hroom (by simpa using hfit)
      have hsplit : (us ++ rest).take (n * i.size) ++ vs ++ (us ++ rest).drop (n * i.size + vs.length) = (us ++ vs) ++ rest.drop vs.length := by
        rw [← hul, List.take_left, List.drop_append]
        simp [List.append_assoc]
      simp only [hsplit] at hrun
      have hw := hh.writeV hB hi (cs := B.cells ++ news) (vs := us ++ vs) (rest := rest.drop vs.length) (by
        rw [← htl]; simp only [List.length_append, List.length_drop]
        have : n * i.size + vs.length ≤ us.length + rest.length := by simpa using hfit
        omega) (hrel.append hv)
      refine ⟨_, _, _, _, _, hrun, hk cap0 hroom hcm, hw.1, hw.2, ?_⟩
      exact ⟨_, getElem?_set_self' hB, by simp [hver], rfl, fun _ => ⟨cc, tt, hi, rfl, hroom, hcm, fun _ hp => by simp only [Nat.zero_add, hesz]; exact ht hp⟩⟩
    · have holds : ∀ (j : Nat) (u : Value), us[j]? = some u → w.cell? ((⟨cc, 0, none⟩ : Addr).add j) = some u := fun j u hj => by
        rw [cell?_own hheap, Nat.zero_add, List.getElem?_append_left (getElem?_lt hj)]; exact hj
      have hrun := run_append_grow (P := P) w t ty B.e i z hu hii hz' ⟨cc, 0, none⟩ n cap0 us hul holds ad m c vs hvl hat (by omega) (by simp only [maxLen] at hml; omega) (growslice_fits (by omega) hbytes)
      have hge := grownCap_ge w (n + m) cap0 B.e
      have hcm' : grownCap w (n + m) cap0 B.e ≤ maxLen := grownCap_le_maxLen w (n + m) cap0 B.e hml
      have hw := hh.drew.relocate hB (cs := B.cells ++ news) (vs := us ++ vs) (rest := (Builtin.zeroCells z.cells (grownCap w (n + m) cap0 B.e - (n + m))).toList) (hrel.append hv)
      have hcells : (us.toArray ++ vs.toArray ++ Builtin.zeroCells z.cells (grownCap w (n + m) cap0 B.e - (n + m))) = ((us ++ vs) ++ (Builtin.zeroCells z.cells (grownCap w (n + m) cap0 B.e - (n + m))).toList).toArray := by
        apply Array.ext'; simp
      rw [hcells] at hrun
      refine ⟨_, _, _, _, _, hrun, hk _ hge hcm', hw.1, hw.2, ?_⟩
      refine ⟨_, getElem?_set_self' hB, by simp [hver], rfl, fun _ => ⟨w.heap.size, _, getElem?_set_self' hi, rfl, hge, hcm', fun _ _ => ?_⟩⟩
      simp only [List.length_append, Array.length_toList, size_zeroCells, hzs, hul, hvl, Nat.zero_add, hesz]
      rw [← Nat.add_mul, ← Nat.add_mul]
      congr 1
      omega
  · rename_i e esz by_ hs
    obtain ⟨hpos, hnl, hml, hbytes, hk0, hk⟩ := h
    have e0 : x = .slice none 0 0 := hr
    subst e0
    obtain ⟨i, hu, hii, hsz, hby⟩ := sliceP_inv hs
    obtain ⟨z, hzz, hzs⟩ := hz _ _ _ hs
    obtain ⟨i', hi', hz'⟩ := zero_info hzz
    rw [hii] at hi'; cases hi'
    subst hsz; subst hby
    have hvl : vs.length = m * i.size := by rw [← hv.1]; exact hnl
    by_cases hm : m = 0
    · subst hm
      refine Yields.lit hh ?_ (hk0 rfl)
      simp [Builtin.append_, run_underlying hu, sizeOf, typeInfo, hii, Builtin.lenOf, Builtin.firstCells, loadCells, loadCellsFrom]
    · have hrun := run_append_nil (P := P) w t ty e i z hu hii hz' ad m c vs hvl hat (by omega) (by simp only [maxLen] at hml; omega) (by omega)
      have hge := grownCap_ge w m 0 e
      have hcm' : grownCap w m 0 e ≤ maxLen := grownCap_le_maxLen w m 0 e hml
      have hw := hh.drew.alloc (e := e) (esz := i.size) (row := true) (room := true) (rest := (Builtin.zeroCells z.cells (grownCap w m 0 e - m)).toList) hv (fun h => by cases h)
      have hcells : (vs.toArray ++ Builtin.zeroCells z.cells (grownCap w m 0 e - m)) = (vs ++ (Builtin.zeroCells z.cells (grownCap w m 0 e - m)).toList).toArray := by
        apply Array.ext'; simp
      rw [hcells] at hrun
      refine ⟨_, _, _, _, _, hrun, hk (by omega) _ hge hcm', hw.1, hw.2, ?_⟩
      refine ⟨_, by simp; rfl, Nat.le_refl _, rfl, fun _ => ⟨w.heap.size, _, by rw [← hh.len]; simp; rfl, rfl, hge, hcm', fun _ _ => ?_⟩⟩
      simp only [size_zeroCells, hzs, hvl, Nat.zero_add]
      rw [← Nat.add_mul]
      congr 1
      omega
  · exact h.elim

/-! ### slices that are made -/
theorem madeCells_toList (z : Array Value) : ∀ n : Nat, (madeCells z (n * z.size)).toList = (List.replicate n z.toList).flatten
  | 0 => by simp [madeCells]
  | n + 1 => by
    have ih := madeCells_toList z n
    simp only [madeCells, Array.toList_map, Array.toList_range] at ih ⊢
    rw [Nat.add_mul, Nat.one_mul, List.range_add, List.map_append, ih, List.replicate_succ', List.flatten_append]
    congr 1
    simp only [List.map_map, List.flatten_cons, List.flatten_nil, List.append_nil]
    apply List.ext_getElem
    · simp
    · intro j h1 h2
      simp only [List.length_map, List.length_range] at h1
      simp only [List.getElem_map, List.getElem_range, Function.comp_apply]
      rw [show (n * z.size + j) % z.size = j by rw [Nat.mul_comm, Nat.mul_add_mod, Nat.mod_eq_of_lt h1]]
      simp [h1]

/-- n times the same cells -/
def rep (n : Nat) (zc : List AV) : List AV := (List.replicate n zc).flatten
theorem rep_length (n : Nat) (zc : List AV) : (rep n zc).length = n * zc.length := by simp [rep]
theorem rep_rel {zc : List AV} {l : List Value} (h : Rels (crel ι σ) zc l) : ∀ n, Rels (crel ι σ) (rep n zc) (List.replicate n l).flatten
  | 0 => Rels.nil
  | n + 1 => by
    unfold rep
    rw [List.replicate_succ, List.replicate_succ, List.flatten_cons, List.flatten_cons]
    exact h.append (rep_rel h n)

def makeSliceW (P : Program) (t : TypeId) (l c : AV) (σ : List Blk) (K : Cont) : Prop :=
  match l, c with
  | .lit (.int _ l), .lit (.int _ c) => match sliceP P t with
    | some (e, esz, by_) => match zeroP P e with
      | some z => match cellsAV (ofV z) with
        | some zc => zc.length = esz ∧ 0 ≤ l ∧ l ≤ c ∧ (by_ : Int) * c ≤ 281474976710656 ∧ c ≤ 9223372036854775807 ∧ c.toNat ≤ maxLen ∧
            K (.sl σ.length 0 0 l.toNat c.toNat) (σ ++ [⟨rep c.toNat zc, 0, e, esz, true, true⟩])
        | none => False
      | none => False
    | none => False
  | _, _ => False
theorem makeSliceW_sound {t : TypeId} {lv cv : AV} {x y : Value} (h : makeSliceW P t lv cv σ K) (hh : HRel W0 ι σ w) (hl : rel3 ι σ lv x) (hc : rel3 ι σ cv y) : Yields P W0 ι σ w K (Instr.makeSlice t x y) := by
  unfold makeSliceW at h
  split at h
  · rename_i kl l kc c
    have e0 : x = .int kl l := hl
    have e1 : y = .int kc c := hc
    subst e0; subst e1
    split at h
    · rename_i e esz by_ hs
      split at h
      · rename_i z hz
        split at h
        · rename_i zc hzc
          obtain ⟨hzl, h0, hlc, hb, h63, hm, hk⟩ := h
          obtain ⟨i, hu, hii, hsz, hby⟩ := sliceP_inv hs
          obtain ⟨i', hi', hz'⟩ := zero_info hz
          rw [hii] at hi'; cases hi'
          subst hsz; subst hby
          have hzr : Rels (crel ι σ) zc z.cells.toList := crel_of_ofV hzc
          have hzs : z.cells.size = i.size := by have := hzr.1; simp at this; omega
          have hrun := run_make (P := P) w t e i z hu hii hz' kl kc l c h0 hlc hb h63
          have hmc : madeCells z.cells (c.toNat * i.size) = ((List.replicate c.toNat z.cells.toList).flatten ++ []).toArray := by
            apply Array.ext'
            rw [← hzs, madeCells_toList]; simp
          rw [hmc] at hrun
          have hw := hh.alloc (e := e) (esz := i.size) (row := true) (room := true) (rest := []) (rep_rel hzr c.toNat) (fun _ => rfl)
          refine ⟨_, _, _, _, _, hrun, hk, hw.1, hw.2, ?_⟩
          refine ⟨_, by simp; rfl, Nat.le_refl _, rfl, fun _ => ⟨w.heap.size, _, by rw [← hh.len]; simp; rfl, rfl, by omega, hm, fun _ _ => ?_⟩⟩
          simp [hzs]
        · exact h.elim
      · exact h.elim
    · exact h.elim
  · exact h.elim

def buildSliceW (P : Program) (fr : Operand → AV) (t : TypeId) (len : Nat) (parts : Array (Nat × Operand)) (σ : List Blk) (K : Cont) : Prop :=
  match sliceP P t with
  | some (e, esz, _) => match zeroP P e with
    | some z => match cellsAV (ofV z) with
      | some zc => zc.length = esz ∧ 0 < esz ∧ len * esz ≤ 16777216 ∧ len ≤ 16777216 ∧ match fillA (fun i => some (i * esz, esz)) (rep len zc) (partsA fr parts) with
        | some cs => K (.sl σ.length 0 0 len len) (σ ++ [⟨cs, 0, e, esz, true, true⟩])
        | none => False
      | none => False
    | none => False
  | none => False

theorem fillA_length (place : Nat → Option (Nat × Nat)) : ∀ (parts : List (Nat × AV)) (cells out : List AV), fillA place cells parts = some out → out.length = cells.length
  | [], cells, out, h => by simp only [fillA] at h; cases h; rfl
  | (i, v) :: rest, cells, out, h => by
    simp only [fillA] at h
    split at h
    · split at h
      · rename_i hc
        have := fillA_length place rest _ out h
        rw [this]
        simp only [List.length_append, List.length_take, List.length_drop]
        omega
      · cases h
    · cases h

/-- the row that a composite literal lays: its cells, and the world -/
theorem run_buildSlice_own {fr : Operand → AV} {ρ : Operand → Value} {t : TypeId} {len : Nat} {parts : Array (Nat × Operand)} {e esz by_ : Nat} {z : Value} {zc cs : List AV} (hs : sliceP P t = some (e, esz, by_)) (hz : zeroP P e = some z)
    (hzc : cellsAV (ofV z) = some zc) (hzl : zc.length = esz) (hle : len * esz ≤ 16777216) (hf : fillA (fun i => some (i * esz, esz)) (rep len zc) (partsA fr parts) = some cs) (hr : ∀ x, rel3 ι σ (fr x) (ρ x)) (w : World) :
    ∃ us : List Value, us.length = len * esz ∧ Rels (crel ι σ) cs us ∧ (Instr.buildSlice t len (parts.map fun (i, x) => (i, ρ x))).run P w = .ok (.slice (some ⟨w.heap.size, 0, none⟩) len len) (w.alloc (.cells us.toArray e)) := by
  obtain ⟨i, hu, hii, hsz, hby⟩ := sliceP_inv hs
  subst hsz
  have hzr : Rels (crel ι σ) zc z.cells.toList := crel_of_ofV hzc
  have hzs : z.cells.size = i.size := by have := hzr.1; simp at this; omega
  obtain ⟨us, h1, h2⟩ := fillA_sound (σ := σ) (ι := ι) _ _ _ _ (madeCells z.cells (len * i.size)) _ hf (partsA_rel hr parts) (by rw [← hzs, madeCells_toList]; exact rep_rel hzr len)
  have hss : szP P e = some i.size := by simp [szP, hii]
  refine ⟨us.toList, ?_, h2, ?_⟩
  · rw [← h2.1, fillA_length _ _ _ _ hf, rep_length, hzl]
  · by_cases hn : len * i.size = 0
    · have hmz : madeCells z.cells (len * i.size) = #[] := by rw [hn]; simp [madeCells]
      rw [hmz] at h1
      have h0 : ∀ f : Nat → Value, (Array.range 0).map f = #[] := fun f => by simp [Array.range_zero']
      have hng : ¬ 2 ^ 24 < 0 := by omega
      simp only [Instr.buildSlice, Sem.run_bind, run_underlying hu, Result.andThen_ok, run_sizeOf hss, hn, gt_iff_lt, hng, if_false, if_true, Sem.run_pure, h0, h1]
      simp [newRow, newObj, Sem.run]
    · have hgt : ¬ 2 ^ 24 < len * i.size := by omega
      have hfun : ((Array.range (len * i.size)).map (z.cells[· % z.cells.size]!)) = madeCells z.cells (len * i.size) := rfl
      simp only [Instr.buildSlice, Sem.run_bind, run_underlying hu, Result.andThen_ok, run_sizeOf hss, gt_iff_lt, hgt, if_false, hn, run_zeroValue hz, Sem.run_pure, hfun, h1]
      simp [newRow, newObj, Sem.run]

theorem buildSliceW_sound {fr : Operand → AV} {ρ : Operand → Value} {t : TypeId} {len : Nat} {parts : Array (Nat × Operand)} (h : buildSliceW P fr t len parts σ K) (hh : HRel W0 ι σ w) (hr : ∀ x, rel3 ι σ (fr x) (ρ x)) :
    Yields P W0 ι σ w K (Instr.buildSlice t len (parts.map fun (i, x) => (i, ρ x))) := by
  unfold buildSliceW at h
  split at h
  · rename_i e esz by_ hs
    split at h
    · rename_i z hz
      split at h
      · rename_i zc hzc
        obtain ⟨hzl, hpos, hle, hlen, h⟩ := h
        split at h
        · rename_i cs hf
          obtain ⟨us, hul, hrel, hrun⟩ := run_buildSlice_own (P := P) hs hz hzc hzl hle hf hr w
          have hw := hh.alloc (e := e) (esz := esz) (row := true) (room := true) (rest := []) hrel (fun _ => rfl)
          simp only [List.append_nil] at hw
          refine ⟨_, _, _, _, _, hrun, h, hw.1, hw.2, ?_⟩
          refine ⟨_, by simp; rfl, Nat.le_refl _, rfl, fun _ => ⟨w.heap.size, _, by rw [← hh.len]; simp; rfl, rfl, Nat.le_refl _, by simp only [maxLen]; omega, fun _ _ => ?_⟩⟩
          rw [Nat.zero_add, hul]
        · exact h.elim
      · exact h.elim
    · exact h.elim
  · exact h.elim

/-- 'append(s, x1, .., xm)': the row of the new elements is of no further concern. -/
def appendLitW (P : Program) (fr : Operand → AV) (t : TypeId) (s : AV) (len : Nat) (parts : Array (Nat × Operand)) (σ : List Blk) (K : Cont) : Prop :=
  match sliceP P t with
  | some (e, esz, _) => match zeroP P e with
    | some z => match cellsAV (ofV z) with
      | some zc => zc.length = esz ∧ len * esz ≤ 16777216 ∧ match fillA (fun i => some (i * esz, esz)) (rep len zc) (partsA fr parts) with
        | some cs => appendW P t s len cs σ K
        | none => False
      | none => False
    | none => False
  | none => False
theorem appendLitW_sound {fr : Operand → AV} {ρ : Operand → Value} {t : TypeId} {len : Nat} {parts : Array (Nat × Operand)} {sv : AV} {x : Value} (h : appendLitW P fr t sv len parts σ K) (hh : HRel W0 ι σ w) (hr : ∀ x, rel3 ι σ (fr x) (ρ x)) (hx : rel3 ι σ sv x) (ty : TypeId) :
    ∃ w1 y, (Instr.buildSlice t len (parts.map fun (i, x) => (i, ρ x))).run P w = .ok y w1 ∧ Yields P W0 ι σ w1 K (Builtin.append_ #[t, t] ty #[x, y]) := by
  unfold appendLitW at h
  split at h
  · rename_i e esz by_ hs
    split at h
    · rename_i z hz
      split at h
      · rename_i zc hzc
        obtain ⟨hzl, hle, h⟩ := h
        split at h
        · rename_i cs hf
          obtain ⟨us, hul, hrel, hrun⟩ := run_buildSlice_own (P := P) hs hz hzc hzl hle hf hr w
          refine ⟨_, _, hrun, appendW_sound h (hh.garbage _) hx (fun e' s' b' hs' => ?_) (ad := ⟨w.heap.size, 0, none⟩) hrel (fun j u hj => ?_) ty⟩
          · rw [hs] at hs'; cases hs'
            have hzr : Rels (crel ι σ) zc z.cells.toList := crel_of_ofV hzc
            exact ⟨z, hz, by have := hzr.1; simp at this; omega⟩
          · rw [cell?_own (cs := us) (e := e) (by show (w.heap.push _)[w.heap.size]? = _; simp), Nat.zero_add]; exact hj
        · exact h.elim
      · exact h.elim
    · exact h.elim
  · exact h.elim

end
end Go.Proofs.YtlmplfgnhibfcaaDoor.Abs
