/- The abstract logic, part B: what each operation does to abstract values and own blocks, and that the model's operation does it. -/
import Derived.Test.YtlmplfgnhibfcaaDoorAbsA
set_option linter.unusedVariables false
set_option linter.unusedSimpArgs false
namespace Go.Proofs.YtlmplfgnhibfcaaDoor.Abs
open Go Go.RowKit

def szP (P : Program) (t : TypeId) : Option Nat := (P.info? t).map (·.size)
def byP (P : Program) (t : TypeId) : Option Nat := (P.info? t).map (·.bytes)
def zeroP (P : Program) (t : TypeId) : Option Value := (P.info? t).bind (·.zero)
def isAggD : TypeDesc → Bool
  | .struct _ | .array _ _ => true
  | _ => false
def aggP (P : Program) (t : TypeId) : Option Bool := (P.underlying t).map isAggD
/-- the offset of a field, and its size (0: not served) -/
def fieldP (P : Program) (s : TypeId) (i : Nat) : Option (Nat × Nat × Bool) :=
  match P.underlying s with
  | some (.struct fs) => match fs[i]? with
    | some f => match szP P f.type, aggP P f.type with
      | some n, some g => some (f.offset, n, g)
      | _, _ => none
    | none => none
  | _ => none

def ofV : Value → AV
  | .agg cs => if cs.all (·.oneCell') then .agg (cs.toList.map .lit) else .junk
  | v => .lit v

def mkAV (g : Bool) (cs : List AV) : AV := if g then .agg cs else cs.headD .junk
def cellsAV : AV → Option (List AV)
  | .agg cs => some cs
  | .junk | .tup _ => none
  | .lit v => if v.oneCell' then some [.lit v] else none
  | v => some [v]

abbrev Cont := AV → List Blk → Prop

/-- What a computation of the model leaves: a value and blocks of which K holds. -/
def Yields (P : Program) (W0 : World) (ι : Loc) (σ : List Blk) (w : World) (K : Cont) (s : Sem Value) : Prop :=
  ∃ v w' ι' σ' av, s.run P w = .ok v w' ∧ K av σ' ∧ HRel W0 ι' σ' w' ∧ Ext ι σ ι' σ' ∧ rel3 ι' σ' av v

section
variable {P : Program} {W0 : World} {ι : Loc} {σ : List Blk} {w : World} {K : Cont}

theorem rel3_ofV (v : Value) : rel3 ι σ (ofV v) v := by
  cases v <;> try exact rfl
  rename_i cs
  unfold ofV
  dsimp only
  split
  · rename_i h
    refine ⟨cs.toList, by simp, by simp, fun i a b ha hb => ?_⟩
    rw [List.getElem?_map, hb] at ha
    simp at ha; subst ha
    exact ⟨rfl, (Array.all_eq_true_iff_forall_mem.1 h) b (by simpa using List.mem_of_getElem? hb)⟩
  · exact trivial

/-- The same where the world stays as it is. -/
def Yields0 (P : Program) (ι : Loc) (σ : List Blk) (w : World) (K : Cont) (s : Sem Value) : Prop := ∃ v av, s.run P w = .ok v w ∧ K av σ ∧ rel3 ι σ av v
theorem Yields0.lit {s : Sem Value} {v : Value} (h : s.run P w = .ok v w) (hk : K (.lit v) σ) : Yields0 P ι σ w K s := ⟨v, _, h, hk, rfl⟩
theorem Yields0.same {s : Sem Value} {v : Value} {av : AV} (h : s.run P w = .ok v w) (hk : K av σ) (hr : rel3 ι σ av v) : Yields0 P ι σ w K s := ⟨v, av, h, hk, hr⟩
theorem Yields0.to {s : Sem Value} (h : Yields0 P ι σ w K s) (hh : HRel W0 ι σ w) : Yields P W0 ι σ w K s :=
  let ⟨v, av, h1, h2, h3⟩ := h; ⟨v, w, ι, σ, av, h1, h2, hh, Ext.refl _ _, h3⟩
theorem Yields.lit {s : Sem Value} {v : Value} (hh : HRel W0 ι σ w) (h : s.run P w = .ok v w) (hk : K (.lit v) σ) : Yields P W0 ι σ w K s :=
  ⟨v, w, ι, σ, _, h, hk, hh, Ext.refl _ _, rfl⟩
theorem Yields.same {s : Sem Value} {v : Value} {av : AV} (hh : HRel W0 ι σ w) (h : s.run P w = .ok v w) (hk : K av σ) (hr : rel3 ι σ av v) : Yields P W0 ι σ w K s :=
  ⟨v, w, ι, σ, av, h, hk, hh, Ext.refl _ _, hr⟩

theorem rel3_of_crel {v : AV} {x : Value} (h : crel ι σ v x) : rel3 ι σ v x := by
  obtain ⟨h, h1⟩ := h
  cases v <;> first | exact h | exact h.elim

theorem cellsAV_rel {av : AV} {x : Value} {cs : List AV} (hc : cellsAV av = some cs) (hr : rel3 ι σ av x) : Rels (crel ι σ) cs x.cells.toList := by
  cases av with
  | junk => simp [cellsAV] at hc
  | tup vs => simp [cellsAV] at hc
  | agg l =>
    simp [cellsAV] at hc; subst hc
    obtain ⟨m, rfl, h⟩ := hr
    simpa [Value.cells] using h
  | lit v =>
    simp only [cellsAV] at hc
    split at hc
    · rename_i h1
      cases hc
      have e : x = v := hr
      subst e
      have hx : x.cells = #[x] := by cases x <;> first | rfl | simp [Value.oneCell'] at h1
      rw [hx]
      exact Rels.cons ⟨rfl, h1⟩ Rels.nil
    · cases hc
  | ptr b ver off =>
    simp [cellsAV] at hc; subst hc
    obtain ⟨B, h1, h2, h3, h4⟩ := hr
    have hx : x.cells = #[x] := by cases x <;> first | rfl | simp [Value.oneCell'] at h3
    rw [hx]
    exact Rels.cons ⟨⟨B, h1, h2, h3, h4⟩, h3⟩ Rels.nil
  | sl b ver off len cap =>
    simp [cellsAV] at hc; subst hc
    obtain ⟨B, h1, h2, h3, h4⟩ := hr
    have hx : x.cells = #[x] := by cases x <;> first | rfl | simp [Value.oneCell'] at h3
    rw [hx]
    exact Rels.cons ⟨⟨B, h1, h2, h3, h4⟩, h3⟩ Rels.nil
  | fn f first caps =>
    simp [cellsAV] at hc; subst hc
    obtain ⟨l1, l2, e, h1, h2⟩ := hr
    subst e
    exact Rels.cons ⟨⟨l1, l2, rfl, h1, h2⟩, rfl⟩ Rels.nil

/-! ### load -/
def loadW (P : Program) (W0 : World) (t : TypeId) (a : AV) (σ : List Blk) (K : Cont) : Prop :=
  match szP P t, aggP P t, a with
  | some s, some g, .ptr b ver off => ∃ B, σ[b]? = some B ∧ B.ver = ver ∧ off + s ≤ B.cells.length ∧ (g = false → s = 1) ∧ K (mkAV g ((B.cells.drop off).take s)) σ
  | some s, some g, .lit (.pointer (some ad)) => ∃ cs : List Value, cs.length = s ∧ (g = false → s = 1) ∧ (∀ (j : Nat) (v : Value), cs[j]? = some v → W0.cell? (ad.add j) = some v ∧ v.oneCell' = true) ∧ ad.block < W0.heap.size ∧ K (mkAV g (cs.map .lit)) σ
  | _, _, _ => False

theorem info_of_sz {t : TypeId} {s : Nat} (h : szP P t = some s) : ∃ i, P.info? t = some i ∧ i.size = s := by
  unfold szP at h
  exact Option.map_eq_some_iff.1 h
theorem run_sizeOf {t : TypeId} {s : Nat} (h : szP P t = some s) (w : World) : (sizeOf t).run P w = .ok s w := by
  obtain ⟨i, hi, rfl⟩ := info_of_sz h
  simp [sizeOf, typeInfo, hi]
theorem run_isAgg {t : TypeId} {g : Bool} (h : aggP P t = some g) (w : World) : (isAgg t).run P w = .ok g w := by
  unfold aggP at h
  obtain ⟨d, hd, rfl⟩ := Option.map_eq_some_iff.1 h
  simp only [isAgg, Sem.run_bind, run_underlying hd, Result.andThen_ok]
  cases d <;> rfl

theorem run_loadVar_cells {t : TypeId} {g : Bool} {ad : Addr} {cs : List Value} (hs : szP P t = some cs.length) (hg : aggP P t = some g) (h1 : g = false → cs.length = 1)
    (hc : ∀ (j : Nat) (v : Value), cs[j]? = some v → w.cell? (ad.add j) = some v) :
    (loadVar t ad).run P w = .ok (if g then .agg cs.toArray else cs.headD undef) w := by
  simp only [loadVar, Sem.run_bind, run_isAgg hg, Result.andThen_ok]
  cases g with
  | true => simp only [if_true, Sem.run_bind, run_sizeOf hs, Result.andThen_ok, run_loadCells_list w ad cs hc, Sem.run_pure]
  | false =>
    have := h1 rfl
    match cs, this with
    | [v], _ =>
      have h0 := hc 0 v rfl
      simp only [Addr.add, if_true] at h0
      simp [run_load, h0]

theorem cell?_own {c : Nat} {cs : List Value} {e : TypeId} {off : Nat} (h : w.heap[c]? = some (.cells cs.toArray e (0, 0))) (j : Nat) :
    w.cell? ((⟨c, off, none⟩ : Addr).add j) = cs[off + j]? := by
  have : (⟨c, off, none⟩ : Addr).add j = ⟨c, off + j, none⟩ := by unfold Addr.add; split <;> simp_all
  rw [this]
  simp [World.cell?, h]

theorem loadW_sound {t : TypeId} {av : AV} {x : Value} (h : loadW P W0 t av σ K) (hh : HRel W0 ι σ w) (hr : rel3 ι σ av x) : Yields0 P ι σ w K (Instr.loadAt t x) := by
  unfold loadW at h
  split at h
  · rename_i s g b ver off hs hg
    obtain ⟨B, hB, hv, hlen, h1, hk⟩ := h
    obtain ⟨B', hB', hle, hone, hp⟩ := hr
    rw [hB] at hB'; cases hB'
    obtain ⟨c, tt, hi, rfl⟩ := hp hv.symm
    obtain ⟨vs, rest, hheap, _, hrel, _⟩ := hh.blk b B c tt hB hi
    have hl : vs.length = B.cells.length := hrel.1.symm
    have hcs : ((vs.drop off).take s).length = s := by simp; omega
    have hrun := run_loadVar_cells (P := P) (w := w) (ad := ⟨c, off, none⟩) (cs := (vs.drop off).take s) (by rw [hcs]; exact hs) hg (by rw [hcs]; exact h1) (fun j v hj => by
      rw [cell?_own hheap]
      rw [List.getElem?_take] at hj
      split at hj
      · rw [List.getElem?_drop] at hj
        rw [List.getElem?_append_left (getElem?_lt hj)]; exact hj
      · cases hj)
    refine Yields0.same (by simpa only [Instr.loadAt, Instr.sureAddr, Sem.run_bind, Sem.run_pure, Result.andThen_ok] using hrun) hk ?_
    have hrr := (hrel.drop off).take s
    cases g with
    | true => exact ⟨_, rfl, hrr⟩
    | false =>
      obtain rfl := h1 rfl
      match hcv : (vs.drop off).take 1, hcs, hrr with
      | [v], _, hrr =>
        match hca : (B.cells.drop off).take 1, hrr with
        | [a], hrr =>
          have := hrr.2 0 a v rfl rfl
          simp only [mkAV, Bool.false_eq_true, if_false, List.headD_cons]
          exact rel3_of_crel this
        | [], hrr => have := hrr.1; simp at this
        | _ :: _ :: _, hrr => have := hrr.1; simp at this
  · rename_i s g ad hs hg
    obtain ⟨cs, rfl, h1, hc, hlt, hk⟩ := h
    have e : x = .pointer (some ad) := hr
    subst e
    have hcell : ∀ (j : Nat) (v : Value), cs[j]? = some v → w.cell? (ad.add j) = some v := fun j v hj => by
      rw [← (hc j v hj).1]
      have hb : (ad.add j).block = ad.block := by unfold Addr.add; split <;> rfl
      exact hh.below.cell (by rw [hb]; exact hlt)
    have hrun := run_loadVar_cells (P := P) (w := w) (ad := ad) hs hg h1 hcell
    refine Yields0.same (by simpa only [Instr.loadAt, Instr.sureAddr, Sem.run_bind, Sem.run_pure, Result.andThen_ok] using hrun) hk ?_
    have hrel : Rels (crel ι σ) (cs.map .lit) cs := ⟨by simp, fun i a b ha hb => by
      rw [List.getElem?_map, hb] at ha
      simp at ha; subst ha
      exact ⟨rfl, (hc i b hb).2⟩⟩
    cases g with
    | true => exact ⟨_, rfl, hrel⟩
    | false =>
      match cs, h1 rfl with
      | [v], _ => rfl
  · exact h.elim

/-! ### store -/
def storeW (P : Program) (t : TypeId) (a v : AV) (σ : List Blk) (K : Cont) : Prop :=
  match szP P t, a, cellsAV v with
  | some s, .ptr b ver off, some cs => ∃ B, σ[b]? = some B ∧ B.ver = ver ∧ cs.length = s ∧ off + s ≤ B.cells.length ∧ K (.lit undef) (σ.set b { B with cells := B.cells.take off ++ cs ++ B.cells.drop (off + s) })
  | _, _, _ => False

theorem storeW_sound {t : TypeId} {av vv : AV} {x y : Value} (h : storeW P t av vv σ K) (hh : HRel W0 ι σ w) (hr : rel3 ι σ av x) (hv : rel3 ι σ vv y) :
    ∃ w' ι' σ', (Instr.storeAt t x y).run P w = .ok () w' ∧ K (.lit undef) σ' ∧ HRel W0 ι' σ' w' ∧ Ext ι σ ι' σ' := by
  unfold storeW at h
  split at h
  · rename_i s b ver off cs hs hc
    obtain ⟨B, hB, hver, hlen, hoff, hk⟩ := h
    obtain ⟨B', hB', hle, hone, hp⟩ := hr
    rw [hB] at hB'; cases hB'
    obtain ⟨c, tt, hi, rfl⟩ := hp hver.symm
    obtain ⟨vs, rest, hheap, htot, hrel, hroom⟩ := hh.blk b B c tt hB hi
    have hcr := cellsAV_rel hc hv
    have hyl : y.cells.toList.length = s := by rw [← hcr.1]; exact hlen
    have hl : vs.length = B.cells.length := hrel.1.symm
    have hst := run_storeCells_at (P := P) c off B.e y.cells.toList 0 (vs ++ rest).toArray w hheap (by simp at hyl ⊢; omega) (fun u hu => by
      obtain ⟨i, hi⟩ := List.getElem?_of_mem hu
      have hlt := getElem?_lt hi
      rw [← hcr.1] at hlt
      exact (hcr.2 i _ u (List.getElem?_eq_getElem hlt) hi).2)
    simp only [Nat.add_zero, hyl] at hst
    have hsplit : (vs ++ rest).take off ++ y.cells.toList ++ (vs ++ rest).drop (off + s) = (vs.take off ++ y.cells.toList ++ vs.drop (off + s)) ++ rest := by
      rw [List.take_append_of_le_length (by omega), List.drop_append_of_le_length (by omega)]
      simp [List.append_assoc]
    rw [hsplit] at hst
    have hnew : Rels (crel ι σ) (B.cells.take off ++ cs ++ B.cells.drop (off + s)) (vs.take off ++ y.cells.toList ++ vs.drop (off + s)) := ((hrel.take off).append hcr).append (hrel.drop _)
    have hwr := HRel.write hh hB hi (cs := B.cells.take off ++ cs ++ B.cells.drop (off + s)) (vs := vs.take off ++ y.cells.toList ++ vs.drop (off + s)) (rest := rest)
      (by rw [← htot]; simp at hyl ⊢; omega) hnew hroom
    refine ⟨_, ι, _, ?_, hk, hwr.1, hwr.2⟩
    have hysz : y.cells.size = s := by simpa using hyl
    simp only [Instr.storeAt, Instr.sureAddr, Sem.run_bind, Sem.run_pure, Result.andThen_ok, storeVar, run_sizeOf hs, hysz, ne_eq, not_true, if_false]
    exact hst
  · exact h.elim

/-! ### new blocks -/
def boxW (elem : TypeId) (v : AV) (σ : List Blk) (K : Cont) : Prop :=
  match cellsAV v with
  | some cs => K (.ptr σ.length 0 0) (σ ++ [⟨cs, 0, elem, 0, false, false⟩])
  | none => False
theorem boxW_sound {elem : TypeId} {av : AV} {x : Value} (h : boxW elem av σ K) (hh : HRel W0 ι σ w) (hr : rel3 ι σ av x) : Yields P W0 ι σ w K (Instr.box elem x) := by
  unfold boxW at h
  split at h
  · rename_i cs hc
    have ha := hh.alloc (e := elem) (vs := x.cells.toList) (rest := []) (esz := 0) (row := false) (room := false) (cellsAV_rel hc hr) (fun _ => rfl)
    refine ⟨.pointer (some ⟨w.heap.size, 0, none⟩), _, _, _, _, ?_, h, ha.1, ha.2, ?_⟩
    · simp [Instr.box, newVar, newRow, newObj, Sem.run]
    · refine ⟨_, by simp; rfl, Nat.le_refl _, rfl, fun _ => ⟨w.heap.size, _, by rw [← hh.len]; simp; rfl, rfl⟩⟩
  · exact h.elim

theorem run_zeroValue {t : TypeId} {z : Value} (h : zeroP P t = some z) (w : World) : (zeroValue t).run P w = .ok z w := by
  unfold zeroP at h
  obtain ⟨i, hi, hz⟩ := Option.bind_eq_some_iff.1 h
  simp [zeroValue, typeInfo, hi, hz]

def allocW (P : Program) (elem : TypeId) (σ : List Blk) (K : Cont) : Prop :=
  match zeroP P elem with
  | some z => boxW elem (ofV z) σ K
  | none => False
theorem allocW_sound {elem : TypeId} (h : allocW P elem σ K) (hh : HRel W0 ι σ w) : Yields P W0 ι σ w K (Instr.alloc elem true (.tuple #[])) := by
  unfold allocW at h
  split at h
  · rename_i z hz
    obtain ⟨v, w', ι', σ', av, h1, h2, h3, h4, h5⟩ := boxW_sound (P := P) h hh (rel3_ofV z)
    refine ⟨v, w', ι', σ', av, ?_, h2, h3, h4, h5⟩
    rw [← h1]
    simp [Instr.alloc, Instr.box, run_zeroValue hz]
  · exact h.elim

/-! ### composite literals -/
def fillA (place : Nat → Option (Nat × Nat)) (cells : List AV) : List (Nat × AV) → Option (List AV)
  | [] => some cells
  | (i, v) :: rest =>
    match place i, cellsAV v with
    | some (off, size), some cs => if cs.length = size ∧ off + size ≤ cells.length then fillA place (cells.take off ++ cs ++ cells.drop (off + size)) rest else none
    | _, _ => none

theorem foldl_sets (off : Nat) : ∀ (l : List Value) (k : Nat) (cells : Array Value), off + k + l.length ≤ cells.size →
    ((l.zipIdx k).foldl (fun cs (x : Value × Nat) => cs.setIfInBounds (off + x.2) x.1) cells).toList = cells.toList.take (off + k) ++ l ++ cells.toList.drop (off + k + l.length)
  | [], k, cells, _ => by simp
  | v :: l, k, cells, h => by
    simp only [List.length_cons] at h
    simp only [List.zipIdx_cons, List.foldl_cons]
    rw [foldl_sets off l (k + 1) _ (by simp; omega)]
    have hlt : off + k < cells.toList.length := by simp; omega
    simp only [Array.toList_setIfInBounds, List.length_cons]
    have h1 : (cells.toList.set (off + k) v).take (off + (k + 1)) = cells.toList.take (off + k) ++ [v] := by
      rw [show off + (k + 1) = off + k + 1 by omega, List.take_succ_eq_append_getElem (by simpa using hlt)]
      simp [List.take_set_of_le]
    have h2 : (cells.toList.set (off + k) v).drop (off + (k + 1) + l.length) = cells.toList.drop (off + k + (l.length + 1)) := by
      rw [List.drop_set_of_lt (by omega), show off + (k + 1) + l.length = off + k + (l.length + 1) by omega]
    rw [h1, h2]
    simp [List.append_assoc]

theorem fillA_sound (place : Nat → Option (Nat × Nat)) : ∀ (parts : List (Nat × AV)) (vparts : List (Nat × Value)) (cells : List AV) (vs : Array Value) (out : List AV),
    fillA place cells parts = some out → Rels (fun (p : Nat × AV) (q : Nat × Value) => p.1 = q.1 ∧ rel3 ι σ p.2 q.2) parts vparts → Rels (crel ι σ) cells vs.toList →
    ∃ us, Instr.fill place vs vparts = some us ∧ Rels (crel ι σ) out us.toList
  | [], vparts, cells, vs, out, h, hp, hc => by
    obtain rfl := hp.nil_inv
    simp only [fillA] at h; cases h
    exact ⟨vs, rfl, hc⟩
  | (i, v) :: rest, vparts, cells, vs, out, h, hp, hc => by
    obtain ⟨⟨j, y⟩, vrest, rfl, ⟨he, hr⟩, hrest⟩ := hp.uncons
    simp only at he; subst he
    simp only [fillA] at h
    split at h
    · rename_i off size cs hpl hcs
      split at h
      · rename_i hcond
        have hcr := cellsAV_rel hcs hr
        have hyl : y.cells.size = size := by have := hcr.1; simp at this; omega
        have hvl : vs.size = cells.length := by have := hc.1; simp at this; omega
        have hnew := foldl_sets off y.cells.toList 0 vs (by simp; omega)
        have hfold : (y.cells.zipIdx.foldl (fun cs (x : Value × Nat) => cs.setIfInBounds (off + x.2) x.1) vs) = (vs.toList.take off ++ y.cells.toList ++ vs.toList.drop (off + size)).toArray := by
          apply Array.ext'
          rw [← Array.foldl_toList, Array.toList_zipIdx, hnew]
          simp [hyl]
        obtain ⟨us, h1, h2⟩ := fillA_sound place rest vrest _ (vs.toList.take off ++ y.cells.toList ++ vs.toList.drop (off + size)).toArray out h hrest (((hc.take off).append hcr).append (hc.drop _))
        refine ⟨us, ?_, h2⟩
        simp only [Instr.fill, hpl]
        rw [if_neg (by simp [hyl]; omega)]
        rw [← h1, ← hfold]
      · cases h
    · cases h

def partsA (fr : Operand → AV) (parts : Array (Nat × Operand)) : List (Nat × AV) := parts.toList.map fun (i, x) => (i, fr x)
theorem partsA_rel {fr : Operand → AV} {ρ : Operand → Value} (h : ∀ x, rel3 ι σ (fr x) (ρ x)) (parts : Array (Nat × Operand)) :
    Rels (fun (p : Nat × AV) (q : Nat × Value) => p.1 = q.1 ∧ rel3 ι σ p.2 q.2) (partsA fr parts) (parts.map fun (i, x) => (i, ρ x)).toList := by
  unfold partsA
  rw [Array.toList_map]
  generalize parts.toList = l
  exact ⟨by simp, fun i a b ha hb => by
    rw [List.getElem?_map] at ha hb
    cases hl : l[i]? with
    | none => rw [hl] at ha; cases ha
    | some q => rw [hl] at ha hb; simp at ha hb; subst ha; subst hb; exact ⟨rfl, h q.2⟩⟩

theorem crel_of_ofV {z : Value} {cs : List AV} (h : cellsAV (ofV z) = some cs) : Rels (crel ι σ) cs z.cells.toList := cellsAV_rel h (rel3_ofV z)

def structP (P : Program) (t : TypeId) : Option (List (Nat × Nat)) :=
  match P.underlying t with
  | some (.struct fs) => fs.toList.mapM (fun f => (P.info? f.type).map fun i => (f.offset, i.size))
  | _ => none
def arrayP (P : Program) (t : TypeId) : Option (Nat × Nat) :=
  match P.underlying t with
  | some (.array n e) => (szP P e).map fun s => (n, s)
  | _ => none
/-- a slice type's element: its type, its size, its bytes -/
def sliceP (P : Program) (t : TypeId) : Option (Nat × Nat × Nat) :=
  match P.underlying t with
  | some (.slice e) => (P.info? e).map fun i => (e, i.size, i.bytes)
  | _ => none

theorem sliceP_inv {t e s by_ : Nat} (h : sliceP P t = some (e, s, by_)) : ∃ i, P.underlying t = some (.slice e) ∧ P.info? e = some i ∧ i.size = s ∧ i.bytes = by_ := by
  unfold sliceP at h
  split at h
  · rename_i e' hu
    obtain ⟨i, hi, he⟩ := Option.map_eq_some_iff.1 h
    simp only [Prod.mk.injEq] at he
    obtain ⟨rfl, rfl, rfl⟩ := he
    exact ⟨i, hu, hi, rfl, rfl⟩
  · cases h
theorem arrayP_inv {t n s : Nat} (h : arrayP P t = some (n, s)) : ∃ e, P.underlying t = some (.array n e) ∧ szP P e = some s := by
  unfold arrayP at h
  split at h
  · rename_i m e hu
    obtain ⟨s', hs', he⟩ := Option.map_eq_some_iff.1 h
    simp only [Prod.mk.injEq] at he
    obtain ⟨rfl, rfl⟩ := he
    exact ⟨e, hu, hs'⟩
  · cases h

def placesP (P : Program) (t : TypeId) (i : Nat) : Option (Nat × Nat) :=
  match structP P t with
  | some pl => pl.toArray[i]?
  | none => match arrayP P t with
    | some (_, n) => some (i * n, n)
    | none => none
def buildW (P : Program) (fr : Operand → AV) (t : TypeId) (parts : Array (Nat × Operand)) (σ : List Blk) (K : Cont) : Prop :=
  match zeroP P t with
  | some z => match cellsAV (ofV z) with
    | some zc => ((structP P t).isSome || (arrayP P t).isSome) = true ∧ match fillA (placesP P t) zc (partsA fr parts) with
      | some cs => K (.agg cs) σ
      | none => False
    | none => False
  | none => False

theorem zero_info {t : TypeId} {z : Value} (h : zeroP P t = some z) : ∃ i, P.info? t = some i ∧ i.zero = some z := by
  unfold zeroP at h
  exact Option.bind_eq_some_iff.1 h

theorem buildW_sound {fr : Operand → AV} {ρ : Operand → Value} {t : TypeId} {parts : Array (Nat × Operand)} (h : buildW P fr t parts σ K) (hh : HRel W0 ι σ w) (hr : ∀ x, rel3 ι σ (fr x) (ρ x)) :
    Yields0 P ι σ w K (Instr.build t (parts.map fun (i, x) => (i, ρ x))) := by
  unfold buildW at h
  split at h
  · rename_i z hz
    obtain ⟨it, hit, hzz⟩ := zero_info hz
    split at h
    · rename_i zc hzc
      obtain ⟨hsome, h⟩ := h
      split at h
      · rename_i cs hf
        obtain ⟨us, h1, h2⟩ := fillA_sound (σ := σ) (ι := ι) _ _ _ _ z.cells _ hf (partsA_rel hr parts) (crel_of_ofV hzc)
        have hb : P.built t (parts.map fun (i, x) => (i, ρ x)).toList = some us := by
          cases hu : P.underlying t with
          | none => simp [structP, arrayP, hu] at hsome
          | some d =>
            cases d <;> try (simp [structP, arrayP, hu] at hsome; done)
            case array m e =>
              have hst : structP P t = none := by simp [structP, hu]
              cases ha : arrayP P t with
              | none => simp [hst, ha] at hsome
              | some q =>
                obtain ⟨m', n⟩ := q
                obtain ⟨e', hu', hs'⟩ := arrayP_inv ha
                rw [hu] at hu'; cases hu'
                obtain ⟨ie, hie, rfl⟩ := info_of_sz hs'
                have hp : placesP P t = fun i => some (i * ie.size, ie.size) := by funext i; simp [placesP, hst, ha]
                rw [hp] at h1
                simp only [Program.built, hit, hu, hzz, hie]
                exact h1
            case struct fs =>
              have ha : arrayP P t = none := by simp [arrayP, hu]
              cases hst : structP P t with
              | none => simp [hst, ha] at hsome
              | some pl =>
                have hp : placesP P t = fun i => pl.toArray[i]? := by funext i; simp [placesP, hst]
                rw [hp] at h1
                have hst' := hst
                simp only [structP, hu] at hst'
                simp only [Program.built, hit, hu, hzz, hst']
                exact h1
        exact Yields0.same (run_build w t _ us hb) h ⟨us.toList, by simp, h2⟩
      · exact h.elim
    · exact h.elim
  · exact h.elim

/-! ### addresses and parts -/
def fieldAddrW (P : Program) (s : TypeId) (a : AV) (f : Nat) (σ : List Blk) (K : Cont) : Prop :=
  match fieldP P s f, a with
  | some (off, n, _), .ptr b ver o => (∃ B, σ[b]? = some B ∧ B.ver = ver) ∧ n ≠ 0 ∧ K (.ptr b ver (o + off)) σ
  | some (off, n, _), .lit (.pointer (some ad)) => n ≠ 0 ∧ K (.lit (.pointer (some (ad.add off)))) σ
  | _, _ => False

theorem fieldP_inv {s : TypeId} {f off n : Nat} {g : Bool} (h : fieldP P s f = some (off, n, g)) :
    ∃ fs fd, P.underlying s = some (.struct fs) ∧ fs[f]? = some fd ∧ fd.offset = off ∧ szP P fd.type = some n ∧ aggP P fd.type = some g := by
  unfold fieldP at h
  split at h
  · rename_i fs hu
    split at h
    · rename_i fd hf
      split at h
      · rename_i n' g' h1 h2
        simp only [Option.some.injEq, Prod.mk.injEq] at h
        obtain ⟨rfl, rfl, rfl⟩ := h
        exact ⟨fs, fd, hu, hf, rfl, h1, h2⟩
      · cases h
    · cases h
  · cases h

theorem run_fieldAt {s : TypeId} {f off n : Nat} {g : Bool} (h : fieldP P s f = some (off, n, g)) (hn : n ≠ 0) (ad : Addr) (w : World) :
    (Instr.fieldAt s (.pointer (some ad)) f).run P w = .ok (.pointer (some (ad.add off))) w := by
  obtain ⟨fs, fd, hu, hf, rfl, h1, h2⟩ := fieldP_inv h
  simp [Instr.fieldAt, run_underlying hu, hf, Instr.sureAddr, fieldPlace, run_sizeOf h1, hn]

theorem ptrRel_now {b ver off : Nat} {x : Value} {B : Blk} (h : ptrRel ι σ b ver off x) (hB : σ[b]? = some B) (hv : B.ver = ver) : ∃ c t, ι[b]? = some (c, t) ∧ x = .pointer (some ⟨c, off, none⟩) := by
  obtain ⟨B', hB', hle, hone, hp⟩ := h
  rw [hB] at hB'; cases hB'
  exact hp hv.symm
theorem ptrRel_mk {b ver off c t : Nat} {B : Blk} (hB : σ[b]? = some B) (hv : B.ver = ver) (hi : ι[b]? = some (c, t)) : ptrRel ι σ b ver off (.pointer (some ⟨c, off, none⟩)) :=
  ⟨B, hB, by rw [hv]; exact Nat.le_refl _, rfl, fun _ => ⟨c, t, hi, rfl⟩⟩
theorem add_own (c o n : Nat) : (⟨c, o, none⟩ : Addr).add n = ⟨c, o + n, none⟩ := by unfold Addr.add; split <;> simp_all

theorem fieldAddrW_sound {s : TypeId} {av : AV} {x : Value} {f : Nat} (h : fieldAddrW P s av f σ K) (hh : HRel W0 ι σ w) (hr : rel3 ι σ av x) : Yields0 P ι σ w K (Instr.fieldAt s x f) := by
  unfold fieldAddrW at h
  split at h
  · rename_i off n _ b ver o hf
    obtain ⟨⟨B, hB, hv⟩, hn, hk⟩ := h
    obtain ⟨c, t, hi, rfl⟩ := ptrRel_now hr hB hv
    have hrun := run_fieldAt hf hn ⟨c, o, none⟩ w
    rw [add_own] at hrun
    exact Yields0.same hrun hk (ptrRel_mk hB hv hi)
  · rename_i off n _ ad hf
    have e : x = .pointer (some ad) := hr
    subst e
    exact Yields0.lit (run_fieldAt hf h.1 ad w) h.2
  · exact h.elim

/-- a part of a value's cells -/
def partA (g : Bool) (n off : Nat) (cs : List AV) : Option AV :=
  if g then some (.agg ((cs.drop off).take n)) else cs[off]?
theorem partA_sound {t : TypeId} {g : Bool} {n off : Nat} {cs : List AV} {l : List Value} {av : AV} (hs : szP P t = some n) (hg : aggP P t = some g) (h : partA g n off cs = some av) (hr : Rels (crel ι σ) cs l) (w : World) :
    ∃ v, (part t l.toArray off).run P w = .ok v w ∧ rel3 ι σ av v := by
  unfold partA at h
  cases g with
  | true =>
    simp only [if_true, Option.some.injEq] at h; subst h
    refine ⟨.agg ((l.drop off).take n).toArray, ?_, _, rfl, (hr.drop off).take n⟩
    simp only [part, Sem.run_bind, run_isAgg hg, Result.andThen_ok, if_true, run_sizeOf hs, Sem.run_pure]
    congr 2
    apply Array.ext'
    simp [List.take_drop, Nat.add_sub_cancel_left]
  | false =>
    simp only [Bool.false_eq_true, if_false] at h
    obtain ⟨v, hv, hc⟩ := hr.get h
    refine ⟨v, ?_, rel3_of_crel hc⟩
    simp only [part, Sem.run_bind, run_isAgg hg, Result.andThen_ok, Bool.false_eq_true, if_false]
    simp [hv]

def fieldW (P : Program) (t : TypeId) (a : AV) (f : Nat) (σ : List Blk) (K : Cont) : Prop :=
  match fieldP P t f, a with
  | some (off, n, g), .agg cs => match partA g n off cs with
    | some v => K v σ
    | none => False
  | _, _ => False
theorem fieldW_sound {t : TypeId} {av : AV} {x : Value} {f : Nat} (h : fieldW P t av f σ K) (hh : HRel W0 ι σ w) (hr : rel3 ι σ av x) : Yields0 P ι σ w K (Instr.field t x f) := by
  unfold fieldW at h
  split at h
  · rename_i off n g cs hf
    split at h
    · rename_i v hv
      obtain ⟨fs, fd, hu, hfd, rfl, h1, h2⟩ := fieldP_inv hf
      obtain ⟨l, rfl, hrel⟩ := hr
      obtain ⟨y, hy, hyr⟩ := partA_sound (P := P) h1 h2 hv hrel w
      refine Yields0.same ?_ h hyr
      simp [Instr.field, run_underlying hu, hfd, asAgg, hy]
    · exact h.elim
  · exact h.elim

def indexAddrW (P : Program) (t : TypeId) (a i : AV) (σ : List Blk) (K : Cont) : Prop :=
  match a, i with
  | .ptr b ver o, .lit (.int _ i) => match arrayP P t with
    | some (len, s) => (∃ B, σ[b]? = some B ∧ B.ver = ver) ∧ 0 ≤ i ∧ i < (len : Int) ∧ K (.ptr b ver (o + i.toNat * s)) σ
    | none => False
  | .lit (.pointer (some ad)), .lit (.int _ i) => match arrayP P t with
    | some (len, s) => 0 ≤ i ∧ i < (len : Int) ∧ K (.lit (.pointer (some (ad.add (i.toNat * s))))) σ
    | none => False
  | .sl b ver o len _, .lit (.int _ i) => match sliceP P t with
    | some (_, s, _) => (∃ B, σ[b]? = some B ∧ B.ver = ver) ∧ 0 ≤ i ∧ i < (len : Int) ∧ K (.ptr b ver (o + i.toNat * s)) σ
    | none => False
  | .lit (.slice (some ad) len _), .lit (.int _ i) => match sliceP P t with
    | some (_, s, _) => 0 ≤ i ∧ i < (len : Int) ∧ K (.lit (.pointer (some (ad.add (i.toNat * s))))) σ
    | none => False
  | _, _ => False

theorem slRel_now {b ver off len cap : Nat} {x : Value} {B : Blk} (h : slRel ι σ b ver off len cap x) (hB : σ[b]? = some B) (hv : B.ver = ver) :
    ∃ c t, ι[b]? = some (c, t) ∧ x = .slice (some ⟨c, off, none⟩) len cap ∧ len ≤ cap ∧ cap ≤ maxLen ∧ (B.row = true → 0 < cap → off + cap * B.esz = t) := by
  obtain ⟨B', hB', hle, hone, hp⟩ := h
  rw [hB] at hB'; cases hB'
  exact hp hv.symm

theorem run_indexAt_slice {t e s by_ : Nat} (hs : sliceP P t = some (e, s, by_)) (ad : Addr) (len cap : Nat) (k : IntKind) {i : Int} (h0 : 0 ≤ i) (h1 : i < (len : Int)) (w : World) :
    (Instr.indexAt t (.slice (some ad) len cap) (.int k i)).run P w = .ok (.pointer (some (ad.add (i.toNat * s)))) w := by
  obtain ⟨ie, hu, hi, rfl, _⟩ := sliceP_inv hs
  have hsz : szP P e = some ie.size := by simp [szP, hi]
  have hb : (0 ≤ i ∧ i < (len : Int)) := ⟨h0, h1⟩
  simp [Instr.indexAt, asIntOf, run_underlying hu, hb, run_sizeOf hsz]

theorem indexAddrW_sound {t : TypeId} {av iv : AV} {x y : Value} (h : indexAddrW P t av iv σ K) (hh : HRel W0 ι σ w) (hr : rel3 ι σ av x) (hy : rel3 ι σ iv y) : Yields0 P ι σ w K (Instr.indexAt t x y) := by
  unfold indexAddrW at h
  split at h
  · rename_i b ver o k i
    have e : y = .int k i := hy
    subst e
    split at h
    · rename_i len s ha
      obtain ⟨⟨B, hB, hv⟩, h0, h1, hk⟩ := h
      obtain ⟨c, t', hi, rfl⟩ := ptrRel_now hr hB hv
      obtain ⟨e, hu, hs⟩ := arrayP_inv ha
      have hb : (0 ≤ i ∧ i < (len : Int)) := ⟨h0, h1⟩
      refine Yields0.same (v := .pointer (some ⟨c, o + i.toNat * s, none⟩)) ?_ hk (ptrRel_mk hB hv hi)
      simp [Instr.indexAt, asIntOf, run_underlying hu, hb, run_sizeOf hs, Instr.sureAddr, add_own]
    · exact h.elim
  · rename_i ad k i
    have e : y = .int k i := hy
    subst e
    have e : x = .pointer (some ad) := hr
    subst e
    split at h
    · rename_i len s ha
      obtain ⟨h0, h1, hk⟩ := h
      obtain ⟨e, hu, hs⟩ := arrayP_inv ha
      have hb : (0 ≤ i ∧ i < (len : Int)) := ⟨h0, h1⟩
      refine Yields0.lit ?_ hk
      simp [Instr.indexAt, asIntOf, run_underlying hu, hb, run_sizeOf hs, Instr.sureAddr]
    · exact h.elim
  · rename_i b ver o len cap k i
    have e : y = .int k i := hy
    subst e
    split at h
    · rename_i e s by_ ha
      obtain ⟨⟨B, hB, hv⟩, h0, h1, hk⟩ := h
      obtain ⟨c, t', hi, rfl, hl, hm, hrow⟩ := slRel_now hr hB hv
      have hrun := run_indexAt_slice ha ⟨c, o, none⟩ len cap k h0 h1 w
      rw [add_own] at hrun
      exact Yields0.same hrun hk (ptrRel_mk hB hv hi)
    · exact h.elim
  · rename_i ad len cap k i
    have e : y = .int k i := hy
    subst e
    have e : x = .slice (some ad) len cap := hr
    subst e
    split at h
    · rename_i e s by_ ha
      obtain ⟨h0, h1, hk⟩ := h
      exact Yields0.lit (run_indexAt_slice ha ad len cap k h0 h1 w) hk
    · exact h.elim
  · exact h.elim

def indexW (P : Program) (t : TypeId) (a i : AV) (σ : List Blk) (K : Cont) : Prop :=
  match a, i with
  | .agg cs, .lit (.int _ i) => match P.underlying t with
    | some (.array len e) => match szP P e, aggP P e with
      | some s, some g => 0 ≤ i ∧ i < (len : Int) ∧ match partA g s (i.toNat * s) cs with
        | some v => K v σ
        | none => False
      | _, _ => False
    | _ => False
  | .lit (.string s), .lit (.int _ i) => P.underlying t = some .string ∧ 0 ≤ i ∧ i < (s.size : Int) ∧ K (.lit (.int .u8 (s.data[i.toNat]?.getD 0).toNat)) σ
  | _, _ => False
theorem indexW_sound {t : TypeId} {av iv : AV} {x y : Value} (h : indexW P t av iv σ K) (hh : HRel W0 ι σ w) (hr : rel3 ι σ av x) (hy : rel3 ι σ iv y) : Yields0 P ι σ w K (Instr.index t x y) := by
  unfold indexW at h
  split at h
  · rename_i cs k i
    have e : y = .int k i := hy
    subst e
    split at h
    · rename_i len e hu
      split at h
      · rename_i s g hs hg
        obtain ⟨h0, h1, hk⟩ := h
        split at hk
        · rename_i v hv
          obtain ⟨l, rfl, hrel⟩ := hr
          obtain ⟨u, hu', hur⟩ := partA_sound (P := P) hs hg hv hrel w
          have hb : (0 ≤ i ∧ i < (len : Int)) := ⟨h0, h1⟩
          refine Yields0.same ?_ hk hur
          simp [Instr.index, asIntOf, run_underlying hu, hb, run_sizeOf hs, hu']
        · exact hk.elim
      · exact h.elim
    · exact h.elim
  · rename_i s k i
    have e : y = .int k i := hy
    subst e
    have e : x = .string s := hr
    subst e
    obtain ⟨hu, h0, h1, hk⟩ := h
    refine Yields0.lit ?_ hk
    have hlt : i.toNat < s.data.size := by have : s.data.size = s.size := rfl; omega
    have hg : s[i.toNat]? = some s.data[i.toNat] := by
      rw [getElem?_pos s i.toNat (by simpa using hlt)]; rfl
    have hg2 : s.data[i.toNat]?.getD 0 = s.data[i.toNat] := by rw [Array.getElem?_eq_getElem hlt]; rfl
    simp only [Instr.index, asIntOf, Sem.run_bind, Sem.run_pure, Result.andThen_ok, run_underlying hu, h0, if_true, hg, hg2]
  · exact h.elim

end
end Go.Proofs.YtlmplfgnhibfcaaDoor.Abs
