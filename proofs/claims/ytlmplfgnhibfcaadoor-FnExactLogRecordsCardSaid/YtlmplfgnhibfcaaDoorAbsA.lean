/- An abstract logic over the walk's 'Code.wp': values with the numbers of own blocks in place of addresses, an explicit list of own blocks; what callees leave behind does not show. Part A: values, the relation to a world, how it is carried. -/
import Derived.WalkKit
import Derived.WalkSpells
import Derived.WalkLawsBesides
import Derived.Deep.QuietTactic
import Derived.StillTailTactics
set_option linter.unusedVariables false
set_option linter.unusedSimpArgs false
namespace Go.Proofs.YtlmplfgnhibfcaaDoor.Abs
open Go Go.RowKit

/-- A value: 'junk' stands for whatever; 'lit' is a value as it is (also one that leads to memory that came in); 'ptr', 'sl' lead to own block b at its version ver. -/
inductive AV where
  | junk
  | lit (v : Value)
  | ptr (b ver off : Nat)
  | sl (b ver off len cap : Nat)
  | fn (f : Fn) (first caps : List AV)
  | agg (cs : List AV)
  | tup (vs : List AV)

/-- An own block: its cells (those that are known), its version, its element type and that type's size; 'row': it was laid as a slice's row; 'room': it may have more cells than are told. -/
structure Blk where
  cells : List AV
  ver : Nat
  e : TypeId
  esz : Nat
  row : Bool
  room : Bool

/-- Where each own block lies, and how many cells it has there. -/
abbrev Loc := List (Nat × Nat)

def Rels {α β : Type} (R : α → β → Prop) (l : List α) (m : List β) : Prop := l.length = m.length ∧ ∀ (i : Nat) (a : α) (b : β), l[i]? = some a → m[i]? = some b → R a b

def ptrRel (ι : Loc) (σ : List Blk) (b ver off : Nat) (x : Value) : Prop :=
  ∃ B, σ[b]? = some B ∧ ver ≤ B.ver ∧ x.oneCell' = true ∧ (ver = B.ver → ∃ c t, ι[b]? = some (c, t) ∧ x = .pointer (some ⟨c, off, none⟩))
def slRel (ι : Loc) (σ : List Blk) (b ver off len cap : Nat) (x : Value) : Prop :=
  ∃ B, σ[b]? = some B ∧ ver ≤ B.ver ∧ x.oneCell' = true ∧
    (ver = B.ver → ∃ c t, ι[b]? = some (c, t) ∧ x = .slice (some ⟨c, off, none⟩) len cap ∧ len ≤ cap ∧ cap ≤ maxLen ∧ (B.row = true → 0 < cap → off + cap * B.esz = t))

def rel0 (ι : Loc) (σ : List Blk) : AV → Value → Prop
  | .lit v, x => x = v
  | .ptr b ver off, x => ptrRel ι σ b ver off x
  | _, _ => False
def rel1 (ι : Loc) (σ : List Blk) : AV → Value → Prop
  | .junk, _ => True
  | .lit v, x => x = v
  | .ptr b ver off, x => ptrRel ι σ b ver off x
  | .sl b ver off len cap, x => slRel ι σ b ver off len cap x
  | .fn f first caps, x => ∃ l1 l2 : List Value, x = .func f l1.toArray l2.toArray ∧ Rels (rel0 ι σ) first l1 ∧ Rels (rel0 ι σ) caps l2
  | _, _ => False
def crel (ι : Loc) (σ : List Blk) (v : AV) (x : Value) : Prop := rel1 ι σ v x ∧ x.oneCell' = true
def rel2 (ι : Loc) (σ : List Blk) : AV → Value → Prop
  | .agg cs, x => ∃ l : List Value, x = .agg l.toArray ∧ Rels (crel ι σ) cs l
  | v, x => rel1 ι σ v x
def rel3 (ι : Loc) (σ : List Blk) : AV → Value → Prop
  | .tup vs, x => ∃ l : List Value, x = .tuple l.toArray ∧ Rels (rel2 ι σ) vs l
  | v, x => rel2 ι σ v x

/-- What becomes of own blocks: none goes; versions do not fall; a block of the same version lies where it lay. -/
structure Ext (ι : Loc) (σ : List Blk) (ι' : Loc) (σ' : List Blk) : Prop where
  len : σ.length ≤ σ'.length
  ver : ∀ (i : Nat) (B B' : Blk), σ[i]? = some B → σ'[i]? = some B' → B.ver ≤ B'.ver ∧ B'.esz = B.esz ∧ B'.row = B.row
  loc : ∀ (i : Nat) (B B' : Blk), σ[i]? = some B → σ'[i]? = some B' → B'.ver = B.ver → ι'[i]? = ι[i]?

theorem Ext.refl (ι : Loc) (σ : List Blk) : Ext ι σ ι σ :=
  ⟨Nat.le_refl _, fun i B B' h h' => by rw [h] at h'; cases h'; exact ⟨Nat.le_refl _, rfl, rfl⟩, fun _ _ _ _ _ _ => rfl⟩
theorem Ext.trans {ι ι' ι'' : Loc} {σ σ' σ'' : List Blk} (h : Ext ι σ ι' σ') (k : Ext ι' σ' ι'' σ'') : Ext ι σ ι'' σ'' := by
  have mid : ∀ (i : Nat) (B : Blk), σ[i]? = some B → ∃ B', σ'[i]? = some B' := fun i B hB => by
    have : i < σ.length := (List.getElem?_eq_some_iff.1 hB).1
    exact ⟨_, List.getElem?_eq_getElem (Nat.lt_of_lt_of_le this h.len)⟩
  refine ⟨Nat.le_trans h.len k.len, fun i B B'' hB hB'' => ?_, fun i B B'' hB hB'' he => ?_⟩
  · obtain ⟨B', hB'⟩ := mid i B hB
    have h1 := h.ver i B B' hB hB'
    have h2 := k.ver i B' B'' hB' hB''
    exact ⟨Nat.le_trans h1.1 h2.1, h2.2.1.trans h1.2.1, h2.2.2.trans h1.2.2⟩
  · obtain ⟨B', hB'⟩ := mid i B hB
    have h1 := (h.ver i B B' hB hB').1
    have h2 := (k.ver i B' B'' hB' hB'').1
    exact (k.loc i B' B'' hB' hB'' (by omega)).trans (h.loc i B B' hB hB' (by omega))

theorem Rels.mono {α β : Type} {R R' : α → β → Prop} {l : List α} {m : List β} (h : Rels R l m) (hr : ∀ a b, R a b → R' a b) : Rels R' l m :=
  ⟨h.1, fun i a b ha hb => hr a b (h.2 i a b ha hb)⟩
theorem Rels.nil {α β : Type} {R : α → β → Prop} : Rels R [] [] := ⟨rfl, fun i a b ha => by simp at ha⟩
theorem Rels.cons {α β : Type} {R : α → β → Prop} {a : α} {b : β} {l : List α} {m : List β} (h : R a b) (hs : Rels R l m) : Rels R (a :: l) (b :: m) :=
  ⟨by simp [hs.1], fun i x y hx hy => by
    cases i with
    | zero => simp at hx hy; subst hx; subst hy; exact h
    | succ i => simp at hx hy; exact hs.2 i x y hx hy⟩
theorem Rels.uncons {α β : Type} {R : α → β → Prop} {a : α} {l : List α} {m : List β} (h : Rels R (a :: l) m) : ∃ b m', m = b :: m' ∧ R a b ∧ Rels R l m' := by
  cases m with
  | nil => have := h.1; simp at this
  | cons b m' => exact ⟨b, m', rfl, h.2 0 a b rfl rfl, by have := h.1; simpa using this, fun i x y hx hy => h.2 (i + 1) x y (by simpa using hx) (by simpa using hy)⟩
theorem Rels.nil_inv {α β : Type} {R : α → β → Prop} {m : List β} (h : Rels R [] m) : m = [] := by
  have := h.1; cases m <;> simp at this ⊢
theorem Rels.append {α β : Type} {R : α → β → Prop} {l l' : List α} {m m' : List β} (h : Rels R l m) (h' : Rels R l' m') : Rels R (l ++ l') (m ++ m') := by
  refine ⟨by simp [h.1, h'.1], fun i a b ha hb => ?_⟩
  rw [List.getElem?_append] at ha hb
  rw [h.1] at ha
  split at ha
  · rename_i hi; rw [if_pos hi] at hb; exact h.2 i a b ha hb
  · rename_i hi; rw [if_neg hi] at hb; exact h'.2 _ a b ha hb
theorem Rels.take {α β : Type} {R : α → β → Prop} {l : List α} {m : List β} (h : Rels R l m) (n : Nat) : Rels R (l.take n) (m.take n) := by
  refine ⟨by simp [h.1], fun i a b ha hb => ?_⟩
  rw [List.getElem?_take] at ha hb
  split at ha
  · rename_i hi; rw [if_pos hi] at hb; exact h.2 i a b ha hb
  · cases ha
theorem Rels.drop {α β : Type} {R : α → β → Prop} {l : List α} {m : List β} (h : Rels R l m) (n : Nat) : Rels R (l.drop n) (m.drop n) := by
  refine ⟨by simp [h.1], fun i a b ha hb => ?_⟩
  rw [List.getElem?_drop] at ha hb
  exact h.2 _ a b ha hb
theorem Rels.get {α β : Type} {R : α → β → Prop} {l : List α} {m : List β} (h : Rels R l m) {i : Nat} {a : α} (ha : l[i]? = some a) : ∃ b, m[i]? = some b ∧ R a b := by
  have hi : i < l.length := (List.getElem?_eq_some_iff.1 ha).1
  rw [h.1] at hi
  exact ⟨m[i], List.getElem?_eq_getElem hi, h.2 i a _ ha (List.getElem?_eq_getElem hi)⟩
theorem Rels.set {α β : Type} {R : α → β → Prop} {l : List α} {m : List β} (h : Rels R l m) {a : α} {b : β} (hab : R a b) (i : Nat) : Rels R (l.set i a) (m.set i b) := by
  refine ⟨by simp [h.1], fun j x y hx hy => ?_⟩
  rw [List.getElem?_set] at hx hy
  split at hx
  · rename_i hij
    rw [if_pos hij] at hy
    split at hx
    · rename_i hl
      rw [if_pos (by rw [← h.1]; exact hl)] at hy
      cases hx; cases hy; exact hab
    · cases hx
  · rename_i hij; rw [if_neg hij] at hy; exact h.2 j x y hx hy

section
variable {ι ι' : Loc} {σ σ' : List Blk}
theorem ptrRel.mono {b ver off : Nat} {x : Value} (he : Ext ι σ ι' σ') (h : ptrRel ι σ b ver off x) : ptrRel ι' σ' b ver off x := by
  obtain ⟨B, hB, hv, h1, hc⟩ := h
  have hb : b < σ.length := (List.getElem?_eq_some_iff.1 hB).1
  have hB' := List.getElem?_eq_getElem (Nat.lt_of_lt_of_le hb he.len)
  have h2 := he.ver b B _ hB hB'
  refine ⟨_, hB', Nat.le_trans hv h2.1, h1, fun e => ?_⟩
  have e1 : ver = B.ver := Nat.le_antisymm hv (by rw [e]; exact h2.1)
  rw [he.loc b B _ hB hB' (by rw [← e, e1])]
  exact hc e1
theorem slRel.mono {b ver off len cap : Nat} {x : Value} (he : Ext ι σ ι' σ') (h : slRel ι σ b ver off len cap x) : slRel ι' σ' b ver off len cap x := by
  obtain ⟨B, hB, hv, h1, hc⟩ := h
  have hb : b < σ.length := (List.getElem?_eq_some_iff.1 hB).1
  have hB' := List.getElem?_eq_getElem (Nat.lt_of_lt_of_le hb he.len)
  have h2 := he.ver b B _ hB hB'
  refine ⟨_, hB', Nat.le_trans hv h2.1, h1, fun e => ?_⟩
  have e1 : ver = B.ver := Nat.le_antisymm hv (by rw [e]; exact h2.1)
  rw [he.loc b B _ hB hB' (by rw [← e, e1]), h2.2.1, h2.2.2]
  exact hc e1
theorem rel0.mono (he : Ext ι σ ι' σ') {v : AV} {x : Value} (h : rel0 ι σ v x) : rel0 ι' σ' v x := by
  cases v <;> first | exact h | exact ptrRel.mono he h
theorem rel1.mono (he : Ext ι σ ι' σ') {v : AV} {x : Value} (h : rel1 ι σ v x) : rel1 ι' σ' v x := by
  cases v <;> first
    | exact h
    | exact ptrRel.mono he h
    | exact slRel.mono he h
    | (obtain ⟨l1, l2, e, h1, h2⟩ := h; exact ⟨l1, l2, e, h1.mono fun _ _ => rel0.mono he, h2.mono fun _ _ => rel0.mono he⟩)
theorem crel.mono (he : Ext ι σ ι' σ') {v : AV} {x : Value} (h : crel ι σ v x) : crel ι' σ' v x := ⟨rel1.mono he h.1, h.2⟩
theorem rel2.mono (he : Ext ι σ ι' σ') {v : AV} {x : Value} (h : rel2 ι σ v x) : rel2 ι' σ' v x := by
  cases v with
  | agg cs => obtain ⟨l, e, h1⟩ := h; exact ⟨l, e, h1.mono fun _ _ => crel.mono he⟩
  | junk => exact trivial
  | lit v => exact h
  | ptr b ver off => exact ptrRel.mono he h
  | sl b ver off len cap => exact slRel.mono he h
  | fn f first caps => exact rel1.mono (v := .fn f first caps) he h
  | tup vs => exact h
theorem rel3.mono (he : Ext ι σ ι' σ') {v : AV} {x : Value} (h : rel3 ι σ v x) : rel3 ι' σ' v x := by
  cases v with
  | tup vs => obtain ⟨l, e, h1⟩ := h; exact ⟨l, e, h1.mono fun _ _ => rel2.mono he⟩
  | agg cs => exact rel2.mono (v := .agg cs) he h
  | junk => exact trivial
  | lit v => exact h
  | ptr b ver off => exact ptrRel.mono he h
  | sl b ver off len cap => exact slRel.mono he h
  | fn f first caps => exact rel1.mono (v := .fn f first caps) he h
end

/-- The own blocks lie in the world as told, all of them new since W0; what was in W0 is as it was. -/
structure HRel (W0 : World) (ι : Loc) (σ : List Blk) (w : World) : Prop where
  below : Below W0.heap.size W0 w
  len : ι.length = σ.length
  inj : ∀ (i j c t t' : Nat), ι[i]? = some (c, t) → ι[j]? = some (c, t') → i = j
  dom : ∀ (i c t : Nat), ι[i]? = some (c, t) → W0.heap.size ≤ c ∧ c < w.heap.size
  blk : ∀ (i : Nat) (B : Blk) (c t : Nat), σ[i]? = some B → ι[i]? = some (c, t) → ∃ vs rest : List Value, w.heap[c]? = some (.cells (vs ++ rest).toArray B.e (0, 0)) ∧ (vs ++ rest).length = t ∧
    Rels (crel ι σ) B.cells vs ∧ (B.room = false → rest = [])

theorem HRel.drew {W0 : World} {ι : Loc} {σ : List Blk} {w : World} (h : HRel W0 ι σ w) : HRel W0 ι σ w.drew :=
  ⟨h.below.drew, h.len, h.inj, h.dom, h.blk⟩

/-- A new block. -/
theorem HRel.alloc {W0 : World} {ι : Loc} {σ : List Blk} {w : World} (h : HRel W0 ι σ w) {e : TypeId} {cs : List AV} {vs rest : List Value} {esz : Nat} {row room : Bool}
    (hc : Rels (crel ι σ) cs vs) (hr : room = false → rest = []) :
    HRel W0 (ι ++ [(w.heap.size, (vs ++ rest).length)]) (σ ++ [⟨cs, 0, e, esz, row, room⟩]) (w.alloc (.cells (vs ++ rest).toArray e)) ∧
    Ext ι σ (ι ++ [(w.heap.size, (vs ++ rest).length)]) (σ ++ [⟨cs, 0, e, esz, row, room⟩]) := by
  have hx : Ext ι σ (ι ++ [(w.heap.size, (vs ++ rest).length)]) (σ ++ [⟨cs, 0, e, esz, row, room⟩]) := by
    refine ⟨by simp, fun i B B' hB hB' => ?_, fun i B B' hB hB' _ => ?_⟩
    · have hi : i < σ.length := (List.getElem?_eq_some_iff.1 hB).1
      rw [List.getElem?_append_left hi, hB] at hB'; cases hB'; exact ⟨Nat.le_refl _, rfl, rfl⟩
    · have hi : i < σ.length := (List.getElem?_eq_some_iff.1 hB).1
      exact List.getElem?_append_left (by rw [h.len]; exact hi)
  have hsz : w.heap.size < (w.alloc (.cells (vs ++ rest).toArray e)).heap.size := by show w.heap.size < (w.heap.push _).size; simp
  have hW : W0.heap.size ≤ w.heap.size := h.below.size
  refine ⟨⟨h.below.alloc hW _, by simp [h.len], ?_, ?_, ?_⟩, hx⟩
  · intro i j c t t' hi hj
    rw [List.getElem?_append] at hi hj
    split at hi <;> split at hj
    · exact h.inj i j c t t' hi hj
    · rename_i h1 h2
      have hj0 : j - ι.length = 0 := by
        cases hk : j - ι.length with
        | zero => rfl
        | succ k => rw [hk] at hj; simp at hj
      rw [hj0] at hj; simp at hj
      have := (h.dom i c t hi).2
      omega
    · rename_i h1 h2
      have hi0 : i - ι.length = 0 := by
        cases hk : i - ι.length with
        | zero => rfl
        | succ k => rw [hk] at hi; simp at hi
      rw [hi0] at hi; simp at hi
      have := (h.dom j c t' hj).2
      omega
    · rename_i h1 h2
      have hi0 : i - ι.length = 0 := by
        cases hk : i - ι.length with
        | zero => rfl
        | succ k => rw [hk] at hi; simp at hi
      have hj0 : j - ι.length = 0 := by
        cases hk : j - ι.length with
        | zero => rfl
        | succ k => rw [hk] at hj; simp at hj
      omega
  · intro i c t hi
    rw [List.getElem?_append] at hi
    split at hi
    · have := h.dom i c t hi; exact ⟨this.1, Nat.lt_trans this.2 hsz⟩
    · cases hk : i - ι.length with
      | zero => rw [hk] at hi; simp at hi; omega
      | succ k => rw [hk] at hi; simp at hi
  · intro i B c t hB hi
    rw [List.getElem?_append] at hB hi
    rw [h.len] at hi
    split at hB
    · rename_i hlt
      rw [if_pos hlt] at hi
      obtain ⟨vs', rest', h1, h2, h3, h4⟩ := h.blk i B c t hB hi
      refine ⟨vs', rest', ?_, h2, h3.mono fun _ _ => crel.mono hx, h4⟩
      have hclt := (h.dom i c t hi).2
      simp only [World.alloc]
      rw [Array.getElem?_push_lt hclt, ← h1, Array.getElem?_eq_getElem hclt]
    · rename_i hge
      rw [if_neg hge] at hi
      cases hk : i - σ.length with
      | zero =>
        rw [hk] at hB hi; simp at hB hi; subst hB; obtain ⟨rfl, rfl⟩ := hi
        exact ⟨vs, rest, by show (w.heap.push _)[w.heap.size]? = _; simp, by simp, hc.mono fun _ _ => crel.mono hx, hr⟩
      | succ k => rw [hk] at hB; simp at hB

theorem getElem?_lt {α : Type} {l : List α} {i : Nat} {a : α} (h : l[i]? = some a) : i < l.length := (List.getElem?_eq_some_iff.1 h).1

/-- Cells of an own block are written: the block keeps its version. -/
theorem HRel.write {W0 : World} {ι : Loc} {σ : List Blk} {w : World} (h : HRel W0 ι σ w) {i : Nat} {B : Blk} {c t : Nat} (hB : σ[i]? = some B) (hi : ι[i]? = some (c, t))
    {cs : List AV} {vs rest : List Value} (hl : (vs ++ rest).length = t) (hc : Rels (crel ι σ) cs vs) (hr : B.room = false → rest = []) :
    HRel W0 ι (σ.set i { B with cells := cs }) (w.setRow c (vs ++ rest).toArray) ∧ Ext ι σ ι (σ.set i { B with cells := cs }) := by
  have hx : Ext ι σ ι (σ.set i { B with cells := cs }) := by
    refine ⟨by simp, fun j C C' hC hC' => ?_, fun _ _ _ _ _ _ => rfl⟩
    rw [List.getElem?_set] at hC'
    split at hC'
    · rename_i hij
      subst hij
      rw [hB] at hC; cases hC
      split at hC' <;> cases hC'
      exact ⟨Nat.le_refl _, rfl, rfl⟩
    · rw [hC] at hC'; cases hC'; exact ⟨Nat.le_refl _, rfl, rfl⟩
  obtain ⟨vs0, rest0, h1, h2, h3, h4⟩ := h.blk i B c t hB hi
  have hclt : c < w.heap.size := (h.dom i c t hi).2
  have hcW := (h.dom i c t hi).1
  have hhp : (w.setRow c (vs ++ rest).toArray).heap[c]? = some (.cells (vs ++ rest).toArray B.e (0, 0)) := setRow_heap w c _ _ _ _ h1
  have hsz : (w.setRow c (vs ++ rest).toArray).heap.size = w.heap.size := by simp [World.setRow]
  have hoth : ∀ k, k ≠ c → (w.setRow c (vs ++ rest).toArray).heap[k]? = w.heap[k]? := fun k hk => by
    simp only [World.setRow, Array.getElem?_modify]
    rw [if_neg (fun e => hk e.symm)]
  refine ⟨⟨⟨h.below.os, h.below.tape, h.below.output, by rw [hsz]; exact h.below.size, fun k hk => (hoth k (by omega)).trans (h.below.block k hk)⟩, by simp [h.len], h.inj, fun j c' t' hj => by rw [hsz]; exact h.dom j c' t' hj, ?_⟩, hx⟩
  intro j C c' t' hC hj
  rw [List.getElem?_set] at hC
  split at hC
  · rename_i hij
    subst hij
    rw [hi] at hj; cases hj
    split at hC <;> cases hC
    exact ⟨vs, rest, hhp, hl, hc.mono fun _ _ => crel.mono hx, hr⟩
  · rename_i hij
    obtain ⟨vs', rest', k1, k2, k3, k4⟩ := h.blk j C c' t' hC hj
    have hne : c' ≠ c := fun e => hij (by subst e; exact h.inj i j c' t t' hi hj)
    exact ⟨vs', rest', (hoth c' hne).trans k1, k2, k3.mono fun _ _ => crel.mono hx, k4⟩

end Go.Proofs.YtlmplfgnhibfcaaDoor.Abs
