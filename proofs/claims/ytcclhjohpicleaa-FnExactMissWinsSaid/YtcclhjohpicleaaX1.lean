import Derived.WalkKit
import Derived.WalkSpells
import Derived.WalkLawsBesides
import Derived.Deep.QuietTactic
import Derived.StillTailTactics
import Derived.Laws.BytesArg
import Derived.Laws.IdiomStrings
import Derived.Deep.Quiet
import Derived.StillTail
section
/- An abstract logic over the walk's 'Code.wp': values with the numbers of own blocks in place of addresses, an explicit list of own blocks; what callees leave behind does not show. Part A: values, the relation to a world, how it is carried. -/
set_option linter.unusedVariables false
set_option linter.unusedSimpArgs false
namespace Go.Proofs.Ytcclhjohpicleaa.Abs
open Go Go.RowKit
/-- A value: 'junk' stands for whatever; 'lit' is a value as it is (also one that leads to memory that came in); 'ptr', 'sl' lead to own block b at its version ver. -/
inductive AV where
  | junk
  | lit (v : Value)
  | ptr (b ver off : Nat)
  | sl (b ver off len cap : Nat)
  | fn (f : Fn) (first caps : List AV)
  | agg (cs : List AV)
  | tup (vs : List AV)
/-- An own block: its cells (those that are known), its version, its element type and that type's size; 'row': it was laid as a slice's row; 'room': it may have more cells than are told. -/
structure Blk where
  cells : List AV
  ver : Nat
  e : TypeId
  esz : Nat
  row : Bool
  room : Bool
/-- Where each own block lies, and how many cells it has there. -/
abbrev Loc := List (Nat × Nat)
def Rels {α β : Type} (R : α → β → Prop) (l : List α) (m : List β) : Prop := l.length = m.length ∧ ∀ (i : Nat) (a : α) (b : β), l[i]? = some a → m[i]? = some b → R a b
/-- a map's block: its cells are its keys and values by turns, oldest first; the map is told as a pointer to the block, one version back -/
def mapB (B : Blk) : Bool := !B.row && B.esz == 2
def kvL : List MapEntry → List Value
  | [] => []
  | e :: es => e.key :: e.val :: kvL es
def ptrRel (ι : Loc) (σ : List Blk) (b ver off : Nat) (x : Value) : Prop :=
  ∃ B, σ[b]? = some B ∧ ver ≤ B.ver ∧ x.oneCell' = true ∧ (ver = B.ver → ∃ c t, ι[b]? = some (c, t) ∧ x = .pointer (some ⟨c, off, none⟩) ∧ mapB B = false) ∧
    (mapB B = true → B.ver = ver + 1 → ∃ c t, ι[b]? = some (c, t) ∧ x = .map (some c))
def slRel (ι : Loc) (σ : List Blk) (b ver off len cap : Nat) (x : Value) : Prop :=
  ∃ B, σ[b]? = some B ∧ ver ≤ B.ver ∧ x.oneCell' = true ∧
    (ver = B.ver → ∃ c t, ι[b]? = some (c, t) ∧ x = .slice (some ⟨c, off, none⟩) len cap ∧ len ≤ cap ∧ cap ≤ maxLen ∧ (B.row = true → 0 < cap → off + cap * B.esz = t)) ∧ mapB B = false
def rel0 (ι : Loc) (σ : List Blk) : AV → Value → Prop
  | .lit v, x => x = v
  | .ptr b ver off, x => ptrRel ι σ b ver off x
  | _, _ => False
def rel1 (ι : Loc) (σ : List Blk) : AV → Value → Prop
  | .junk, _ => True
  | .lit v, x => x = v
  | .ptr b ver off, x => ptrRel ι σ b ver off x
  | .sl b ver off len cap, x => slRel ι σ b ver off len cap x
  | .fn f first caps, x => ∃ l1 l2 : List Value, x = .func f l1.toArray l2.toArray ∧ Rels (rel0 ι σ) first l1 ∧ Rels (rel0 ι σ) caps l2
  | _, _ => False
def crel (ι : Loc) (σ : List Blk) (v : AV) (x : Value) : Prop := rel1 ι σ v x ∧ x.oneCell' = true
def rel2 (ι : Loc) (σ : List Blk) : AV → Value → Prop
  | .agg cs, x => ∃ l : List Value, x = .agg l.toArray ∧ Rels (crel ι σ) cs l
  | v, x => rel1 ι σ v x
def rel3 (ι : Loc) (σ : List Blk) : AV → Value → Prop
  | .tup vs, x => ∃ l : List Value, x = .tuple l.toArray ∧ Rels (rel2 ι σ) vs l
  | v, x => rel2 ι σ v x
/-- What becomes of own blocks: none goes; versions do not fall; a block of the same version lies where it lay. -/
structure Ext (ι : Loc) (σ : List Blk) (ι' : Loc) (σ' : List Blk) : Prop where
  len : σ.length ≤ σ'.length
  ver : ∀ (i : Nat) (B B' : Blk), σ[i]? = some B → σ'[i]? = some B' → B.ver ≤ B'.ver ∧ B'.esz = B.esz ∧ B'.row = B.row
  loc : ∀ (i : Nat) (B B' : Blk), σ[i]? = some B → σ'[i]? = some B' → B'.ver = B.ver → ι'[i]? = ι[i]?
theorem Ext.refl (ι : Loc) (σ : List Blk) : Ext ι σ ι σ :=
  ⟨Nat.le_refl _, fun i B B' h h' => by rw [h] at h'; cases h'; exact ⟨Nat.le_refl _, rfl, rfl⟩, fun _ _ _ _ _ _ => rfl⟩
theorem Ext.trans {ι ι' ι'' : Loc} {σ σ' σ'' : List Blk} (h : Ext ι σ ι' σ') (k : Ext ι' σ' ι'' σ'') : Ext ι σ ι'' σ'' := by
  have mid : ∀ (i : Nat) (B : Blk), σ[i]? = some B → ∃ B', σ'[i]? = some B' := fun i B hB => by
    have : i < σ.length := (List.getElem?_eq_some_iff.1 hB).1
    exact ⟨_, List.getElem?_eq_getElem (Nat.lt_of_lt_of_le this h.len)⟩
  refine ⟨Nat.le_trans h.len k.len, fun i B B'' hB hB'' => ?_, fun i B B'' hB hB'' he => ?_⟩
  · obtain ⟨B', hB'⟩ := mid i B hB
    have h1 := h.ver i B B' hB hB'
    have h2 := k.ver i B' B'' hB' hB''
    exact ⟨Nat.le_trans h1.1 h2.1, h2.2.1.trans h1.2.1, h2.2.2.trans h1.2.2⟩
  · obtain ⟨B', hB'⟩ := mid i B hB
    have h1 := (h.ver i B B' hB hB').1
    have h2 := (k.ver i B' B'' hB' hB'').1
    exact (k.loc i B' B'' hB' hB'' (by omega)).trans (h.loc i B B' hB hB' (by omega))
theorem Rels.mono {α β : Type} {R R' : α → β → Prop} {l : List α} {m : List β} (h : Rels R l m) (hr : ∀ a b, R a b → R' a b) : Rels R' l m :=
  ⟨h.1, fun i a b ha hb => hr a b (h.2 i a b ha hb)⟩
theorem Rels.nil {α β : Type} {R : α → β → Prop} : Rels R [] [] := ⟨rfl, fun i a b ha => by simp at ha⟩
theorem Rels.cons {α β : Type} {R : α → β → Prop} {a : α} {b : β} {l : List α} {m : List β} (h : R a b) (hs : Rels R l m) : Rels R (a :: l) (b :: m) :=
  ⟨by simp [hs.1], fun i x y hx hy => by
    cases i with
    | zero => simp at hx hy; subst hx; subst hy; exact h
    | succ i => simp at hx hy; exact hs.2 i x y hx hy⟩
theorem Rels.uncons {α β : Type} {R : α → β → Prop} {a : α} {l : List α} {m : List β} (h : Rels R (a :: l) m) : ∃ b m', m = b :: m' ∧ R a b ∧ Rels R l m' := by
  cases m with
  | nil => have := h.1; simp at this
  | cons b m' => exact ⟨b, m', rfl, h.2 0 a b rfl rfl, by have := h.1; simpa using this, fun i x y hx hy => h.2 (i + 1) x y (by simpa using hx) (by simpa using hy)⟩
theorem Rels.nil_inv {α β : Type} {R : α → β → Prop} {m : List β} (h : Rels R [] m) : m = [] := by
  have := h.1; cases m <;> simp at this ⊢
theorem Rels.append {α β : Type} {R : α → β → Prop} {l l' : List α} {m m' : List β} (h : Rels R l m) (h' : Rels R l' m') : Rels R (l ++ l') (m ++ m') := by
  refine ⟨by simp [h.1, h'.1], fun i a b ha hb => ?_⟩
  rw [List.getElem?_append] at ha hb
  rw [h.1] at ha
  split at ha
  · rename_i hi; rw [if_pos hi] at hb; exact h.2 i a b ha hb
  · rename_i hi; rw [if_neg hi] at hb; exact h'.2 _ a b ha hb
theorem Rels.take {α β : Type} {R : α → β → Prop} {l : List α} {m : List β} (h : Rels R l m) (n : Nat) : Rels R (l.take n) (m.take n) := by
  refine ⟨by simp [h.1], fun i a b ha hb => ?_⟩
  rw [List.getElem?_take] at ha hb
  split at ha
  · rename_i hi; rw [if_pos hi] at hb; exact h.2 i a b ha hb
  · cases ha
theorem Rels.drop {α β : Type} {R : α → β → Prop} {l : List α} {m : List β} (h : Rels R l m) (n : Nat) : Rels R (l.drop n) (m.drop n) := by
  refine ⟨by simp [h.1], fun i a b ha hb => ?_⟩
  rw [List.getElem?_drop] at ha hb
  exact h.2 _ a b ha hb
theorem Rels.get {α β : Type} {R : α → β → Prop} {l : List α} {m : List β} (h : Rels R l m) {i : Nat} {a : α} (ha : l[i]? = some a) : ∃ b, m[i]? = some b ∧ R a b := by
  have hi : i < l.length := (List.getElem?_eq_some_iff.1 ha).1
  rw [h.1] at hi
  exact ⟨m[i], List.getElem?_eq_getElem hi, h.2 i a _ ha (List.getElem?_eq_getElem hi)⟩
theorem Rels.set {α β : Type} {R : α → β → Prop} {l : List α} {m : List β} (h : Rels R l m) {a : α} {b : β} (hab : R a b) (i : Nat) : Rels R (l.set i a) (m.set i b) := by
  refine ⟨by simp [h.1], fun j x y hx hy => ?_⟩
  rw [List.getElem?_set] at hx hy
  split at hx
  · rename_i hij
    rw [if_pos hij] at hy
    split at hx
    · rename_i hl
      rw [if_pos (by rw [← h.1]; exact hl)] at hy
      cases hx; cases hy; exact hab
    · cases hx
  · rename_i hij; rw [if_neg hij] at hy; exact h.2 j x y hx hy
section
variable {ι ι' : Loc} {σ σ' : List Blk}
theorem mapB_eq {B B' : Blk} (h1 : B'.esz = B.esz) (h2 : B'.row = B.row) : mapB B' = mapB B := by unfold mapB; rw [h1, h2]
theorem ptrRel.mono {b ver off : Nat} {x : Value} (he : Ext ι σ ι' σ') (h : ptrRel ι σ b ver off x) : ptrRel ι' σ' b ver off x := by
  obtain ⟨B, hB, hv, h1, hc, hm⟩ := h
  have hb : b < σ.length := (List.getElem?_eq_some_iff.1 hB).1
  have hB' := List.getElem?_eq_getElem (Nat.lt_of_lt_of_le hb he.len)
  have h2 := he.ver b B _ hB hB'
  have hmm := mapB_eq h2.2.1 h2.2.2
  refine ⟨_, hB', Nat.le_trans hv h2.1, h1, fun e => ?_, fun e1 e2 => ?_⟩
  · have e1 : ver = B.ver := Nat.le_antisymm hv (by rw [e]; exact h2.1)
    rw [he.loc b B _ hB hB' (by rw [← e, e1]), hmm]
    exact hc e1
  · rw [hmm] at e1
    by_cases e3 : ver = B.ver
    · obtain ⟨_, _, _, _, e4⟩ := hc e3
      rw [e1] at e4; cases e4
    · have e5 : B.ver = ver + 1 := by omega
      rw [he.loc b B _ hB hB' (by rw [e2, e5])]
      exact hm e1 e5
theorem slRel.mono {b ver off len cap : Nat} {x : Value} (he : Ext ι σ ι' σ') (h : slRel ι σ b ver off len cap x) : slRel ι' σ' b ver off len cap x := by
  obtain ⟨B, hB, hv, h1, hc, hm⟩ := h
  have hb : b < σ.length := (List.getElem?_eq_some_iff.1 hB).1
  have hB' := List.getElem?_eq_getElem (Nat.lt_of_lt_of_le hb he.len)
  have h2 := he.ver b B _ hB hB'
  refine ⟨_, hB', Nat.le_trans hv h2.1, h1, fun e => ?_, by rw [mapB_eq h2.2.1 h2.2.2]; exact hm⟩
  have e1 : ver = B.ver := Nat.le_antisymm hv (by rw [e]; exact h2.1)
  rw [he.loc b B _ hB hB' (by rw [← e, e1]), h2.2.1, h2.2.2]
  exact hc e1
theorem rel0.mono (he : Ext ι σ ι' σ') {v : AV} {x : Value} (h : rel0 ι σ v x) : rel0 ι' σ' v x := by
  cases v <;> first | exact h | exact ptrRel.mono he h
theorem rel1.mono (he : Ext ι σ ι' σ') {v : AV} {x : Value} (h : rel1 ι σ v x) : rel1 ι' σ' v x := by
  cases v <;> first
    | exact h
    | exact ptrRel.mono he h
    | exact slRel.mono he h
    | (obtain ⟨l1, l2, e, h1, h2⟩ := h; exact ⟨l1, l2, e, h1.mono fun _ _ => rel0.mono he, h2.mono fun _ _ => rel0.mono he⟩)
theorem crel.mono (he : Ext ι σ ι' σ') {v : AV} {x : Value} (h : crel ι σ v x) : crel ι' σ' v x := ⟨rel1.mono he h.1, h.2⟩
theorem rel2.mono (he : Ext ι σ ι' σ') {v : AV} {x : Value} (h : rel2 ι σ v x) : rel2 ι' σ' v x := by
  cases v with
  | agg cs => obtain ⟨l, e, h1⟩ := h; exact ⟨l, e, h1.mono fun _ _ => crel.mono he⟩
  | junk => exact trivial
  | lit v => exact h
  | ptr b ver off => exact ptrRel.mono he h
  | sl b ver off len cap => exact slRel.mono he h
  | fn f first caps => exact rel1.mono (v := .fn f first caps) he h
  | tup vs => exact h
theorem rel3.mono (he : Ext ι σ ι' σ') {v : AV} {x : Value} (h : rel3 ι σ v x) : rel3 ι' σ' v x := by
  cases v with
  | tup vs => obtain ⟨l, e, h1⟩ := h; exact ⟨l, e, h1.mono fun _ _ => rel2.mono he⟩
  | agg cs => exact rel2.mono (v := .agg cs) he h
  | junk => exact trivial
  | lit v => exact h
  | ptr b ver off => exact ptrRel.mono he h
  | sl b ver off len cap => exact slRel.mono he h
  | fn f first caps => exact rel1.mono (v := .fn f first caps) he h
end
/-- the mark of a row that was made of a string's bytes (one cell behind its end); a row that is no slice's row and has room is one -/
def fzOf (B : Blk) (t : Nat) : Nat × Nat := cond (!B.row && B.room) (t, t + 1) (0, 0)
theorem fzOf_none {B : Blk} {t : Nat} (h : (!B.row && B.room) = false) : fzOf B t = (0, 0) := by unfold fzOf; rw [h]; rfl
theorem fzOf_row {B : Blk} {t : Nat} (h : B.row = true) : fzOf B t = (0, 0) := fzOf_none (by rw [h]; rfl)
theorem fzOf_off {B : Blk} {t off : Nat} (h : off < t) : (decide ((fzOf B t).1 ≤ off) && decide (off < (fzOf B t).2)) = false := by
  unfold fzOf
  cases (!B.row && B.room) with
  | true => show (decide (t ≤ off) && decide (off < t + 1)) = false; rw [decide_eq_false (by omega)]; rfl
  | false => show (decide (0 ≤ off) && decide (off < 0)) = false; rw [decide_eq_false (show ¬ off < 0 by omega), Bool.and_false]
/-- The own blocks lie in the world as told, all of them new since W0; what was in W0 is as it was. -/
structure HRel (W0 : World) (ι : Loc) (σ : List Blk) (w : World) : Prop where
  below : Below W0.heap.size W0 w
  len : ι.length = σ.length
  inj : ∀ (i j c t t' : Nat), ι[i]? = some (c, t) → ι[j]? = some (c, t') → i = j
  dom : ∀ (i c t : Nat), ι[i]? = some (c, t) → W0.heap.size ≤ c ∧ c < w.heap.size
  mp : ∀ (i : Nat) (B : Blk) (c t : Nat), σ[i]? = some B → ι[i]? = some (c, t) → mapB B = true → ∃ (es : Array MapEntry) (clk : Nat), w.heap[c]? = some (.map es clk) ∧ Rels (crel ι σ) B.cells (kvL es.toList)
  blk : ∀ (i : Nat) (B : Blk) (c t : Nat), σ[i]? = some B → ι[i]? = some (c, t) → mapB B = false → ∃ vs rest : List Value, w.heap[c]? = some (.cells (vs ++ rest).toArray B.e (fzOf B t)) ∧ (vs ++ rest).length = t ∧
    Rels (crel ι σ) B.cells vs ∧ (B.room = false → rest = [])
  drw : W0.drawn ≤ w.drawn
theorem HRel.drew {W0 : World} {ι : Loc} {σ : List Blk} {w : World} (h : HRel W0 ι σ w) : HRel W0 ι σ w.drew :=
  ⟨h.below.drew, h.len, h.inj, h.dom, h.mp, h.blk, Nat.le_succ_of_le h.drw⟩
/-- A new block, marked as it says. -/
theorem HRel.allocF {W0 : World} {ι : Loc} {σ : List Blk} {w : World} (h : HRel W0 ι σ w) {e : TypeId} {cs : List AV} {vs rest : List Value} {esz : Nat} {row room : Bool}
    (hc : Rels (crel ι σ) cs vs) (hr : room = false → rest = []) (hm : mapB ⟨cs, 0, e, esz, row, room⟩ = false) :
    HRel W0 (ι ++ [(w.heap.size, (vs ++ rest).length)]) (σ ++ [⟨cs, 0, e, esz, row, room⟩]) (w.alloc (.cells (vs ++ rest).toArray e (fzOf ⟨cs, 0, e, esz, row, room⟩ (vs ++ rest).length))) ∧
    Ext ι σ (ι ++ [(w.heap.size, (vs ++ rest).length)]) (σ ++ [⟨cs, 0, e, esz, row, room⟩]) := by
  have hx : Ext ι σ (ι ++ [(w.heap.size, (vs ++ rest).length)]) (σ ++ [⟨cs, 0, e, esz, row, room⟩]) := by
    refine ⟨by simp, fun i B B' hB hB' => ?_, fun i B B' hB hB' _ => ?_⟩
    · have hi : i < σ.length := (List.getElem?_eq_some_iff.1 hB).1
      rw [List.getElem?_append_left hi, hB] at hB'; cases hB'; exact ⟨Nat.le_refl _, rfl, rfl⟩
    · have hi : i < σ.length := (List.getElem?_eq_some_iff.1 hB).1
      exact List.getElem?_append_left (by rw [h.len]; exact hi)
  have hsz : w.heap.size < (w.alloc (.cells (vs ++ rest).toArray e (fzOf ⟨cs, 0, e, esz, row, room⟩ (vs ++ rest).length))).heap.size := by show w.heap.size < (w.heap.push _).size; simp
  have hW : W0.heap.size ≤ w.heap.size := h.below.size
  refine ⟨⟨h.below.alloc hW _, by simp [h.len], ?_, ?_, ?_, ?_, h.drw⟩, hx⟩
  · intro i j c t t' hi hj
    rw [List.getElem?_append] at hi hj
    split at hi <;> split at hj
    · exact h.inj i j c t t' hi hj
    · rename_i h1 h2
      have hj0 : j - ι.length = 0 := by
        cases hk : j - ι.length with
        | zero => rfl
        | succ k => rw [hk] at hj; simp at hj
      rw [hj0] at hj; simp at hj
      have := (h.dom i c t hi).2
      omega
    · rename_i h1 h2
      have hi0 : i - ι.length = 0 := by
        cases hk : i - ι.length with
        | zero => rfl
        | succ k => rw [hk] at hi; simp at hi
      rw [hi0] at hi; simp at hi
      have := (h.dom j c t' hj).2
      omega
    · rename_i h1 h2
      have hi0 : i - ι.length = 0 := by
        cases hk : i - ι.length with
        | zero => rfl
        | succ k => rw [hk] at hi; simp at hi
      have hj0 : j - ι.length = 0 := by
        cases hk : j - ι.length with
        | zero => rfl
        | succ k => rw [hk] at hj; simp at hj
      omega
  · intro i c t hi
    rw [List.getElem?_append] at hi
    split at hi
    · have := h.dom i c t hi; exact ⟨this.1, Nat.lt_trans this.2 hsz⟩
    · cases hk : i - ι.length with
      | zero => rw [hk] at hi; simp at hi; omega
      | succ k => rw [hk] at hi; simp at hi
  · intro i B c t hB hi hmB
    rw [List.getElem?_append] at hB hi
    rw [h.len] at hi
    split at hB
    · rename_i hlt
      rw [if_pos hlt] at hi
      obtain ⟨es, clk, h1, h2⟩ := h.mp i B c t hB hi hmB
      refine ⟨es, clk, ?_, h2.mono fun _ _ => crel.mono hx⟩
      have hclt := (h.dom i c t hi).2
      simp only [World.alloc]
      rw [Array.getElem?_push_lt hclt, ← h1, Array.getElem?_eq_getElem hclt]
    · rename_i hge
      cases hk : i - σ.length with
      | zero => rw [hk] at hB; simp at hB; subst hB; rw [hm] at hmB; cases hmB
      | succ k => rw [hk] at hB; simp at hB
  · intro i B c t hB hi hmB
    rw [List.getElem?_append] at hB hi
    rw [h.len] at hi
    split at hB
    · rename_i hlt
      rw [if_pos hlt] at hi
      obtain ⟨vs', rest', h1, h2, h3, h4⟩ := h.blk i B c t hB hi hmB
      refine ⟨vs', rest', ?_, h2, h3.mono fun _ _ => crel.mono hx, h4⟩
      have hclt := (h.dom i c t hi).2
      simp only [World.alloc]
      rw [Array.getElem?_push_lt hclt, ← h1, Array.getElem?_eq_getElem hclt]
    · rename_i hge
      rw [if_neg hge] at hi
      cases hk : i - σ.length with
      | zero =>
        rw [hk] at hB hi; simp at hB hi; subst hB; obtain ⟨rfl, rfl⟩ := hi
        exact ⟨vs, rest, by show (w.heap.push _)[w.heap.size]? = _; rw [Array.getElem?_push_size]; simp, by simp, hc.mono fun _ _ => crel.mono hx, hr⟩
      | succ k => rw [hk] at hB; simp at hB
/-- A new block. -/
theorem HRel.alloc {W0 : World} {ι : Loc} {σ : List Blk} {w : World} (h : HRel W0 ι σ w) {e : TypeId} {cs : List AV} {vs rest : List Value} {esz : Nat} {row room : Bool}
    (hc : Rels (crel ι σ) cs vs) (hr : room = false → rest = []) (hz : (!row && room) = false := by rfl) (hm : mapB ⟨cs, 0, e, esz, row, room⟩ = false := by rfl) :
    HRel W0 (ι ++ [(w.heap.size, (vs ++ rest).length)]) (σ ++ [⟨cs, 0, e, esz, row, room⟩]) (w.alloc (.cells (vs ++ rest).toArray e)) ∧
    Ext ι σ (ι ++ [(w.heap.size, (vs ++ rest).length)]) (σ ++ [⟨cs, 0, e, esz, row, room⟩]) := by
  have h1 := h.allocF (e := e) (esz := esz) (row := row) (room := room) hc hr hm
  rw [fzOf_none (B := ⟨cs, 0, e, esz, row, room⟩) hz] at h1
  exact h1
theorem getElem?_lt {α : Type} {l : List α} {i : Nat} {a : α} (h : l[i]? = some a) : i < l.length := (List.getElem?_eq_some_iff.1 h).1
/-- Cells of an own block are written: the block keeps its version. -/
theorem HRel.write {W0 : World} {ι : Loc} {σ : List Blk} {w : World} (h : HRel W0 ι σ w) {i : Nat} {B : Blk} {c t : Nat} (hB : σ[i]? = some B) (hi : ι[i]? = some (c, t))
    {cs : List AV} {vs rest : List Value} (hl : (vs ++ rest).length = t) (hc : Rels (crel ι σ) cs vs) (hr : B.room = false → rest = []) (hm : mapB B = false) :
    HRel W0 ι (σ.set i { B with cells := cs }) (w.setRow c (vs ++ rest).toArray) ∧ Ext ι σ ι (σ.set i { B with cells := cs }) := by
  have hx : Ext ι σ ι (σ.set i { B with cells := cs }) := by
    refine ⟨by simp, fun j C C' hC hC' => ?_, fun _ _ _ _ _ _ => rfl⟩
    rw [List.getElem?_set] at hC'
    split at hC'
    · rename_i hij
      subst hij
      rw [hB] at hC; cases hC
      split at hC' <;> cases hC'
      exact ⟨Nat.le_refl _, rfl, rfl⟩
    · rw [hC] at hC'; cases hC'; exact ⟨Nat.le_refl _, rfl, rfl⟩
  obtain ⟨vs0, rest0, h1, h2, h3, h4⟩ := h.blk i B c t hB hi hm
  have hclt : c < w.heap.size := (h.dom i c t hi).2
  have hcW := (h.dom i c t hi).1
  have hhp : (w.setRow c (vs ++ rest).toArray).heap[c]? = some (.cells (vs ++ rest).toArray B.e (fzOf B t)) := setRow_heap w c _ _ _ _ h1
  have hsz : (w.setRow c (vs ++ rest).toArray).heap.size = w.heap.size := by simp [World.setRow]
  have hoth : ∀ k, k ≠ c → (w.setRow c (vs ++ rest).toArray).heap[k]? = w.heap[k]? := fun k hk => by
    simp only [World.setRow, Array.getElem?_modify]
    rw [if_neg (fun e => hk e.symm)]
  refine ⟨⟨⟨h.below.os, h.below.tape, h.below.output, by rw [hsz]; exact h.below.size, fun k hk => (hoth k (by omega)).trans (h.below.block k hk)⟩, by simp [h.len], h.inj, fun j c' t' hj => by rw [hsz]; exact h.dom j c' t' hj, ?_, ?_, h.drw⟩, hx⟩
  · intro j C c' t' hC hj hmC
    rw [List.getElem?_set] at hC
    split at hC
    · split at hC <;> cases hC
      have q : mapB B = true := hmC; rw [hm] at q; cases q
    · rename_i hij
      obtain ⟨es, clk, k1, k2⟩ := h.mp j C c' t' hC hj hmC
      have hne : c' ≠ c := fun e => hij (by subst e; exact h.inj i j c' t t' hi hj)
      exact ⟨es, clk, (hoth c' hne).trans k1, k2.mono fun _ _ => crel.mono hx⟩
  intro j C c' t' hC hj hmC
  rw [List.getElem?_set] at hC
  split at hC
  · rename_i hij
    subst hij
    rw [hi] at hj; cases hj
    split at hC <;> cases hC
    exact ⟨vs, rest, hhp, hl, hc.mono fun _ _ => crel.mono hx, hr⟩
  · rename_i hij
    obtain ⟨vs', rest', k1, k2, k3, k4⟩ := h.blk j C c' t' hC hj hmC
    have hne : c' ≠ c := fun e => hij (by subst e; exact h.inj i j c' t t' hi hj)
    exact ⟨vs', rest', (hoth c' hne).trans k1, k2, k3.mono fun _ _ => crel.mono hx, k4⟩
end Go.Proofs.Ytcclhjohpicleaa.Abs
end

section
/- The abstract logic, part B: what each operation does to abstract values and own blocks, and that the model's operation does it. -/
set_option linter.unusedVariables false
set_option linter.unusedSimpArgs false
namespace Go.Proofs.Ytcclhjohpicleaa.Abs
open Go Go.RowKit
def szP (P : Program) (t : TypeId) : Option Nat := (P.info? t).map (·.size)
def zeroP (P : Program) (t : TypeId) : Option Value := (P.info? t).bind (·.zero)
def isAggD : TypeDesc → Bool
  | .struct _ | .array _ _ => true
  | _ => false
def aggP (P : Program) (t : TypeId) : Option Bool := (P.underlying t).map isAggD
/-- the offset of a field, and its size (0: not served) -/
def fieldP (P : Program) (s : TypeId) (i : Nat) : Option (Nat × Nat × Bool) :=
  match P.underlying s with
  | some (.struct fs) => match fs[i]? with
    | some f => match szP P f.type, aggP P f.type with
      | some n, some g => some (f.offset, n, g)
      | _, _ => none
    | none => none
  | _ => none
def ofV : Value → AV
  | .agg cs => if cs.all (·.oneCell') then .agg (cs.toList.map .lit) else .junk
  | v => .lit v
def mkAV (g : Bool) (cs : List AV) : AV := if g then .agg cs else cs.headD .junk
def cellsAV : AV → Option (List AV)
  | .agg cs => some cs
  | .junk | .tup _ => none
  | .lit v => if v.oneCell' then some [.lit v] else none
  | v => some [v]
abbrev Cont := AV → List Blk → Prop
/-- What a computation of the model leaves: a value and blocks of which K holds. -/
def Yields (P : Program) (W0 : World) (ι : Loc) (σ : List Blk) (w : World) (K : Cont) (s : Sem Value) : Prop :=
  ∃ v w' ι' σ' av, s.run P w = .ok v w' ∧ K av σ' ∧ HRel W0 ι' σ' w' ∧ Ext ι σ ι' σ' ∧ rel3 ι' σ' av v
section
variable {P : Program} {W0 : World} {ι : Loc} {σ : List Blk} {w : World} {K : Cont}
theorem rel3_ofV (v : Value) : rel3 ι σ (ofV v) v := by
  cases v <;> try exact rfl
  rename_i cs
  unfold ofV
  dsimp only
  split
  · rename_i h
    refine ⟨cs.toList, by simp, by simp, fun i a b ha hb => ?_⟩
    rw [List.getElem?_map, hb] at ha
    simp at ha; subst ha
    exact ⟨rfl, (Array.all_eq_true_iff_forall_mem.1 h) b (by simpa using List.mem_of_getElem? hb)⟩
  · exact trivial
/-- The same where the world stays as it is. -/
def Yields0 (P : Program) (ι : Loc) (σ : List Blk) (w : World) (K : Cont) (s : Sem Value) : Prop := ∃ v av, s.run P w = .ok v w ∧ K av σ ∧ rel3 ι σ av v
theorem Yields0.lit {s : Sem Value} {v : Value} (h : s.run P w = .ok v w) (hk : K (.lit v) σ) : Yields0 P ι σ w K s := ⟨v, _, h, hk, rfl⟩
theorem Yields0.same {s : Sem Value} {v : Value} {av : AV} (h : s.run P w = .ok v w) (hk : K av σ) (hr : rel3 ι σ av v) : Yields0 P ι σ w K s := ⟨v, av, h, hk, hr⟩
theorem Yields0.to {s : Sem Value} (h : Yields0 P ι σ w K s) (hh : HRel W0 ι σ w) : Yields P W0 ι σ w K s :=
  let ⟨v, av, h1, h2, h3⟩ := h; ⟨v, w, ι, σ, av, h1, h2, hh, Ext.refl _ _, h3⟩
theorem Yields.lit {s : Sem Value} {v : Value} (hh : HRel W0 ι σ w) (h : s.run P w = .ok v w) (hk : K (.lit v) σ) : Yields P W0 ι σ w K s :=
  ⟨v, w, ι, σ, _, h, hk, hh, Ext.refl _ _, rfl⟩
theorem Yields.same {s : Sem Value} {v : Value} {av : AV} (hh : HRel W0 ι σ w) (h : s.run P w = .ok v w) (hk : K av σ) (hr : rel3 ι σ av v) : Yields P W0 ι σ w K s :=
  ⟨v, w, ι, σ, av, h, hk, hh, Ext.refl _ _, hr⟩
theorem rel3_of_crel {v : AV} {x : Value} (h : crel ι σ v x) : rel3 ι σ v x := by
  obtain ⟨h, h1⟩ := h
  cases v <;> first | exact h | exact h.elim
theorem cellsAV_rel {av : AV} {x : Value} {cs : List AV} (hc : cellsAV av = some cs) (hr : rel3 ι σ av x) : Rels (crel ι σ) cs x.cells.toList := by
  cases av with
  | junk => simp [cellsAV] at hc
  | tup vs => simp [cellsAV] at hc
  | agg l =>
    simp [cellsAV] at hc; subst hc
    obtain ⟨m, rfl, h⟩ := hr
    simpa [Value.cells] using h
  | lit v =>
    simp only [cellsAV] at hc
    split at hc
    · rename_i h1
      cases hc
      have e : x = v := hr
      subst e
      have hx : x.cells = #[x] := by cases x <;> first | rfl | simp [Value.oneCell'] at h1
      rw [hx]
      exact Rels.cons ⟨rfl, h1⟩ Rels.nil
    · cases hc
  | ptr b ver off =>
    simp [cellsAV] at hc; subst hc
    obtain ⟨B, h1, h2, h3, h4⟩ := hr
    have hx : x.cells = #[x] := by cases x <;> first | rfl | simp [Value.oneCell'] at h3
    rw [hx]
    exact Rels.cons ⟨⟨B, h1, h2, h3, h4⟩, h3⟩ Rels.nil
  | sl b ver off len cap =>
    simp [cellsAV] at hc; subst hc
    obtain ⟨B, h1, h2, h3, h4⟩ := hr
    have hx : x.cells = #[x] := by cases x <;> first | rfl | simp [Value.oneCell'] at h3
    rw [hx]
    exact Rels.cons ⟨⟨B, h1, h2, h3, h4⟩, h3⟩ Rels.nil
  | fn f first caps =>
    simp [cellsAV] at hc; subst hc
    obtain ⟨l1, l2, e, h1, h2⟩ := hr
    subst e
    exact Rels.cons ⟨⟨l1, l2, rfl, h1, h2⟩, rfl⟩ Rels.nil
/-! ### load -/
def loadW (P : Program) (W0 : World) (t : TypeId) (a : AV) (σ : List Blk) (K : Cont) : Prop :=
  match szP P t, aggP P t, a with
  | some s, some g, .ptr b ver off => ∃ B, σ[b]? = some B ∧ B.ver = ver ∧ off + s ≤ B.cells.length ∧ (g = false → s = 1) ∧ K (mkAV g ((B.cells.drop off).take s)) σ
  | some s, some g, .lit (.pointer (some ad)) => ∃ cs : List Value, cs.length = s ∧ (g = false → s = 1) ∧ (∀ (j : Nat) (v : Value), cs[j]? = some v → W0.cell? (ad.add j) = some v ∧ v.oneCell' = true) ∧ ad.block < W0.heap.size ∧ K (mkAV g (cs.map .lit)) σ
  | _, _, _ => False
theorem info_of_sz {t : TypeId} {s : Nat} (h : szP P t = some s) : ∃ i, P.info? t = some i ∧ i.size = s := by
  unfold szP at h
  exact Option.map_eq_some_iff.1 h
theorem run_sizeOf {t : TypeId} {s : Nat} (h : szP P t = some s) (w : World) : (sizeOf t).run P w = .ok s w := by
  obtain ⟨i, hi, rfl⟩ := info_of_sz h
  simp [sizeOf, typeInfo, hi]
theorem run_isAgg {t : TypeId} {g : Bool} (h : aggP P t = some g) (w : World) : (isAgg t).run P w = .ok g w := by
  unfold aggP at h
  obtain ⟨d, hd, rfl⟩ := Option.map_eq_some_iff.1 h
  simp only [isAgg, Sem.run_bind, run_underlying hd, Result.andThen_ok]
  cases d <;> rfl
theorem run_loadVar_cells {t : TypeId} {g : Bool} {ad : Addr} {cs : List Value} (hs : szP P t = some cs.length) (hg : aggP P t = some g) (h1 : g = false → cs.length = 1)
    (hc : ∀ (j : Nat) (v : Value), cs[j]? = some v → w.cell? (ad.add j) = some v) :
    (loadVar t ad).run P w = .ok (if g then .agg cs.toArray else cs.headD undef) w := by
  simp only [loadVar, Sem.run_bind, run_isAgg hg, Result.andThen_ok]
  cases g with
  | true => simp only [if_true, Sem.run_bind, run_sizeOf hs, Result.andThen_ok, run_loadCells_list w ad cs hc, Sem.run_pure]
  | false =>
    have := h1 rfl
    match cs, this with
    | [v], _ =>
      have h0 := hc 0 v rfl
      simp only [Addr.add, if_true] at h0
      simp [run_load, h0]
/-- cells are written that no string shares, whatever the row's mark -/
theorem run_storeCells_fz (g o : Nat) (t : TypeId) (fz : Nat × Nat) : ∀ (vs : List Value) (i : Nat) (cur : Array Value) (w : World), w.heap[g]? = some (.cells cur t fz) → (∀ k, k < cur.size → (decide (fz.1 ≤ k) && decide (k < fz.2)) = false) → o + i + vs.length ≤ cur.size → (∀ v ∈ vs, v.oneCell' = true) →
    (storeCells ⟨g, o, none⟩ vs i).run P w = .ok () (w.setRow g (cur.toList.take (o + i) ++ vs ++ cur.toList.drop (o + i + vs.length)).toArray)
  | [], i, cur, w, hg, _, _, _ => by
    simp only [storeCells, List.append_nil, List.length_nil, Nat.add_zero, List.take_append_drop, Array.toArray_toList]
    rw [setRow_self w g cur t fz hg]
    rfl
  | v :: rest, i, cur, w, hg, hz, hl, h1 => by
    have hi : o + i < cur.size := by simp at hl; omega
    have hadd : (⟨g, o, none⟩ : Addr).add i = ⟨g, o + i, none⟩ := by unfold Addr.add; split <;> simp_all
    have hcell : w.cell? ⟨g, o + i, none⟩ = some cur[o + i] := by simp [World.cell?, hg, hi]
    have hfro : w.frozen? ⟨g, o + i, none⟩ = false := by
      have := hz (o + i) hi
      simp only [World.frozen?, hg]
      exact this
    have hst : (store ((⟨g, o, none⟩ : Addr).add i) v).run P w = .ok () (w.setRow g (cur.setIfInBounds (o + i) v)) := by
      rw [hadd, run_store P w _ v _ (h1 v (by simp)), hcell]
      simp [hfro, setCell_eq_setRow w g (o + i) cur t fz v hg]
    have ih := run_storeCells_fz g o t fz rest (i + 1) (cur.setIfInBounds (o + i) v) (w.setRow g (cur.setIfInBounds (o + i) v)) (setRow_heap w g cur _ t _ hg) (fun k hk => hz k (by simpa using hk)) (by simp at hl ⊢; omega) (fun x hx => h1 x (by simp [hx]))
    simp only [storeCells, Sem.run_bind, hst, Result.andThen_ok, ih, setRow_setRow]
    congr 3
    have e := list_seg_step cur.toList (o + i) v rest (by simp at hl ⊢; omega)
    simpa [Array.toList_setIfInBounds, Nat.add_assoc] using e
theorem cell?_own {c : Nat} {cs : List Value} {e : TypeId} {off : Nat} {fz : Nat × Nat} (h : w.heap[c]? = some (.cells cs.toArray e fz)) (j : Nat) :
    w.cell? ((⟨c, off, none⟩ : Addr).add j) = cs[off + j]? := by
  have : (⟨c, off, none⟩ : Addr).add j = ⟨c, off + j, none⟩ := by unfold Addr.add; split <;> simp_all
  rw [this]
  simp [World.cell?, h]
theorem loadW_sound {t : TypeId} {av : AV} {x : Value} (h : loadW P W0 t av σ K) (hh : HRel W0 ι σ w) (hr : rel3 ι σ av x) : Yields0 P ι σ w K (Instr.loadAt t x) := by
  unfold loadW at h
  split at h
  · rename_i s g b ver off hs hg
    obtain ⟨B, hB, hv, hlen, h1, hk⟩ := h
    obtain ⟨B', hB', hle, hone, hp⟩ := hr
    rw [hB] at hB'; cases hB'
    obtain ⟨c, tt, hi, rfl, hmB⟩ := hp.1 hv.symm
    obtain ⟨vs, rest, hheap, _, hrel, _⟩ := hh.blk b B c tt hB hi hmB
    have hl : vs.length = B.cells.length := hrel.1.symm
    have hcs : ((vs.drop off).take s).length = s := by simp; omega
    have hrun := run_loadVar_cells (P := P) (w := w) (ad := ⟨c, off, none⟩) (cs := (vs.drop off).take s) (by rw [hcs]; exact hs) hg (by rw [hcs]; exact h1) (fun j v hj => by
      rw [cell?_own hheap]
      rw [List.getElem?_take] at hj
      split at hj
      · rw [List.getElem?_drop] at hj
        rw [List.getElem?_append_left (getElem?_lt hj)]; exact hj
      · cases hj)
    refine Yields0.same (by simpa only [Instr.loadAt, Instr.sureAddr, Sem.run_bind, Sem.run_pure, Result.andThen_ok] using hrun) hk ?_
    have hrr := (hrel.drop off).take s
    cases g with
    | true => exact ⟨_, rfl, hrr⟩
    | false =>
      obtain rfl := h1 rfl
      match hcv : (vs.drop off).take 1, hcs, hrr with
      | [v], _, hrr =>
        match hca : (B.cells.drop off).take 1, hrr with
        | [a], hrr =>
          have := hrr.2 0 a v rfl rfl
          simp only [mkAV, Bool.false_eq_true, if_false, List.headD_cons]
          exact rel3_of_crel this
        | [], hrr => have := hrr.1; simp at this
        | _ :: _ :: _, hrr => have := hrr.1; simp at this
  · rename_i s g ad hs hg
    obtain ⟨cs, rfl, h1, hc, hlt, hk⟩ := h
    have e : x = .pointer (some ad) := hr
    subst e
    have hcell : ∀ (j : Nat) (v : Value), cs[j]? = some v → w.cell? (ad.add j) = some v := fun j v hj => by
      rw [← (hc j v hj).1]
      have hb : (ad.add j).block = ad.block := by unfold Addr.add; split <;> rfl
      exact hh.below.cell (by rw [hb]; exact hlt)
    have hrun := run_loadVar_cells (P := P) (w := w) (ad := ad) hs hg h1 hcell
    refine Yields0.same (by simpa only [Instr.loadAt, Instr.sureAddr, Sem.run_bind, Sem.run_pure, Result.andThen_ok] using hrun) hk ?_
    have hrel : Rels (crel ι σ) (cs.map .lit) cs := ⟨by simp, fun i a b ha hb => by
      rw [List.getElem?_map, hb] at ha
      simp at ha; subst ha
      exact ⟨rfl, (hc i b hb).2⟩⟩
    cases g with
    | true => exact ⟨_, rfl, hrel⟩
    | false =>
      match cs, h1 rfl with
      | [v], _ => rfl
  · exact h.elim
/-! ### store -/
def storeW (P : Program) (t : TypeId) (a v : AV) (σ : List Blk) (K : Cont) : Prop :=
  match szP P t, a, cellsAV v with
  | some s, .ptr b ver off, some cs => ∃ B, σ[b]? = some B ∧ B.ver = ver ∧ cs.length = s ∧ off + s ≤ B.cells.length ∧ K (.lit undef) (σ.set b { B with cells := B.cells.take off ++ cs ++ B.cells.drop (off + s) })
  | _, _, _ => False
theorem storeW_sound {t : TypeId} {av vv : AV} {x y : Value} (h : storeW P t av vv σ K) (hh : HRel W0 ι σ w) (hr : rel3 ι σ av x) (hv : rel3 ι σ vv y) :
    ∃ w' ι' σ', (Instr.storeAt t x y).run P w = .ok () w' ∧ K (.lit undef) σ' ∧ HRel W0 ι' σ' w' ∧ Ext ι σ ι' σ' := by
  unfold storeW at h
  split at h
  · rename_i s b ver off cs hs hc
    obtain ⟨B, hB, hver, hlen, hoff, hk⟩ := h
    obtain ⟨B', hB', hle, hone, hp⟩ := hr
    rw [hB] at hB'; cases hB'
    obtain ⟨c, tt, hi, rfl, hmB⟩ := hp.1 hver.symm
    obtain ⟨vs, rest, hheap, htot, hrel, hroom⟩ := hh.blk b B c tt hB hi hmB
    have hcr := cellsAV_rel hc hv
    have hyl : y.cells.toList.length = s := by rw [← hcr.1]; exact hlen
    have hl : vs.length = B.cells.length := hrel.1.symm
    have hst := run_storeCells_fz (P := P) c off B.e _ y.cells.toList 0 (vs ++ rest).toArray w hheap (fun k hk => fzOf_off (by simpa [← htot] using hk)) (by simp at hyl ⊢; omega) (fun u hu => by
      obtain ⟨i, hi⟩ := List.getElem?_of_mem hu
      have hlt := getElem?_lt hi
      rw [← hcr.1] at hlt
      exact (hcr.2 i _ u (List.getElem?_eq_getElem hlt) hi).2)
    simp only [Nat.add_zero, hyl] at hst
    have hsplit : (vs ++ rest).take off ++ y.cells.toList ++ (vs ++ rest).drop (off + s) = (vs.take off ++ y.cells.toList ++ vs.drop (off + s)) ++ rest := by
      rw [List.take_append_of_le_length (by omega), List.drop_append_of_le_length (by omega)]
      simp [List.append_assoc]
    rw [hsplit] at hst
    have hnew : Rels (crel ι σ) (B.cells.take off ++ cs ++ B.cells.drop (off + s)) (vs.take off ++ y.cells.toList ++ vs.drop (off + s)) := ((hrel.take off).append hcr).append (hrel.drop _)
    have hwr := HRel.write hh hB hi (cs := B.cells.take off ++ cs ++ B.cells.drop (off + s)) (vs := vs.take off ++ y.cells.toList ++ vs.drop (off + s)) (rest := rest)
      (by rw [← htot]; simp at hyl ⊢; omega) hnew hroom hmB
    refine ⟨_, ι, _, ?_, hk, hwr.1, hwr.2⟩
    have hysz : y.cells.size = s := by simpa using hyl
    simp only [Instr.storeAt, Instr.sureAddr, Sem.run_bind, Sem.run_pure, Result.andThen_ok, storeVar, run_sizeOf hs, hysz, ne_eq, not_true, if_false]
    exact hst
  · exact h.elim
/-! ### new blocks -/
def boxW (elem : TypeId) (v : AV) (σ : List Blk) (K : Cont) : Prop :=
  match cellsAV v with
  | some cs => K (.ptr σ.length 0 0) (σ ++ [⟨cs, 0, elem, 0, false, false⟩])
  | none => False
theorem boxW_sound {elem : TypeId} {av : AV} {x : Value} (h : boxW elem av σ K) (hh : HRel W0 ι σ w) (hr : rel3 ι σ av x) : Yields P W0 ι σ w K (Instr.box elem x) := by
  unfold boxW at h
  split at h
  · rename_i cs hc
    have ha := hh.alloc (e := elem) (vs := x.cells.toList) (rest := []) (esz := 0) (row := false) (room := false) (cellsAV_rel hc hr) (fun _ => rfl)
    refine ⟨.pointer (some ⟨w.heap.size, 0, none⟩), _, _, _, _, ?_, h, ha.1, ha.2, ?_⟩
    · simp [Instr.box, newVar, newRow, newObj, Sem.run]
    · refine ⟨_, by simp; rfl, Nat.le_refl _, rfl, fun _ => ⟨w.heap.size, _, by rw [← hh.len]; simp; rfl, rfl, rfl⟩, fun h => by cases h⟩
  · exact h.elim
theorem run_zeroValue {t : TypeId} {z : Value} (h : zeroP P t = some z) (w : World) : (zeroValue t).run P w = .ok z w := by
  unfold zeroP at h
  obtain ⟨i, hi, hz⟩ := Option.bind_eq_some_iff.1 h
  simp [zeroValue, typeInfo, hi, hz]
def allocW (P : Program) (elem : TypeId) (σ : List Blk) (K : Cont) : Prop :=
  match zeroP P elem with
  | some z => boxW elem (ofV z) σ K
  | none => False
theorem allocW_sound {elem : TypeId} (h : allocW P elem σ K) (hh : HRel W0 ι σ w) : Yields P W0 ι σ w K (Instr.alloc elem true (.tuple #[])) := by
  unfold allocW at h
  split at h
  · rename_i z hz
    obtain ⟨v, w', ι', σ', av, h1, h2, h3, h4, h5⟩ := boxW_sound (P := P) h hh (rel3_ofV z)
    refine ⟨v, w', ι', σ', av, ?_, h2, h3, h4, h5⟩
    rw [← h1]
    simp [Instr.alloc, Instr.box, run_zeroValue hz]
  · exact h.elim
/-! ### composite literals -/
def fillA (place : Nat → Option (Nat × Nat)) (cells : List AV) : List (Nat × AV) → Option (List AV)
  | [] => some cells
  | (i, v) :: rest =>
    match place i, cellsAV v with
    | some (off, size), some cs => if cs.length = size ∧ off + size ≤ cells.length then fillA place (cells.take off ++ cs ++ cells.drop (off + size)) rest else none
    | _, _ => none
theorem foldl_sets (off : Nat) : ∀ (l : List Value) (k : Nat) (cells : Array Value), off + k + l.length ≤ cells.size →
    ((l.zipIdx k).foldl (fun cs (x : Value × Nat) => cs.setIfInBounds (off + x.2) x.1) cells).toList = cells.toList.take (off + k) ++ l ++ cells.toList.drop (off + k + l.length)
  | [], k, cells, _ => by simp
  | v :: l, k, cells, h => by
    simp only [List.length_cons] at h
    simp only [List.zipIdx_cons, List.foldl_cons]
    rw [foldl_sets off l (k + 1) _ (by simp; omega)]
    have hlt : off + k < cells.toList.length := by simp; omega
    simp only [Array.toList_setIfInBounds, List.length_cons]
    have h1 : (cells.toList.set (off + k) v).take (off + (k + 1)) = cells.toList.take (off + k) ++ [v] := by
      rw [show off + (k + 1) = off + k + 1 by omega, List.take_succ_eq_append_getElem (by simpa using hlt)]
      simp [List.take_set_of_le]
    have h2 : (cells.toList.set (off + k) v).drop (off + (k + 1) + l.length) = cells.toList.drop (off + k + (l.length + 1)) := by
      rw [List.drop_set_of_lt (by omega), show off + (k + 1) + l.length = off + k + (l.length + 1) by omega]
    rw [h1, h2]
    simp [List.append_assoc]
theorem fillA_sound (place : Nat → Option (Nat × Nat)) : ∀ (parts : List (Nat × AV)) (vparts : List (Nat × Value)) (cells : List AV) (vs : Array Value) (out : List AV),
    fillA place cells parts = some out → Rels (fun (p : Nat × AV) (q : Nat × Value) => p.1 = q.1 ∧ rel3 ι σ p.2 q.2) parts vparts → Rels (crel ι σ) cells vs.toList →
    ∃ us, Instr.fill place vs vparts = some us ∧ Rels (crel ι σ) out us.toList
  | [], vparts, cells, vs, out, h, hp, hc => by
    obtain rfl := hp.nil_inv
    simp only [fillA] at h; cases h
    exact ⟨vs, rfl, hc⟩
  | (i, v) :: rest, vparts, cells, vs, out, h, hp, hc => by
    obtain ⟨⟨j, y⟩, vrest, rfl, ⟨he, hr⟩, hrest⟩ := hp.uncons
    simp only at he; subst he
    simp only [fillA] at h
    split at h
    · rename_i off size cs hpl hcs
      split at h
      · rename_i hcond
        have hcr := cellsAV_rel hcs hr
        have hyl : y.cells.size = size := by have := hcr.1; simp at this; omega
        have hvl : vs.size = cells.length := by have := hc.1; simp at this; omega
        have hnew := foldl_sets off y.cells.toList 0 vs (by simp; omega)
        have hfold : (y.cells.zipIdx.foldl (fun cs (x : Value × Nat) => cs.setIfInBounds (off + x.2) x.1) vs) = (vs.toList.take off ++ y.cells.toList ++ vs.toList.drop (off + size)).toArray := by
          apply Array.ext'
          rw [← Array.foldl_toList, Array.toList_zipIdx, hnew]
          simp [hyl]
        obtain ⟨us, h1, h2⟩ := fillA_sound place rest vrest _ (vs.toList.take off ++ y.cells.toList ++ vs.toList.drop (off + size)).toArray out h hrest (((hc.take off).append hcr).append (hc.drop _))
        refine ⟨us, ?_, h2⟩
        simp only [Instr.fill, hpl]
        rw [if_neg (by simp [hyl]; omega)]
        rw [← h1, ← hfold]
      · cases h
    · cases h
def partsA (fr : Operand → AV) (parts : Array (Nat × Operand)) : List (Nat × AV) := parts.toList.map fun (i, x) => (i, fr x)
theorem partsA_rel {fr : Operand → AV} {ρ : Operand → Value} (h : ∀ x, rel3 ι σ (fr x) (ρ x)) (parts : Array (Nat × Operand)) :
    Rels (fun (p : Nat × AV) (q : Nat × Value) => p.1 = q.1 ∧ rel3 ι σ p.2 q.2) (partsA fr parts) (parts.map fun (i, x) => (i, ρ x)).toList := by
  unfold partsA
  rw [Array.toList_map]
  generalize parts.toList = l
  exact ⟨by simp, fun i a b ha hb => by
    rw [List.getElem?_map] at ha hb
    cases hl : l[i]? with
    | none => rw [hl] at ha; cases ha
    | some q => rw [hl] at ha hb; simp at ha hb; subst ha; subst hb; exact ⟨rfl, h q.2⟩⟩
theorem crel_of_ofV {z : Value} {cs : List AV} (h : cellsAV (ofV z) = some cs) : Rels (crel ι σ) cs z.cells.toList := cellsAV_rel h (rel3_ofV z)
def structP (P : Program) (t : TypeId) : Option (List (Nat × Nat)) :=
  match P.underlying t with
  | some (.struct fs) => fs.toList.mapM (fun f => (P.info? f.type).map fun i => (f.offset, i.size))
  | _ => none
def arrayP (P : Program) (t : TypeId) : Option (Nat × Nat) :=
  match P.underlying t with
  | some (.array n e) => (szP P e).map fun s => (n, s)
  | _ => none
/-- a slice type's element: its type, its size, its bytes -/
def sliceP (P : Program) (t : TypeId) : Option (Nat × Nat × Nat) :=
  match P.underlying t with
  | some (.slice e) => (P.info? e).map fun i => (e, i.size, i.bytes)
  | _ => none
theorem sliceP_inv {t e s by_ : Nat} (h : sliceP P t = some (e, s, by_)) : ∃ i, P.underlying t = some (.slice e) ∧ P.info? e = some i ∧ i.size = s ∧ i.bytes = by_ := by
  unfold sliceP at h
  split at h
  · rename_i e' hu
    obtain ⟨i, hi, he⟩ := Option.map_eq_some_iff.1 h
    simp only [Prod.mk.injEq] at he
    obtain ⟨rfl, rfl, rfl⟩ := he
    exact ⟨i, hu, hi, rfl, rfl⟩
  · cases h
theorem arrayP_inv {t n s : Nat} (h : arrayP P t = some (n, s)) : ∃ e, P.underlying t = some (.array n e) ∧ szP P e = some s := by
  unfold arrayP at h
  split at h
  · rename_i m e hu
    obtain ⟨s', hs', he⟩ := Option.map_eq_some_iff.1 h
    simp only [Prod.mk.injEq] at he
    obtain ⟨rfl, rfl⟩ := he
    exact ⟨e, hu, hs'⟩
  · cases h
def placesP (P : Program) (t : TypeId) (i : Nat) : Option (Nat × Nat) :=
  match structP P t with
  | some pl => pl.toArray[i]?
  | none => match arrayP P t with
    | some (_, n) => some (i * n, n)
    | none => none
def buildW (P : Program) (fr : Operand → AV) (t : TypeId) (parts : Array (Nat × Operand)) (σ : List Blk) (K : Cont) : Prop :=
  match zeroP P t with
  | some z => match cellsAV (ofV z) with
    | some zc => ((structP P t).isSome || (arrayP P t).isSome) = true ∧ match fillA (placesP P t) zc (partsA fr parts) with
      | some cs => K (.agg cs) σ
      | none => False
    | none => False
  | none => False
theorem zero_info {t : TypeId} {z : Value} (h : zeroP P t = some z) : ∃ i, P.info? t = some i ∧ i.zero = some z := by
  unfold zeroP at h
  exact Option.bind_eq_some_iff.1 h
theorem buildW_sound {fr : Operand → AV} {ρ : Operand → Value} {t : TypeId} {parts : Array (Nat × Operand)} (h : buildW P fr t parts σ K) (hh : HRel W0 ι σ w) (hr : ∀ x, rel3 ι σ (fr x) (ρ x)) :
    Yields0 P ι σ w K (Instr.build t (parts.map fun (i, x) => (i, ρ x))) := by
  unfold buildW at h
  split at h
  · rename_i z hz
    obtain ⟨it, hit, hzz⟩ := zero_info hz
    split at h
    · rename_i zc hzc
      obtain ⟨hsome, h⟩ := h
      split at h
      · rename_i cs hf
        obtain ⟨us, h1, h2⟩ := fillA_sound (σ := σ) (ι := ι) _ _ _ _ z.cells _ hf (partsA_rel hr parts) (crel_of_ofV hzc)
        have hb : P.built t (parts.map fun (i, x) => (i, ρ x)).toList = some us := by
          cases hu : P.underlying t with
          | none => simp [structP, arrayP, hu] at hsome
          | some d =>
            cases d <;> try (simp [structP, arrayP, hu] at hsome; done)
            case array m e =>
              have hst : structP P t = none := by simp [structP, hu]
              cases ha : arrayP P t with
              | none => simp [hst, ha] at hsome
              | some q =>
                obtain ⟨m', n⟩ := q
                obtain ⟨e', hu', hs'⟩ := arrayP_inv ha
                rw [hu] at hu'; cases hu'
                obtain ⟨ie, hie, rfl⟩ := info_of_sz hs'
                have hp : placesP P t = fun i => some (i * ie.size, ie.size) := by funext i; simp [placesP, hst, ha]
                rw [hp] at h1
                simp only [Program.built, hit, hu, hzz, hie]
                exact h1
            case struct fs =>
              have ha : arrayP P t = none := by simp [arrayP, hu]
              cases hst : structP P t with
              | none => simp [hst, ha] at hsome
              | some pl =>
                have hp : placesP P t = fun i => pl.toArray[i]? := by funext i; simp [placesP, hst]
                rw [hp] at h1
                have hst' := hst
                simp only [structP, hu] at hst'
                simp only [Program.built, hit, hu, hzz, hst']
                exact h1
        exact Yields0.same (run_build w t _ us hb) h ⟨us.toList, by simp, h2⟩
      · exact h.elim
    · exact h.elim
  · exact h.elim
/-! ### addresses and parts -/
def fieldAddrW (P : Program) (s : TypeId) (a : AV) (f : Nat) (σ : List Blk) (K : Cont) : Prop :=
  match fieldP P s f, a with
  | some (off, n, _), .ptr b ver o => (∃ B, σ[b]? = some B ∧ B.ver = ver) ∧ n ≠ 0 ∧ K (.ptr b ver (o + off)) σ
  | some (off, n, _), .lit (.pointer (some ad)) => n ≠ 0 ∧ K (.lit (.pointer (some (ad.add off)))) σ
  | _, _ => False
theorem fieldP_inv {s : TypeId} {f off n : Nat} {g : Bool} (h : fieldP P s f = some (off, n, g)) :
    ∃ fs fd, P.underlying s = some (.struct fs) ∧ fs[f]? = some fd ∧ fd.offset = off ∧ szP P fd.type = some n ∧ aggP P fd.type = some g := by
  unfold fieldP at h
  split at h
  · rename_i fs hu
    split at h
    · rename_i fd hf
      split at h
      · rename_i n' g' h1 h2
        simp only [Option.some.injEq, Prod.mk.injEq] at h
        obtain ⟨rfl, rfl, rfl⟩ := h
        exact ⟨fs, fd, hu, hf, rfl, h1, h2⟩
      · cases h
    · cases h
  · cases h
theorem run_fieldAt {s : TypeId} {f off n : Nat} {g : Bool} (h : fieldP P s f = some (off, n, g)) (hn : n ≠ 0) (ad : Addr) (w : World) :
    (Instr.fieldAt s (.pointer (some ad)) f).run P w = .ok (.pointer (some (ad.add off))) w := by
  obtain ⟨fs, fd, hu, hf, rfl, h1, h2⟩ := fieldP_inv h
  simp [Instr.fieldAt, run_underlying hu, hf, Instr.sureAddr, fieldPlace, run_sizeOf h1, hn]
theorem ptrRel_now {b ver off : Nat} {x : Value} {B : Blk} (h : ptrRel ι σ b ver off x) (hB : σ[b]? = some B) (hv : B.ver = ver) : ∃ c t, ι[b]? = some (c, t) ∧ x = .pointer (some ⟨c, off, none⟩) := by
  obtain ⟨B', hB', hle, hone, hp, _⟩ := h
  rw [hB] at hB'; cases hB'
  obtain ⟨c, t, h1, h2, _⟩ := hp hv.symm
  exact ⟨c, t, h1, h2⟩
theorem ptrRel_not {b ver off : Nat} {x : Value} {B : Blk} (h : ptrRel ι σ b ver off x) (hB : σ[b]? = some B) (hv : B.ver = ver) : mapB B = false := by
  obtain ⟨B', hB', hle, hone, hp, _⟩ := h
  rw [hB] at hB'; cases hB'
  obtain ⟨c, t, h1, h2, h3⟩ := hp hv.symm
  exact h3
theorem ptrRel_mk {b ver off c t : Nat} {B : Blk} (hB : σ[b]? = some B) (hv : B.ver = ver) (hi : ι[b]? = some (c, t)) (hm : mapB B = false) : ptrRel ι σ b ver off (.pointer (some ⟨c, off, none⟩)) :=
  ⟨B, hB, by rw [hv]; exact Nat.le_refl _, rfl, fun _ => ⟨c, t, hi, rfl, hm⟩, fun h => by rw [hm] at h; cases h⟩
theorem add_own (c o n : Nat) : (⟨c, o, none⟩ : Addr).add n = ⟨c, o + n, none⟩ := by unfold Addr.add; split <;> simp_all
theorem fieldAddrW_sound {s : TypeId} {av : AV} {x : Value} {f : Nat} (h : fieldAddrW P s av f σ K) (hh : HRel W0 ι σ w) (hr : rel3 ι σ av x) : Yields0 P ι σ w K (Instr.fieldAt s x f) := by
  unfold fieldAddrW at h
  split at h
  · rename_i off n _ b ver o hf
    obtain ⟨⟨B, hB, hv⟩, hn, hk⟩ := h
    obtain hmB := ptrRel_not hr hB hv
    obtain ⟨c, t, hi, rfl⟩ := ptrRel_now hr hB hv
    have hrun := run_fieldAt hf hn ⟨c, o, none⟩ w
    rw [add_own] at hrun
    exact Yields0.same hrun hk (ptrRel_mk hB hv hi hmB)
  · rename_i off n _ ad hf
    have e : x = .pointer (some ad) := hr
    subst e
    exact Yields0.lit (run_fieldAt hf h.1 ad w) h.2
  · exact h.elim
/-- a part of a value's cells -/
def partA (g : Bool) (n off : Nat) (cs : List AV) : Option AV :=
  if g then some (.agg ((cs.drop off).take n)) else cs[off]?
theorem partA_sound {t : TypeId} {g : Bool} {n off : Nat} {cs : List AV} {l : List Value} {av : AV} (hs : szP P t = some n) (hg : aggP P t = some g) (h : partA g n off cs = some av) (hr : Rels (crel ι σ) cs l) (w : World) :
    ∃ v, (part t l.toArray off).run P w = .ok v w ∧ rel3 ι σ av v := by
  unfold partA at h
  cases g with
  | true =>
    simp only [if_true, Option.some.injEq] at h; subst h
    refine ⟨.agg ((l.drop off).take n).toArray, ?_, _, rfl, (hr.drop off).take n⟩
    simp only [part, Sem.run_bind, run_isAgg hg, Result.andThen_ok, if_true, run_sizeOf hs, Sem.run_pure]
    congr 2
    apply Array.ext'
    simp [List.take_drop, Nat.add_sub_cancel_left]
  | false =>
    simp only [Bool.false_eq_true, if_false] at h
    obtain ⟨v, hv, hc⟩ := hr.get h
    refine ⟨v, ?_, rel3_of_crel hc⟩
    simp only [part, Sem.run_bind, run_isAgg hg, Result.andThen_ok, Bool.false_eq_true, if_false]
    simp [hv]
def fieldW (P : Program) (t : TypeId) (a : AV) (f : Nat) (σ : List Blk) (K : Cont) : Prop :=
  match fieldP P t f, a with
  | some (off, n, g), .agg cs => match partA g n off cs with
    | some v => K v σ
    | none => False
  | _, _ => False
theorem fieldW_sound {t : TypeId} {av : AV} {x : Value} {f : Nat} (h : fieldW P t av f σ K) (hh : HRel W0 ι σ w) (hr : rel3 ι σ av x) : Yields0 P ι σ w K (Instr.field t x f) := by
  unfold fieldW at h
  split at h
  · rename_i off n g cs hf
    split at h
    · rename_i v hv
      obtain ⟨fs, fd, hu, hfd, rfl, h1, h2⟩ := fieldP_inv hf
      obtain ⟨l, rfl, hrel⟩ := hr
      obtain ⟨y, hy, hyr⟩ := partA_sound (P := P) h1 h2 hv hrel w
      refine Yields0.same ?_ h hyr
      simp [Instr.field, run_underlying hu, hfd, asAgg, hy]
    · exact h.elim
  · exact h.elim
def indexAddrW (P : Program) (t : TypeId) (a i : AV) (σ : List Blk) (K : Cont) : Prop :=
  match a, i with
  | .ptr b ver o, .lit (.int _ i) => match arrayP P t with
    | some (len, s) => (∃ B, σ[b]? = some B ∧ B.ver = ver) ∧ 0 ≤ i ∧ i < (len : Int) ∧ K (.ptr b ver (o + i.toNat * s)) σ
    | none => False
  | .lit (.pointer (some ad)), .lit (.int _ i) => match arrayP P t with
    | some (len, s) => 0 ≤ i ∧ i < (len : Int) ∧ K (.lit (.pointer (some (ad.add (i.toNat * s))))) σ
    | none => False
  | .sl b ver o len _, .lit (.int _ i) => match sliceP P t with
    | some (_, s, _) => (∃ B, σ[b]? = some B ∧ B.ver = ver) ∧ 0 ≤ i ∧ i < (len : Int) ∧ K (.ptr b ver (o + i.toNat * s)) σ
    | none => False
  | .lit (.slice (some ad) len _), .lit (.int _ i) => match sliceP P t with
    | some (_, s, _) => 0 ≤ i ∧ i < (len : Int) ∧ K (.lit (.pointer (some (ad.add (i.toNat * s))))) σ
    | none => False
  | _, _ => False
theorem slRel_now {b ver off len cap : Nat} {x : Value} {B : Blk} (h : slRel ι σ b ver off len cap x) (hB : σ[b]? = some B) (hv : B.ver = ver) :
    ∃ c t, ι[b]? = some (c, t) ∧ x = .slice (some ⟨c, off, none⟩) len cap ∧ len ≤ cap ∧ cap ≤ maxLen ∧ (B.row = true → 0 < cap → off + cap * B.esz = t) := by
  obtain ⟨B', hB', hle, hone, hp, _⟩ := h
  rw [hB] at hB'; cases hB'
  exact hp hv.symm
theorem slRel_not {b ver off len cap : Nat} {x : Value} {B : Blk} (h : slRel ι σ b ver off len cap x) (hB : σ[b]? = some B) : mapB B = false := by
  obtain ⟨B', hB', hle, hone, hp, hm⟩ := h
  rw [hB] at hB'; cases hB'
  exact hm
theorem run_indexAt_slice {t e s by_ : Nat} (hs : sliceP P t = some (e, s, by_)) (ad : Addr) (len cap : Nat) (k : IntKind) {i : Int} (h0 : 0 ≤ i) (h1 : i < (len : Int)) (w : World) :
    (Instr.indexAt t (.slice (some ad) len cap) (.int k i)).run P w = .ok (.pointer (some (ad.add (i.toNat * s)))) w := by
  obtain ⟨ie, hu, hi, rfl, _⟩ := sliceP_inv hs
  have hsz : szP P e = some ie.size := by simp [szP, hi]
  have hb : (0 ≤ i ∧ i < (len : Int)) := ⟨h0, h1⟩
  simp [Instr.indexAt, asIntOf, run_underlying hu, hb, run_sizeOf hsz]
theorem indexAddrW_sound {t : TypeId} {av iv : AV} {x y : Value} (h : indexAddrW P t av iv σ K) (hh : HRel W0 ι σ w) (hr : rel3 ι σ av x) (hy : rel3 ι σ iv y) : Yields0 P ι σ w K (Instr.indexAt t x y) := by
  unfold indexAddrW at h
  split at h
  · rename_i b ver o k i
    have e : y = .int k i := hy
    subst e
    split at h
    · rename_i len s ha
      obtain ⟨⟨B, hB, hv⟩, h0, h1, hk⟩ := h
      have hmB := ptrRel_not hr hB hv
      obtain ⟨c, t', hi, rfl⟩ := ptrRel_now hr hB hv
      obtain ⟨e, hu, hs⟩ := arrayP_inv ha
      have hb : (0 ≤ i ∧ i < (len : Int)) := ⟨h0, h1⟩
      refine Yields0.same (v := .pointer (some ⟨c, o + i.toNat * s, none⟩)) ?_ hk (ptrRel_mk hB hv hi hmB)
      simp [Instr.indexAt, asIntOf, run_underlying hu, hb, run_sizeOf hs, Instr.sureAddr, add_own]
    · exact h.elim
  · rename_i ad k i
    have e : y = .int k i := hy
    subst e
    have e : x = .pointer (some ad) := hr
    subst e
    split at h
    · rename_i len s ha
      obtain ⟨h0, h1, hk⟩ := h
      obtain ⟨e, hu, hs⟩ := arrayP_inv ha
      have hb : (0 ≤ i ∧ i < (len : Int)) := ⟨h0, h1⟩
      refine Yields0.lit ?_ hk
      simp [Instr.indexAt, asIntOf, run_underlying hu, hb, run_sizeOf hs, Instr.sureAddr]
    · exact h.elim
  · rename_i b ver o len cap k i
    have e : y = .int k i := hy
    subst e
    split at h
    · rename_i e s by_ ha
      obtain ⟨⟨B, hB, hv⟩, h0, h1, hk⟩ := h
      have hmB := slRel_not hr hB
      obtain ⟨c, t', hi, rfl, hl, hm, hrow⟩ := slRel_now hr hB hv
      have hrun := run_indexAt_slice ha ⟨c, o, none⟩ len cap k h0 h1 w
      rw [add_own] at hrun
      exact Yields0.same hrun hk (ptrRel_mk hB hv hi hmB)
    · exact h.elim
  · rename_i ad len cap k i
    have e : y = .int k i := hy
    subst e
    have e : x = .slice (some ad) len cap := hr
    subst e
    split at h
    · rename_i e s by_ ha
      obtain ⟨h0, h1, hk⟩ := h
      exact Yields0.lit (run_indexAt_slice ha ad len cap k h0 h1 w) hk
    · exact h.elim
  · exact h.elim
def indexW (P : Program) (t : TypeId) (a i : AV) (σ : List Blk) (K : Cont) : Prop :=
  match a, i with
  | .agg cs, .lit (.int _ i) => match P.underlying t with
    | some (.array len e) => match szP P e, aggP P e with
      | some s, some g => 0 ≤ i ∧ i < (len : Int) ∧ match partA g s (i.toNat * s) cs with
        | some v => K v σ
        | none => False
      | _, _ => False
    | _ => False
  | .lit (.string s), .lit (.int _ i) => P.underlying t = some .string ∧ 0 ≤ i ∧ i < (s.size : Int) ∧ K (.lit (.int .u8 (s.data[i.toNat]?.getD 0).toNat)) σ
  | _, _ => False
theorem indexW_sound {t : TypeId} {av iv : AV} {x y : Value} (h : indexW P t av iv σ K) (hh : HRel W0 ι σ w) (hr : rel3 ι σ av x) (hy : rel3 ι σ iv y) : Yields0 P ι σ w K (Instr.index t x y) := by
  unfold indexW at h
  split at h
  · rename_i cs k i
    have e : y = .int k i := hy
    subst e
    split at h
    · rename_i len e hu
      split at h
      · rename_i s g hs hg
        obtain ⟨h0, h1, hk⟩ := h
        split at hk
        · rename_i v hv
          obtain ⟨l, rfl, hrel⟩ := hr
          obtain ⟨u, hu', hur⟩ := partA_sound (P := P) hs hg hv hrel w
          have hb : (0 ≤ i ∧ i < (len : Int)) := ⟨h0, h1⟩
          refine Yields0.same ?_ hk hur
          simp [Instr.index, asIntOf, run_underlying hu, hb, run_sizeOf hs, hu']
        · exact hk.elim
      · exact h.elim
    · exact h.elim
  · rename_i s k i
    have e : y = .int k i := hy
    subst e
    have e : x = .string s := hr
    subst e
    obtain ⟨hu, h0, h1, hk⟩ := h
    refine Yields0.lit ?_ hk
    have hlt : i.toNat < s.data.size := by have : s.data.size = s.size := rfl; omega
    have hg : s[i.toNat]? = some s.data[i.toNat] := by
      rw [getElem?_pos s i.toNat (by simpa using hlt)]; rfl
    have hg2 : s.data[i.toNat]?.getD 0 = s.data[i.toNat] := by rw [Array.getElem?_eq_getElem hlt]; rfl
    simp only [Instr.index, asIntOf, Sem.run_bind, Sem.run_pure, Result.andThen_ok, run_underlying hu, h0, if_true, hg, hg2]
  · exact h.elim
end
end Go.Proofs.Ytcclhjohpicleaa.Abs
end

section
/- The abstract logic, part C: slices that are made, appended to and cut; arithmetic, comparisons, conversions. -/
set_option linter.unusedVariables false
set_option linter.unusedSimpArgs false
namespace Go.Proofs.Ytcclhjohpicleaa.Abs
open Go Go.RowKit
section
variable {P : Program} {W0 : World} {ι : Loc} {σ : List Blk} {w : World} {K : Cont}
theorem getElem?_set_self' {α : Type} {l : List α} {i : Nat} {a b : α} (h : l[i]? = some a) : (l.set i b)[i]? = some b := by
  rw [List.getElem?_set]; simp [getElem?_lt h]
/-- A block of the model's own, of no further concern. -/
theorem HRel.garbage (h : HRel W0 ι σ w) (o : Obj) : HRel W0 ι σ (w.alloc o) := by
  refine ⟨h.below.alloc h.below.size o, h.len, h.inj, fun i c t hi => ?_, fun i B c t hB hi hm => ?_, fun i B c t hB hi hm => ?_, h.drw⟩
  · have := h.dom i c t hi
    exact ⟨this.1, Nat.lt_trans this.2 (by show w.heap.size < (w.heap.push _).size; simp)⟩
  · obtain ⟨es, clk, h1, h2⟩ := h.mp i B c t hB hi hm
    refine ⟨es, clk, ?_, h2⟩
    have hclt := (h.dom i c t hi).2
    show (w.heap.push _)[c]? = _
    rw [Array.getElem?_push_lt hclt, ← h1, Array.getElem?_eq_getElem hclt]
  · obtain ⟨vs, rest, h1, h2, h3, h4⟩ := h.blk i B c t hB hi hm
    refine ⟨vs, rest, ?_, h2, h3, h4⟩
    have hclt := (h.dom i c t hi).2
    show (w.heap.push _)[c]? = _
    rw [Array.getElem?_push_lt hclt, ← h1, Array.getElem?_eq_getElem hclt]
theorem Ext.bump {b : Nat} {B : Blk} {cs : List AV} {q : Nat × Nat} (hB : σ[b]? = some B) : Ext ι σ (ι.set b q) (σ.set b { B with cells := cs, ver := B.ver + 1, room := true }) := by
  refine ⟨by simp, fun j C C' hC hC' => ?_, fun j C C' hC hC' he => ?_⟩
  · rw [List.getElem?_set] at hC'
    split at hC'
    · rename_i hij
      subst hij
      rw [hB] at hC; cases hC
      split at hC' <;> cases hC'
      exact ⟨Nat.le_succ _, rfl, rfl⟩
    · rw [hC] at hC'; cases hC'; exact ⟨Nat.le_refl _, rfl, rfl⟩
  · rw [List.getElem?_set] at hC'
    split at hC'
    · rename_i hij
      subst hij
      rw [hB] at hC; cases hC
      split at hC' <;> cases hC'
      simp at he
    · rename_i hij
      rw [List.getElem?_set, if_neg hij]
/-- An own block is written anew at its place, one version on. -/
theorem HRel.writeV (h : HRel W0 ι σ w) {b : Nat} {B : Blk} {c t : Nat} (hB : σ[b]? = some B) (hrow : B.row = true) (hi : ι[b]? = some (c, t))
    {cs : List AV} {vs rest : List Value} (hl : (vs ++ rest).length = t) (hc : Rels (crel ι σ) cs vs) :
    HRel W0 ι (σ.set b { B with cells := cs, ver := B.ver + 1, room := true }) (w.setRow c (vs ++ rest).toArray) ∧ Ext ι σ ι (σ.set b { B with cells := cs, ver := B.ver + 1, room := true }) := by
  have hx : Ext ι σ ι (σ.set b { B with cells := cs, ver := B.ver + 1, room := true }) := by
    have hq := Ext.bump (ι := ι) (cs := cs) (q := (c, t)) hB
    rwa [show ι.set b (c, t) = ι from by
      apply List.ext_getElem?; intro j; rw [List.getElem?_set]; split
      · rename_i e; subst e; rw [if_pos (getElem?_lt hi)]; exact hi.symm
      · rfl] at hq
  have hm : mapB B = false := by unfold mapB; rw [hrow]; rfl
  obtain ⟨vs0, rest0, h1, h2, h3, h4⟩ := h.blk b B c t hB hi hm
  have hcW := (h.dom b c t hi).1
  have hhp : (w.setRow c (vs ++ rest).toArray).heap[c]? = some (.cells (vs ++ rest).toArray B.e (0, 0)) := by rw [fzOf_row hrow] at h1; exact setRow_heap w c _ _ _ _ h1
  have hsz : (w.setRow c (vs ++ rest).toArray).heap.size = w.heap.size := by simp [World.setRow]
  have hoth : ∀ k, k ≠ c → (w.setRow c (vs ++ rest).toArray).heap[k]? = w.heap[k]? := fun k hk => by
    simp only [World.setRow, Array.getElem?_modify]
    rw [if_neg (fun e => hk e.symm)]
  refine ⟨⟨⟨h.below.os, h.below.tape, h.below.output, by rw [hsz]; exact h.below.size, fun k hk => (hoth k (by omega)).trans (h.below.block k hk)⟩, by simp [h.len], h.inj, fun j c' t' hj => by rw [hsz]; exact h.dom j c' t' hj, ?_, ?_, h.drw⟩, hx⟩
  · intro j C c' t' hC hj hmC
    rw [List.getElem?_set] at hC
    split at hC
    · split at hC <;> cases hC
      have q : mapB B = true := hmC; rw [hm] at q; cases q
    · rename_i hij
      obtain ⟨es, clk, k1, k2⟩ := h.mp j C c' t' hC hj hmC
      have hne : c' ≠ c := fun e => hij (by subst e; exact h.inj b j c' t t' hi hj)
      exact ⟨es, clk, (hoth c' hne).trans k1, k2.mono fun _ _ => crel.mono hx⟩
  intro j C c' t' hC hj hmC
  rw [List.getElem?_set] at hC
  split at hC
  · rename_i hij
    subst hij
    rw [hi] at hj; cases hj
    split at hC <;> cases hC
    exact ⟨vs, rest, by rw [fzOf_row (show ({ B with cells := cs, ver := B.ver + 1, room := true } : Blk).row = true from hrow)]; exact hhp, hl, hc.mono fun _ _ => crel.mono hx, fun h => by cases h⟩
  · rename_i hij
    obtain ⟨vs', rest', k1, k2, k3, k4⟩ := h.blk j C c' t' hC hj hmC
    have hne : c' ≠ c := fun e => hij (by subst e; exact h.inj b j c' t t' hi hj)
    exact ⟨vs', rest', (hoth c' hne).trans k1, k2, k3.mono fun _ _ => crel.mono hx, k4⟩
/-- An own block goes to a new place, one version on. -/
theorem HRel.relocate (h : HRel W0 ι σ w) {b : Nat} {B : Blk} (hB : σ[b]? = some B) (hrow : B.row = true) {cs : List AV} {vs rest : List Value} (hc : Rels (crel ι σ) cs vs) :
    HRel W0 (ι.set b (w.heap.size, (vs ++ rest).length)) (σ.set b { B with cells := cs, ver := B.ver + 1, room := true }) (w.alloc (.cells (vs ++ rest).toArray B.e)) ∧
    Ext ι σ (ι.set b (w.heap.size, (vs ++ rest).length)) (σ.set b { B with cells := cs, ver := B.ver + 1, room := true }) := by
  have hx := Ext.bump (ι := ι) (cs := cs) (q := (w.heap.size, (vs ++ rest).length)) hB
  have hsz : w.heap.size < (w.alloc (.cells (vs ++ rest).toArray B.e)).heap.size := by show w.heap.size < (w.heap.push _).size; simp
  have hm : mapB B = false := by unfold mapB; rw [hrow]; rfl
  refine ⟨⟨h.below.alloc h.below.size _, by simp [h.len], ?_, ?_, ?_, ?_, h.drw⟩, hx⟩
  · intro i j c t t' hi hj
    rw [List.getElem?_set] at hi hj
    split at hi <;> split at hj
    · omega
    · split at hi <;> cases hi
      have := (h.dom j _ t' hj).2
      omega
    · split at hj <;> cases hj
      have := (h.dom i _ t hi).2
      omega
    · exact h.inj i j c t t' hi hj
  · intro i c t hi
    rw [List.getElem?_set] at hi
    split at hi
    · split at hi <;> cases hi
      exact ⟨h.below.size, hsz⟩
    · have := h.dom i c t hi; exact ⟨this.1, Nat.lt_trans this.2 hsz⟩
  · intro j C c t hC hj hmC
    rw [List.getElem?_set] at hC hj
    split at hC
    · split at hC <;> cases hC
      have q : mapB B = true := hmC; rw [hm] at q; cases q
    · rename_i hij
      rw [if_neg hij] at hj
      obtain ⟨es, clk, k1, k2⟩ := h.mp j C c t hC hj hmC
      have hclt := (h.dom j c t hj).2
      refine ⟨es, clk, ?_, k2.mono fun _ _ => crel.mono hx⟩
      show (w.heap.push _)[c]? = _
      rw [Array.getElem?_push_lt hclt, ← k1, Array.getElem?_eq_getElem hclt]
  · intro j C c t hC hj hmC
    rw [List.getElem?_set] at hC hj
    split at hC
    · rename_i hij
      rw [if_pos hij] at hj
      split at hC <;> cases hC
      split at hj <;> cases hj
      exact ⟨vs, rest, by rw [fzOf_row (show ({ B with cells := cs, ver := B.ver + 1, room := true } : Blk).row = true from hrow)]; show (w.heap.push _)[w.heap.size]? = _; simp, rfl, hc.mono fun _ _ => crel.mono hx, fun h => by cases h⟩
    · rename_i hij
      rw [if_neg hij] at hj
      obtain ⟨vs', rest', k1, k2, k3, k4⟩ := h.blk j C c t hC hj hmC
      have hclt := (h.dom j c t hj).2
      refine ⟨vs', rest', ?_, k2, k3.mono fun _ _ => crel.mono hx, k4⟩
      show (w.heap.push _)[c]? = _
      rw [Array.getElem?_push_lt hclt, ← k1, Array.getElem?_eq_getElem hclt]
/-! ### append -/
/-- append of known cells to an own row that ends where its block's cells end -/
def appendW (P : Program) (t : TypeId) (s : AV) (m : Nat) (news : List AV) (σ : List Blk) (K : Cont) : Prop :=
  match sliceP P t, s with
  | some (e, esz, by_), .sl b ver off n _ =>
    ∃ B, σ[b]? = some B ∧ B.ver = ver ∧ off = 0 ∧ B.row = true ∧ B.e = e ∧ B.esz = esz ∧ 0 < esz ∧ n * esz = B.cells.length ∧ news.length = m * esz ∧ n + m ≤ maxLen ∧ (n + m) * by_ ≤ 140737488355328 ∧
      ∀ cap, n + m ≤ cap → cap ≤ maxLen → K (.sl b (ver + 1) 0 (n + m) cap) (σ.set b { B with cells := B.cells ++ news, ver := B.ver + 1, room := true })
  | some (e, esz, by_), .lit (.slice none 0 0) => 0 < esz ∧ news.length = m * esz ∧ m ≤ maxLen ∧ m * by_ ≤ 140737488355328 ∧ (m = 0 → K (.lit (.slice none 0 0)) σ) ∧
      (0 < m → ∀ cap, m ≤ cap → cap ≤ maxLen → K (.sl σ.length 0 0 m cap) (σ ++ [⟨news, 0, e, esz, true, true⟩]))
  | _, _ => False
theorem appendW_sound {t : TypeId} {sv : AV} {x : Value} {m : Nat} {news : List AV} (h : appendW P t sv m news σ K) (hh : HRel W0 ι σ w) (hr : rel3 ι σ sv x)
    (hz : ∀ e s b, sliceP P t = some (e, s, b) → ∃ z, zeroP P e = some z ∧ z.cells.size = s)
    {ad : Addr} {c : Nat} {vs : List Value} (hv : Rels (crel ι σ) news vs) (hat : ∀ (j : Nat) (u : Value), vs[j]? = some u → w.cell? (ad.add j) = some u) (ty : TypeId) :
    Yields P W0 ι σ w K (Builtin.append_ #[t, t] ty #[x, .slice (some ad) m c]) := by
  have hone : ∀ u ∈ vs, u.oneCell' = true := fun u hu => by
    obtain ⟨i, hi⟩ := List.getElem?_of_mem hu
    have hlt := getElem?_lt hi
    rw [← hv.1] at hlt
    exact (hv.2 i _ u (List.getElem?_eq_getElem hlt) hi).2
  unfold appendW at h
  split at h
  · rename_i e esz by_ b ver off n cap0 hs
    obtain ⟨B, hB, hver, rfl, hrow, rfl, hesz, hpos, hend, hnl, hml, hbytes, hk⟩ := h
    have hmB := slRel_not hr hB
    obtain ⟨cc, tt, hi, rfl, hnc, hcm, htot⟩ := slRel_now hr hB hver
    have ht : 0 < cap0 → cap0 * esz = tt := fun hp => by have := htot hrow hp; rw [Nat.zero_add, hesz] at this; exact this
    obtain ⟨i, hu, hii, hsz, hby⟩ := sliceP_inv hs
    obtain ⟨z, hzz, hzs⟩ := hz _ _ _ hs
    obtain ⟨i', hi', hz'⟩ := zero_info hzz
    rw [hii] at hi'; cases hi'
    subst hsz; subst hby
    obtain ⟨us, rest, hheap, htl, hrel, _⟩ := hh.blk b B cc tt hB hi hmB
    rw [fzOf_row hrow] at hheap
    have hul : us.length = n * i.size := by rw [← hrel.1]; exact hend.symm
    have hvl : vs.length = m * i.size := by rw [← hv.1]; exact hnl
    by_cases hroom : n + m ≤ cap0
    · have hfit : n * i.size + vs.length ≤ (us ++ rest).length := by
        rcases Nat.eq_zero_or_pos cap0 with h0 | h0
        · have hn0 : n = 0 := by omega
          have hm0 : m = 0 := by omega
          subst hn0; subst hm0
          rw [hvl]; omega
        · rw [htl, ← ht h0, hvl, ← Nat.add_mul]; exact Nat.mul_le_mul_right _ hroom
      have hrun := run_append_room (P := P) w t ty B.e i hu hii cc n cap0 (us ++ rest).toArray hheap ad m c vs hvl hat hone hroom (by simpa using hfit)
      have hsplit : (us ++ rest).take (n * i.size) ++ vs ++ (us ++ rest).drop (n * i.size + vs.length) = (us ++ vs) ++ rest.drop vs.length := by
        rw [← hul, List.take_left, List.drop_append]
        simp [List.append_assoc]
      simp only [hsplit] at hrun
      have hw := hh.writeV hB hrow hi (cs := B.cells ++ news) (vs := us ++ vs) (rest := rest.drop vs.length) (by
        rw [← htl]; simp only [List.length_append, List.length_drop]
        have : n * i.size + vs.length ≤ us.length + rest.length := by simpa using hfit
        omega) (hrel.append hv)
      refine ⟨_, _, _, _, _, hrun, hk cap0 hroom hcm, hw.1, hw.2, ?_⟩
      exact ⟨_, getElem?_set_self' hB, by simp [hver], rfl, fun _ => ⟨cc, tt, hi, rfl, hroom, hcm, fun _ hp => by simp only [Nat.zero_add, hesz]; exact ht hp⟩, hmB⟩
    · have holds : ∀ (j : Nat) (u : Value), us[j]? = some u → w.cell? ((⟨cc, 0, none⟩ : Addr).add j) = some u := fun j u hj => by
        rw [cell?_own hheap, Nat.zero_add, List.getElem?_append_left (getElem?_lt hj)]; exact hj
      have hrun := run_append_grow (P := P) w t ty B.e i z hu hii hz' ⟨cc, 0, none⟩ n cap0 us hul holds ad m c vs hvl hat (by omega) (by simp only [maxLen] at hml; omega) (growslice_fits (by omega) hbytes)
      have hge := grownCap_ge w (n + m) cap0 B.e
      have hcm' : grownCap w (n + m) cap0 B.e ≤ maxLen := grownCap_le_maxLen w (n + m) cap0 B.e hml
      have hw := hh.drew.relocate hB hrow (cs := B.cells ++ news) (vs := us ++ vs) (rest := (Builtin.zeroCells z.cells (grownCap w (n + m) cap0 B.e - (n + m))).toList) (hrel.append hv)
      have hcells : (us.toArray ++ vs.toArray ++ Builtin.zeroCells z.cells (grownCap w (n + m) cap0 B.e - (n + m))) = ((us ++ vs) ++ (Builtin.zeroCells z.cells (grownCap w (n + m) cap0 B.e - (n + m))).toList).toArray := by
        apply Array.ext'; simp
      rw [hcells] at hrun
      refine ⟨_, _, _, _, _, hrun, hk _ hge hcm', hw.1, hw.2, ?_⟩
      refine ⟨_, getElem?_set_self' hB, by simp [hver], rfl, fun _ => ⟨w.heap.size, _, getElem?_set_self' hi, rfl, hge, hcm', fun _ _ => ?_⟩, hmB⟩
      simp only [List.length_append, Array.length_toList, size_zeroCells, hzs, hul, hvl, Nat.zero_add, hesz]
      rw [← Nat.add_mul, ← Nat.add_mul]
      congr 1
      omega
  · rename_i e esz by_ hs
    obtain ⟨hpos, hnl, hml, hbytes, hk0, hk⟩ := h
    have e0 : x = .slice none 0 0 := hr
    subst e0
    obtain ⟨i, hu, hii, hsz, hby⟩ := sliceP_inv hs
    obtain ⟨z, hzz, hzs⟩ := hz _ _ _ hs
    obtain ⟨i', hi', hz'⟩ := zero_info hzz
    rw [hii] at hi'; cases hi'
    subst hsz; subst hby
    have hvl : vs.length = m * i.size := by rw [← hv.1]; exact hnl
    by_cases hm : m = 0
    · subst hm
      refine Yields.lit hh ?_ (hk0 rfl)
      simp [Builtin.append_, run_underlying hu, sizeOf, typeInfo, hii, Builtin.lenOf, Builtin.firstCells, loadCells, loadCellsFrom]
    · have hrun := run_append_nil (P := P) w t ty e i z hu hii hz' ad m c vs hvl hat (by omega) (by simp only [maxLen] at hml; omega) (by omega)
      have hge := grownCap_ge w m 0 e
      have hcm' : grownCap w m 0 e ≤ maxLen := grownCap_le_maxLen w m 0 e hml
      have hw := hh.drew.alloc (e := e) (esz := i.size) (row := true) (room := true) (rest := (Builtin.zeroCells z.cells (grownCap w m 0 e - m)).toList) hv (fun h => by cases h)
      have hcells : (vs.toArray ++ Builtin.zeroCells z.cells (grownCap w m 0 e - m)) = (vs ++ (Builtin.zeroCells z.cells (grownCap w m 0 e - m)).toList).toArray := by
        apply Array.ext'; simp
      rw [hcells] at hrun
      refine ⟨_, _, _, _, _, hrun, hk (by omega) _ hge hcm', hw.1, hw.2, ?_⟩
      refine ⟨_, by simp; rfl, Nat.le_refl _, rfl, fun _ => ⟨w.heap.size, _, by rw [← hh.len]; simp; rfl, rfl, hge, hcm', fun _ _ => ?_⟩, rfl⟩
      simp only [size_zeroCells, hzs, hvl, Nat.zero_add]
      rw [← Nat.add_mul]
      congr 1
      omega
  · exact h.elim
/-! ### slices that are made -/
theorem madeCells_toList (z : Array Value) : ∀ n : Nat, (madeCells z (n * z.size)).toList = (List.replicate n z.toList).flatten
  | 0 => by simp [madeCells]
  | n + 1 => by
    have ih := madeCells_toList z n
    simp only [madeCells, Array.toList_map, Array.toList_range] at ih ⊢
    rw [Nat.add_mul, Nat.one_mul, List.range_add, List.map_append, ih, List.replicate_succ', List.flatten_append]
    congr 1
    simp only [List.map_map, List.flatten_cons, List.flatten_nil, List.append_nil]
    apply List.ext_getElem
    · simp
    · intro j h1 h2
      simp only [List.length_map, List.length_range] at h1
      simp only [List.getElem_map, List.getElem_range, Function.comp_apply]
      rw [show (n * z.size + j) % z.size = j by rw [Nat.mul_comm, Nat.mul_add_mod, Nat.mod_eq_of_lt h1]]
      simp [h1]
/-- n times the same cells -/
def rep (n : Nat) (zc : List AV) : List AV := (List.replicate n zc).flatten
theorem rep_length (n : Nat) (zc : List AV) : (rep n zc).length = n * zc.length := by simp [rep]
theorem rep_rel {zc : List AV} {l : List Value} (h : Rels (crel ι σ) zc l) : ∀ n, Rels (crel ι σ) (rep n zc) (List.replicate n l).flatten
  | 0 => Rels.nil
  | n + 1 => by
    unfold rep
    rw [List.replicate_succ, List.replicate_succ, List.flatten_cons, List.flatten_cons]
    exact h.append (rep_rel h n)
def makeSliceW (P : Program) (t : TypeId) (l c : AV) (σ : List Blk) (K : Cont) : Prop :=
  match l, c with
  | .lit (.int _ l), .lit (.int _ c) => match sliceP P t with
    | some (e, esz, by_) => match zeroP P e with
      | some z => match cellsAV (ofV z) with
        | some zc => zc.length = esz ∧ 0 ≤ l ∧ l ≤ c ∧ (by_ : Int) * c ≤ 281474976710656 ∧ c ≤ 9223372036854775807 ∧ c.toNat ≤ maxLen ∧
            K (.sl σ.length 0 0 l.toNat c.toNat) (σ ++ [⟨rep c.toNat zc, 0, e, esz, true, true⟩])
        | none => False
      | none => False
    | none => False
  | _, _ => False
theorem makeSliceW_sound {t : TypeId} {lv cv : AV} {x y : Value} (h : makeSliceW P t lv cv σ K) (hh : HRel W0 ι σ w) (hl : rel3 ι σ lv x) (hc : rel3 ι σ cv y) : Yields P W0 ι σ w K (Instr.makeSlice t x y) := by
  unfold makeSliceW at h
  split at h
  · rename_i kl l kc c
    have e0 : x = .int kl l := hl
    have e1 : y = .int kc c := hc
    subst e0; subst e1
    split at h
    · rename_i e esz by_ hs
      split at h
      · rename_i z hz
        split at h
        · rename_i zc hzc
          obtain ⟨hzl, h0, hlc, hb, h63, hm, hk⟩ := h
          obtain ⟨i, hu, hii, hsz, hby⟩ := sliceP_inv hs
          obtain ⟨i', hi', hz'⟩ := zero_info hz
          rw [hii] at hi'; cases hi'
          subst hsz; subst hby
          have hzr : Rels (crel ι σ) zc z.cells.toList := crel_of_ofV hzc
          have hzs : z.cells.size = i.size := by have := hzr.1; simp at this; omega
          have hrun := run_make (P := P) w t e i z hu hii hz' kl kc l c h0 hlc hb h63
          have hmc : madeCells z.cells (c.toNat * i.size) = ((List.replicate c.toNat z.cells.toList).flatten ++ []).toArray := by
            apply Array.ext'
            rw [← hzs, madeCells_toList]; simp
          rw [hmc] at hrun
          have hw := hh.alloc (e := e) (esz := i.size) (row := true) (room := true) (rest := []) (rep_rel hzr c.toNat) (fun _ => rfl)
          refine ⟨_, _, _, _, _, hrun, hk, hw.1, hw.2, ?_⟩
          refine ⟨_, by simp; rfl, Nat.le_refl _, rfl, fun _ => ⟨w.heap.size, _, by rw [← hh.len]; simp; rfl, rfl, by omega, hm, fun _ _ => ?_⟩, rfl⟩
          simp [hzs]
        · exact h.elim
      · exact h.elim
    · exact h.elim
  · exact h.elim
def buildSliceW (P : Program) (fr : Operand → AV) (t : TypeId) (len : Nat) (parts : Array (Nat × Operand)) (σ : List Blk) (K : Cont) : Prop :=
  match sliceP P t with
  | some (e, esz, _) => match zeroP P e with
    | some z => match cellsAV (ofV z) with
      | some zc => zc.length = esz ∧ 0 < esz ∧ len * esz ≤ 16777216 ∧ len ≤ 16777216 ∧ match fillA (fun i => some (i * esz, esz)) (rep len zc) (partsA fr parts) with
        | some cs => K (.sl σ.length 0 0 len len) (σ ++ [⟨cs, 0, e, esz, true, true⟩])
        | none => False
      | none => False
    | none => False
  | none => False
theorem fillA_length (place : Nat → Option (Nat × Nat)) : ∀ (parts : List (Nat × AV)) (cells out : List AV), fillA place cells parts = some out → out.length = cells.length
  | [], cells, out, h => by simp only [fillA] at h; cases h; rfl
  | (i, v) :: rest, cells, out, h => by
    simp only [fillA] at h
    split at h
    · split at h
      · rename_i hc
        have := fillA_length place rest _ out h
        rw [this]
        simp only [List.length_append, List.length_take, List.length_drop]
        omega
      · cases h
    · cases h
/-- the row that a composite literal lays: its cells, and the world -/
theorem run_buildSlice_own {fr : Operand → AV} {ρ : Operand → Value} {t : TypeId} {len : Nat} {parts : Array (Nat × Operand)} {e esz by_ : Nat} {z : Value} {zc cs : List AV} (hs : sliceP P t = some (e, esz, by_)) (hz : zeroP P e = some z)
    (hzc : cellsAV (ofV z) = some zc) (hzl : zc.length = esz) (hle : len * esz ≤ 16777216) (hf : fillA (fun i => some (i * esz, esz)) (rep len zc) (partsA fr parts) = some cs) (hr : ∀ x, rel3 ι σ (fr x) (ρ x)) (w : World) :
    ∃ us : List Value, us.length = len * esz ∧ Rels (crel ι σ) cs us ∧ (Instr.buildSlice t len (parts.map fun (i, x) => (i, ρ x))).run P w = .ok (.slice (some ⟨w.heap.size, 0, none⟩) len len) (w.alloc (.cells us.toArray e)) := by
  obtain ⟨i, hu, hii, hsz, hby⟩ := sliceP_inv hs
  subst hsz
  have hzr : Rels (crel ι σ) zc z.cells.toList := crel_of_ofV hzc
  have hzs : z.cells.size = i.size := by have := hzr.1; simp at this; omega
  obtain ⟨us, h1, h2⟩ := fillA_sound (σ := σ) (ι := ι) _ _ _ _ (madeCells z.cells (len * i.size)) _ hf (partsA_rel hr parts) (by rw [← hzs, madeCells_toList]; exact rep_rel hzr len)
  have hss : szP P e = some i.size := by simp [szP, hii]
  refine ⟨us.toList, ?_, h2, ?_⟩
  · rw [← h2.1, fillA_length _ _ _ _ hf, rep_length, hzl]
  · by_cases hn : len * i.size = 0
    · have hmz : madeCells z.cells (len * i.size) = #[] := by rw [hn]; simp [madeCells]
      rw [hmz] at h1
      have h0 : ∀ f : Nat → Value, (Array.range 0).map f = #[] := fun f => by simp [Array.range_zero']
      have hng : ¬ 2 ^ 24 < 0 := by omega
      simp only [Instr.buildSlice, Sem.run_bind, run_underlying hu, Result.andThen_ok, run_sizeOf hss, hn, gt_iff_lt, hng, if_false, if_true, Sem.run_pure, h0, h1]
      simp [newRow, newObj, Sem.run]
    · have hgt : ¬ 2 ^ 24 < len * i.size := by omega
      have hfun : ((Array.range (len * i.size)).map (z.cells[· % z.cells.size]!)) = madeCells z.cells (len * i.size) := rfl
      simp only [Instr.buildSlice, Sem.run_bind, run_underlying hu, Result.andThen_ok, run_sizeOf hss, gt_iff_lt, hgt, if_false, hn, run_zeroValue hz, Sem.run_pure, hfun, h1]
      simp [newRow, newObj, Sem.run]
theorem buildSliceW_sound {fr : Operand → AV} {ρ : Operand → Value} {t : TypeId} {len : Nat} {parts : Array (Nat × Operand)} (h : buildSliceW P fr t len parts σ K) (hh : HRel W0 ι σ w) (hr : ∀ x, rel3 ι σ (fr x) (ρ x)) :
    Yields P W0 ι σ w K (Instr.buildSlice t len (parts.map fun (i, x) => (i, ρ x))) := by
  unfold buildSliceW at h
  split at h
  · rename_i e esz by_ hs
    split at h
    · rename_i z hz
      split at h
      · rename_i zc hzc
        obtain ⟨hzl, hpos, hle, hlen, h⟩ := h
        split at h
        · rename_i cs hf
          obtain ⟨us, hul, hrel, hrun⟩ := run_buildSlice_own (P := P) hs hz hzc hzl hle hf hr w
          have hw := hh.alloc (e := e) (esz := esz) (row := true) (room := true) (rest := []) hrel (fun _ => rfl)
          simp only [List.append_nil] at hw
          refine ⟨_, _, _, _, _, hrun, h, hw.1, hw.2, ?_⟩
          refine ⟨_, by simp; rfl, Nat.le_refl _, rfl, fun _ => ⟨w.heap.size, _, by rw [← hh.len]; simp; rfl, rfl, Nat.le_refl _, by simp only [maxLen]; omega, fun _ _ => ?_⟩, rfl⟩
          rw [Nat.zero_add, hul]
        · exact h.elim
      · exact h.elim
    · exact h.elim
  · exact h.elim
end
end Go.Proofs.Ytcclhjohpicleaa.Abs
end

section
/- The abstract logic, part D: cutting, arithmetic, comparisons, conversions; what one operation does. -/
set_option linter.unusedVariables false
set_option linter.unusedSimpArgs false
namespace Go.Proofs.Ytcclhjohpicleaa.Abs
open Go Go.RowKit
section
variable {P : Program} {W0 : World} {ι : Loc} {σ : List Blk} {w : World} {K : Cont}
/-- the value of a bound: absent, or a number -/
def bndA (fr : Operand → AV) (d : Int) : Option Operand → Option Int
  | none => some d
  | some x => match fr x with
    | .lit (.int _ n) => some n
    | _ => none
theorem run_sliceBound {k : IntKind} {i : Int} {y : Nat} {code : BoundsCode} (h0 : 0 ≤ i) (h1 : i ≤ (y : Int)) (w : World) : (Instr.sliceBound (.int k i) y code).run P w = .ok i.toNat w := by
  have hb : 0 ≤ i ∧ i ≤ (y : Int) := ⟨h0, h1⟩
  simp [Instr.sliceBound, asIntOf, hb]
theorem run_sliceBounds {fr : Operand → AV} {ρ : Operand → Value} (hr : ∀ x, rel3 ι σ (fr x) (ρ x)) {lo hi : Option Operand} {isS : Bool} {len cap : Nat} {l h : Int}
    (hl : bndA fr 0 lo = some l) (hh : bndA fr len hi = some h) (h0 : 0 ≤ l) (h1 : l ≤ h) (h2 : h ≤ (cap : Int)) (w : World) :
    (Instr.sliceBounds isS len cap (lo.map ρ) (hi.map ρ) none).run P w = .ok (l.toNat, h.toNat, cap) w := by
  have hlo : ∀ x, lo = some x → ∃ k, ρ x = .int k l := fun x hx => by
    subst hx
    simp only [bndA] at hl
    have := hr x
    split at hl
    · rename_i k n he; rw [he] at this; cases hl; exact ⟨k, this⟩
    · cases hl
  have hhi : ∀ x, hi = some x → ∃ k, ρ x = .int k h := fun x hx => by
    subst hx
    simp only [bndA] at hh
    have := hr x
    split at hh
    · rename_i k n he; rw [he] at this; cases hh; exact ⟨k, this⟩
    · cases hh
  have hb : ((h.toNat : Nat) : Int) = h := by omega
  cases lo with
  | none =>
    simp only [bndA, Option.some.injEq] at hl; subst hl
    cases hi with
    | none =>
      simp only [bndA, Option.some.injEq] at hh; subst hh
      simp [Instr.sliceBounds]
    | some y =>
      obtain ⟨k, hk⟩ := hhi y rfl
      simp [Instr.sliceBounds, hk, run_sliceBound (P := P) (by omega : 0 ≤ h) h2]
  | some x =>
    obtain ⟨k, hk⟩ := hlo x rfl
    cases hi with
    | none =>
      simp only [bndA, Option.some.injEq] at hh; subst hh
      simp [Instr.sliceBounds, hk, run_sliceBound (P := P) h0 h1]
    | some y =>
      obtain ⟨k', hk'⟩ := hhi y rfl
      simp [Instr.sliceBounds, hk, hk', run_sliceBound (P := P) (by omega : 0 ≤ h) h2, run_sliceBound (P := P) (y := h.toNat) h0 (by omega)]
def sliceW (P : Program) (fr : Operand → AV) (t : TypeId) (x : Operand) (lo hi : Option Operand) (σ : List Blk) (K : Cont) : Prop :=
  match fr x with
  | .lit (.string s) => match bndA fr 0 lo, bndA fr s.size hi with
    | some l, some h => P.underlying t = some .string ∧ 0 ≤ l ∧ l ≤ h ∧ h ≤ (s.size : Int) ∧ K (.lit (.string (s.extract l.toNat h.toNat))) σ
    | _, _ => False
  | .sl b ver o len cap => match bndA fr 0 lo, bndA fr len hi, sliceP P t with
    | some l, some h, some (_, s, _) => ∃ B, σ[b]? = some B ∧ B.ver = ver ∧ (B.row = true → B.esz = s) ∧ 0 ≤ l ∧ l ≤ h ∧ h ≤ (cap : Int) ∧
        K (.sl b ver (if cap = l.toNat then o else o + l.toNat * s) (h.toNat - l.toNat) (cap - l.toNat)) σ
    | _, _, _ => False
  | .lit (.slice (some ad) len cap) => match bndA fr 0 lo, bndA fr len hi, sliceP P t with
    | some l, some h, some (_, s, _) => 0 ≤ l ∧ l ≤ h ∧ h ≤ (cap : Int) ∧ K (.lit (.slice (some (if cap = l.toNat then ad else ad.add (l.toNat * s))) (h.toNat - l.toNat) (cap - l.toNat))) σ
    | _, _, _ => False
  | .lit (.slice none 0 0) => match bndA fr 0 lo, bndA fr 0 hi, sliceP P t with
    | some l, some h, some _ => l = 0 ∧ h = 0 ∧ K (.lit (.slice none 0 0)) σ
    | _, _, _ => False
  | .ptr b ver o => match bndA fr 0 lo, arrayP P t with
    | some l, some (n, s) => match bndA fr n hi with
      | some h => ∃ B, σ[b]? = some B ∧ B.ver = ver ∧ B.row = false ∧ n ≤ maxLen ∧ 0 ≤ l ∧ l ≤ h ∧ h ≤ (n : Int) ∧
          K (.sl b ver (if n = l.toNat then o else o + l.toNat * s) (h.toNat - l.toNat) (n - l.toNat)) σ
      | none => False
    | _, _ => False
  | _ => False
theorem sliceW_sound {fr : Operand → AV} {ρ : Operand → Value} (hr : ∀ x, rel3 ι σ (fr x) (ρ x)) {t : TypeId} {x : Operand} {lo hi : Option Operand} (h : sliceW P fr t x lo hi σ K) (hh : HRel W0 ι σ w) :
    Yields0 P ι σ w K (Instr.sliceAt t (ρ x) (lo.map ρ) (hi.map ρ) none) := by
  have hx := hr x
  unfold sliceW at h
  split at h
  · rename_i s he
    rw [he] at hx
    have e0 : ρ x = .string s := hx
    split at h
    · rename_i l h' hl hh'
      obtain ⟨hu, h0, h1, h2, hk⟩ := h
      have hb := run_sliceBounds (P := P) hr (isS := false) hl hh' h0 h1 h2 w
      refine Yields0.lit ?_ hk
      simp [Instr.sliceAt, Instr.slice, run_underlying hu, e0, hb]
    · exact h.elim
  · rename_i b ver o len cap he
    rw [he] at hx
    split at h
    · rename_i l h' e s by_ hl hh' hs
      obtain ⟨B, hB, hv, hes, h0, h1, h2, hk⟩ := h
      have hmB := slRel_not hx hB
      obtain ⟨c, tt, hi, e0, hlc, hcm, htot⟩ := slRel_now hx hB hv
      obtain ⟨ie, hu, hii, hsz, _⟩ := sliceP_inv hs
      subst hsz
      have hss : szP P e = some ie.size := by simp [szP, hii]
      have hb := run_sliceBounds (P := P) hr (isS := true) hl hh' h0 h1 h2 w
      refine Yields0.same (v := .slice (some (if cap = l.toNat then ⟨c, o, none⟩ else ⟨c, o + l.toNat * ie.size, none⟩)) (h'.toNat - l.toNat) (cap - l.toNat)) ?_ hk ?_
      · simp only [Instr.sliceAt, Sem.run_bind, run_underlying hu, Result.andThen_ok, Instr.slice, e0, hb, run_sizeOf hss, Sem.run_pure]
        congr 2
        split
        · rfl
        · simp [add_own]
      · refine ⟨B, hB, by rw [hv]; exact Nat.le_refl _, rfl, fun _ => ⟨c, tt, hi, ?_, by omega, by omega, fun hrow hc => ?_⟩, hmB⟩
        · split <;> rfl
        · have hlc' : l.toNat ≤ cap := by omega
          rw [if_neg (by omega)]
          have h3 := htot hrow (by omega)
          rw [hes hrow] at h3
          have h4 : (cap - l.toNat) * ie.size + l.toNat * ie.size = cap * ie.size := by rw [← Nat.add_mul]; congr 1; omega
          rw [hes hrow]
          omega
    · exact h.elim
  · rename_i ad len cap he
    rw [he] at hx
    have e0 : ρ x = .slice (some ad) len cap := hx
    split at h
    · rename_i l h' e s by_ hl hh' hs
      obtain ⟨h0, h1, h2, hk⟩ := h
      obtain ⟨ie, hu, hii, hsz, _⟩ := sliceP_inv hs
      subst hsz
      have hss : szP P e = some ie.size := by simp [szP, hii]
      have hb := run_sliceBounds (P := P) hr (isS := true) hl hh' h0 h1 h2 w
      refine Yields0.lit ?_ hk
      simp only [Instr.sliceAt, Sem.run_bind, run_underlying hu, Result.andThen_ok, Instr.slice, e0, hb, run_sizeOf hss, Sem.run_pure]
      congr 2
      split <;> rfl
    · exact h.elim
  · rename_i he
    rw [he] at hx
    have e0 : ρ x = .slice none 0 0 := hx
    split at h
    · rename_i l h' q hl hh' hs
      obtain ⟨rfl, rfl, hk⟩ := h
      obtain ⟨e, s, by_⟩ := q
      obtain ⟨ie, hu, hii, hsz, _⟩ := sliceP_inv hs
      have hss : szP P e = some ie.size := by simp [szP, hii]
      have hb := run_sliceBounds (P := P) hr (isS := true) (len := 0) (cap := 0) hl hh' (Int.le_refl _) (Int.le_refl _) (Int.le_refl _) w
      refine Yields0.lit ?_ hk
      simp only [Instr.sliceAt, Sem.run_bind, run_underlying hu, Result.andThen_ok, Instr.slice, e0, hb, run_sizeOf hss, Sem.run_pure]
      rfl
    · exact h.elim
  · rename_i b ver o he
    rw [he] at hx
    split at h
    · rename_i l n s hl ha
      split at h
      · rename_i h' hh'
        obtain ⟨B, hB, hv, hrow, hnm, h0, h1, h2, hk⟩ := h
        have hmB := ptrRel_not hx hB hv
        obtain ⟨c, tt, hi, e0⟩ := ptrRel_now hx hB hv
        obtain ⟨e, hu, hs⟩ := arrayP_inv ha
        have hb := run_sliceBounds (P := P) hr (isS := false) hl hh' h0 h1 h2 w
        refine Yields0.same (v := .slice (some (if n = l.toNat then ⟨c, o, none⟩ else ⟨c, o + l.toNat * s, none⟩)) (h'.toNat - l.toNat) (n - l.toNat)) ?_ hk ?_
        · simp only [Instr.sliceAt, Sem.run_bind, run_underlying hu, Result.andThen_ok, e0, Instr.sureAddr, Sem.run_pure, hb, run_sizeOf hs]
          congr 2
          split
          · rfl
          · simp [add_own]
        · refine ⟨B, hB, by rw [hv]; exact Nat.le_refl _, rfl, fun _ => ⟨c, tt, hi, by split <;> rfl, by omega, by omega, fun hrow' _ => ?_⟩, hmB⟩
          rw [hrow] at hrow'; cases hrow'
      · exact h.elim
    · exact h.elim
  · exact h.elim
end
end Go.Proofs.Ytcclhjohpicleaa.Abs
end

section
/- The abstract logic, part E: arithmetic, comparisons, conversions. -/
set_option linter.unusedVariables false
set_option linter.unusedSimpArgs false
namespace Go.Proofs.Ytcclhjohpicleaa.Abs
open Go Go.RowKit
section
variable {t' : TypeId} {P : Program} {W0 : World} {ι : Loc} {σ : List Blk} {w : World} {K : Cont}
/-- the bits of two numbers, put together -/
def bAnd (k : IntKind) (a b : Int) : Int := k.wrap ((BitVec.ofInt k.bits a &&& BitVec.ofInt k.bits b).toNat : Nat)
def bOr (k : IntKind) (a b : Int) : Int := k.wrap ((BitVec.ofInt k.bits a ||| BitVec.ofInt k.bits b).toNat : Nat)
def bXor (k : IntKind) (a b : Int) : Int := k.wrap ((BitVec.ofInt k.bits a ^^^ BitVec.ofInt k.bits b).toNat : Nat)
def bAndNot (k : IntKind) (a b : Int) : Int := k.wrap ((BitVec.ofInt k.bits a &&& ~~~ BitVec.ofInt k.bits b).toNat : Nat)
def shL (k : IntKind) (a b : Int) : Int := k.wrap (a * 2 ^ (min b.toNat k.bits))
def shR (k : IntKind) (a b : Int) : Int := a.fdiv (2 ^ (min b.toNat k.bits))
/-- a binary operation on values that lead to no own block -/
def binL (P : Program) (op : BinOp) (t : TypeId) (u v : Value) (K : Value → Prop) : Prop :=
  match u, v with
  | .int k a, .int k' b => match op with
    | .shl => 0 ≤ b ∧ K (.int k (shL k a b))
    | .shr => 0 ≤ b ∧ K (.int k (shR k a b))
    | .add => k = k' ∧ K (.int k (k.wrap (a + b)))
    | .sub => k = k' ∧ K (.int k (k.wrap (a - b)))
    | .mul => k = k' ∧ K (.int k (k.wrap (a * b)))
    | .quo => k = k' ∧ b ≠ 0 ∧ K (.int k (k.wrap (a.tdiv b)))
    | .rem => k = k' ∧ b ≠ 0 ∧ K (.int k (a.tmod b))
    | .and => k = k' ∧ K (.int k (bAnd k a b))
    | .or => k = k' ∧ K (.int k (bOr k a b))
    | .xor => k = k' ∧ K (.int k (bXor k a b))
    | .andNot => k = k' ∧ K (.int k (bAndNot k a b))
    | .eql => k = k' ∧ K (.bool (decide (a = b)))
    | .neq => k = k' ∧ K (.bool (!decide (a = b)))
    | .lss => k = k' ∧ K (.bool (decide (a < b)))
    | .leq => k = k' ∧ K (.bool (decide (a ≤ b)))
    | .gtr => k = k' ∧ K (.bool (decide (b < a)))
    | .geq => k = k' ∧ K (.bool (decide (b ≤ a)))
  | .string a, .string b => match op with
    | .add => ((a.size + b.size : Nat) : Int) ≤ 9223372036854775807 ∧ K (.string (a ++ b))
    | .eql => K (.bool (a.toList == b.toList))
    | .neq => K (.bool (!(a.toList == b.toList)))
    | .lss => K (.bool (Op.bytesLess a.toList b.toList))
    | .geq => K (.bool (!Op.bytesLess a.toList b.toList))
    | _ => False
  | .bool a, .bool b => match op with
    | .eql => P.underlying t = some .bool ∧ K (.bool (a == b))
    | .neq => P.underlying t = some .bool ∧ K (.bool (!(a == b)))
    | _ => False
  | .slice a _ _, .slice none 0 0 => match op with
    | .eql => (sliceP P t).isSome = true ∧ K (.bool a.isNone)
    | .neq => (sliceP P t).isSome = true ∧ K (.bool (!a.isNone))
    | _ => False
  | .nilIface, .nilIface => match op with
    | .eql => (∃ ms, P.underlying t = some (.interface ms)) ∧ K (.bool true)
    | .neq => (∃ ms, P.underlying t = some (.interface ms)) ∧ K (.bool false)
    | _ => False
  | .iface _ _, .nilIface => match op with
    | .eql => (∃ ms, P.underlying t = some (.interface ms)) ∧ K (.bool false)
    | .neq => (∃ ms, P.underlying t = some (.interface ms)) ∧ K (.bool true)
    | _ => False
  | _, _ => False
theorem run_shift_shl {k k' : IntKind} {a b : Int} (h : 0 ≤ b) (w : World) : (binOp .shl t' (.int k a) (.int k' b)).run P w = .ok (.int k (shL k a b)) w := by
  have h0 : ¬ b < 0 := by omega
  simp only [binOp, Op.shift, h0, if_false, Sem.run_pure, shL]
theorem run_shift_shr {k k' : IntKind} {a b : Int} (h : 0 ≤ b) (w : World) : (binOp .shr t' (.int k a) (.int k' b)).run P w = .ok (.int k (shR k a b)) w := by
  have h0 : ¬ b < 0 := by omega
  simp only [binOp, Op.shift, h0, if_false, Sem.run_pure, shR]
theorem run_equalIn_iface2 {t : TypeId} {ms : _} (d : Nat) (hu : P.underlying t = some (.interface ms)) (w : World) : (Op.equalIn (d + 1) t .nilIface .nilIface).run P w = .ok true w := by
  simp [Op.equalIn, run_underlying hu]
theorem run_equalIn_iface1 {t : TypeId} {ms : _} {u : TypeId} {x : Value} (d : Nat) (hu : P.underlying t = some (.interface ms)) (w : World) : (Op.equalIn (d + 1) t (.iface u x) .nilIface).run P w = .ok false w := by
  simp [Op.equalIn, run_underlying hu]
theorem run_equal_iface2 {t : TypeId} {ms : _} (hu : P.underlying t = some (.interface ms)) (w : World) : (Op.equal t .nilIface .nilIface).run P w = .ok true w := run_equalIn_iface2 9999 hu w
theorem run_equal_iface1 {t : TypeId} {ms : _} {u : TypeId} {x : Value} (hu : P.underlying t = some (.interface ms)) (w : World) : (Op.equal t (.iface u x) .nilIface).run P w = .ok false w := run_equalIn_iface1 9999 hu w
theorem run_binL {op : BinOp} {t : TypeId} {u v : Value} {x y : Operand} {Q : Value → Prop} (h : binL P op t u v Q) (hn : u = .nilIface → v = .nilIface → ∃ c, y = .const c) (w : World) :
    ∃ r, (do eqGuard op t x y u v; binOp op t u v : Sem Value).run P w = .ok r w ∧ Q r := by
  unfold binL at h
  split at h
  · rename_i k a k' b
    split at h
    all_goals first
      | (obtain ⟨h0, hq⟩ := h; refine ⟨_, ?_, hq⟩; simp only [eqGuard_at_int, Sem.run_bind, Sem.run_pure, Result.andThen_ok, run_shift_shl h0]; done)
      | (obtain ⟨h0, hq⟩ := h; refine ⟨_, ?_, hq⟩; simp only [eqGuard_at_int, Sem.run_bind, Sem.run_pure, Result.andThen_ok, run_shift_shr h0]; done)
      | (obtain ⟨rfl, h0, hq⟩ := h; refine ⟨_, ?_, hq⟩; simp [eqGuard_at_int, binOp, Op.intDiv, h0]; done)
      | (obtain ⟨rfl, hq⟩ := h; refine ⟨_, ?_, hq⟩; simp [eqGuard_at_int, binOp, Op.intArith, Op.intBits, Op.intCmp, bAnd, bOr, bXor, bAndNot]; done)
      | (obtain ⟨rfl, hq⟩ := h; refine ⟨_, ?_, hq⟩; simp [eqGuard_at_int, binOp, Op.intCmp]; rfl)
  · rename_i a b
    split at h
    · obtain ⟨h0, hq⟩ := h
      refine ⟨_, ?_, hq⟩
      have h1 : ¬ (9223372036854775807 < ((a.size + b.size : Nat) : Int)) := by omega
      have h2 : IntKind.i64.max = 9223372036854775807 := rfl
      simp only [eqGuard_at_string, binOp, Op.stringOp, h2, gt_iff_lt, h1, if_false, Sem.run_bind, Sem.run_pure, Result.andThen_ok]
    all_goals first
      | exact h.elim
      | (refine ⟨_, ?_, h⟩; simp [eqGuard_at_string, binOp, Op.stringOp])
  · rename_i a b
    split at h
    · obtain ⟨h0, hq⟩ := h
      refine ⟨_, ?_, hq⟩
      simp [eqGuard_at_bool, binOp, run_equal_bool w t a b h0]
    · obtain ⟨h0, hq⟩ := h
      refine ⟨_, ?_, hq⟩
      simp [eqGuard_at_bool, binOp, run_equal_bool w t a b h0]
    · exact h.elim
  · rename_i a n c
    split at h
    · obtain ⟨h0, hq⟩ := h
      obtain ⟨⟨e, s, b⟩, hs⟩ := Option.isSome_iff_exists.1 h0
      obtain ⟨i, hu, _⟩ := sliceP_inv hs
      refine ⟨_, ?_, hq⟩
      simp [eqGuard_at_slice, binOp, run_equal_slice_nil w t e a n c hu]
    · obtain ⟨h0, hq⟩ := h
      obtain ⟨⟨e, s, b⟩, hs⟩ := Option.isSome_iff_exists.1 h0
      obtain ⟨i, hu, _⟩ := sliceP_inv hs
      refine ⟨_, ?_, hq⟩
      simp [eqGuard_at_slice, binOp, run_equal_slice_nil w t e a n c hu]
    · exact h.elim
  · obtain ⟨c, rfl⟩ := hn rfl rfl
    split at h
    · obtain ⟨⟨ms, hu⟩, hq⟩ := h
      refine ⟨_, ?_, hq⟩
      simp [eqGuard_nil_constR, binOp, run_equal_iface2 hu]
    · obtain ⟨⟨ms, hu⟩, hq⟩ := h
      refine ⟨_, ?_, hq⟩
      simp [eqGuard_nil_constR, binOp, run_equal_iface2 hu]
    · exact h.elim
  · split at h
    · obtain ⟨⟨ms, hu⟩, hq⟩ := h
      refine ⟨_, ?_, hq⟩
      simp [eqGuard_at_iface, binOp, run_equal_iface1 hu]
    · obtain ⟨⟨ms, hu⟩, hq⟩ := h
      refine ⟨_, ?_, hq⟩
      simp [eqGuard_at_iface, binOp, run_equal_iface1 hu]
    · exact h.elim
  · exact h.elim
end
end Go.Proofs.Ytcclhjohpicleaa.Abs
end

section
/- The abstract logic, part F: structs and arrays compared; the operations of one operand. -/
set_option linter.unusedVariables false
set_option linter.unusedSimpArgs false
namespace Go.Proofs.Ytcclhjohpicleaa.Abs
open Go Go.RowKit
/-- what a cell may be, where values are compared -/
inductive CK where
  | int | bool | str
def eqC : List CK → List Value → List Value → Option Bool
  | [], [], [] => some true
  | .int :: ks, .int k a :: xs, .int k' b :: ys => if k = k' then (eqC ks xs ys).map (decide (a = b) && ·) else none
  | .bool :: ks, .bool a :: xs, .bool b :: ys => (eqC ks xs ys).map ((a == b) && ·)
  | .str :: ks, .string a :: xs, .string b :: ys => (eqC ks xs ys).map ((a.toList == b.toList) && ·)
  | _, _, _ => none
def flatF (P : Program) (rec : TypeId → Option (List CK)) : Nat → List Field → Option (List CK)
  | _, [] => some []
  | off, f :: fs => if f.name = "_" ∨ f.offset ≠ off then none else
    match rec f.type with
    | some ks => if szP P f.type = some ks.length ∧ (aggP P f.type).isSome = true then (flatF P rec (off + ks.length) fs).map (ks ++ ·) else none
    | none => none
/-- the cells of a type that can be compared cell by cell -/
def flatP (P : Program) : Nat → TypeId → Option (List CK)
  | 0, _ => none
  | d + 1, t => match P.underlying t with
    | some (.int _) => some [.int]
    | some .bool => some [.bool]
    | some .string => some [.str]
    | some (.struct fs) => if P.stoodInHeld t then none else flatF P (flatP P d) 0 fs.toList
    | some (.array n e) => match flatP P d e with
      | some ks => if szP P e = some ks.length ∧ (aggP P e).isSome = true then some (List.replicate n ks).flatten else none
      | none => none
    | _ => none
section
variable {P : Program}
theorem eqC_len : ∀ (ks : List CK) (xs ys : List Value) (b : Bool), eqC ks xs ys = some b → xs.length = ks.length ∧ ys.length = ks.length
  | [], xs, ys, b, h => by
    cases xs <;> cases ys <;> simp [eqC] at h ⊢
  | k :: ks, xs, ys, b, h => by
    cases k with
    | int =>
      match xs, ys, h with
      | .int ka a :: xs, .int kb c :: ys, h =>
        simp only [eqC] at h
        split at h
        · obtain ⟨r, hr, _⟩ := Option.map_eq_some_iff.1 h
          have := eqC_len _ _ _ _ hr
          simp [this]
        · cases h
    | bool =>
      match xs, ys, h with
      | .bool a :: xs, .bool c :: ys, h =>
        simp only [eqC] at h
        obtain ⟨r, hr, _⟩ := Option.map_eq_some_iff.1 h
        have := eqC_len _ _ _ _ hr
        simp [this]
    | str =>
      match xs, ys, h with
      | .string a :: xs, .string c :: ys, h =>
        simp only [eqC] at h
        obtain ⟨r, hr, _⟩ := Option.map_eq_some_iff.1 h
        have := eqC_len _ _ _ _ hr
        simp [this]
theorem eqC_append : ∀ (k1 k2 : List CK) (xs ys : List Value) (b : Bool), eqC (k1 ++ k2) xs ys = some b →
    ∃ b1 b2, eqC k1 (xs.take k1.length) (ys.take k1.length) = some b1 ∧ eqC k2 (xs.drop k1.length) (ys.drop k1.length) = some b2 ∧ b = (b1 && b2)
  | [], k2, xs, ys, b, h => ⟨true, b, by simp [eqC], by simpa using h, by simp⟩
  | k :: k1, k2, xs, ys, b, h => by
    cases k with
    | int =>
      match xs, ys, h with
      | .int ka a :: xs, .int kb c :: ys, h =>
        simp only [List.cons_append, eqC] at h
        split at h
        · rename_i hk
          obtain ⟨r, hr, rfl⟩ := Option.map_eq_some_iff.1 h
          obtain ⟨b1, b2, h1, h2, rfl⟩ := eqC_append k1 k2 xs ys r hr
          exact ⟨decide (a = c) && b1, b2, by simp only [List.length_cons, List.take_succ_cons, eqC, hk, if_true, h1, Option.map_some], by simpa using h2, (Bool.and_assoc _ _ _).symm⟩
        · cases h
    | bool =>
      match xs, ys, h with
      | .bool a :: xs, .bool c :: ys, h =>
        simp only [List.cons_append, eqC] at h
        obtain ⟨r, hr, rfl⟩ := Option.map_eq_some_iff.1 h
        obtain ⟨b1, b2, h1, h2, rfl⟩ := eqC_append k1 k2 xs ys r hr
        exact ⟨(a == c) && b1, b2, by simp only [List.length_cons, List.take_succ_cons, eqC, h1, Option.map_some], by simpa using h2, (Bool.and_assoc _ _ _).symm⟩
    | str =>
      match xs, ys, h with
      | .string a :: xs, .string c :: ys, h =>
        simp only [List.cons_append, eqC] at h
        obtain ⟨r, hr, rfl⟩ := Option.map_eq_some_iff.1 h
        obtain ⟨b1, b2, h1, h2, rfl⟩ := eqC_append k1 k2 xs ys r hr
        exact ⟨(a.toList == c.toList) && b1, b2, by simp only [List.length_cons, List.take_succ_cons, eqC, h1, Option.map_some], by simpa using h2, (Bool.and_assoc _ _ _).symm⟩
/-- a value of a type, out of its cells -/
def mkV (P : Program) (t : TypeId) (xs : List Value) : Value := if aggP P t = some true then .agg xs.toArray else xs.headD undef
theorem run_part_cells {t : TypeId} {n off : Nat} {xs : List Value} (hs : szP P t = some n) (hg : (aggP P t).isSome = true) (hn : ((xs.drop off).take n).length = n) (h1 : aggP P t = some false → n = 1) (w : World) :
    (part t xs.toArray off).run P w = .ok (mkV P t ((xs.drop off).take n)) w := by
  obtain ⟨g, hg'⟩ := Option.isSome_iff_exists.1 hg
  unfold mkV
  cases g with
  | true =>
    rw [if_pos hg']
    simp only [part, Sem.run_bind, run_isAgg hg', Result.andThen_ok, if_true, run_sizeOf hs, Sem.run_pure]
    congr 2
    apply Array.ext'
    simp [List.take_drop, Nat.add_sub_cancel_left]
  | false =>
    obtain rfl := h1 hg'
    rw [if_neg (by rw [hg']; simp)]
    simp only [part, Sem.run_bind, run_isAgg hg', Result.andThen_ok, Bool.false_eq_true, if_false]
    have hlt : off < xs.length := by simp at hn; omega
    have hh : (xs.drop off).take 1 = [xs[off]] := by
      rw [List.drop_eq_getElem_cons hlt]; rfl
    rw [hh]
    simp [hlt]
theorem flat_one {d : Nat} {t : TypeId} {ks : List CK} (h : flatP P d t = some ks) (hg : aggP P t = some false) : ks.length = 1 := by
  cases d with
  | zero => simp [flatP] at h
  | succ d =>
    unfold flatP at h
    unfold aggP at hg
    cases hu : P.underlying t with
    | none => simp [hu] at h
    | some D =>
      cases D <;> simp [hu, isAggD] at h hg <;> (subst h; rfl)
theorem run_equalIn_flat : ∀ (d : Nat) (t : TypeId) (ks : List CK), flatP P d t = some ks → ∀ (xs ys : List Value) (b : Bool) (w : World) (d' : Nat), d ≤ d' → eqC ks xs ys = some b →
    (Op.equalIn d' t (mkV P t xs) (mkV P t ys)).run P w = .ok b w
  | 0, t, ks, h, _, _, _, _, _, _, _ => by simp [flatP] at h
  | d + 1, t, ks, h, xs, ys, b, w, d', hd, hb => by
    obtain ⟨d', rfl⟩ : ∃ m, d' = m + 1 := ⟨d' - 1, by omega⟩
    have hd' : d ≤ d' := by omega
    unfold flatP at h
    cases hu : P.underlying t with
    | none => simp [hu] at h
    | some D =>
      simp only [hu] at h
      cases D <;> try (simp at h; done)
      case bool =>
        cases h
        have hg : aggP P t ≠ some true := by simp [aggP, hu, isAggD]
        have hl := eqC_len _ _ _ _ hb
        match xs, ys, hb with
        | [.bool a], [.bool c], hb =>
          simp only [eqC, Option.map_some, Option.some.injEq, Bool.and_true] at hb
          subst hb
          simp only [mkV, hg, if_false, List.headD_cons]
          exact run_equalIn_bool w d' t a c hu
        | .bool a :: _ :: _, _, _ => simp at hl
        | [.bool a], .bool c :: _ :: _, _ => simp at hl
      case int k =>
        cases h
        have hg : aggP P t ≠ some true := by simp [aggP, hu, isAggD]
        have hl := eqC_len _ _ _ _ hb
        match xs, ys, hb with
        | [.int ka a], [.int kb c], hb =>
          simp only [eqC] at hb
          split at hb
          · rename_i hk
            subst hk
            simp only [Option.map_some, Option.some.injEq, Bool.and_true] at hb
            subst hb
            simp only [mkV, hg, if_false, List.headD_cons]
            have := run_equalIn_int (P := P) w d' t ka k a c hu
            rw [this]; congr 1
          · cases hb
        | .int _ a :: _ :: _, _, _ => simp at hl
        | [.int _ a], .int _ c :: _ :: _, _ => simp at hl
      case string =>
        cases h
        have hg : aggP P t ≠ some true := by simp [aggP, hu, isAggD]
        have hl := eqC_len _ _ _ _ hb
        match xs, ys, hb with
        | [.string a], [.string c], hb =>
          simp only [eqC, Option.map_some, Option.some.injEq, Bool.and_true] at hb
          subst hb
          simp only [mkV, hg, if_false, List.headD_cons]
          exact run_equalIn_string (P := P) w d' t a c hu
        | .string a :: _ :: _, _, _ => simp at hl
        | [.string a], .string c :: _ :: _, _ => simp at hl
      case struct fs =>
        have hg : aggP P t = some true := by simp [aggP, hu, isAggD]
        dsimp only at h
        split at h
        · cases h
        · rename_i hst
          have hfo : P.fieldsOf t = fs := by simp [Program.fieldsOf, hu]
          simp only [mkV, hg, if_true]
          rw [run_equalIn_struct (P := P) w d' t xs.toArray ys.toArray (by rw [hfo]; exact hu) (by simpa using hst), hfo]
          have key : ∀ (L : List Field) (off : Nat) (ks : List CK) (b : Bool), flatF P (flatP P d) off L = some ks → eqC ks (xs.drop off) (ys.drop off) = some b → (Op.eqFields d' xs.toArray ys.toArray L).run P w = .ok b w := by
            intro L
            induction L with
            | nil =>
              intro off ks b h1 h2
              simp only [flatF, Option.some.injEq] at h1; subst h1
              cases hxs : xs.drop off <;> cases hys : ys.drop off <;> simp [eqC, hxs, hys] at h2
              subst h2
              simp [Op.eqFields]
            | cons f L ih =>
              intro off ks b h1 h2
              simp only [flatF] at h1
              split at h1
              · cases h1
              · rename_i hname
                have hname' : f.name ≠ "_" ∧ f.offset = off := by
                  constructor
                  · exact fun e => hname (.inl e)
                  · exact Decidable.byContradiction fun e => hname (.inr e)
                cases hrec : flatP P d f.type with
                | none => simp [hrec] at h1
                | some k1 =>
                  simp only [hrec] at h1
                  split at h1
                  · rename_i hsz
                    obtain ⟨k2, hk2, rfl⟩ := Option.map_eq_some_iff.1 h1
                    obtain ⟨b1, b2, e1, e2, rfl⟩ := eqC_append _ _ _ _ _ h2
                    have hl := eqC_len _ _ _ _ e1
                    have p1 := run_part_cells (P := P) (xs := xs) hsz.1 hsz.2 hl.1 (fun h => flat_one hrec h) w
                    have p2 := run_part_cells (P := P) (xs := ys) hsz.1 hsz.2 hl.2 (fun h => flat_one hrec h) w
                    have p3 := run_equalIn_flat d f.type k1 hrec _ _ b1 w d' hd' e1
                    rw [List.drop_drop, List.drop_drop] at e2
                    have p4 := ih (off + k1.length) k2 b2 hk2 e2
                    simp only [Op.eqFields, hname'.1, ne_eq, not_false_eq_true, if_true, hname'.2, Sem.run_bind, p1, p2, p3, Result.andThen_ok]
                    cases b1 <;> simp [p4]
                  · cases h1
          exact key fs.toList 0 ks b h (by simpa using hb)
      case array n e =>
        have hg : aggP P t = some true := by simp [aggP, hu, isAggD]
        dsimp only at h
        cases hrec : flatP P d e with
        | none => simp [hrec] at h
        | some k1 =>
          simp only [hrec] at h
          split at h
          · rename_i hsz
            cases h
            simp only [mkV, hg, if_true, Op.equalIn, Sem.run_bind, run_underlying hu, Result.andThen_ok, run_sizeOf hsz.1]
            simp only [Std.Legacy.Range.forIn_eq_forIn_range', Std.Legacy.Range.size, Nat.sub_zero, Nat.add_one_sub_one, Nat.div_one]
            have key : ∀ (m i : Nat) (b : Bool), eqC (List.replicate m k1).flatten (xs.drop (i * k1.length)) (ys.drop (i * k1.length)) = some b →
                ((forIn (List.range' i m) ((none, ()) : Option Bool × Unit) fun i _ => do
                  let a ← part e xs.toArray (i * k1.length)
                  let c ← part e ys.toArray (i * k1.length)
                  let r ← Op.equalIn d' e a c
                  if (!r) = true then pure (ForInStep.done (some false, ())) else pure (ForInStep.yield (none, ())) : Sem (Option Bool × Unit))).run P w = .ok (if b then (none, ()) else (some false, ())) w := by
              intro m
              induction m with
              | zero =>
                intro i b hb
                cases hxs : xs.drop (i * k1.length) <;> cases hys : ys.drop (i * k1.length) <;> simp [eqC, hxs, hys] at hb
                subst hb
                simp
              | succ m ih =>
                intro i b hb
                rw [List.replicate_succ, List.flatten_cons] at hb
                obtain ⟨b1, b2, e1, e2, rfl⟩ := eqC_append _ _ _ _ _ hb
                have hl := eqC_len _ _ _ _ e1
                have p1 := run_part_cells (P := P) (xs := xs) hsz.1 hsz.2 hl.1 (fun h => flat_one hrec h) w
                have p2 := run_part_cells (P := P) (xs := ys) hsz.1 hsz.2 hl.2 (fun h => flat_one hrec h) w
                have p3 := run_equalIn_flat d e k1 hrec _ _ b1 w d' hd' e1
                rw [List.drop_drop, List.drop_drop, ← Nat.succ_mul] at e2
                have p4 := ih (i + 1) b2 e2
                simp only [List.range'_succ, List.forIn_cons, Sem.run_bind, p1, p2, p3, Result.andThen_ok]
                cases b1 with
                | false => simp
                | true => simp only [Bool.not_true, Bool.false_eq_true, if_false, Sem.run_pure, Result.andThen_ok, Bool.true_and]; exact p4
            have hk := key n 0 b (by simpa using hb)
            rw [hk]
            cases b <;> simp
          · cases h
/-! ### comparing structs and arrays -/
def litsA : List AV → Option (List Value)
  | [] => some []
  | .lit v :: l => (litsA l).map (v :: ·)
  | _ :: _ => none
theorem litsA_rel {ι : Loc} {σ : List Blk} : ∀ {l : List AV} {vs ws : List Value}, litsA l = some vs → Rels (crel ι σ) l ws → ws = vs
  | [], vs, ws, h, hr => by simp only [litsA, Option.some.injEq] at h; subst h; exact hr.nil_inv
  | a :: l, vs, ws, h, hr => by
    obtain ⟨b, m, rfl, h1, h2⟩ := hr.uncons
    cases a <;> simp only [litsA] at h <;> try (cases h; done)
    obtain ⟨vs', hv, rfl⟩ := Option.map_eq_some_iff.1 h
    rw [litsA_rel hv h2]
    have e : b = _ := h1.1
    rw [e]
def binW (P : Program) (op : BinOp) (t : TypeId) (y : Operand) (u v : AV) (σ : List Blk) (K : Cont) : Prop :=
  match u, v with
  | .lit a, .lit b => (a = .nilIface → b = .nilIface → ∃ c, y = .const c) ∧ binL P op t a b (fun r => K (.lit r) σ)
  | .agg xs, .agg ys => aggP P t = some true ∧ P.eqGuardType P.depth t = false ∧ match flatP P 8 t, litsA xs, litsA ys with
    | some ks, some vs, some us => match eqC ks vs us with
      | some b => match op with
        | .eql => K (.lit (.bool b)) σ
        | .neq => K (.lit (.bool (!b))) σ
        | _ => False
      | none => False
    | _, _, _ => False
  | .sl b ver _ _ _, .lit (.slice none 0 0) => (∃ B, σ[b]? = some B ∧ B.ver = ver) ∧ (sliceP P t).isSome = true ∧ match op with
    | .eql => K (.lit (.bool false)) σ
    | .neq => K (.lit (.bool true)) σ
    | _ => False
  | .ptr b ver _, .lit (.pointer none) => (∃ B, σ[b]? = some B ∧ B.ver = ver) ∧ (P.underlying t = some (.pointer (P.pointee t))) ∧ match op with
    | .eql => K (.lit (.bool false)) σ
    | .neq => K (.lit (.bool true)) σ
    | _ => False
  | _, _ => False
theorem binW_sound {W0 : World} {ι : Loc} {σ : List Blk} {w : World} {K : Cont} {op : BinOp} {t : TypeId} {x y : Operand} {u v : AV} {a b : Value} (h : binW P op t y u v σ K) (hh : HRel W0 ι σ w) (hu : rel3 ι σ u a) (hv : rel3 ι σ v b) :
    Yields0 P ι σ w K (do eqGuard op t x y a b; binOp op t a b) := by
  unfold binW at h
  split at h
  · rename_i a' b'
    have e0 : a = a' := hu
    have e1 : b = b' := hv
    subst e0; subst e1
    obtain ⟨r, hr, hk⟩ := run_binL (P := P) (x := x) h.2 h.1 w
    exact Yields0.lit hr hk
  · rename_i xs ys
    obtain ⟨hg, heg, h⟩ := h
    split at h
    · rename_i ks vs us hks hvs hus
      split at h
      · rename_i r hr
        obtain ⟨l1, rfl, r1⟩ := hu
        obtain ⟨l2, rfl, r2⟩ := hv
        rw [litsA_rel hvs r1, litsA_rel hus r2]
        have he := run_equalIn_flat (P := P) 8 t ks hks vs us r w 10000 (by omega) hr
        simp only [mkV, hg, if_true] at he
        split at h
        · refine Yields0.lit ?_ h
          simp only [Sem.run_bind, run_eqGuard_agg (P := P) w _ t x y _ _ heg, Result.andThen_ok, run_eql_struct, he]
        · refine Yields0.lit ?_ h
          simp only [Sem.run_bind, run_eqGuard_agg (P := P) w _ t x y _ _ heg, Result.andThen_ok, run_neq_struct, he]
        · exact h.elim
      · exact h.elim
    · exact h.elim
  · rename_i b0 ver off len cap
    have e1 : b = .slice none 0 0 := hv
    subst e1
    obtain ⟨⟨B, hB, hver⟩, hs, h⟩ := h
    obtain ⟨c, tt, hi, rfl, _⟩ := slRel_now hu hB hver
    obtain ⟨⟨e, s, by_⟩, hs'⟩ := Option.isSome_iff_exists.1 hs
    obtain ⟨i, hut, _⟩ := sliceP_inv hs'
    split at h
    · refine Yields0.lit ?_ h
      simp [eqGuard_at_slice, binOp, run_equal_slice_nil w t e _ len cap hut]
    · refine Yields0.lit ?_ h
      simp [eqGuard_at_slice, binOp, run_equal_slice_nil w t e _ len cap hut]
    · exact h.elim
  · rename_i b0 ver off
    have e1 : b = .pointer none := hv
    subst e1
    obtain ⟨⟨B, hB, hver⟩, hs, h⟩ := h
    obtain ⟨c, tt, hi, rfl⟩ := ptrRel_now hu hB hver
    split at h
    · refine Yields0.lit ?_ h
      simp [eqGuard_at_pointer, binOp, run_equal_pointer_nil w t _ hs]
    · refine Yields0.lit ?_ h
      simp [eqGuard_at_pointer, binOp, run_equal_pointer_nil w t _ hs]
    · exact h.elim
  · exact h.elim
end
end Go.Proofs.Ytcclhjohpicleaa.Abs
end

section
/- The abstract logic, part P: maps whose keys are ints: looked up, written, made. -/
set_option linter.unusedVariables false
set_option linter.unusedSimpArgs false
namespace Go.Proofs.Ytcclhjohpicleaa.Abs
open Go Go.RowKit
/-- what is found: none: the keys are not as they should be -/
def findA (kd : IntKind) (n : Int) : List AV → Option (Option AV)
  | [] => some none
  | [_] => none
  | .lit (.int k a) :: v :: rest => if k = kd then if n = a then some (some v) else findA kd n rest else none
  | _ :: _ :: _ => none
def putA (kd : IntKind) (n : Int) (x : AV) : List AV → Option (List AV)
  | [] => some [.lit (.int kd n), x]
  | [_] => none
  | .lit (.int k a) :: v :: rest => if k = kd then if n = a then some (.lit (.int k a) :: x :: rest) else (putA kd n x rest).map fun r => .lit (.int k a) :: v :: r else none
  | _ :: _ :: _ => none
def resA (ok : Bool) (z : AV) (r : Option AV) : AV := match ok with
  | true => .tup [r.getD z, .lit (.bool r.isSome)]
  | false => r.getD z
/-- an element's zero, of one cell -/
def zeroM (P : Program) (t : TypeId) : Option Value := match zeroP P t with
  | some z => if z.oneCell' then some z else none
  | none => none
def mapP (P : Program) (t : TypeId) : Option (IntKind × Value) := match P.underlying t with
  | some (.map kt et) => match P.underlying kt, zeroM P et with
    | some (.int kd), some z => some (kd, z)
    | _, _ => none
  | _ => none
def mgetR (kd : IntKind) (z : AV) (ok : Bool) (x i : AV) (σ : List Blk) (K : Cont) : Prop :=
  match x, i with
  | .ptr b ver _, .lit (.int k n) => ∃ B, σ[b]? = some B ∧ B.ver = ver + 1 ∧ mapB B = true ∧ k = kd ∧ ∃ r, findA kd n B.cells = some r ∧ K (resA ok z r) σ
  | _, _ => False
def mputR (kd : IntKind) (x i v : AV) (σ : List Blk) (K : Cont) : Prop :=
  match x, i, v with
  | .ptr b ver _, .lit (.int k n), .lit u => ∃ B, σ[b]? = some B ∧ B.ver = ver + 1 ∧ mapB B = true ∧ k = kd ∧ u.oneCell' = true ∧ ∃ cs, putA kd n (.lit u) B.cells = some cs ∧ K (.lit undef) (σ.set b { B with cells := cs })
  | _, _, _ => False
def lookupW (P : Program) (t : TypeId) (ok : Bool) (x i : AV) (σ : List Blk) (K : Cont) : Prop := match mapP P t with
  | some (kd, z) => mgetR kd (.lit z) ok x i σ K
  | none => False
def mapUpdW (P : Program) (t : TypeId) (x i v : AV) (σ : List Blk) (K : Cont) : Prop := match mapP P t with
  | some (kd, _) => mputR kd x i v σ K
  | none => False
/-- the builtins max and min of two ints -/
def mmR (mx : Bool) (x y : AV) (σ : List Blk) (K : Cont) : Prop :=
  match x, y with
  | .lit (.int k a), .lit (.int _ b) => K (.lit (.int k (cond mx (if b > a then b else a) (if b < a then b else a)))) σ
  | _, _ => False
/-- the builtin clear, of a slice -/
def clearR (esz : Nat) (zc : List AV) (x : AV) (σ : List Blk) (K : Cont) : Prop :=
  match x with
  | .lit (.slice none _ _) => K (.tup []) σ
  | .sl b ver off n _ => ∃ B, σ[b]? = some B ∧ B.ver = ver ∧ off + n * esz ≤ B.cells.length ∧ K (.tup []) (σ.set b { B with cells := B.cells.take off ++ rep n zc ++ B.cells.drop (off + n * esz) })
  | _ => False
def zcM (P : Program) (t : TypeId) : Option (Nat × List AV) := match sliceP P t with
  | some (e, esz, _) => match zeroP P e with
    | some z => match cellsAV (ofV z) with
      | some zc => if zc.length = esz then some (esz, zc) else none
      | none => none
    | none => none
  | none => none
def clearW (P : Program) (t : TypeId) (x : AV) (σ : List Blk) (K : Cont) : Prop := match zcM P t with
  | some (esz, zc) => clearR esz zc x σ K
  | none => False
def mkmapW (σ : List Blk) (K : Cont) : Prop := K (.ptr σ.length 0 0) (σ ++ [⟨[], 1, 0, 2, false, false⟩])
section
variable {P : Program} {W0 : World} {ι : Loc} {σ : List Blk} {w : World} {K : Cont}
theorem mapP_inv {t : TypeId} {kd : IntKind} {z : Value} (h : mapP P t = some (kd, z)) : ∃ kt et, P.underlying t = some (.map kt et) ∧ P.underlying kt = some (.int kd) ∧ zeroP P et = some z ∧ z.oneCell' = true := by
  unfold mapP at h
  split at h
  · rename_i kt et h1
    split at h
    · rename_i kd' z' h2 h3
      cases h
      unfold zeroM at h3
      split at h3
      · rename_i z'' h4
        split at h3
        · rename_i h5; cases h3; exact ⟨kt, et, h1, h2, h4, h5⟩
        · cases h3
      · cases h3
    · cases h
  · cases h
theorem rel2_of_crel {v : AV} {x : Value} (h : crel ι σ v x) : rel2 ι σ v x := by
  obtain ⟨h, h1⟩ := h
  cases v <;> first | exact h | exact h.elim
theorem run_checkKey {kt : TypeId} {kd : IntKind} (h : P.underlying kt = some (.int kd)) (e : Bool) (m : Nat) (k : IntKind) (n : Int) : (Instr.checkKey e (m + 1) kt (.int k n)).run P w = .ok () w := by
  simp [Instr.checkKey, run_underlying h]
theorem find_now (kd0 kd : IntKind) (n : Int) : ∀ {es : List MapEntry} {cs : List AV} {r : Option AV} (i0 : Nat), Rels (crel ι σ) cs (kvL es) → findA kd n cs = some r →
    (r = none ∧ Instr.findNow (.int kd0) (.int kd n) es i0 = some none) ∨ (∃ v y j, r = some v ∧ Instr.findNow (.int kd0) (.int kd n) es i0 = some (some (i0 + j, y)) ∧ crel ι σ v y)
  | [], cs, r, i0, hr, h => by
    have : cs = [] := by have := hr.1; cases cs <;> simp_all [kvL]
    subst this; cases h
    exact .inl ⟨rfl, rfl⟩
  | e :: es, cs, r, i0, hr, h => by
    match cs, hr with
    | [], hr => have := hr.1; simp [kvL] at this
    | [_], hr => have := hr.1; simp [kvL] at this
    | c :: v :: cs, hr =>
      obtain ⟨_, _, e1, h1, hr1⟩ := hr.uncons
      cases e1
      obtain ⟨_, _, e2, h2, hr2⟩ := hr1.uncons
      cases e2
      unfold findA at h
      split at h
      · rename_i heq; cases heq
      · rename_i heq; cases heq
      · rename_i k a v' rest heq
        cases heq
        have ek : e.key = .int k a := h1.1
        split at h
        · rename_i hk
          subst hk
          split at h
          · rename_i hn
            subst hn
            cases h
            exact .inr ⟨_, _, 0, rfl, by simp [Instr.findNow, ek, Instr.sameNow], h2⟩
          · rename_i hn
            have hne : (n == a) = false := by simpa using hn
            rcases find_now kd0 k n (i0 + 1) hr2 h with ⟨q1, q2⟩ | ⟨v', y, j, q1, q2, q3⟩
            · exact .inl ⟨q1, by simp only [Instr.findNow, ek, Instr.sameNow, hne, if_true]; exact q2⟩
            · refine .inr ⟨v', y, j + 1, q1, ?_, q3⟩
              simp only [Instr.findNow, ek, Instr.sameNow, hne, if_true]
              rw [q2]; simp [Nat.add_comm, Nat.add_left_comm, Nat.add_assoc]
        · cases h
      · cases h
theorem mget_sound {t : TypeId} {ok : Bool} {av iv : AV} {x y : Value} (h : lookupW P t ok av iv σ K) (hh : HRel W0 ι σ w) (hr : rel3 ι σ av x) (hi : rel3 ι σ iv y) : Yields0 P ι σ w K (Instr.lookup t x y ok) := by
  unfold lookupW at h
  split at h
  · rename_i kd z hm
    obtain ⟨kt, et, h1, h2, h3, h4⟩ := mapP_inv hm
    unfold mgetR at h
    split at h
    · rename_i b ver off k n
      obtain ⟨B, hB, hv, hmb, rfl, r, hf, hk⟩ := h
      have e : y = .int k n := hi
      subst e
      obtain ⟨B', hB', hle, hone, _, hp⟩ := hr
      rw [hB] at hB'; cases hB'
      obtain ⟨c, t', hc, rfl⟩ := hp hmb hv
      obtain ⟨es, clk, hheap, hrel⟩ := hh.mp b B c t' hB hc hmb
      have hget : (getObj c).run P w = .ok (.map es clk) w := by simp [getObj, Sem.run, hheap]
      have hz := run_zeroValue h3 w
      rcases find_now k k n 0 hrel hf with ⟨rfl, q2⟩ | ⟨v, u, j, rfl, q2, q3⟩
      · refine Yields0.same (v := if ok then .tuple #[z, .bool false] else z) ?_ hk ?_
        · simp [Instr.lookup, run_underlying h1, hget, run_checkKey h2, Instr.findKey, run_underlying h2, q2, hz]
        · cases ok with
          | true => exact ⟨[z, .bool false], rfl, Rels.cons rfl (Rels.cons rfl Rels.nil)⟩
          | false => exact rfl
      · refine Yields0.same (v := if ok then .tuple #[u, .bool true] else u) ?_ hk ?_
        · simp [Instr.lookup, run_underlying h1, hget, run_checkKey h2, Instr.findKey, run_underlying h2, q2]
        · cases ok with
          | true => exact ⟨[u, .bool true], rfl, Rels.cons (rel2_of_crel q3) (Rels.cons rfl Rels.nil)⟩
          | false => exact rel3_of_crel q3
    · exact h.elim
  · exact h.elim
/-- a map is written -/
theorem HRel.writeM (h : HRel W0 ι σ w) {i : Nat} {B : Blk} {c t clk clk' : Nat} {es es' : Array MapEntry} {cs : List AV} (hB : σ[i]? = some B) (hi : ι[i]? = some (c, t)) (hm : mapB B = true)
    (hp : w.heap[c]? = some (.map es clk)) (hc : Rels (crel ι σ) cs (kvL es'.toList)) :
    HRel W0 ι (σ.set i { B with cells := cs }) { w with heap := w.heap.setIfInBounds c (.map es' clk') } ∧ Ext ι σ ι (σ.set i { B with cells := cs }) := by
  have hx : Ext ι σ ι (σ.set i { B with cells := cs }) := by
    refine ⟨by simp, fun j C C' hC hC' => ?_, fun _ _ _ _ _ _ => rfl⟩
    rw [List.getElem?_set] at hC'
    split at hC'
    · rename_i hij
      subst hij
      rw [hB] at hC; cases hC
      split at hC' <;> cases hC'
      exact ⟨Nat.le_refl _, rfl, rfl⟩
    · rw [hC] at hC'; cases hC'; exact ⟨Nat.le_refl _, rfl, rfl⟩
  have hclt : c < w.heap.size := (h.dom i c t hi).2
  have hcW := (h.dom i c t hi).1
  have hsz : (w.heap.setIfInBounds c (.map es' clk')).size = w.heap.size := by simp
  have hnew : (w.heap.setIfInBounds c (.map es' clk'))[c]? = some (.map es' clk') := by simp [Array.getElem?_setIfInBounds, hclt]
  have hoth : ∀ k, k ≠ c → (w.heap.setIfInBounds c (.map es' clk'))[k]? = w.heap[k]? := fun k hk => by
    rw [Array.getElem?_setIfInBounds, if_neg (fun e => hk e.symm)]
  refine ⟨⟨⟨h.below.os, h.below.tape, h.below.output, by show _ ≤ (w.heap.setIfInBounds c _).size; rw [hsz]; exact h.below.size, fun k hk => (hoth k (by omega)).trans (h.below.block k hk)⟩, by simp [h.len], h.inj, fun j c' t' hj => by show _ ∧ _ < (w.heap.setIfInBounds c _).size; rw [hsz]; exact h.dom j c' t' hj, ?_, ?_, h.drw⟩, hx⟩
  · intro j C c' t' hC hj hmC
    rw [List.getElem?_set] at hC
    split at hC
    · rename_i hij
      subst hij
      rw [hi] at hj; cases hj
      split at hC <;> cases hC
      exact ⟨es', clk', hnew, hc.mono fun _ _ => crel.mono hx⟩
    · rename_i hij
      obtain ⟨es2, clk2, k1, k2⟩ := h.mp j C c' t' hC hj hmC
      have hne : c' ≠ c := fun e => hij (by subst e; exact h.inj i j c' t t' hi hj)
      exact ⟨es2, clk2, (hoth c' hne).trans k1, k2.mono fun _ _ => crel.mono hx⟩
  · intro j C c' t' hC hj hmC
    rw [List.getElem?_set] at hC
    split at hC
    · split at hC <;> cases hC
      have q : mapB B = false := hmC
      rw [hm] at q; cases q
    · rename_i hij
      obtain ⟨vs', rest', k1, k2, k3, k4⟩ := h.blk j C c' t' hC hj hmC
      have hne : c' ≠ c := fun e => hij (by subst e; exact h.inj i j c' t t' hi hj)
      exact ⟨vs', rest', (hoth c' hne).trans k1, k2, k3.mono fun _ _ => crel.mono hx, k4⟩
theorem put_now (kd0 kd : IntKind) (n : Int) (u : Value) (hu : u.oneCell' = true) : ∀ {es : List MapEntry} {cs cs' : List AV} (i0 : Nat), Rels (crel ι σ) cs (kvL es) → putA kd n (.lit u) cs = some cs' →
    (Instr.findNow (.int kd0) (.int kd n) es i0 = some none ∧ ∀ clk, Rels (crel ι σ) cs' (kvL (es ++ [⟨.int kd n, u, clk⟩]))) ∨
    (∃ y j e, Instr.findNow (.int kd0) (.int kd n) es i0 = some (some (i0 + j, y)) ∧ es[j]? = some e ∧ e.key = .int kd n ∧ Rels (crel ι σ) cs' (kvL (es.modify j fun e => { e with key := .int kd n, val := u })))
  | [], cs, cs', i0, hr, h => by
    have : cs = [] := by have := hr.1; cases cs <;> simp_all [kvL]
    subst this; cases h
    exact .inl ⟨rfl, fun clk => Rels.cons ⟨rfl, rfl⟩ (Rels.cons ⟨rfl, hu⟩ Rels.nil)⟩
  | e :: es, cs, cs', i0, hr, h => by
    match cs, hr with
    | [], hr => have := hr.1; simp [kvL] at this
    | [_], hr => have := hr.1; simp [kvL] at this
    | c :: v :: cs, hr =>
      obtain ⟨_, _, e1, h1, hr1⟩ := hr.uncons
      cases e1
      obtain ⟨_, _, e2, h2, hr2⟩ := hr1.uncons
      cases e2
      unfold putA at h
      split at h
      · rename_i heq; cases heq
      · rename_i heq; cases heq
      · rename_i k a v' rest heq
        cases heq
        have ek : e.key = .int k a := h1.1
        split at h
        · rename_i hk
          subst hk
          split at h
          · rename_i hn
            subst hn
            cases h
            exact .inr ⟨e.val, 0, e, by simp [Instr.findNow, ek, Instr.sameNow], rfl, ek, Rels.cons ⟨rfl, rfl⟩ (Rels.cons ⟨rfl, hu⟩ hr2)⟩
          · rename_i hn
            have hne : (n == a) = false := by simpa using hn
            obtain ⟨cs2, hcs2, rfl⟩ := Option.map_eq_some_iff.1 h
            rcases put_now kd0 k n u hu (i0 + 1) hr2 hcs2 with ⟨q1, q2⟩ | ⟨y, j, e', q1, q2, q3, q4⟩
            · exact .inl ⟨by simp only [Instr.findNow, ek, Instr.sameNow, hne, if_true]; exact q1, fun clk => Rels.cons h1 (Rels.cons h2 (q2 clk))⟩
            · refine .inr ⟨y, j + 1, e', ?_, q2, q3, Rels.cons h1 (Rels.cons h2 q4)⟩
              simp only [Instr.findNow, ek, Instr.sameNow, hne, if_true]
              rw [q1]; simp [Nat.add_comm, Nat.add_left_comm, Nat.add_assoc]
        · cases h
      · cases h
theorem mput_sound {t : TypeId} {av iv vv : AV} {x y z : Value} (h : mapUpdW P t av iv vv σ K) (hh : HRel W0 ι σ w) (hr : rel3 ι σ av x) (hi : rel3 ι σ iv y) (hv : rel3 ι σ vv z) :
    ∃ w' ι' σ', (Instr.mapUpdate t x y z).run P w = .ok () w' ∧ K (.lit undef) σ' ∧ HRel W0 ι' σ' w' ∧ Ext ι σ ι' σ' := by
  unfold mapUpdW at h
  split at h
  · rename_i kd z0 hm
    obtain ⟨kt, et, h1, h2, h3, h4⟩ := mapP_inv hm
    unfold mputR at h
    split at h
    · rename_i b ver off k n u
      obtain ⟨B, hB, hver, hmb, rfl, hu, cs, hf, hk⟩ := h
      have e : y = .int k n := hi
      subst e
      have e : z = u := hv
      subst e
      obtain ⟨B', hB', hle, hone, _, hp⟩ := hr
      rw [hB] at hB'; cases hB'
      obtain ⟨c, t', hc, rfl⟩ := hp hmb hver
      obtain ⟨es, clk, hheap, hrel⟩ := hh.mp b B c t' hB hc hmb
      have hget : (getObj c).run P w = .ok (.map es clk) w := by simp [getObj, Sem.run, hheap]
      have hclt : c < w.heap.size := (hh.dom b c t' hc).2
      have hset : ∀ o, (setObj c o).run P w = .ok () { w with heap := w.heap.setIfInBounds c o } := fun o => by simp [setObj, Sem.run, hheap]
      rcases put_now k k n z hu 0 hrel hf with ⟨q1, q2⟩ | ⟨y, j, e', q1, q2, q3, q4⟩
      · have hw := hh.writeM (clk' := clk + 1) (es' := es.push ⟨.int k n, z, clk⟩) hB hc hmb hheap (by rw [Array.toList_push]; exact q2 clk)
        refine ⟨_, _, _, ?_, hk, hw.1, hw.2⟩
        simp [Instr.mapUpdate, run_underlying h1, hget, run_checkKey h2, Instr.findKey, run_underlying h2, q1, hset]
      · have hw := hh.writeM (clk' := clk) (es' := es.modify j fun e => { e with key := .int k n, val := z }) hB hc hmb hheap (by rw [Array.toList_modify]; exact q4)
        have hj : es[j]? = some e' := by rw [← Array.getElem?_toList]; exact q2
        refine ⟨_, _, _, ?_, hk, hw.1, hw.2⟩
        rw [Nat.zero_add] at q1
        simp [Instr.mapUpdate, run_underlying h1, hget, run_checkKey h2, Instr.findKey, run_underlying h2, q1, hset, hj, q3, Instr.keyThatStays, Instr.sameBits]
    · exact h.elim
  · exact h.elim
/-- a new map -/
theorem HRel.allocM (h : HRel W0 ι σ w) : HRel W0 (ι ++ [(w.heap.size, 0)]) (σ ++ [⟨[], 1, 0, 2, false, false⟩]) (w.alloc (.map #[] 0)) ∧ Ext ι σ (ι ++ [(w.heap.size, 0)]) (σ ++ [⟨[], 1, 0, 2, false, false⟩]) := by
  have hx : Ext ι σ (ι ++ [(w.heap.size, 0)]) (σ ++ [⟨[], 1, 0, 2, false, false⟩]) := by
    refine ⟨by simp, fun i B B' hB hB' => ?_, fun i B B' hB hB' _ => ?_⟩
    · have hi : i < σ.length := getElem?_lt hB
      rw [List.getElem?_append_left hi, hB] at hB'; cases hB'; exact ⟨Nat.le_refl _, rfl, rfl⟩
    · have hi : i < σ.length := getElem?_lt hB
      exact List.getElem?_append_left (by rw [h.len]; exact hi)
  have hsz : w.heap.size < (w.alloc (.map #[] 0)).heap.size := by show w.heap.size < (w.heap.push _).size; simp
  have last : ∀ {α : Type} {l : List α} {a b : α} {i : Nat}, ¬ i < l.length → (l ++ [a])[i]? = some b → i = l.length ∧ b = a := by
    intro α l a b i hi hb
    rw [List.getElem?_append_right (by omega)] at hb
    cases hk : i - l.length with
    | zero => rw [hk] at hb; cases hb; exact ⟨by omega, rfl⟩
    | succ k => rw [hk] at hb; simp at hb
  have old : ∀ {α : Type} {l : List α} {a b : α} {i : Nat}, i < l.length → (l ++ [a])[i]? = some b → l[i]? = some b := by
    intro α l a b i hi hb
    rwa [List.getElem?_append_left hi] at hb
  have hp : ∀ c, c < w.heap.size → (w.alloc (.map #[] 0)).heap[c]? = w.heap[c]? := fun c hc => by
    show (w.heap.push _)[c]? = _
    rw [Array.getElem?_push_lt hc, Array.getElem?_eq_getElem hc]
  refine ⟨⟨h.below.alloc h.below.size _, by simp [h.len], ?_, ?_, ?_, ?_, h.drw⟩, hx⟩
  · intro i j c t t' hi hj
    by_cases h1 : i < ι.length
    · by_cases h2 : j < ι.length
      · exact h.inj i j c t t' (old h1 hi) (old h2 hj)
      · obtain ⟨_, e⟩ := last h2 hj
        cases e
        have := (h.dom i _ t (old h1 hi)).2
        omega
    · by_cases h2 : j < ι.length
      · obtain ⟨_, e⟩ := last h1 hi
        cases e
        have := (h.dom j _ t' (old h2 hj)).2
        omega
      · rw [(last h1 hi).1, (last h2 hj).1]
  · intro i c t hi
    by_cases h1 : i < ι.length
    · have := h.dom i c t (old h1 hi); exact ⟨this.1, Nat.lt_trans this.2 hsz⟩
    · obtain ⟨_, e⟩ := last h1 hi
      cases e
      exact ⟨h.below.size, hsz⟩
  · intro i B c t hB hi hm
    by_cases h1 : i < σ.length
    · have hB' := old h1 hB
      have hi' := old (by rw [h.len]; exact h1) hi
      obtain ⟨es, clk, k1, k2⟩ := h.mp i B c t hB' hi' hm
      exact ⟨es, clk, by rw [hp c (h.dom i c t hi').2]; exact k1, k2.mono fun _ _ => crel.mono hx⟩
    · obtain ⟨_, e⟩ := last h1 hB
      obtain ⟨_, e2⟩ := last (by rw [h.len]; exact h1) hi
      subst e; cases e2
      exact ⟨#[], 0, by show (w.heap.push _)[w.heap.size]? = _; simp, Rels.nil⟩
  · intro i B c t hB hi hm
    by_cases h1 : i < σ.length
    · have hB' := old h1 hB
      have hi' := old (by rw [h.len]; exact h1) hi
      obtain ⟨vs, rest, k1, k2, k3, k4⟩ := h.blk i B c t hB' hi' hm
      exact ⟨vs, rest, by rw [hp c (h.dom i c t hi').2]; exact k1, k2, k3.mono fun _ _ => crel.mono hx, k4⟩
    · obtain ⟨_, e⟩ := last h1 hB
      subst e; cases hm
theorem mkmap_sound {t : TypeId} (h : mkmapW σ K) (hh : HRel W0 ι σ w) : Yields P W0 ι σ w K (Instr.makeMap t none) := by
  have hw := hh.allocM
  refine ⟨.map (some w.heap.size), _, _, _, _, rfl, h, hw.1, hw.2, ?_⟩
  exact ⟨⟨[], 1, 0, 2, false, false⟩, by simp, Nat.zero_le _, rfl, fun e => (by cases e), fun _ _ => ⟨w.heap.size, 0, by rw [← hh.len]; simp, rfl⟩⟩
theorem mm_sound {mx : Bool} {av bv : AV} {x y : Value} (h : mmR mx av bv σ K) (hr : rel3 ι σ av x) (hi : rel3 ι σ bv y) (ts : Array TypeId) (t : TypeId) : Yields0 P ι σ w K (cond mx (Builtin.max_ ts t #[x, y]) (Builtin.min_ ts t #[x, y])) := by
  unfold mmR at h
  split at h
  · rename_i k a k' b
    have e : x = .int k a := hr
    subst e
    have e : y = .int k' b := hi
    subst e
    cases mx with
    | true => exact Yields0.lit (by simp [Builtin.max_, Builtin.max2]) h
    | false => exact Yields0.lit (by simp [Builtin.min_, Builtin.min2]) h
  · exact h.elim
theorem zcM_inv {t : TypeId} {esz : Nat} {zc : List AV} (h : zcM P t = some (esz, zc)) : ∃ e by_ z, sliceP P t = some (e, esz, by_) ∧ zeroP P e = some z ∧ cellsAV (ofV z) = some zc ∧ zc.length = esz := by
  unfold zcM at h
  split at h
  · rename_i e es by_ h1
    split at h
    · rename_i z h2
      split at h
      · rename_i zc' h3
        split at h
        · rename_i h4; cases h; exact ⟨e, by_, z, h1, h2, h3, h4⟩
        · cases h
      · cases h
    · cases h
  · cases h
theorem clear_sound {t : TypeId} {av : AV} {x : Value} (h : clearW P t av σ K) (hh : HRel W0 ι σ w) (hr : rel3 ι σ av x) (ty : TypeId) : Yields P W0 ι σ w K (Builtin.clear_ #[t] ty #[x]) := by
  unfold clearW at h
  split at h
  · rename_i esz zc hm
    obtain ⟨e, by_, z, h1, h2, h3, h4⟩ := zcM_inv hm
    obtain ⟨i, hu, hii, hsz, hby⟩ := sliceP_inv h1
    unfold clearR at h
    split at h
    · rename_i n c
      have e0 : x = .slice none n c := hr
      subst e0
      refine ⟨.tuple #[], w, ι, σ, .tup [], ?_, h, hh, Ext.refl _ _, [], rfl, Rels.nil⟩
      simp [Builtin.clear_, run_underlying hu]
    · rename_i b ver off n cap
      obtain ⟨B, hB, hver, hoff, hk⟩ := h
      have hmB := slRel_not hr hB
      obtain ⟨c, tt, hi, rfl, hnc, hcm, _⟩ := slRel_now hr hB hver
      obtain ⟨vs, rest, hheap, htot, hrel, hroom⟩ := hh.blk b B c tt hB hi hmB
      have hzr : Rels (crel ι σ) zc z.cells.toList := crel_of_ofV h3
      have hzs : z.cells.size = esz := by have := hzr.1; simp at this; omega
      have hl : vs.length = B.cells.length := hrel.1.symm
      have hcr := rep_rel hzr n
      have hcl : (Builtin.zeroCells z.cells n).toList = (List.replicate n z.cells.toList).flatten := madeCells_toList z.cells n
      have hyl : ((List.replicate n z.cells.toList).flatten).length = n * esz := by rw [← hcr.1, rep_length, h4]
      have hst := run_storeCells_fz (P := P) c off B.e _ (List.replicate n z.cells.toList).flatten 0 (vs ++ rest).toArray w hheap (fun k hk => fzOf_off (by simpa [← htot] using hk)) (by rw [hyl]; simp; omega) (fun u hu => by
        obtain ⟨i, hi⟩ := List.getElem?_of_mem hu
        have hlt := getElem?_lt hi
        rw [← hcr.1] at hlt
        exact (hcr.2 i _ u (List.getElem?_eq_getElem hlt) hi).2)
      simp only [Nat.add_zero, hyl] at hst
      have hsplit : (vs ++ rest).take off ++ (List.replicate n z.cells.toList).flatten ++ (vs ++ rest).drop (off + n * esz) = (vs.take off ++ (List.replicate n z.cells.toList).flatten ++ vs.drop (off + n * esz)) ++ rest := by
        rw [List.take_append_of_le_length (by omega), List.drop_append_of_le_length (by omega)]
        simp [List.append_assoc]
      rw [hsplit] at hst
      have hnew : Rels (crel ι σ) (B.cells.take off ++ rep n zc ++ B.cells.drop (off + n * esz)) (vs.take off ++ (List.replicate n z.cells.toList).flatten ++ vs.drop (off + n * esz)) := ((hrel.take off).append hcr).append (hrel.drop _)
      have hwr := HRel.write hh hB hi (cs := B.cells.take off ++ rep n zc ++ B.cells.drop (off + n * esz)) (vs := vs.take off ++ (List.replicate n z.cells.toList).flatten ++ vs.drop (off + n * esz)) (rest := rest)
        (by rw [← htot]; simp only [List.length_append, List.length_take, List.length_drop, hyl]; omega) hnew hroom hmB
      by_cases hn : n = 0
      · subst hn
        have e1 : σ.set b { B with cells := B.cells.take off ++ rep 0 zc ++ B.cells.drop (off + 0 * esz) } = σ := by
          have : B.cells.take off ++ rep 0 zc ++ B.cells.drop (off + 0 * esz) = B.cells := by simp [rep]
          rw [this]
          apply List.ext_getElem?; intro j; rw [List.getElem?_set]; split
          · rename_i e; subst e; rw [if_pos (getElem?_lt hB)]; exact hB.symm
          · rfl
        rw [e1] at hk
        refine ⟨.tuple #[], w, ι, σ, .tup [], ?_, hk, hh, Ext.refl _ _, [], rfl, Rels.nil⟩
        simp [Builtin.clear_, run_underlying hu]
      · refine ⟨.tuple #[], _, ι, _, .tup [], ?_, hk, hwr.1, hwr.2, [], rfl, Rels.nil⟩
        obtain ⟨m, rfl⟩ : ∃ m, n = m + 1 := ⟨n - 1, by omega⟩
        have hst' : (storeCells ⟨c, off, none⟩ (Builtin.zeroCells z.cells (m + 1)).toList).run P w = .ok () (w.setRow c (vs.take off ++ (List.replicate (m + 1) z.cells.toList).flatten ++ vs.drop (off + (m + 1) * esz) ++ rest).toArray) := by
          rw [hcl]; exact hst
        simp only [Builtin.clear_, run_underlying hu, List.getElem?_toArray, List.getElem?_cons_zero, Sem.run_bind, Result.andThen_ok, run_zeroValue h2, hst', Sem.run_pure]
    · exact h.elim
  · exact h.elim
end
end Go.Proofs.Ytcclhjohpicleaa.Abs
end

section
/- The abstract logic, part G: one operation; what is asked of a call. -/
set_option linter.unusedVariables false
set_option linter.unusedSimpArgs false
namespace Go.Proofs.Ytcclhjohpicleaa.Abs
open Go Go.RowKit
abbrev Fr := Nat → AV
def upd (fr : Fr) (d : Nat) (v : AV) : Fr := fun t => if t = d then v else fr t
def updO (fr : Fr) : Option Nat → AV → Fr
  | some d, v => upd fr d v
  | none, _ => fr
def evA (fr : Fr) : Operand → AV
  | .tmp t => fr t
  | .const v => ofV v
  | .global g => .lit (.pointer (some ⟨g, 0, none⟩))
  | .func f => .lit (.func (.func f) #[] #[])
def callOK (P : Program) (g : FuncId) : Bool :=
  match P.funcs[g]? with
  | some fn => !(fn.name == "runtime.NumGoroutine") && fn.body.isSome
  | none => false
/-- A call with abstract arguments: it returns a value and blocks of which K holds. -/
structure ACall (P : Program) (W0 : World) (g : FuncId) (args : List AV) (σ : List Blk) (K : Cont) : Prop where
  ok : callOK P g = true
  run : ∀ (ι : Loc) (w : World) (vs : List Value), HRel W0 ι σ w → Rels (rel3 ι σ) args vs →
    Calls P g vs.toArray w fun e w' => ∃ v ι' σ' av, e = .returned v ∧ K av σ' ∧ HRel W0 ι' σ' w' ∧ Ext ι σ ι' σ' ∧ rel3 ι' σ' av v
theorem ACall.mono {P : Program} {W0 : World} {g : FuncId} {args : List AV} {σ : List Blk} {K K' : Cont} (h : ACall P W0 g args σ K) (hk : ∀ v σ', K v σ' → K' v σ') : ACall P W0 g args σ K' :=
  ⟨h.1, fun ι w vs hh hr => (h.2 ι w vs hh hr).mono fun _ _ ⟨v, ι', σ', av, he, hk', r⟩ => ⟨v, ι', σ', av, he, hk _ _ hk', r⟩⟩
/-- the elements that are appended: the cells of an own slice, or of one that came in -/
def srcW (P : Program) (W0 : World) (t : TypeId) (x : AV) (σ : List Blk) (Q : Nat → List AV → Prop) : Prop :=
  match sliceP P t, x with
  | some (_, s, _), .sl b ver off m _ => ∃ B, σ[b]? = some B ∧ B.ver = ver ∧ off + m * s ≤ B.cells.length ∧ Q m ((B.cells.drop off).take (m * s))
  | some (_, s, _), .lit (.slice (some ad) m _) => ∃ cs : List Value, cs.length = m * s ∧ (∀ (j : Nat) (v : Value), cs[j]? = some v → W0.cell? (ad.add j) = some v ∧ v.oneCell' = true) ∧ ad.block < W0.heap.size ∧ Q m (cs.map .lit)
  | some _, .lit (.slice none 0 0) => Q 0 []
  | _, _ => False
def lenW (P : Program) (t : TypeId) (x : AV) (σ : List Blk) (K : Cont) : Prop :=
  match x with
  | .lit (.string s) => P.underlying t = some .string ∧ K (.lit (.int .i64 s.size)) σ
  | .lit (.slice _ n _) => (sliceP P t).isSome = true ∧ K (.lit (.int .i64 n)) σ
  | .sl b ver _ n _ => (sliceP P t).isSome = true ∧ (∃ B, σ[b]? = some B ∧ B.ver = ver) ∧ K (.lit (.int .i64 n)) σ
  | _ => False
def atomA : AV → Bool
  | .lit _ | .ptr _ _ _ => true
  | _ => false
def unW (op : UnOp) (x : AV) (σ : List Blk) (K : Cont) : Prop :=
  match op, x with
  | .not, .lit (.bool b) => K (.lit (.bool (!b))) σ
  | .neg, .lit (.int k n) => K (.lit (.int k (k.wrap (0 - n)))) σ
  | .xor, .lit (.int k n) => K (.lit (.int k (bXor k (if k.signed then -1 else k.max) n))) σ
  | _, _ => False
def convW (P : Program) (src dst : TypeId) (x : AV) (σ : List Blk) (K : Cont) : Prop :=
  match P.underlying src, P.underlying dst, x with
  | some _, some (.int k), .lit (.int _ n) => K (.lit (.int k (k.wrap n))) σ
  | some _, some .string, .lit (.string s) => K (.lit (.string s)) σ
  | some (.slice e), some .string, .sl b ver off n _ => P.underlying e = some (.int .u8) ∧ ∃ B xs, σ[b]? = some B ∧ B.ver = ver ∧ off + n ≤ B.cells.length ∧ (B.cells.drop off).take n = xs.map (fun x => AV.lit (.int .u8 x)) ∧ K (.lit (.string (strOfNums xs))) σ
  | _, _, _ => False
/-- a conversion of a string to bytes -/
def bytesC (P : Program) (src dst : TypeId) : Bool := match P.underlying src, P.underlying dst with
  | some .string, some (.slice _) => true
  | _, _ => false
theorem bytesC_int {P : Program} {src dst : TypeId} {u : TypeDesc} {k : IntKind} (hs : P.underlying src = some u) (hd : P.underlying dst = some (.int k)) : bytesC P src dst = false := by
  unfold bytesC; rw [hs, hd]; cases u <;> rfl
theorem bytesC_str {P : Program} {src dst e : TypeId} (hs : P.underlying src = some (.slice e)) (hd : P.underlying dst = some .string) : bytesC P src dst = false := by
  unfold bytesC; rw [hs, hd]
theorem bytesC_yes {P : Program} {src dst e : TypeId} (hs : P.underlying src = some .string) (hd : P.underlying dst = some (.slice e)) : bytesC P src dst = true := by
  unfold bytesC; rw [hs, hd]
/-- a string's bytes in a new row -/
def bytesW (P : Program) (dst : TypeId) (x : AV) (σ : List Blk) (K : Cont) : Prop :=
  match P.underlying dst, x with
  | some (.slice e), .lit (.string s) => P.underlying e = some (.int .u8) ∧ s.size ≤ maxLen ∧ ∀ cap, s.size ≤ cap → cap ≤ maxLen → K (.sl σ.length 0 0 s.size cap) (σ ++ [⟨s.data.toList.map fun b => AV.lit (.int .u8 b.toNat), 0, e, 1, false, true⟩])
  | _, _ => False
def callW (P : Program) (W0 : World) (f : AV) (args : List AV) (σ : List Blk) (K : Cont) : Prop :=
  match f with
  | .lit (.func (.func g) fs cs) => fs = #[] ∧ cs = #[] ∧ ACall P W0 g args σ K
  | .fn (.func g) first caps => ACall P W0 g (first ++ args ++ caps) σ K
  | _ => False
def callOpW (P : Program) (W0 : World) (c : Call) (fr : Operand → AV) (σ : List Blk) (K : Cont) : Prop :=
  match c.callee with
  | .value f => callW P W0 (fr f) (c.args.toList.map fr) σ K
  | .builtin .len => match c.args.toList, c.argTypes.toList with
    | [x], [t] => lenW P t (fr x) σ K
    | _, _ => False
  | .builtin .clear => match c.args.toList, c.argTypes.toList with
    | [x], [t] => clearW P t (fr x) σ K
    | _, _ => False
  | .builtin .max => match c.args.toList with
    | [x, y] => mmR true (fr x) (fr y) σ K
    | _ => False
  | .builtin .min => match c.args.toList with
    | [x, y] => mmR false (fr x) (fr y) σ K
    | _ => False
  | .builtin .append => match c.args.toList, c.argTypes.toList with
    | [s, x], [t, t'] => t = t' ∧ (∃ e s b z, sliceP P t = some (e, s, b) ∧ zeroP P e = some z ∧ z.cells.size = s) ∧ srcW P W0 t (fr x) σ fun m news => appendW P t (fr s) m news σ K
    | _, _ => False
  | _ => False
/-- What one operation does (but for a row of new elements that the next one appends). -/
def opW (P : Program) (W0 : World) (op : Op) (fr : Operand → AV) (σ : List Blk) (K : Cont) : Prop :=
  match op with
  | .move x | .assign x => K (fr x) σ
  | .pick c a b => match fr c, fr a, fr b with
    | .lit (.bool t), .lit (.bool x), .lit (.bool y) => K (.lit (.bool (if t then x else y))) σ
    | .lit (.bool t), x, y => (t = true → K x σ) ∧ (t = false → K y σ)
    | _, _, _ => False
  | .alloc elem => allocW P elem σ K
  | .box elem x => boxW elem (fr x) σ K
  | .build t parts => buildW P fr t parts σ K
  | .buildSlice t len parts => buildSliceW P fr t len parts σ K
  | .load t a => loadW P W0 t (fr a) σ K
  | .store t a v => storeW P t (fr a) (fr v) σ K
  | .nilCheck x => match fr x with
    | .ptr b ver off => (∃ B, σ[b]? = some B ∧ B.ver = ver) ∧ K (.ptr b ver off) σ
    | .lit (.pointer (some a)) => K (.lit (.pointer (some a))) σ
    | .fn (.func g) first caps => K (.fn (.func g) first caps) σ
    | .lit (.func (.func g) a b) => K (.lit (.func (.func g) a b)) σ
    | _ => False
  | .binOp op t x y _ => binW P op t y (fr x) (fr y) σ K
  | .unOp op _ x => unW op (fr x) σ K
  | .convert src dst x => match bytesC P src dst with
    | true => bytesW P dst (fr x) σ K
    | false => convW P src dst (fr x) σ K
  | .makeFunc f first caps => (first.toList.map fr).all atomA = true ∧ (caps.toList.map fr).all atomA = true ∧ K (.fn f (first.toList.map fr) (caps.toList.map fr)) σ
  | .makeSlice t l c => makeSliceW P t (fr l) (fr c) σ K
  | .slice t x lo hi none => sliceW P fr t x lo hi σ K
  | .fieldAddr s x f => fieldAddrW P s (fr x) f σ K
  | .field s x f => fieldW P s (fr x) f σ K
  | .indexAddr t x i => indexAddrW P t (fr x) (fr i) σ K
  | .index t x i => indexW P t (fr x) (fr i) σ K
  | .extract x i => match fr x with
    | .tup vs => match vs[i]? with
      | some v => K v σ
      | none => False
    | _ => False
  | .makeMap _ none => mkmapW σ K
  | .lookup t x i ok => lookupW P t ok (fr x) (fr i) σ K
  | .mapUpdate t m k v => mapUpdW P t (fr m) (fr k) (fr v) σ K
  | .call c => callOpW P W0 c fr σ K
  | _ => False
section
variable {P : Program} {W0 : World} {ι : Loc} {σ : List Blk} {w : World} {K : Cont}
theorem wp_of_run {o : Oper} {a : Act} {v : Value} {w' : World} {next : Act → World → Prop} {Q : Exit → Act → World → Prop} (h : (execOp a.eval o).run P w = .ok (.value v) w') (hn : next (a.put o.dst v) w') : o.wp P a w next Q := by
  unfold Oper.wp
  rw [h]
  exact hn
theorem wp_of_skip {o : Oper} {a : Act} {w' : World} {next : Act → World → Prop} {Q : Exit → Act → World → Prop} (h : (execOp a.eval o).run P w = .ok .skip w') (hn : next (a.put o.dst undef) w') : o.wp P a w next Q := by
  unfold Oper.wp
  rw [h]
  exact hn
/-- What is to follow an operation. -/
def Nxt (W0 : World) (ι : Loc) (σ : List Blk) (K : Cont) (o : Oper) (a : Act) (next : Act → World → Prop) : Prop :=
  ∀ v w' ι' σ' av, K av σ' → HRel W0 ι' σ' w' → Ext ι σ ι' σ' → rel3 ι' σ' av v → next (a.put o.dst v) w'
theorem wp_of_yields {o : Oper} {a : Act} {next : Act → World → Prop} {Q : Exit → Act → World → Prop} {s : Sem Value} (hy : Yields P W0 ι σ w K s) (he : execOp a.eval o = (do pure (.value (← s)))) (hn : Nxt W0 ι σ K o a next) :
    o.wp P a w next Q := by
  obtain ⟨v, w', ι', σ', av, h1, h2, h3, h4, h5⟩ := hy
  refine wp_of_run (v := v) (w' := w') ?_ (hn v w' ι' σ' av h2 h3 h4 h5)
  rw [he]
  simp [h1]
theorem rels_map {fr : Operand → AV} {ρ : Operand → Value} (hr : ∀ x, rel3 ι σ (fr x) (ρ x)) (l : List Operand) : Rels (rel3 ι σ) (l.map fr) (l.map ρ) :=
  ⟨by simp, fun i a b ha hb => by
    rw [List.getElem?_map] at ha hb
    cases hl : l[i]? with
    | none => rw [hl] at ha; cases ha
    | some q => rw [hl] at ha hb; simp at ha hb; subst ha; subst hb; exact hr q⟩
theorem rel0_of_atom {v : AV} {x : Value} (h : atomA v = true) (hr : rel3 ι σ v x) : rel0 ι σ v x := by
  cases v <;> first | exact hr | simp [atomA] at h
theorem rels_atoms {l : List AV} {m : List Value} (h : l.all atomA = true) (hr : Rels (rel3 ι σ) l m) : Rels (rel0 ι σ) l m :=
  ⟨hr.1, fun i a b ha hb => rel0_of_atom (List.all_eq_true.1 h a (List.mem_of_getElem? ha)) (hr.2 i a b ha hb)⟩
theorem rel3_of_rel0 {v : AV} {x : Value} (h : rel0 ι σ v x) : rel3 ι σ v x := by
  cases v <;> first | exact h | exact h.elim
theorem wp_of_ACall {g : FuncId} {args : List AV} {vs : List Value} {o : Oper} {a : Act} {next : Act → World → Prop} {Q : Exit → Act → World → Prop} (h : ACall P W0 g args σ K) (hh : HRel W0 ι σ w) (hr : Rels (rel3 ι σ) args vs)
    (he : (execOp a.eval o).run P w = (callFunc g vs.toArray).run P w) (hn : Nxt W0 ι σ K o a next) : o.wp P a w next Q := by
  obtain ⟨hok, hc⟩ := h
  have hent : (callFunc g vs.toArray).run P w = .ok (.enter g vs.toArray) w := by
    unfold callOK at hok
    split at hok
    · rename_i fn hf
      simp only [Bool.and_eq_true, Bool.not_eq_true'] at hok
      have hb : fn.body.isNone = false := by cases hb : fn.body <;> simp [hb] at hok ⊢
      simp only [callFunc, Sem.run_bind, run_program, Result.andThen_ok, hf, hok.1, Bool.false_eq_true, if_false, hb, Sem.run_pure]
    · cases hok
  unfold Oper.wp
  rw [he, hent, Oper.upon_enter]
  refine (hc ι w vs hh hr).mono fun e w' ⟨v, ι', σ', av, h0, h2, h3, h4, h5⟩ => ?_
  subst h0
  exact hn v w' ι' σ' av h2 h3 h4 h5
theorem callW_sound {f : AV} {fv : Value} {args : List AV} {vs : List Value} {o : Oper} {a : Act} {next : Act → World → Prop} {Q : Exit → Act → World → Prop} (h : callW P W0 f args σ K) (hh : HRel W0 ι σ w) (hf : rel3 ι σ f fv) (hr : Rels (rel3 ι σ) args vs)
    (he : execOp a.eval o = (do let d ← Deferred.ofValue fv vs.toArray; invoke d.target d.args)) (hn : Nxt W0 ι σ K o a next) : o.wp P a w next Q := by
  unfold callW at h
  split at h
  · rename_i g fs cs
    obtain ⟨rfl, rfl, h⟩ := h
    have e : fv = .func (.func g) #[] #[] := hf
    subst e
    refine wp_of_ACall h hh hr ?_ hn
    rw [he]
    simp [Deferred.ofValue, invoke]
  · rename_i g first caps
    obtain ⟨l1, l2, rfl, h1, h2⟩ := hf
    refine wp_of_ACall h hh (((h1.mono fun _ _ => rel3_of_rel0).append hr).append (h2.mono fun _ _ => rel3_of_rel0)) ?_ hn
    rw [he]
    simp [Deferred.ofValue, invoke]
  · exact h.elim
theorem lenW_sound {t : TypeId} {av : AV} {x : Value} (h : lenW P t av σ K) (hh : HRel W0 ι σ w) (hr : rel3 ι σ av x) (ty : TypeId) : Yields0 P ι σ w K (Builtin.len_ #[t] ty #[x]) := by
  unfold lenW at h
  split at h
  · rename_i s
    have e : x = .string s := hr
    subst e
    refine Yields0.lit ?_ h.2
    simp [Builtin.len_, run_underlying h.1, goInt]
  · rename_i ad n c
    have e : x = .slice ad n c := hr
    subst e
    obtain ⟨⟨e, s, b⟩, hs⟩ := Option.isSome_iff_exists.1 h.1
    obtain ⟨i, hu, _⟩ := sliceP_inv hs
    refine Yields0.lit ?_ h.2
    simp [Builtin.len_, run_underlying hu, goInt]
  · rename_i b ver off n cap
    obtain ⟨hsm, ⟨B, hB, hv⟩, hk⟩ := h
    obtain ⟨⟨e, s, b⟩, hs⟩ := Option.isSome_iff_exists.1 hsm
    obtain ⟨i, hu, _⟩ := sliceP_inv hs
    obtain ⟨c, tt, hi, rfl, _⟩ := slRel_now hr hB hv
    refine Yields0.lit ?_ hk
    simp [Builtin.len_, run_underlying hu, goInt]
  · exact h.elim
theorem unW_sound {op : UnOp} {av : AV} {x : Value} (h : unW op av σ K) (hh : HRel W0 ι σ w) (hr : rel3 ι σ av x) : Yields0 P ι σ w K (Op.unary op x) := by
  unfold unW at h
  split at h
  · rename_i b
    have e : x = .bool b := hr
    subst e
    exact Yields0.lit (by simp [Op.unary]) h
  · rename_i k n
    have e : x = .int k n := hr
    subst e
    exact Yields0.lit (by simp [Op.unary, Op.intArith]) h
  · rename_i k n
    have e : x = .int k n := hr
    subst e
    exact Yields0.lit (by simp [Op.unary, Op.intBits, bXor]) h
  · exact h.elim
theorem addN (c off i : Nat) : (⟨c, off, none⟩ : Addr).add i = ⟨c, off + i, none⟩ := by unfold Addr.add; split <;> simp_all
theorem convW_sound {src dst : TypeId} {av : AV} {x : Value} (h : convW P src dst av σ K) (hh : HRel W0 ι σ w) (hr : rel3 ι σ av x) : Yields0 P ι σ w K (convert src dst x) := by
  unfold convW at h
  split at h
  · rename_i d k k' n hs hd
    have e : x = .int k' n := hr
    subst e
    refine Yields0.lit ?_ h
    simp only [convert, Sem.run_bind, run_underlying hs, run_underlying hd, Result.andThen_ok]
    cases d <;> simp [Conv.intToInt]
  · rename_i d s hs hd
    have e : x = .string s := hr
    subst e
    refine Yields0.lit ?_ h
    simp only [convert, Sem.run_bind, run_underlying hs, run_underlying hd, Result.andThen_ok]
    cases d <;> simp
  · rename_i e b ver off n cap hs hd
    obtain ⟨he, B, xs, hB, hv, hl, hx, hk⟩ := h
    have hmB := slRel_not hr hB
    obtain ⟨c, tt, hi, rfl, _⟩ := slRel_now hr hB hv
    obtain ⟨vs, rest, hheap, _, hrel, _⟩ := hh.blk b B c tt hB hi hmB
    have hvl : vs.length = B.cells.length := hrel.1.symm
    have hrel' := (hrel.drop off).take n
    rw [hx] at hrel'
    have hlen : xs.length = n := by
      have := congrArg List.length hx
      rw [List.length_take, List.length_drop, List.length_map] at this
      omega
    refine Yields0.lit (run_convert_bytes_arg w src e hs he c off n cap xs hlen (fun i hin => ?_) _ hd) hk
    have hvi : ((vs.drop off).take n)[i]? = some vs[off + i] := by
      rw [List.getElem?_take, if_pos hin, List.getElem?_drop, List.getElem?_eq_getElem (by omega)]
    have hxi : (xs.map (fun x => AV.lit (.int .u8 x)))[i]? = some (AV.lit (.int .u8 (xs.getD i 0))) := by
      rw [List.getElem?_map, List.getElem?_eq_getElem (by omega), List.getD_eq_getElem?_getD, List.getElem?_eq_getElem (by omega)]; rfl
    have hc := (hrel'.2 i _ _ hxi hvi).1
    have hc' : vs[off + i] = .int .u8 (xs.getD i 0) := hc
    rw [← addN c off i]
    rw [cell?_own hheap, List.getElem?_append_left (by omega), List.getElem?_eq_getElem (by omega), hc']
  · exact h.elim
theorem bytesW_sound {src dst : TypeId} {av : AV} {x : Value} (hb : bytesC P src dst = true) (h : bytesW P dst av σ K) (hh : HRel W0 ι σ w) (hr : rel3 ι σ av x) : Yields P W0 ι σ w K (convert src dst x) := by
  have hs : P.underlying src = some .string := by
    unfold bytesC at hb
    split at hb
    · assumption
    · cases hb
  unfold bytesW at h
  split at h
  · rename_i e s hd
    obtain ⟨he, hsz, hk⟩ := h
    have e0 : x = .string s := hr
    subst e0
    have hge := grownCap_ge w s.size 0 e
    have hcm := grownCap_le_maxLen w s.size 0 e hsz
    have hrun := run_bytes_of_string (P := P) w src dst e s hs hd he
    have hl : s.data.toList.length = s.size := by simp
    obtain ⟨rest, hrest⟩ : ∃ rest, bytesRow s (grownCap w s.size 0 e) = ((s.data.toList.map fun b => Value.int .u8 b.toNat) ++ rest).toArray := ⟨(Array.replicate (grownCap w s.size 0 e - s.size) (.int .u8 0)).toList, by
      apply Array.ext'
      simp [bytesRow]⟩
    have hrel : Rels (crel ι σ) (s.data.toList.map fun b => AV.lit (.int .u8 b.toNat)) (s.data.toList.map fun b => Value.int .u8 b.toNat) := by
      refine ⟨by simp, fun i a b ha hb' => ?_⟩
      rw [List.getElem?_map, Option.map_eq_some_iff] at ha hb'
      obtain ⟨c, h1, rfl⟩ := ha
      obtain ⟨c', h2, rfl⟩ := hb'
      rw [h1] at h2; cases h2
      exact ⟨rfl, rfl⟩
    rw [hrest] at hrun
    have hw := hh.drew.allocF (e := e) (esz := 1) (row := false) (room := true) (rest := rest) hrel (fun h => by cases h) rfl
    refine ⟨_, _, _, _, _, hrun, hk _ hge hcm, ?_, hw.2, ?_⟩
    · have := hw.1
      simp only [fzOf, Bool.not_false, Bool.and_true, cond_true] at this
      simpa using this
    · refine ⟨_, by simp; rfl, Nat.le_refl _, rfl, fun _ => ⟨w.drew.heap.size, ((s.data.toList.map fun b => Value.int .u8 b.toNat) ++ rest).length, by simp [← hh.len], rfl, hge, hcm, fun h => by cases h⟩, rfl⟩
  · exact h.elim
theorem run_append_none {w : World} {t ty e : TypeId} (hu : P.underlying t = some (.slice e)) (hi : ∃ i, P.info? e = some i) {base : Option Addr} {n cap : Nat} (hle : n ≤ cap) {ad : Addr} {c : Nat} :
    (Builtin.append_ #[t, t] ty #[.slice base n cap, .slice none 0 0]).run P w = (Builtin.append_ #[t, t] ty #[.slice base n cap, .slice (some ad) 0 c]).run P w := by
  obtain ⟨i, hii⟩ := hi
  simp [Builtin.append_, run_underlying hu, sizeOf, typeInfo, hii, Builtin.lenOf, Builtin.firstCells, loadCells, loadCellsFrom, hle]
theorem srcW_sound {t : TypeId} {av : AV} {x : Value} {Q : Nat → List AV → Prop} (h : srcW P W0 t av σ Q) (hh : HRel W0 ι σ w) (hr : rel3 ι σ av x) :
    (∃ ad m c news vs, x = .slice (some ad) m c ∧ Q m news ∧ Rels (crel ι σ) news vs ∧ ∀ (j : Nat) (u : Value), vs[j]? = some u → w.cell? (ad.add j) = some u) ∨ (x = .slice none 0 0 ∧ Q 0 []) := by
  unfold srcW at h
  split at h
  · rename_i e s by_ b ver off m cap hs
    obtain ⟨B, hB, hv, hl, hq⟩ := h
    have hmB := slRel_not hr hB
    obtain ⟨c, tt, hi, rfl, _⟩ := slRel_now hr hB hv
    obtain ⟨vs, rest, hheap, _, hrel, _⟩ := hh.blk b B c tt hB hi hmB
    have hvl : vs.length = B.cells.length := hrel.1.symm
    refine .inl ⟨_, _, _, _, _, rfl, hq, (hrel.drop off).take (m * s), fun j u hj => ?_⟩
    rw [cell?_own hheap]
    rw [List.getElem?_take] at hj
    split at hj
    · rw [List.getElem?_drop] at hj
      rw [List.getElem?_append_left (getElem?_lt hj)]; exact hj
    · cases hj
  · rename_i e s by_ ad m cap hs
    obtain ⟨cs, hl, hc, hlt, hq⟩ := h
    have e : x = .slice (some ad) m cap := hr
    subst e
    refine .inl ⟨_, _, _, _, cs, rfl, hq, ⟨by simp, fun i a b ha hb => ?_⟩, fun j u hj => ?_⟩
    · rw [List.getElem?_map, hb] at ha
      simp at ha; subst ha
      exact ⟨rfl, (hc i b hb).2⟩
    · rw [← (hc j u hj).1]
      have hb : (ad.add j).block = ad.block := by unfold Addr.add; split <;> rfl
      exact hh.below.cell (by rw [hb]; exact hlt)
  · exact .inr ⟨hr, h⟩
  · exact h.elim
theorem list2 {α : Type} {a : Array α} {x y : α} (h : a.toList = [x, y]) : a = #[x, y] := by
  have := congrArg List.toArray h
  simpa using this
theorem list1 {α : Type} {a : Array α} {x : α} (h : a.toList = [x]) : a = #[x] := by
  have := congrArg List.toArray h
  simpa using this
theorem opW_sound {o : Oper} {fr : Fr} {a : Act} {next : Act → World → Prop} {Q : Exit → Act → World → Prop} (h : opW P W0 o.op (evA fr) σ K) (hh : HRel W0 ι σ w) (hr : ∀ x, rel3 ι σ (evA fr x) (a.eval x)) (hn : Nxt W0 ι σ K o a next) :
    o.wp P a w next Q := by
  obtain ⟨dst, op, type, pos, after, guard⟩ := o
  unfold opW at h
  dsimp only at h
  split at h
  · rename_i x
    exact wp_of_run rfl (hn _ _ _ _ _ h hh (Ext.refl _ _) (hr x))
  · rename_i x
    exact wp_of_run rfl (hn _ _ _ _ _ h hh (Ext.refl _ _) (hr x))
  · rename_i c x y
    split at h
    · rename_i t u v hc hx hy
      have h1 := hr c; rw [hc] at h1; have e1 : a.eval c = .bool t := h1
      have h2 := hr x; rw [hx] at h2; have e2 : a.eval x = .bool u := h2
      have h3 := hr y; rw [hy] at h3; have e3 : a.eval y = .bool v := h3
      refine wp_of_run (v := .bool (if t then u else v)) (w' := w) ?_ (hn _ _ _ _ _ h hh (Ext.refl _ _) rfl)
      simp only [execOp, e1, asBool, Sem.run_bind, Sem.run_pure, Result.andThen_ok, e2, e3]
      cases t <;> rfl
    · rename_i _ _ t hc hnn
      have h1 := hr c; rw [hc] at h1; have e1 : a.eval c = .bool t := h1
      cases t with
      | true => exact wp_of_run (v := a.eval x) (w' := w) (by simp [execOp, e1, asBool]) (hn _ _ _ _ _ (h.1 rfl) hh (Ext.refl _ _) (hr x))
      | false => exact wp_of_run (v := a.eval y) (w' := w) (by simp [execOp, e1, asBool]) (hn _ _ _ _ _ (h.2 rfl) hh (Ext.refl _ _) (hr y))
    · exact h.elim
  · exact wp_of_yields (allocW_sound h hh) rfl hn
  · rename_i elem x
    exact wp_of_yields (boxW_sound h hh (hr x)) rfl hn
  · exact wp_of_yields ((buildW_sound h hh hr).to hh) rfl hn
  · exact wp_of_yields (buildSliceW_sound h hh hr) rfl hn
  · rename_i t x
    exact wp_of_yields ((loadW_sound h hh (hr x)).to hh) rfl hn
  · rename_i t x y
    obtain ⟨w', ι', σ', h1, h2, h3, h4⟩ := storeW_sound (P := P) h hh (hr x) (hr y)
    refine wp_of_skip (w' := w') ?_ (hn _ _ _ _ _ h2 h3 h4 rfl)
    simp [execOp, h1]
  · rename_i x
    split at h
    · rename_i b ver off hx
      have h1 := hr x; rw [hx] at h1
      obtain ⟨⟨B, hB, hv⟩, hk⟩ := h
      obtain ⟨c, tt, hi, e1⟩ := ptrRel_now h1 hB hv
      exact wp_of_run (v := a.eval x) (w' := w) (by simp [execOp, e1]) (hn _ _ _ _ _ hk hh (Ext.refl _ _) h1)
    · rename_i ad hx
      have h1 := hr x; rw [hx] at h1
      have e1 : a.eval x = .pointer (some ad) := h1
      exact wp_of_run (v := a.eval x) (w' := w) (by simp [execOp, e1]) (hn _ _ _ _ _ h hh (Ext.refl _ _) h1)
    · rename_i g first caps hx
      have h1 := hr x; rw [hx] at h1
      have h1' := h1
      obtain ⟨l1, l2, e1, _, _⟩ := h1
      exact wp_of_run (v := a.eval x) (w' := w) (by simp [execOp, e1]) (hn _ _ _ _ _ h hh (Ext.refl _ _) h1')
    · rename_i g f1 f2 hx
      have h1 := hr x; rw [hx] at h1
      have e1 : a.eval x = .func (.func g) f1 f2 := h1
      exact wp_of_run (v := a.eval x) (w' := w) (by simp [execOp, e1]) (hn _ _ _ _ _ h hh (Ext.refl _ _) h1)
    · exact h.elim
  · rename_i bop t x y ty
    exact wp_of_yields ((binW_sound (x := x) h hh (hr x) (hr y)).to hh) rfl hn
  · rename_i uop t x
    exact wp_of_yields ((unW_sound h hh (hr x)).to hh) rfl hn
  · rename_i src d x
    split at h
    · rename_i hb
      exact wp_of_yields (bytesW_sound hb h hh (hr x)) rfl hn
    · exact wp_of_yields ((convW_sound h hh (hr x)).to hh) rfl hn
  · rename_i f first caps
    obtain ⟨h1, h2, hk⟩ := h
    refine wp_of_run (v := .func f (first.map a.eval) (caps.map a.eval)) (w' := w) (by simp [execOp, Instr.makeFunc]) (hn _ _ _ _ _ hk hh (Ext.refl _ _) ?_)
    refine ⟨(first.map a.eval).toList, (caps.map a.eval).toList, by rw [Array.toArray_toList, Array.toArray_toList], ?_, ?_⟩
    · rw [Array.toList_map]; exact rels_atoms h1 (rels_map hr _)
    · rw [Array.toList_map]; exact rels_atoms h2 (rels_map hr _)
  · rename_i t l c
    exact wp_of_yields (makeSliceW_sound h hh (hr l) (hr c)) rfl hn
  · rename_i t x lo hi
    exact wp_of_yields ((sliceW_sound hr h hh).to hh) rfl hn
  · rename_i s x f
    exact wp_of_yields ((fieldAddrW_sound h hh (hr x)).to hh) rfl hn
  · rename_i s x f
    exact wp_of_yields ((fieldW_sound h hh (hr x)).to hh) rfl hn
  · rename_i t x i
    exact wp_of_yields ((indexAddrW_sound h hh (hr x) (hr i)).to hh) rfl hn
  · rename_i t x i
    exact wp_of_yields ((indexW_sound h hh (hr x) (hr i)).to hh) rfl hn
  · rename_i x i
    split at h
    · rename_i vs hx
      split at h
      · rename_i v hv
        have h1 := hr x; rw [hx] at h1
        obtain ⟨l, e1, hl⟩ := h1
        obtain ⟨u, hu, hru⟩ := hl.get hv
        refine wp_of_run (v := u) (w' := w) ?_ (hn _ _ _ _ _ h hh (Ext.refl _ _) ?_)
        · simp [execOp, e1, Instr.extract, hu]
        · cases v <;> first | exact hru | exact hru.elim
      · exact h.elim
    · exact h.elim
  · rename_i t
    exact wp_of_yields (mkmap_sound (t := t) h hh) rfl hn
  · rename_i t x i ok
    exact wp_of_yields ((mget_sound h hh (hr x) (hr i)).to hh) rfl hn
  · rename_i t m k v
    obtain ⟨w', ι', σ', h1, h2, h3, h4⟩ := mput_sound (P := P) h hh (hr m) (hr k) (hr v)
    refine wp_of_skip (w' := w') ?_ (hn _ _ _ _ _ h2 h3 h4 rfl)
    simp [execOp, h1]
  · rename_i c
    obtain ⟨callee, args, argTypes⟩ := c
    unfold callOpW at h
    dsimp only at h
    split at h
    · rename_i f
      refine callW_sound h hh (hr f) (rels_map hr args.toList) ?_ hn
      have hm : (args.toList.map a.eval).toArray = args.map a.eval := by rw [← Array.toList_map, Array.toArray_toList]
      rw [hm]
      simp [execOp, resolve]
    · split at h
      · rename_i x t ha ht
        have ha := list1 ha; have ht := list1 ht
        subst ha; subst ht
        obtain ⟨v, av, h1, h2, h5⟩ := lenW_sound (P := P) h hh (hr x) type
        refine wp_of_run (v := v) (w' := w) ?_ (hn v w ι σ av h2 hh (Ext.refl _ _) h5)
        simp [execOp, resolve, invoke, builtin, h1]
      · exact h.elim
    · split at h
      · rename_i x t ha ht
        have ha := list1 ha; have ht := list1 ht
        subst ha; subst ht
        obtain ⟨v, w', ι', σ', av, h1, h2, h3, h4, h5⟩ := clear_sound (P := P) h hh (hr x) type
        refine wp_of_run (v := v) (w' := w') ?_ (hn v w' ι' σ' av h2 h3 h4 h5)
        simp [execOp, resolve, invoke, builtin, h1]
      · exact h.elim
    · split at h
      · rename_i x y ha
        have ha := list2 ha
        subst ha
        obtain ⟨v, av, h1, h2, h5⟩ := mm_sound (P := P) (w := w) h (hr x) (hr y) argTypes type
        refine wp_of_run (v := v) (w' := w) ?_ (hn v w ι σ av h2 hh (Ext.refl _ _) h5)
        have h1 : (Builtin.max_ argTypes type #[a.eval x, a.eval y]).run P w = .ok v w := h1
        simp [execOp, resolve, invoke, builtin, h1]
      · exact h.elim
    · split at h
      · rename_i x y ha
        have ha := list2 ha
        subst ha
        obtain ⟨v, av, h1, h2, h5⟩ := mm_sound (P := P) (w := w) h (hr x) (hr y) argTypes type
        refine wp_of_run (v := v) (w' := w) ?_ (hn v w ι σ av h2 hh (Ext.refl _ _) h5)
        have h1 : (Builtin.min_ argTypes type #[a.eval x, a.eval y]).run P w = .ok v w := h1
        simp [execOp, resolve, invoke, builtin, h1]
      · exact h.elim
    · split at h
      · rename_i s x t t' ha ht
        have ha := list2 ha; have ht := list2 ht
        subst ha; subst ht
        obtain ⟨rfl, ⟨e, sz, by_, z, hs, hz, hzs⟩, h⟩ := h
        rcases srcW_sound h hh (hr x) with ⟨ad, m, c, news, vs, e1, hq, hv, hat⟩ | ⟨e1, hq⟩
        · obtain ⟨v, w', ι', σ', av, h1, h2, h3, h4, h5⟩ := appendW_sound (P := P) hq hh (hr s) (fun e' s' b' hs' => by rw [hs] at hs'; cases hs'; exact ⟨z, hz, hzs⟩) (c := c) hv hat type
          refine wp_of_run (v := v) (w' := w') ?_ (hn v w' ι' σ' av h2 h3 h4 h5)
          simp [execOp, resolve, invoke, builtin, e1, h1]
        · obtain ⟨v, w', ι', σ', av, h1, h2, h3, h4, h5⟩ := appendW_sound (P := P) (m := 0) (vs := []) (ad := ⟨0, 0, none⟩) (c := 0) hq hh (hr s) (fun e' s' b' hs' => by rw [hs] at hs'; cases hs'; exact ⟨z, hz, hzs⟩) Rels.nil (fun j u hj => by simp at hj) type
          obtain ⟨i0, hu0, hii0, _, _⟩ := sliceP_inv hs
          obtain ⟨base, n0, cap0, ex, hle⟩ : ∃ base n0 cap0, a.eval s = .slice base n0 cap0 ∧ n0 ≤ cap0 := by
            have hq' := hq
            unfold appendW at hq'
            have hrs := hr s
            split at hq'
            · rename_i hfs
              rw [hfs] at hrs
              obtain ⟨B, hB, hver, _⟩ := hq'
              obtain ⟨_, _, _, ex, hle, _⟩ := slRel_now hrs hB hver
              exact ⟨_, _, _, ex, hle⟩
            · rename_i hfs
              rw [hfs] at hrs
              exact ⟨_, _, _, hrs, Nat.le_refl _⟩
            · exact hq'.elim
          rw [ex] at h1
          rw [← run_append_none hu0 ⟨i0, hii0⟩ hle] at h1
          refine wp_of_run (v := v) (w' := w') ?_ (hn v w' ι' σ' av h2 h3 h4 h5)
          simp [execOp, resolve, invoke, builtin, e1, ex, h1]
      · exact h.elim
    · exact h.elim
  · exact h.elim
end
end Go.Proofs.Ytcclhjohpicleaa.Abs
end

section
/- The abstract logic, part H: a region that draws its order: a head of operations that read (or call what leaves no trace), then a tail in one forced order. -/
set_option linter.unusedVariables false
set_option linter.unusedSimpArgs false
namespace Go.Proofs.Ytcclhjohpicleaa.Abs
open Go
section
variable {P : Program} {ops : Array Oper} {md : Region.Mode} {C : World → Prop}
/-- Whatever order the head is taken in: each operation that may come up is one of the head's and quiet, and L holds behind them. -/
def headQ (P : Program) (md : Region.Mode) (ops : Array Oper) (C : World → Prop) (n : Nat) (L : Array Bool → Act → Prop) : Nat → Array Bool → Act → Prop
  | 0, done, a => L done a
  | f + 1, done, a => Region.ready md ops done ≠ [] ∧ ∀ i ∈ Region.ready md ops done, i < n ∧ qOp P ops C i (headQ P md ops C n L f (done.setIfInBounds i true)) a
theorem any_of_headQ {n g : Nat} {L : Array Bool → Act → Prop} {Q : Exit → Act → World → Prop} (hL : ∀ done a w, C w → L done a → wpAny P md ops Q g done a w) :
    ∀ (f : Nat) (done : Array Bool) (a : Act) (w : World), C w → headQ P md ops C n L f done a → wpAny P md ops Q (f + g) done a w := by
  intro f
  induction f with
  | zero => intro done a w hw h; rw [Nat.zero_add]; exact hL _ _ _ hw h
  | succ f ih =>
    intro done a w hw h
    obtain ⟨hne, hall⟩ := h
    rw [show f + 1 + g = (f + g) + 1 by omega]
    exact ⟨fun h0 => absurd h0 hne, fun i hi => wpOp_of_qOp hw (fun a' w' hw' h' => ih _ a' w' hw' h') (hall i hi).2⟩
/-- An operation of the head that may come up may be taken first. -/
theorem headQ_take {n i : Nat} {oi : Oper} {v : Value} {L : Array Bool → Act → Prop} (hi : ops[i]? = some oi) (hin : i < n) (hn : n < ops.size)
    (hsel : ∀ (j : Nat) (o : Oper) cs b, ops[j]? = some o → o.op ≠ .select cs b) (hs : Region.sinkB md ops n = true) (hc : Region.chainB md ops n = true)
    (hend : ∀ done a, L done a → ∀ j ∈ Region.ready md ops done, n ≤ j) (f : Nat) :
    ∀ (done : Array Bool) (a : Act), HeadInv md ops n done → i ∈ Region.ready md ops done →
      (∀ j oj, ops[j]? = some oj → j ≠ i → done.getD j true = false → (∀ e ∈ oj.after, Region.binds md e = true → e.on ≠ i) → oi.apart ops oj = true) →
      YieldsIn P ops C oi v a → headQ P md ops C n L f (done.setIfInBounds i true) (a.put oi.dst v) → headQ P md ops C n L (f + 1) done a := by
  have small : ∀ {done : Array Bool}, HeadInv md ops n done → i ∈ Region.ready md ops done → ∀ j ∈ Region.ready md ops done, j < n := fun inv hr j hj => by
    apply Nat.lt_of_not_le
    intro hge
    exact tail_waits hs hc hn inv _ i rfl hin (mem_ready.1 hr).1 j hge hj
  have nonempty : ∀ {done : Array Bool}, i ∈ Region.ready md ops done → Region.ready md ops done ≠ [] := fun hr h0 => by rw [h0] at hr; cases hr
  induction f with
  | zero =>
    intro done a inv hr _ hy H
    refine ⟨nonempty hr, fun j hj => ⟨small inv hr j hj, ?_⟩⟩
    rcases Nat.decEq j i with hne | rfl
    · have h1 := hend _ _ H j (ready_mono hj hne)
      have h2 := small inv hr j hj
      omega
    · exact hy.qOp hi H
  | succ f ih =>
    intro done a inv hr hfree hy H
    refine ⟨nonempty hr, fun j hj => ⟨small inv hr j hj, ?_⟩⟩
    rcases Nat.decEq j i with hne | rfl
    · obtain ⟨hju, oj, hoj, hjall⟩ := mem_ready.1 hj
      have hunder : done.getD i false = false := getD_both (mem_ready.1 hr).1
      have hjfree : ∀ e ∈ oj.after, Region.binds md e = true → e.on ≠ i := fun e he hb h0 => by
        have := hjall e he hb
        rw [h0, hunder] at this
        cases this
      have hq := qOp_put hoj (hfree j oj hoj hne hju hjfree) (fun cs b => hsel i oi cs b hi) (fun cs b => hsel j oj cs b hoj) hy (H.2 j (ready_mono hj hne)).2
      refine qOp_mono (fun a' ⟨hy', h'⟩ => ?_) hq
      refine ih (done.setIfInBounds j true) a' (inv.set hj (small inv hr j hj)) (ready_mono hr (Ne.symm hne)) (fun k ok hk hki hku hkf => ?_) hy' ?_
      · refine hfree k ok hk hki ?_ hkf
        rcases Nat.decEq j k with h0 | rfl
        · rwa [getD_set_ne true h0] at hku
        · exact hju
      · rw [Array.setIfInBounds_comm _ _ hne]; exact h'
    · exact hy.qOp hi H
theorem headQ_lex {n g : Nat} {Lq : Act → Prop} (hsel : Region.noSelect ops = true) (hs : Region.sinkB md ops n = true) (hc : Region.chainB md ops n = true) (hn : n < ops.size) :
    ∀ (l : List Oper) (k : Nat) (done : Array Bool) (a : Act), (∀ j, j < l.length → l[j]? = ops[k + j]?) → k + l.length = n → HeadInv md ops n done → Region.lexHead md ops g l.length k done = true →
      wpQuiet P ops C Lq l a → headQ P md ops C n (fun done' a' => Region.seqB md ops g n done' = true ∧ Lq a') l.length done a := by
  intro l
  induction l with
  | nil =>
    intro k done a _ hk _ hB h
    obtain rfl : k = n := by simpa using hk
    exact ⟨by simpa [Region.lexHead] using hB, h⟩
  | cons o l ih =>
    intro k done a hl hk inv hB h
    simp only [List.length_cons] at hk
    have ho : ops[k]? = some o := by have := hl 0 (by simp); simpa using this.symm
    simp only [List.length_cons, Region.lexHead, Bool.and_eq_true] at hB
    have hready : k ∈ Region.ready md ops done := by simpa using hB.1.1
    have hq : qOp P ops C k (wpQuiet P ops C Lq l) a := by unfold qOp; simp only [ho]; exact h
    obtain ⟨v, hy, hrest⟩ := yieldsIn_of_qOp ho hq
    refine headQ_take ho (by omega) hn (Region.noSelect_spec hsel) hs hc (fun done' a' hL => seqB_ready hL.1) l.length done a inv hready (Region.free_spec ho hB.1.2) hy ?_
    exact ih (k + 1) _ _ (fun j hj => by have := hl (j + 1) (by simp; omega); simpa [Nat.add_assoc, Nat.add_comm 1 j] using this) (by omega) (inv.set hready (by omega)) hB.2 hrest
/-- A region that draws: the head, quiet in the class C, in whatever order; then the tail, in its one order. -/
theorem wp_region_head_tail {id : Nat} {Q : Exit → Act → World → Prop} {a : Act} {w : World} {l : List Oper} (n : Nat) (hm : P.follows .mixedOrders = true) (hB : Region.lexTailB .any l.toArray n = true) (hC : C { w with drawn := w.drawn + 1 })
    (h : wpQuiet P l.toArray C (fun a' => ∀ w', C w' → wpList P l.toArray Q (l.drop n) a' w') (l.take n) a) : (Code.region id l.toArray true).wp P Q a w := by
  simp only [Region.lexTailB, Bool.and_eq_true, decide_eq_true_eq] at hB
  obtain ⟨⟨⟨⟨hsel, hn⟩, hs⟩, hc⟩, hlex⟩ := hB
  have hn' : n < l.length := by simpa using hn
  have htake : (l.take n).length = n := by simp; omega
  have hdrop : (l.drop n).length = l.toArray.size - n := by simp
  have inv : HeadInv .any l.toArray n (Array.replicate l.toArray.size false) :=
    ⟨by simp, fun j oj _ h0 => (by rw [getD_replicate_false] at h0; cases h0), fun t _ ht => getD_in (by simpa using ht) (getD_replicate_false _ _)⟩
  have H := headQ_lex (C := C) (md := .any) (g := l.toArray.size - n) hsel hs hc hn (l.take n) 0 _ a (fun j hj => by
    have hj' : j < n := by rw [htake] at hj; exact hj
    simp [hj']) (by simpa using htake) inv (by rw [htake]; exact hlex) h
  have key := any_of_headQ (Q := Q) (g := l.toArray.size - n) (fun done a' w' hw' hL => by
    have := wpAny_of_seq (md := .any) (Q' := Q) (l.drop n) n done a' w' (fun j => by simp [List.getElem?_drop]) (by rw [hdrop]; exact hL.1) (hL.2 w' hw')
    rwa [hdrop] at this) _ _ _ { w with drawn := w.drawn + 1 } hC H
  rw [htake, show n + (l.toArray.size - n) = l.toArray.size by omega] at key
  exact wp_region_any hm key
end
end Go.Proofs.Ytcclhjohpicleaa.Abs
end
