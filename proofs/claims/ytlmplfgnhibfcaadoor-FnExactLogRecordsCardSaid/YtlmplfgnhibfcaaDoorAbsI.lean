/- The abstract logic, part I: regions, statements, loops, functions. -/
import Derived.Test.YtlmplfgnhibfcaaDoorAbsG
import Derived.Test.YtlmplfgnhibfcaaDoorAbsH
set_option linter.unusedVariables false
set_option linter.unusedSimpArgs false
namespace Go.Proofs.YtlmplfgnhibfcaaDoor.Abs
open Go Go.RowKit

/-! ### what is told of a value leads to blocks below k alone -/
def bel0 (k : Nat) : AV → Bool
  | .ptr b _ _ => decide (b < k)
  | _ => true
def bel1 (k : Nat) : AV → Bool
  | .ptr b _ _ => decide (b < k)
  | .sl b _ _ _ _ => decide (b < k)
  | .fn _ first caps => first.all (bel0 k) && caps.all (bel0 k)
  | _ => true
def bel2 (k : Nat) : AV → Bool
  | .agg cs => cs.all (bel1 k)
  | v => bel1 k v
def bel3 (k : Nat) : AV → Bool
  | .tup vs => vs.all (bel2 k)
  | v => bel2 k v

section
variable {P : Program} {W0 : World} {ι : Loc} {σ : List Blk} {w : World}

theorem Rels.mono' {α β : Type} {R R' : α → β → Prop} {l : List α} {m : List β} (h : Rels R l m) (hr : ∀ a ∈ l, ∀ b, R a b → R' a b) : Rels R' l m :=
  ⟨h.1, fun i a b ha hb => hr a (List.mem_of_getElem? ha) b (h.2 i a b ha hb)⟩

theorem ptrRel.take {k b ver off : Nat} {x : Value} (hb : b < k) (h : ptrRel ι σ b ver off x) : ptrRel (ι.take k) (σ.take k) b ver off x := by
  obtain ⟨B, hB, hv, h1, hc⟩ := h
  refine ⟨B, by rw [List.getElem?_take, if_pos hb]; exact hB, hv, h1, fun e => ?_⟩
  obtain ⟨c, t, hi, he⟩ := hc e
  exact ⟨c, t, by rw [List.getElem?_take, if_pos hb]; exact hi, he⟩
theorem slRel.take {k b ver off len cap : Nat} {x : Value} (hb : b < k) (h : slRel ι σ b ver off len cap x) : slRel (ι.take k) (σ.take k) b ver off len cap x := by
  obtain ⟨B, hB, hv, h1, hc⟩ := h
  refine ⟨B, by rw [List.getElem?_take, if_pos hb]; exact hB, hv, h1, fun e => ?_⟩
  obtain ⟨c, t, hi, he⟩ := hc e
  exact ⟨c, t, by rw [List.getElem?_take, if_pos hb]; exact hi, he⟩
theorem rel0.take {k : Nat} {v : AV} {x : Value} (hb : bel0 k v = true) (h : rel0 ι σ v x) : rel0 (ι.take k) (σ.take k) v x := by
  cases v <;> first | exact h | exact ptrRel.take (by simpa [bel0] using hb) h
theorem rel1.take {k : Nat} {v : AV} {x : Value} (hb : bel1 k v = true) (h : rel1 ι σ v x) : rel1 (ι.take k) (σ.take k) v x := by
  cases v with
  | junk => exact trivial
  | lit v => exact h
  | ptr b ver off => exact ptrRel.take (by simpa [bel1] using hb) h
  | sl b ver off len cap => exact slRel.take (by simpa [bel1] using hb) h
  | fn f first caps =>
    obtain ⟨l1, l2, e, h1, h2⟩ := h
    simp only [bel1, Bool.and_eq_true] at hb
    exact ⟨l1, l2, e, h1.mono' fun a ha _ h => rel0.take (List.all_eq_true.1 hb.1 a ha) h, h2.mono' fun a ha _ h => rel0.take (List.all_eq_true.1 hb.2 a ha) h⟩
  | agg cs => exact h
  | tup vs => exact h
theorem crel.take {k : Nat} {v : AV} {x : Value} (hb : bel1 k v = true) (h : crel ι σ v x) : crel (ι.take k) (σ.take k) v x := ⟨rel1.take hb h.1, h.2⟩
theorem rel2.take {k : Nat} {v : AV} {x : Value} (hb : bel2 k v = true) (h : rel2 ι σ v x) : rel2 (ι.take k) (σ.take k) v x := by
  cases v with
  | agg cs =>
    obtain ⟨l, e, h1⟩ := h
    exact ⟨l, e, h1.mono' fun a ha _ h => crel.take (List.all_eq_true.1 hb a ha) h⟩
  | junk => exact trivial
  | lit v => exact h
  | ptr b ver off => exact ptrRel.take (by simpa [bel2, bel1] using hb) h
  | sl b ver off len cap => exact slRel.take (by simpa [bel2, bel1] using hb) h
  | fn f first caps => exact rel1.take (v := .fn f first caps) hb h
  | tup vs => exact h
theorem rel3.take {k : Nat} {v : AV} {x : Value} (hb : bel3 k v = true) (h : rel3 ι σ v x) : rel3 (ι.take k) (σ.take k) v x := by
  cases v with
  | tup vs =>
    obtain ⟨l, e, h1⟩ := h
    exact ⟨l, e, h1.mono' fun a ha _ h => rel2.take (List.all_eq_true.1 hb a ha) h⟩
  | agg cs => exact rel2.take (v := .agg cs) hb h
  | junk => exact trivial
  | lit v => exact h
  | ptr b ver off => exact ptrRel.take (by simpa [bel3, bel2, bel1] using hb) h
  | sl b ver off len cap => exact slRel.take (by simpa [bel3, bel2, bel1] using hb) h
  | fn f first caps => exact rel1.take (v := .fn f first caps) hb h

/-- all cells lead below k -/
def Closed (k : Nat) (σ : List Blk) : Prop := ∀ B ∈ σ, B.cells.all (bel1 k) = true

theorem HRel.take (h : HRel W0 ι σ w) {k : Nat} (hc : Closed k (σ.take k)) : HRel W0 (ι.take k) (σ.take k) w := by
  have sub : ∀ {α : Type} {l : List α} {i : Nat} {a : α}, (l.take k)[i]? = some a → l[i]? = some a := fun h => by
    rw [List.getElem?_take] at h
    split at h
    · exact h
    · cases h
  refine ⟨h.below, by simp [h.len], fun i j c t t' hi hj => h.inj i j c t t' (sub hi) (sub hj), fun i c t hi => h.dom i c t (sub hi), fun i B c t hB hi => ?_⟩
  obtain ⟨vs, rest, h1, h2, h3, h4⟩ := h.blk i B c t (sub hB) (sub hi)
  exact ⟨vs, rest, h1, h2, h3.mono' fun a ha _ hr => crel.take (List.all_eq_true.1 (hc B (List.mem_of_getElem? hB)) a ha) hr, h4⟩

theorem bel1_of_rel1 {v : AV} {x : Value} (h : rel1 ι σ v x) : bel1 σ.length v = true := by
  have h0 : ∀ {l : List AV} {m : List Value}, Rels (rel0 ι σ) l m → l.all (bel0 σ.length) = true := fun hr => by
    rw [List.all_eq_true]
    intro a ha
    obtain ⟨i, hi⟩ := List.getElem?_of_mem ha
    obtain ⟨b, _, hab⟩ := hr.get hi
    cases a <;> first | rfl | (obtain ⟨B, hB, _⟩ := hab; simpa [bel0] using getElem?_lt hB)
  cases v with
  | ptr b ver off => obtain ⟨B, hB, _⟩ := h; simpa [bel1] using getElem?_lt hB
  | sl b ver off len cap => obtain ⟨B, hB, _⟩ := h; simpa [bel1] using getElem?_lt hB
  | fn f first caps =>
    obtain ⟨l1, l2, e, h1, h2⟩ := h
    simp only [bel1, h0 h1, h0 h2, Bool.and_self]
  | _ => rfl
theorem HRel.closed (h : HRel W0 ι σ w) : Closed σ.length σ := by
  intro B hB
  rw [List.all_eq_true]
  intro a ha
  obtain ⟨i, hi⟩ := List.getElem?_of_mem hB
  have hlt := getElem?_lt hi
  rw [← h.len] at hlt
  obtain ⟨vs, rest, _, _, hr, _⟩ := h.blk i B (ι[i]).1 (ι[i]).2 hi (List.getElem?_eq_getElem hlt)
  obtain ⟨j, hj⟩ := List.getElem?_of_mem ha
  obtain ⟨b, _, hab⟩ := hr.get hj
  exact bel1_of_rel1 hab.1

theorem Ext.take {ι0 : Loc} {σ0 : List Blk} (h : Ext ι0 σ0 ι σ) (h0 : ι0.length = σ0.length) {k : Nat} (hk : σ0.length ≤ k) : Ext ι0 σ0 (ι.take k) (σ.take k) := by
  refine ⟨by simp; have := h.len; omega, fun i B B' hB hB' => ?_, fun i B B' hB hB' he => ?_⟩
  · have hi := getElem?_lt hB
    rw [List.getElem?_take, if_pos (by omega)] at hB'
    exact h.ver i B B' hB hB'
  · have hi := getElem?_lt hB
    rw [List.getElem?_take, if_pos (by omega)] at hB' ⊢
    exact h.loc i B B' hB hB' he
end

/-! ### frames -/
def FRel (ι : Loc) (σ : List Blk) (n : Nat) (fr : Fr) (a : Act) : Prop := a.tmps.size = n ∧ ∀ t, rel3 ι σ (fr t) (a.tmps.getD t undef)

/-- What may be forgotten: the slots that are no longer looked at; blocks that nothing leads to any more (not those below b0). -/
def Forget (b0 : Nat) (fr : Fr) (σ : List Blk) (fr' : Fr) (σ' : List Blk) : Prop :=
  (σ' = σ ∧ ∀ t, fr' t = .junk ∨ fr' t = fr t) ∨
  ∃ k, b0 ≤ k ∧ σ' = σ.take k ∧ Closed k σ' ∧ ∀ t, fr' t = .junk ∨ fr' t = fr t ∧ bel3 k (fr t) = true

section
variable {P : Program} {W0 : World} {ι ι0 : Loc} {σ σ0 : List Blk} {w : World} {n : Nat}

theorem FRel.eval {fr : Fr} {a : Act} (h : FRel ι σ n fr a) (x : Operand) : rel3 ι σ (evA fr x) (a.eval x) := by
  cases x with
  | tmp t => exact h.2 t
  | const v => exact rel3_ofV v
  | global g => rfl
  | func f => rfl
theorem FRel.mono {ι' : Loc} {σ' : List Blk} {fr : Fr} {a : Act} (he : Ext ι σ ι' σ') (h : FRel ι σ n fr a) : FRel ι' σ' n fr a := ⟨h.1, fun t => rel3.mono he (h.2 t)⟩
def dOK (n : Nat) : Option Nat → Prop
  | some d => d < n
  | none => True
theorem FRel.put {fr : Fr} {a : Act} {d : Option Nat} {v : AV} {x : Value} (h : FRel ι σ n fr a) (hd : dOK n d) (hv : rel3 ι σ v x) : FRel ι σ n (updO fr d v) (a.put d x) := by
  cases d with
  | none => exact h
  | some d =>
    have hd' : d < a.tmps.size := by rw [h.1]; exact hd
    refine ⟨by simp [Act.put, h.1], fun t => ?_⟩
    simp only [updO, upd, Act.put]
    split
    · rename_i ht
      subst ht
      simpa [Array.getD_eq_getD_getElem?, hd'] using hv
    · rename_i ht
      have : (a.tmps.setIfInBounds d x).getD t undef = a.tmps.getD t undef := by
        simp only [Array.getD_eq_getD_getElem?]
        rw [Array.getElem?_setIfInBounds_ne (fun e => ht e.symm)]
      rw [this]
      exact h.2 t
theorem put_defers (a : Act) (d : Option Nat) (x : Value) : (a.put d x).defers = a.defers := by cases d <;> rfl

theorem FRel.forget {fr fr' : Fr} {σ' : List Blk} {a : Act} (hf : Forget σ0.length fr σ fr' σ') (h : FRel ι σ n fr a) (hh : HRel W0 ι σ w) (hx : Ext ι0 σ0 ι σ) (h0 : ι0.length = σ0.length) :
    ∃ ι', HRel W0 ι' σ' w ∧ FRel ι' σ' n fr' a ∧ Ext ι0 σ0 ι' σ' := by
  rcases hf with ⟨rfl, hf⟩ | ⟨k, hk, rfl, hc, hf⟩
  · refine ⟨ι, hh, ⟨h.1, fun t => ?_⟩, hx⟩
    rcases hf t with e | e <;> rw [e]
    · exact trivial
    · exact h.2 t
  · refine ⟨ι.take k, hh.take hc, ⟨h.1, fun t => ?_⟩, hx.take h0 hk⟩
    rcases hf t with e | ⟨e, hb⟩ <;> rw [e]
    · exact trivial
    · exact rel3.take hb (h.2 t)
end

/-! ### regions -/
abbrev Pend := Nat × TypeId × Nat × List AV

def feeds (d : Nat) : List Oper → Bool
  | o :: _ => o.guard.isNone && match o.op with
    | .call c => match c.callee, c.args.toList with
      | .builtin .append, [_, .tmp d'] => d' == d
      | _, _ => false
    | _ => false
  | [] => false

def guardW (ops : Array Oper) (fr : Fr) (g : Option (Nat × Bool)) (run skip : Prop) : Prop :=
  match g with
  | none => run
  | some (j, b) => match (ops[j]?).bind (·.dst) with
    | some d => match fr d with
      | .lit (.bool t) => (t = b → run) ∧ (t = !b → skip)
      | .lit _ => skip
      | _ => False
    | none => False

def pendW (P : Program) (o : Oper) (p : Pend) (fr : Operand → AV) (σ : List Blk) (K : Cont) : Prop :=
  o.guard = none ∧ match o.op with
  | .call c => match c.callee, c.args.toList, c.argTypes.toList with
    | .builtin .append, [s, .tmp d], [t, t'] => d = p.1 ∧ t = p.2.1 ∧ t' = p.2.1 ∧ appendW P t (fr s) p.2.2.1 p.2.2.2 σ K
    | _, _, _ => False
  | _ => False

def litRowW (P : Program) (fr : Operand → AV) (t : TypeId) (len : Nat) (parts : Array (Nat × Operand)) (Q : List AV → Prop) : Prop :=
  match sliceP P t with
  | some (e, esz, _) => match zeroP P e with
    | some z => match cellsAV (ofV z) with
      | some zc => zc.length = esz ∧ len * esz ≤ 16777216 ∧ match fillA (fun i => some (i * esz, esz)) (rep len zc) (partsA fr parts) with
        | some cs => Q cs
        | none => False
      | none => False
    | none => False
  | none => False

def opsW (P : Program) (W0 : World) (n : Nat) (ops : Array Oper) : Option Pend → List Oper → Fr → List Blk → (Fr → List Blk → Prop) → Prop
  | none, [], fr, σ, K => K fr σ
  | some _, [], _, _, _ => False
  | some p, o :: rest, fr, σ, K => dOK n o.dst ∧ pendW P o p (evA fr) σ fun av σ' => opsW P W0 n ops none rest (updO fr o.dst av) σ' K
  | none, o :: rest, fr, σ, K => dOK n o.dst ∧
    match o.op, o.dst, feeds (o.dst.getD 0) rest && o.guard.isNone with
    | .buildSlice t len parts, some d, true => litRowW P (evA fr) t len parts fun cs => opsW P W0 n ops (some (d, t, len, cs)) rest (upd fr d .junk) σ K
    | op, _, _ => guardW ops fr o.guard (opW P W0 op (evA fr) σ fun av σ' => opsW P W0 n ops none rest (updO fr o.dst av) σ' K) (opsW P W0 n ops none rest (updO fr o.dst (.lit undef)) σ K)

section
variable {P : Program} {W0 : World} {ι ι0 : Loc} {σ σ0 : List Blk} {w : World} {n : Nat} {ops : Array Oper}

/-- What is asked behind a piece of code. -/
def Post (W0 : World) (ι0 : Loc) (σ0 : List Blk) (n : Nat) (ds : List Deferred) (K : Fr → List Blk → Prop) (a : Act) (w : World) : Prop :=
  ∃ ι σ fr, K fr σ ∧ HRel W0 ι σ w ∧ FRel ι σ n fr a ∧ Ext ι0 σ0 ι σ ∧ a.defers = ds

def PendRel (P : Program) (ι : Loc) (σ : List Blk) (a : Act) (w : World) (p : Pend) : Prop :=
  ∃ ad c us, a.tmps.getD p.1 undef = .slice (some ad) p.2.2.1 c ∧ Rels (crel ι σ) p.2.2.2 us ∧ (∀ (j : Nat) (u : Value), us[j]? = some u → w.cell? (ad.add j) = some u) ∧
    (∀ e s b, sliceP P p.2.1 = some (e, s, b) → ∃ z, zeroP P e = some z ∧ z.cells.size = s)

theorem guardW_sound {fr : Fr} {g : Option (Nat × Bool)} {run skip : Prop} {a : Act} (h : guardW ops fr g run skip) (hf : FRel ι σ n fr a) (o : Oper) (ho : o.guard = g) :
    (Region.wanted o (yielded ops a.tmps) = true ∧ run) ∨ (Region.wanted o (yielded ops a.tmps) = false ∧ skip) := by
  unfold guardW at h
  unfold Region.wanted
  rw [ho]
  split at h
  · exact .inl ⟨rfl, h⟩
  · rename_i j b
    split at h
    · rename_i d hd
      have hy : ∀ v, a.tmps.getD d undef = v → yielded ops a.tmps j = match v with | .bool t => some t | _ => none := by
        intro v hv
        unfold yielded
        rw [hd]
        simp only [Option.bind_some]
        rw [Array.getD_eq_getD_getElem?] at hv
        cases hq : a.tmps[d]? with
        | none => rw [hq] at hv; subst hv; rfl
        | some u => rw [hq] at hv; simp at hv; subst hv; cases u <;> rfl
      split at h
      · rename_i t ht
        have h1 := hf.2 d
        rw [ht] at h1
        have h2 : a.tmps.getD d undef = .bool t := h1
        have h3 := hy _ h2
        simp only at h3
        simp only [h3]
        by_cases hb : t = b
        · exact .inl ⟨by simp [hb], h.1 hb⟩
        · exact .inr ⟨by simpa using hb, h.2 (by cases t <;> cases b <;> simp_all)⟩
      · rename_i v hne ht
        have h1 := hf.2 d
        rw [ht] at h1
        have h2 : a.tmps.getD d undef = v := h1
        have h3 := hy _ h2
        refine .inr ⟨?_, h⟩
        show (yielded ops a.tmps j == some b) = false
        rw [h3]
        cases v <;> first | rfl | exact (hne _ rfl).elim
      · exact h.elim
    · exact h.elim

theorem opsW_sound {ds : List Deferred} {K : Fr → List Blk → Prop} {Q : Exit → Act → World → Prop} (hQ : ∀ a w, Post W0 ι0 σ0 n ds K a w → Q .normal a w) : ∀ (l : List Oper) (p : Option Pend) (fr : Fr) (σ : List Blk) (ι : Loc) (a : Act) (w : World),
    opsW P W0 n ops p l fr σ K → HRel W0 ι σ w → FRel ι σ n fr a → Ext ι0 σ0 ι σ → a.defers = ds → (∀ q, p = some q → PendRel P ι σ a w q) → wpList P ops Q l a w
  | [], none, fr, σ, ι, a, w, h, hh, hf, hx, hd, _ => hQ _ _ ⟨ι, σ, fr, h, hh, hf, hx, hd⟩
  | [], some _, fr, σ, ι, a, w, h, _, _, _, _, _ => h.elim
  | o :: rest, some p, fr, σ, ι, a, w, h, hh, hf, hx, hd, hp => by
    obtain ⟨hdst, hg, h⟩ := h
    obtain ⟨ad, c, us, e1, hr, hat, hz⟩ := hp p rfl
    obtain ⟨dst, op, type, pos, after, guard⟩ := o
    dsimp only at h hg hdst
    subst hg
    split at h
    · rename_i c0
      obtain ⟨callee, args, argTypes⟩ := c0
      dsimp only at h
      split at h
      · rename_i s d t t' ha ht
        have ha := list2 ha; have ht := list2 ht
        subst ha; subst ht
        obtain ⟨rfl, rfl, rfl, h⟩ := h
        obtain ⟨v, w', ι', σ', av, h1, h2, h3, h4, h5⟩ := appendW_sound (P := P) h hh (hf.eval s) hz (c := c) hr hat type
        refine wpList_step fun next hnext => ?_
        simp only [Region.wanted, if_true]
        refine wp_of_run (v := v) (w' := w') ?_ (hnext _ _ (opsW_sound hQ rest none _ σ' ι' _ w' h2 h3 ((hf.mono h4).put hdst h5) (hx.trans h4) (by rw [put_defers]; exact hd) (fun q hq => by cases hq)))
        have e2 : a.eval (.tmp p.1) = .slice (some ad) p.2.2.1 c := e1
        simp [execOp, resolve, invoke, builtin, e2, h1]
      · exact h.elim
    · exact h.elim
  | o :: rest, none, fr, σ, ι, a, w, h, hh, hf, hx, hd, _ => by
    obtain ⟨hdst, h⟩ := h
    split at h
    · rename_i t len parts d hop hd0 hfe
      simp only [Bool.and_eq_true] at hfe
      have hgn : o.guard = none := by cases hg : o.guard <;> simp [hg] at hfe ⊢
      unfold litRowW at h
      split at h
      · rename_i e esz by_ hs
        split at h
        · rename_i z hz
          split at h
          · rename_i zc hzc
            obtain ⟨hzl, hle, h⟩ := h
            split at h
            · rename_i cs hfl
              obtain ⟨us, hul, hrel, hrun⟩ := run_buildSlice_own (P := P) hs hz hzc hzl hle hfl hf.eval w
              refine wpList_step fun next hnext => ?_
              simp only [Region.wanted, hgn, if_true]
              have hdn : d < n := by rw [hd0] at hdst; exact hdst
              refine wp_of_run (v := .slice (some ⟨w.heap.size, 0, none⟩) len len) (w' := w.alloc (.cells us.toArray e)) ?_ (hnext _ _ (opsW_sound hQ rest _ _ σ ι _ _ h (hh.garbage _) ?_ hx (by rw [put_defers]; exact hd) ?_))
              · simp [execOp, hop, hrun]
              · rw [hd0]
                exact hf.put (d := some d) hdn (v := .junk) trivial
              · intro q hq
                cases hq
                refine ⟨⟨w.heap.size, 0, none⟩, len, us, ?_, hrel, fun j u hj => ?_, fun e' s' b' hs' => ?_⟩
                · rw [hd0]
                  have : d < a.tmps.size := by rw [hf.1]; exact hdn
                  simp [Act.put, Array.getD_eq_getD_getElem?, this]
                · rw [cell?_own (cs := us) (e := e) (by show (w.heap.push _)[w.heap.size]? = _; simp), Nat.zero_add]; exact hj
                · dsimp only at hs'
                  rw [hs] at hs'; cases hs'
                  have hzr : Rels (crel ι σ) zc z.cells.toList := crel_of_ofV hzc
                  exact ⟨z, hz, by have := hzr.1; simp at this; omega⟩
            · exact h.elim
          · exact h.elim
        · exact h.elim
      · exact h.elim
    · refine wpList_step fun next hnext => ?_
      rcases guardW_sound h hf o rfl with ⟨hw, h⟩ | ⟨hw, h⟩
      · rw [if_pos hw]
        refine opW_sound h hh hf.eval fun v w' ι' σ' av h2 h3 h4 h5 => ?_
        exact hnext _ _ (opsW_sound hQ rest none _ σ' ι' _ w' h2 h3 ((hf.mono h4).put hdst h5) (hx.trans h4) (by rw [put_defers]; exact hd) (fun q hq => by cases hq))
      · rw [if_neg (by rw [hw]; simp)]
        exact hnext _ _ (opsW_sound hQ rest none _ σ ι _ w h hh (hf.put hdst rfl) hx (by rw [put_defers]; exact hd) (fun q hq => by cases hq))

end
end Go.Proofs.YtlmplfgnhibfcaaDoor.Abs
