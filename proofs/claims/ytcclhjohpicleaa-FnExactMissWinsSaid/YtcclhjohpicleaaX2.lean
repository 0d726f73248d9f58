import Derived.Test.YtcclhjohpicleaaX1
section
/- The abstract logic, part I: regions, statements, loops, functions. -/
set_option linter.unusedVariables false
set_option linter.unusedSimpArgs false
namespace Go.Proofs.Ytcclhjohpicleaa.Abs
open Go Go.RowKit
/-! ### what is told of a value leads to blocks below k alone -/
def bel0 (k : Nat) : AV → Bool
  | .ptr b _ _ => decide (b < k)
  | _ => true
def bel1 (k : Nat) : AV → Bool
  | .ptr b _ _ => decide (b < k)
  | .sl b _ _ _ _ => decide (b < k)
  | .fn _ first caps => first.all (bel0 k) && caps.all (bel0 k)
  | _ => true
def bel2 (k : Nat) : AV → Bool
  | .agg cs => cs.all (bel1 k)
  | v => bel1 k v
def bel3 (k : Nat) : AV → Bool
  | .tup vs => vs.all (bel2 k)
  | v => bel2 k v
section
variable {P : Program} {W0 : World} {ι : Loc} {σ : List Blk} {w : World}
theorem Rels.mono' {α β : Type} {R R' : α → β → Prop} {l : List α} {m : List β} (h : Rels R l m) (hr : ∀ a ∈ l, ∀ b, R a b → R' a b) : Rels R' l m :=
  ⟨h.1, fun i a b ha hb => hr a (List.mem_of_getElem? ha) b (h.2 i a b ha hb)⟩
theorem ptrRel.take {k b ver off : Nat} {x : Value} (hb : b < k) (h : ptrRel ι σ b ver off x) : ptrRel (ι.take k) (σ.take k) b ver off x := by
  obtain ⟨B, hB, hv, h1, hc, hm⟩ := h
  refine ⟨B, by rw [List.getElem?_take, if_pos hb]; exact hB, hv, h1, fun e => ?_, fun e1 e2 => ?_⟩
  · obtain ⟨c, t, hi, he⟩ := hc e
    exact ⟨c, t, by rw [List.getElem?_take, if_pos hb]; exact hi, he⟩
  · obtain ⟨c, t, hi, he⟩ := hm e1 e2
    exact ⟨c, t, by rw [List.getElem?_take, if_pos hb]; exact hi, he⟩
theorem slRel.take {k b ver off len cap : Nat} {x : Value} (hb : b < k) (h : slRel ι σ b ver off len cap x) : slRel (ι.take k) (σ.take k) b ver off len cap x := by
  obtain ⟨B, hB, hv, h1, hc, hm⟩ := h
  refine ⟨B, by rw [List.getElem?_take, if_pos hb]; exact hB, hv, h1, fun e => ?_, hm⟩
  obtain ⟨c, t, hi, he⟩ := hc e
  exact ⟨c, t, by rw [List.getElem?_take, if_pos hb]; exact hi, he⟩
theorem rel0.take {k : Nat} {v : AV} {x : Value} (hb : bel0 k v = true) (h : rel0 ι σ v x) : rel0 (ι.take k) (σ.take k) v x := by
  cases v <;> first | exact h | exact ptrRel.take (by simpa [bel0] using hb) h
theorem rel1.take {k : Nat} {v : AV} {x : Value} (hb : bel1 k v = true) (h : rel1 ι σ v x) : rel1 (ι.take k) (σ.take k) v x := by
  cases v with
  | junk => exact trivial
  | lit v => exact h
  | ptr b ver off => exact ptrRel.take (by simpa [bel1] using hb) h
  | sl b ver off len cap => exact slRel.take (by simpa [bel1] using hb) h
  | fn f first caps =>
    obtain ⟨l1, l2, e, h1, h2⟩ := h
    simp only [bel1, Bool.and_eq_true] at hb
    exact ⟨l1, l2, e, h1.mono' fun a ha _ h => rel0.take (List.all_eq_true.1 hb.1 a ha) h, h2.mono' fun a ha _ h => rel0.take (List.all_eq_true.1 hb.2 a ha) h⟩
  | agg cs => exact h
  | tup vs => exact h
theorem crel.take {k : Nat} {v : AV} {x : Value} (hb : bel1 k v = true) (h : crel ι σ v x) : crel (ι.take k) (σ.take k) v x := ⟨rel1.take hb h.1, h.2⟩
theorem rel2.take {k : Nat} {v : AV} {x : Value} (hb : bel2 k v = true) (h : rel2 ι σ v x) : rel2 (ι.take k) (σ.take k) v x := by
  cases v with
  | agg cs =>
    obtain ⟨l, e, h1⟩ := h
    exact ⟨l, e, h1.mono' fun a ha _ h => crel.take (List.all_eq_true.1 hb a ha) h⟩
  | junk => exact trivial
  | lit v => exact h
  | ptr b ver off => exact ptrRel.take (by simpa [bel2, bel1] using hb) h
  | sl b ver off len cap => exact slRel.take (by simpa [bel2, bel1] using hb) h
  | fn f first caps => exact rel1.take (v := .fn f first caps) hb h
  | tup vs => exact h
theorem rel3.take {k : Nat} {v : AV} {x : Value} (hb : bel3 k v = true) (h : rel3 ι σ v x) : rel3 (ι.take k) (σ.take k) v x := by
  cases v with
  | tup vs =>
    obtain ⟨l, e, h1⟩ := h
    exact ⟨l, e, h1.mono' fun a ha _ h => rel2.take (List.all_eq_true.1 hb a ha) h⟩
  | agg cs => exact rel2.take (v := .agg cs) hb h
  | junk => exact trivial
  | lit v => exact h
  | ptr b ver off => exact ptrRel.take (by simpa [bel3, bel2, bel1] using hb) h
  | sl b ver off len cap => exact slRel.take (by simpa [bel3, bel2, bel1] using hb) h
  | fn f first caps => exact rel1.take (v := .fn f first caps) hb h
/-- all cells lead below k -/
def Closed (k : Nat) (σ : List Blk) : Prop := ∀ B ∈ σ, B.cells.all (bel1 k) = true
theorem HRel.take (h : HRel W0 ι σ w) {k : Nat} (hc : Closed k (σ.take k)) : HRel W0 (ι.take k) (σ.take k) w := by
  have sub : ∀ {α : Type} {l : List α} {i : Nat} {a : α}, (l.take k)[i]? = some a → l[i]? = some a := fun h => by
    rw [List.getElem?_take] at h
    split at h
    · exact h
    · cases h
  refine ⟨h.below, by simp [h.len], fun i j c t t' hi hj => h.inj i j c t t' (sub hi) (sub hj), fun i c t hi => h.dom i c t (sub hi), fun i B c t hB hi hm => ?_, fun i B c t hB hi hm => ?_, h.drw⟩
  · obtain ⟨es, clk, h1, h2⟩ := h.mp i B c t (sub hB) (sub hi) hm
    exact ⟨es, clk, h1, h2.mono' fun a ha _ hr => crel.take (List.all_eq_true.1 (hc B (List.mem_of_getElem? hB)) a ha) hr⟩
  obtain ⟨vs, rest, h1, h2, h3, h4⟩ := h.blk i B c t (sub hB) (sub hi) hm
  exact ⟨vs, rest, h1, h2, h3.mono' fun a ha _ hr => crel.take (List.all_eq_true.1 (hc B (List.mem_of_getElem? hB)) a ha) hr, h4⟩
theorem bel1_of_rel1 {v : AV} {x : Value} (h : rel1 ι σ v x) : bel1 σ.length v = true := by
  have h0 : ∀ {l : List AV} {m : List Value}, Rels (rel0 ι σ) l m → l.all (bel0 σ.length) = true := fun hr => by
    rw [List.all_eq_true]
    intro a ha
    obtain ⟨i, hi⟩ := List.getElem?_of_mem ha
    obtain ⟨b, _, hab⟩ := hr.get hi
    cases a <;> first | rfl | (obtain ⟨B, hB, _⟩ := hab; simpa [bel0] using getElem?_lt hB)
  cases v with
  | ptr b ver off => obtain ⟨B, hB, _⟩ := h; simpa [bel1] using getElem?_lt hB
  | sl b ver off len cap => obtain ⟨B, hB, _⟩ := h; simpa [bel1] using getElem?_lt hB
  | fn f first caps =>
    obtain ⟨l1, l2, e, h1, h2⟩ := h
    simp only [bel1, h0 h1, h0 h2, Bool.and_self]
  | _ => rfl
theorem HRel.closed (h : HRel W0 ι σ w) : Closed σ.length σ := by
  intro B hB
  rw [List.all_eq_true]
  intro a ha
  obtain ⟨i, hi⟩ := List.getElem?_of_mem hB
  have hlt := getElem?_lt hi
  rw [← h.len] at hlt
  have hr : ∃ vs, Rels (crel ι σ) B.cells vs := by
    cases hm : mapB B with
    | true => obtain ⟨es, clk, _, hr⟩ := h.mp i B (ι[i]).1 (ι[i]).2 hi (List.getElem?_eq_getElem hlt) hm; exact ⟨_, hr⟩
    | false => obtain ⟨vs, rest, _, _, hr, _⟩ := h.blk i B (ι[i]).1 (ι[i]).2 hi (List.getElem?_eq_getElem hlt) hm; exact ⟨_, hr⟩
  obtain ⟨vs, hr⟩ := hr
  obtain ⟨j, hj⟩ := List.getElem?_of_mem ha
  obtain ⟨b, _, hab⟩ := hr.get hj
  exact bel1_of_rel1 hab.1
theorem Ext.take {ι0 : Loc} {σ0 : List Blk} (h : Ext ι0 σ0 ι σ) (h0 : ι0.length = σ0.length) {k : Nat} (hk : σ0.length ≤ k) : Ext ι0 σ0 (ι.take k) (σ.take k) := by
  refine ⟨by simp; have := h.len; omega, fun i B B' hB hB' => ?_, fun i B B' hB hB' he => ?_⟩
  · have hi := getElem?_lt hB
    rw [List.getElem?_take, if_pos (by omega)] at hB'
    exact h.ver i B B' hB hB'
  · have hi := getElem?_lt hB
    rw [List.getElem?_take, if_pos (by omega)] at hB' ⊢
    exact h.loc i B B' hB hB' he
end
/-! ### frames -/
def FRel (ι : Loc) (σ : List Blk) (n : Nat) (fr : Fr) (a : Act) : Prop := a.tmps.size = n ∧ ∀ t, rel3 ι σ (fr t) (a.tmps.getD t undef)
/-- What may be forgotten: the slots that are no longer looked at; blocks that nothing leads to any more (not those below b0). -/
def Forget (b0 : Nat) (fr : Fr) (σ : List Blk) (fr' : Fr) (σ' : List Blk) : Prop :=
  (σ' = σ ∧ ∀ t, fr' t = .junk ∨ fr' t = fr t) ∨
  ∃ k, b0 ≤ k ∧ σ' = σ.take k ∧ Closed k σ' ∧ ∀ t, fr' t = .junk ∨ fr' t = fr t ∧ bel3 k (fr t) = true
section
variable {P : Program} {W0 : World} {ι ι0 : Loc} {σ σ0 : List Blk} {w : World} {n : Nat}
theorem FRel.eval {fr : Fr} {a : Act} (h : FRel ι σ n fr a) (x : Operand) : rel3 ι σ (evA fr x) (a.eval x) := by
  cases x with
  | tmp t => exact h.2 t
  | const v => exact rel3_ofV v
  | global g => rfl
  | func f => rfl
theorem FRel.mono {ι' : Loc} {σ' : List Blk} {fr : Fr} {a : Act} (he : Ext ι σ ι' σ') (h : FRel ι σ n fr a) : FRel ι' σ' n fr a := ⟨h.1, fun t => rel3.mono he (h.2 t)⟩
def dOK (n : Nat) : Option Nat → Prop
  | some d => d < n
  | none => True
theorem FRel.put {fr : Fr} {a : Act} {d : Option Nat} {v : AV} {x : Value} (h : FRel ι σ n fr a) (hd : dOK n d) (hv : rel3 ι σ v x) : FRel ι σ n (updO fr d v) (a.put d x) := by
  cases d with
  | none => exact h
  | some d =>
    have hd' : d < a.tmps.size := by rw [h.1]; exact hd
    refine ⟨by simp [Act.put, h.1], fun t => ?_⟩
    simp only [updO, upd, Act.put]
    split
    · rename_i ht
      subst ht
      simpa [Array.getD_eq_getD_getElem?, hd'] using hv
    · rename_i ht
      have : (a.tmps.setIfInBounds d x).getD t undef = a.tmps.getD t undef := by
        simp only [Array.getD_eq_getD_getElem?]
        rw [Array.getElem?_setIfInBounds_ne (fun e => ht e.symm)]
      rw [this]
      exact h.2 t
theorem put_defers (a : Act) (d : Option Nat) (x : Value) : (a.put d x).defers = a.defers := by cases d <;> rfl
theorem FRel.forget {fr fr' : Fr} {σ' : List Blk} {a : Act} (hf : Forget σ0.length fr σ fr' σ') (h : FRel ι σ n fr a) (hh : HRel W0 ι σ w) (hx : Ext ι0 σ0 ι σ) (h0 : ι0.length = σ0.length) :
    ∃ ι', HRel W0 ι' σ' w ∧ FRel ι' σ' n fr' a ∧ Ext ι0 σ0 ι' σ' := by
  rcases hf with ⟨rfl, hf⟩ | ⟨k, hk, rfl, hc, hf⟩
  · refine ⟨ι, hh, ⟨h.1, fun t => ?_⟩, hx⟩
    rcases hf t with e | e <;> rw [e]
    · exact trivial
    · exact h.2 t
  · refine ⟨ι.take k, hh.take hc, ⟨h.1, fun t => ?_⟩, hx.take h0 hk⟩
    rcases hf t with e | ⟨e, hb⟩ <;> rw [e]
    · exact trivial
    · exact rel3.take hb (h.2 t)
end
/-! ### regions -/
abbrev Pend := Nat × TypeId × Nat × List AV
def feeds (d : Nat) : List Oper → Bool
  | o :: _ => o.guard.isNone && match o.op with
    | .call c => match c.callee, c.args.toList with
      | .builtin .append, [_, .tmp d'] => d' == d
      | _, _ => false
    | _ => false
  | [] => false
def guardW (ops : Array Oper) (fr : Fr) (g : Option (Nat × Bool)) (run skip : Prop) : Prop :=
  match g with
  | none => run
  | some (j, b) => match (ops[j]?).bind (·.dst) with
    | some d => match fr d with
      | .lit (.bool t) => (t = b → run) ∧ (t = !b → skip)
      | .lit _ => skip
      | _ => False
    | none => False
def pendW (P : Program) (o : Oper) (p : Pend) (fr : Operand → AV) (σ : List Blk) (K : Cont) : Prop :=
  o.guard = none ∧ match o.op with
  | .call c => match c.callee, c.args.toList, c.argTypes.toList with
    | .builtin .append, [s, .tmp d], [t, t'] => d = p.1 ∧ t = p.2.1 ∧ t' = p.2.1 ∧ appendW P t (fr s) p.2.2.1 p.2.2.2 σ K
    | _, _, _ => False
  | _ => False
def litRowW (P : Program) (fr : Operand → AV) (t : TypeId) (len : Nat) (parts : Array (Nat × Operand)) (Q : List AV → Prop) : Prop :=
  match sliceP P t with
  | some (e, esz, _) => match zeroP P e with
    | some z => match cellsAV (ofV z) with
      | some zc => zc.length = esz ∧ len * esz ≤ 16777216 ∧ match fillA (fun i => some (i * esz, esz)) (rep len zc) (partsA fr parts) with
        | some cs => Q cs
        | none => False
      | none => False
    | none => False
  | none => False
def opsW (P : Program) (W0 : World) (n : Nat) (ops : Array Oper) : Option Pend → List Oper → Fr → List Blk → (Fr → List Blk → Prop) → Prop
  | none, [], fr, σ, K => K fr σ
  | some _, [], _, _, _ => False
  | some p, o :: rest, fr, σ, K => dOK n o.dst ∧ pendW P o p (evA fr) σ fun av σ' => opsW P W0 n ops none rest (updO fr o.dst av) σ' K
  | none, o :: rest, fr, σ, K => dOK n o.dst ∧
    match o.op, o.dst, feeds (o.dst.getD 0) rest && o.guard.isNone with
    | .buildSlice t len parts, some d, true => litRowW P (evA fr) t len parts fun cs => opsW P W0 n ops (some (d, t, len, cs)) rest (upd fr d .junk) σ K
    | op, _, _ => guardW ops fr o.guard (opW P W0 op (evA fr) σ fun av σ' => opsW P W0 n ops none rest (updO fr o.dst av) σ' K) (opsW P W0 n ops none rest (updO fr o.dst (.lit undef)) σ K)
section
variable {P : Program} {W0 : World} {ι ι0 : Loc} {σ σ0 : List Blk} {w : World} {n : Nat} {ops : Array Oper}
/-- What is asked behind a piece of code. -/
def Post (W0 : World) (ι0 : Loc) (σ0 : List Blk) (n : Nat) (ds : List Deferred) (K : Fr → List Blk → Prop) (a : Act) (w : World) : Prop :=
  ∃ ι σ fr, K fr σ ∧ HRel W0 ι σ w ∧ FRel ι σ n fr a ∧ Ext ι0 σ0 ι σ ∧ a.defers = ds
def PendRel (P : Program) (ι : Loc) (σ : List Blk) (a : Act) (w : World) (p : Pend) : Prop :=
  ∃ ad c us, a.tmps.getD p.1 undef = .slice (some ad) p.2.2.1 c ∧ Rels (crel ι σ) p.2.2.2 us ∧ (∀ (j : Nat) (u : Value), us[j]? = some u → w.cell? (ad.add j) = some u) ∧
    (∀ e s b, sliceP P p.2.1 = some (e, s, b) → ∃ z, zeroP P e = some z ∧ z.cells.size = s)
theorem guardW_sound {fr : Fr} {g : Option (Nat × Bool)} {run skip : Prop} {a : Act} (h : guardW ops fr g run skip) (hf : FRel ι σ n fr a) (o : Oper) (ho : o.guard = g) :
    (Region.wanted o (yielded ops a.tmps) = true ∧ run) ∨ (Region.wanted o (yielded ops a.tmps) = false ∧ skip) := by
  unfold guardW at h
  unfold Region.wanted
  rw [ho]
  split at h
  · exact .inl ⟨rfl, h⟩
  · rename_i j b
    split at h
    · rename_i d hd
      have hy : ∀ v, a.tmps.getD d undef = v → yielded ops a.tmps j = match v with | .bool t => some t | _ => none := by
        intro v hv
        unfold yielded
        rw [hd]
        simp only [Option.bind_some]
        rw [Array.getD_eq_getD_getElem?] at hv
        cases hq : a.tmps[d]? with
        | none => rw [hq] at hv; subst hv; rfl
        | some u => rw [hq] at hv; simp at hv; subst hv; cases u <;> rfl
      split at h
      · rename_i t ht
        have h1 := hf.2 d
        rw [ht] at h1
        have h2 : a.tmps.getD d undef = .bool t := h1
        have h3 := hy _ h2
        simp only at h3
        simp only [h3]
        by_cases hb : t = b
        · exact .inl ⟨by simp [hb], h.1 hb⟩
        · exact .inr ⟨by simpa using hb, h.2 (by cases t <;> cases b <;> simp_all)⟩
      · rename_i v hne ht
        have h1 := hf.2 d
        rw [ht] at h1
        have h2 : a.tmps.getD d undef = v := h1
        have h3 := hy _ h2
        refine .inr ⟨?_, h⟩
        show (yielded ops a.tmps j == some b) = false
        rw [h3]
        cases v <;> first | rfl | exact (hne _ rfl).elim
      · exact h.elim
    · exact h.elim
theorem opsW_sound {ds : List Deferred} {K : Fr → List Blk → Prop} {Q : Exit → Act → World → Prop} (hQ : ∀ a w, Post W0 ι0 σ0 n ds K a w → Q .normal a w) : ∀ (l : List Oper) (p : Option Pend) (fr : Fr) (σ : List Blk) (ι : Loc) (a : Act) (w : World),
    opsW P W0 n ops p l fr σ K → HRel W0 ι σ w → FRel ι σ n fr a → Ext ι0 σ0 ι σ → a.defers = ds → (∀ q, p = some q → PendRel P ι σ a w q) → wpList P ops Q l a w
  | [], none, fr, σ, ι, a, w, h, hh, hf, hx, hd, _ => hQ _ _ ⟨ι, σ, fr, h, hh, hf, hx, hd⟩
  | [], some _, fr, σ, ι, a, w, h, _, _, _, _, _ => h.elim
  | o :: rest, some p, fr, σ, ι, a, w, h, hh, hf, hx, hd, hp => by
    obtain ⟨hdst, hg, h⟩ := h
    obtain ⟨ad, c, us, e1, hr, hat, hz⟩ := hp p rfl
    obtain ⟨dst, op, type, pos, after, guard⟩ := o
    dsimp only at h hg hdst
    subst hg
    split at h
    · rename_i c0
      obtain ⟨callee, args, argTypes⟩ := c0
      dsimp only at h
      split at h
      · rename_i s d t t' ha ht
        have ha := list2 ha; have ht := list2 ht
        subst ha; subst ht
        obtain ⟨rfl, rfl, rfl, h⟩ := h
        obtain ⟨v, w', ι', σ', av, h1, h2, h3, h4, h5⟩ := appendW_sound (P := P) h hh (hf.eval s) hz (c := c) hr hat type
        refine wpList_step fun next hnext => ?_
        simp only [Region.wanted, if_true]
        refine wp_of_run (v := v) (w' := w') ?_ (hnext _ _ (opsW_sound hQ rest none _ σ' ι' _ w' h2 h3 ((hf.mono h4).put hdst h5) (hx.trans h4) (by rw [put_defers]; exact hd) (fun q hq => by cases hq)))
        have e2 : a.eval (.tmp p.1) = .slice (some ad) p.2.2.1 c := e1
        simp [execOp, resolve, invoke, builtin, e2, h1]
      · exact h.elim
    · exact h.elim
  | o :: rest, none, fr, σ, ι, a, w, h, hh, hf, hx, hd, _ => by
    obtain ⟨hdst, h⟩ := h
    split at h
    · rename_i t len parts d hop hd0 hfe
      simp only [Bool.and_eq_true] at hfe
      have hgn : o.guard = none := by cases hg : o.guard <;> simp [hg] at hfe ⊢
      unfold litRowW at h
      split at h
      · rename_i e esz by_ hs
        split at h
        · rename_i z hz
          split at h
          · rename_i zc hzc
            obtain ⟨hzl, hle, h⟩ := h
            split at h
            · rename_i cs hfl
              obtain ⟨us, hul, hrel, hrun⟩ := run_buildSlice_own (P := P) hs hz hzc hzl hle hfl hf.eval w
              refine wpList_step fun next hnext => ?_
              simp only [Region.wanted, hgn, if_true]
              have hdn : d < n := by rw [hd0] at hdst; exact hdst
              refine wp_of_run (v := .slice (some ⟨w.heap.size, 0, none⟩) len len) (w' := w.alloc (.cells us.toArray e)) ?_ (hnext _ _ (opsW_sound hQ rest _ _ σ ι _ _ h (hh.garbage _) ?_ hx (by rw [put_defers]; exact hd) ?_))
              · simp [execOp, hop, hrun]
              · rw [hd0]
                exact hf.put (d := some d) hdn (v := .junk) trivial
              · intro q hq
                cases hq
                refine ⟨⟨w.heap.size, 0, none⟩, len, us, ?_, hrel, fun j u hj => ?_, fun e' s' b' hs' => ?_⟩
                · rw [hd0]
                  have : d < a.tmps.size := by rw [hf.1]; exact hdn
                  simp [Act.put, Array.getD_eq_getD_getElem?, this]
                · rw [cell?_own (cs := us) (e := e) (fz := (0, 0)) (by show (w.heap.push _)[w.heap.size]? = _; simp), Nat.zero_add]; exact hj
                · dsimp only at hs'
                  rw [hs] at hs'; cases hs'
                  have hzr : Rels (crel ι σ) zc z.cells.toList := crel_of_ofV hzc
                  exact ⟨z, hz, by have := hzr.1; simp at this; omega⟩
            · exact h.elim
          · exact h.elim
        · exact h.elim
      · exact h.elim
    · refine wpList_step fun next hnext => ?_
      rcases guardW_sound h hf o rfl with ⟨hw, h⟩ | ⟨hw, h⟩
      · rw [if_pos hw]
        refine opW_sound h hh hf.eval fun v w' ι' σ' av h2 h3 h4 h5 => ?_
        exact hnext _ _ (opsW_sound hQ rest none _ σ' ι' _ w' h2 h3 ((hf.mono h4).put hdst h5) (hx.trans h4) (by rw [put_defers]; exact hd) (fun q hq => by cases hq))
      · rw [if_neg (by rw [hw]; simp)]
        exact hnext _ _ (opsW_sound hQ rest none _ σ ι _ w h hh (hf.put hdst rfl) hx (by rw [put_defers]; exact hd) (fun q hq => by cases hq))
end
end Go.Proofs.Ytcclhjohpicleaa.Abs
end

section
/- The abstract logic, part J: what reads alone, in whatever order; statements; loops; functions. -/
set_option linter.unusedVariables false
set_option linter.unusedSimpArgs false
namespace Go.Proofs.Ytcclhjohpicleaa.Abs
open Go Go.RowKit
/-! ### values that are told to the last bit -/
def cur (σ : List Blk) (b ver : Nat) : Prop := ∃ B, σ[b]? = some B ∧ B.ver = ver
def det0 (σ : List Blk) : AV → Prop
  | .lit _ => True
  | .ptr b ver _ => cur σ b ver
  | _ => False
def det1 (σ : List Blk) : AV → Prop
  | .lit _ => True
  | .ptr b ver _ => cur σ b ver
  | .sl b ver _ _ _ => cur σ b ver
  | .fn _ first caps => (∀ v ∈ first, det0 σ v) ∧ ∀ v ∈ caps, det0 σ v
  | _ => False
def det2 (σ : List Blk) : AV → Prop
  | .agg cs => ∀ v ∈ cs, det1 σ v
  | v => det1 σ v
def det3 (σ : List Blk) : AV → Prop
  | .tup vs => ∀ v ∈ vs, det2 σ v
  | v => det2 σ v
section
variable {P : Program} {W0 : World} {ι ι0 : Loc} {σ σ0 : List Blk} {w : World} {n : Nat}
theorem Rels.uniq {α β : Type} {R : α → β → Prop} {l : List α} {m m' : List β} (h : Rels R l m) (h' : Rels R l m') (hu : ∀ a ∈ l, ∀ b b', R a b → R a b' → b = b') : m = m' := by
  apply List.ext_getElem
  · rw [← h.1, ← h'.1]
  · intro i h1 h2
    have hl : i < l.length := by rw [h.1]; exact h1
    have ha := List.getElem?_eq_getElem hl
    exact hu _ (List.getElem_mem hl) _ _ (h.2 i _ _ ha (List.getElem?_eq_getElem h1)) (h'.2 i _ _ ha (List.getElem?_eq_getElem h2))
theorem det0.uniq {v : AV} {x y : Value} (hd : det0 σ v) (h : rel0 ι σ v x) (h' : rel0 ι σ v y) : x = y := by
  cases v with
  | lit v => exact (show x = v from h).trans (show y = v from h').symm
  | ptr b ver off =>
    obtain ⟨B, hB, hv⟩ := hd
    obtain ⟨c, t, hi, rfl⟩ := ptrRel_now h hB hv
    obtain ⟨c', t', hi', rfl⟩ := ptrRel_now h' hB hv
    rw [hi] at hi'; cases hi'; rfl
  | _ => exact hd.elim
theorem det1.uniq {v : AV} {x y : Value} (hd : det1 σ v) (h : rel1 ι σ v x) (h' : rel1 ι σ v y) : x = y := by
  cases v with
  | lit v => exact (show x = v from h).trans (show y = v from h').symm
  | ptr b ver off => exact det0.uniq (v := .ptr b ver off) hd h h'
  | sl b ver off len cap =>
    obtain ⟨B, hB, hv⟩ := hd
    obtain ⟨c, t, hi, rfl, _⟩ := slRel_now h hB hv
    obtain ⟨c', t', hi', rfl, _⟩ := slRel_now h' hB hv
    rw [hi] at hi'; cases hi'; rfl
  | fn f first caps =>
    obtain ⟨l1, l2, rfl, h1, h2⟩ := h
    obtain ⟨m1, m2, rfl, k1, k2⟩ := h'
    rw [h1.uniq k1 fun a ha _ _ => det0.uniq (hd.1 a ha), h2.uniq k2 fun a ha _ _ => det0.uniq (hd.2 a ha)]
  | _ => exact hd.elim
theorem det2.uniq {v : AV} {x y : Value} (hd : det2 σ v) (h : rel2 ι σ v x) (h' : rel2 ι σ v y) : x = y := by
  cases v with
  | agg cs =>
    obtain ⟨l, rfl, h1⟩ := h
    obtain ⟨m, rfl, k1⟩ := h'
    rw [h1.uniq k1 fun a ha _ _ h h' => det1.uniq (hd a ha) h.1 h'.1]
  | lit v => exact (show x = v from h).trans (show y = v from h').symm
  | ptr b ver off => exact det1.uniq (v := .ptr b ver off) hd h h'
  | sl b ver off len cap => exact det1.uniq (v := .sl b ver off len cap) hd h h'
  | fn f first caps => exact det1.uniq (v := .fn f first caps) hd h h'
  | junk => exact hd.elim
  | tup vs => exact hd.elim
theorem det3.uniq {v : AV} {x y : Value} (hd : det3 σ v) (h : rel3 ι σ v x) (h' : rel3 ι σ v y) : x = y := by
  cases v with
  | tup vs =>
    obtain ⟨l, rfl, h1⟩ := h
    obtain ⟨m, rfl, k1⟩ := h'
    rw [h1.uniq k1 fun a ha _ _ => det2.uniq (hd a ha)]
  | agg cs => exact det2.uniq (v := .agg cs) hd h h'
  | lit v => exact (show x = v from h).trans (show y = v from h').symm
  | ptr b ver off => exact det2.uniq (v := .ptr b ver off) hd h h'
  | sl b ver off len cap => exact det2.uniq (v := .sl b ver off len cap) hd h h'
  | fn f first caps => exact det2.uniq (v := .fn f first caps) hd h h'
  | junk => exact hd.elim
/-- operations that only look -/
def looks (P : Program) : Op → Bool
  | .convert src dst _ => !bytesC P src dst
  | .move _ | .assign _ | .pick _ _ _ | .build _ _ | .load _ _ | .nilCheck _ | .binOp _ _ _ _ _ | .unOp _ _ _ | .makeFunc _ _ _ | .fieldAddr _ _ _ | .field _ _ _ | .indexAddr _ _ _ | .index _ _ _ | .extract _ _ | .lookup _ _ _ _ => true
  | .slice _ _ _ _ none => true
  | .call c => match c.callee with
    | .builtin .len | .builtin .max | .builtin .min => true
    | _ => false
  | _ => false
theorem run_looks {o : Oper} {fr : Fr} {a : Act} {K : Cont} (hl : looks P o.op = true) (h : opW P W0 o.op (evA fr) σ K) (hh : HRel W0 ι σ w) (hr : ∀ x, rel3 ι σ (evA fr x) (a.eval x)) :
    ∃ v av, (execOp a.eval o).run P w = .ok (.value v) w ∧ K av σ ∧ rel3 ι σ av v := by
  obtain ⟨dst, op, type, pos, after, guard⟩ := o
  have fin : ∀ {s : Sem Value}, Yields0 P ι σ w K s → execOp a.eval ⟨dst, op, type, pos, after, guard⟩ = (do pure (.value (← s))) → ∃ v av, (execOp a.eval ⟨dst, op, type, pos, after, guard⟩).run P w = .ok (.value v) w ∧ K av σ ∧ rel3 ι σ av v := by
    intro s ⟨v, av, h1, h2, h3⟩ he
    exact ⟨v, av, by rw [he]; simp [h1], h2, h3⟩
  unfold opW at h
  dsimp only at h hl
  split at h
  · rename_i x
    exact ⟨_, _, rfl, h, hr x⟩
  · rename_i x
    exact ⟨_, _, rfl, h, hr x⟩
  · rename_i c x y
    split at h
    · rename_i t u v hc hx hy
      have h1 := hr c; rw [hc] at h1; have e1 : a.eval c = .bool t := h1
      have h2 := hr x; rw [hx] at h2; have e2 : a.eval x = .bool u := h2
      have h3 := hr y; rw [hy] at h3; have e3 : a.eval y = .bool v := h3
      refine ⟨.bool (if t then u else v), _, ?_, h, rfl⟩
      simp only [execOp, e1, asBool, Sem.run_bind, Sem.run_pure, Result.andThen_ok, e2, e3]
      cases t <;> rfl
    · rename_i _ _ t hc hnn
      have h1 := hr c; rw [hc] at h1; have e1 : a.eval c = .bool t := h1
      cases t with
      | true => exact ⟨a.eval x, _, by simp [execOp, e1, asBool], h.1 rfl, hr x⟩
      | false => exact ⟨a.eval y, _, by simp [execOp, e1, asBool], h.2 rfl, hr y⟩
    · exact h.elim
  · simp [looks] at hl
  · simp [looks] at hl
  · exact fin (buildW_sound h hh hr) rfl
  · simp [looks] at hl
  · rename_i t x
    exact fin (loadW_sound h hh (hr x)) rfl
  · simp [looks] at hl
  · rename_i x
    split at h
    · rename_i b ver off hx
      have h1 := hr x; rw [hx] at h1
      obtain ⟨⟨B, hB, hv⟩, hk⟩ := h
      obtain ⟨c, tt, hi, e1⟩ := ptrRel_now h1 hB hv
      exact ⟨a.eval x, _, by simp [execOp, e1], hk, h1⟩
    · rename_i ad hx
      have h1 := hr x; rw [hx] at h1
      have e1 : a.eval x = .pointer (some ad) := h1
      exact ⟨a.eval x, _, by simp [execOp, e1], h, h1⟩
    · rename_i g first caps hx
      have h1 := hr x; rw [hx] at h1
      have h1' := h1
      obtain ⟨l1, l2, e1, _, _⟩ := h1
      exact ⟨a.eval x, _, by simp [execOp, e1], h, h1'⟩
    · rename_i g f1 f2 hx
      have h1 := hr x; rw [hx] at h1
      have e1 : a.eval x = .func (.func g) f1 f2 := h1
      exact ⟨a.eval x, _, by simp [execOp, e1], h, h1⟩
    · exact h.elim
  · rename_i bop t x y ty
    exact fin (binW_sound (x := x) h hh (hr x) (hr y)) rfl
  · rename_i uop t x
    exact fin (unW_sound h hh (hr x)) rfl
  · rename_i src d x
    split at h
    · rename_i hb
      simp [looks, hb] at hl
    · exact fin (convW_sound h hh (hr x)) rfl
  · rename_i f first caps
    obtain ⟨h1, h2, hk⟩ := h
    refine ⟨.func f (first.map a.eval) (caps.map a.eval), _, by simp [execOp, Instr.makeFunc], hk, ?_⟩
    refine ⟨(first.map a.eval).toList, (caps.map a.eval).toList, by rw [Array.toArray_toList, Array.toArray_toList], ?_, ?_⟩
    · rw [Array.toList_map]; exact rels_atoms h1 (rels_map hr _)
    · rw [Array.toList_map]; exact rels_atoms h2 (rels_map hr _)
  · simp [looks] at hl
  · rename_i t x lo hi
    exact fin (sliceW_sound hr h hh) rfl
  · rename_i s x f
    exact fin (fieldAddrW_sound h hh (hr x)) rfl
  · rename_i s x f
    exact fin (fieldW_sound h hh (hr x)) rfl
  · rename_i t x i
    exact fin (indexAddrW_sound h hh (hr x) (hr i)) rfl
  · rename_i t x i
    exact fin (indexW_sound h hh (hr x) (hr i)) rfl
  · rename_i x i
    split at h
    · rename_i vs hx
      split at h
      · rename_i v hv
        have h1 := hr x; rw [hx] at h1
        obtain ⟨l, e1, hl'⟩ := h1
        obtain ⟨u, hu, hru⟩ := hl'.get hv
        refine ⟨u, _, by simp [execOp, e1, Instr.extract, hu], h, ?_⟩
        cases v <;> first | exact hru | exact hru.elim
      · exact h.elim
    · exact h.elim
  · simp [looks] at hl
  · rename_i t x i ok
    exact fin (mget_sound h hh (hr x) (hr i)) rfl
  · simp [looks] at hl
  · rename_i c
    obtain ⟨callee, args, argTypes⟩ := c
    unfold callOpW at h
    dsimp only at h
    split at h
    · simp [looks] at hl
    · split at h
      · rename_i x t ha ht
        have ha := list1 ha; have ht := list1 ht
        subst ha; subst ht
        obtain ⟨v, av, h1, h2, h5⟩ := lenW_sound (P := P) h hh (hr x) type
        exact ⟨v, av, by simp [execOp, resolve, invoke, builtin, h1], h2, h5⟩
      · exact h.elim
    · simp [looks] at hl
    · split at h
      · rename_i x y ha
        have ha := list2 ha
        subst ha
        obtain ⟨v, av, h1, h2, h5⟩ := mm_sound (P := P) (w := w) h (hr x) (hr y) argTypes type
        have h1 : (Builtin.max_ argTypes type #[a.eval x, a.eval y]).run P w = .ok v w := h1
        exact ⟨v, av, by simp [execOp, resolve, invoke, builtin, h1], h2, h5⟩
      · exact h.elim
    · split at h
      · rename_i x y ha
        have ha := list2 ha
        subst ha
        obtain ⟨v, av, h1, h2, h5⟩ := mm_sound (P := P) (w := w) h (hr x) (hr y) argTypes type
        have h1 : (Builtin.min_ argTypes type #[a.eval x, a.eval y]).run P w = .ok v w := h1
        exact ⟨v, av, by simp [execOp, resolve, invoke, builtin, h1], h2, h5⟩
      · exact h.elim
    · simp [looks] at hl
    · exact h.elim
  · exact h.elim
/-- An operation that leaves no trace, and the value that it yields. -/
def quietOp (P : Program) (W0 : World) (o : Oper) (fr : Fr) (σ : List Blk) (av : AV) : Prop :=
  match looks P o.op, o.op with
  | true, op => opW P W0 op (evA fr) σ fun v σ' => v = av ∧ σ' = σ
  | false, .call c => match c.callee with
    | .value f => callW P W0 (evA fr f) (c.args.toList.map (evA fr)) σ fun v σ' => v = av ∧ σ' = σ
    | _ => False
  | _, _ => False
theorem ext_same {ι' : Loc} (h : Ext ι σ ι' σ) (hl : ι.length = σ.length) (hl' : ι'.length = σ.length) : ι' = ι := by
  apply List.ext_getElem?
  intro i
  rcases Nat.lt_or_ge i σ.length with hi | hi
  · exact h.loc i _ _ (List.getElem?_eq_getElem hi) (List.getElem?_eq_getElem hi) rfl
  · rw [List.getElem?_eq_none (by omega), List.getElem?_eq_none (by omega)]
theorem callW_enters {f : AV} {fv : Value} {args : List AV} {vs : List Value} {o : Oper} {a : Act} {av : AV} (h : callW P W0 f args σ fun v σ' => v = av ∧ σ' = σ) (hf : rel3 ι σ f fv) (hr : Rels (rel3 ι σ) args vs)
    (he : execOp a.eval o = (do let d ← Deferred.ofValue fv vs.toArray; invoke d.target d.args)) :
    ∃ (g : FuncId) (us : Array Value), ∀ w, HRel W0 ι σ w → (execOp a.eval o).run P w = .ok (.enter g us) w ∧ Calls P g us w fun e w' => ∃ v, e = .returned v ∧ rel3 ι σ av v ∧ HRel W0 ι σ w' := by
  have fin : ∀ (g : FuncId) (as : List AV) (us : List Value), ACall P W0 g as σ (fun v σ' => v = av ∧ σ' = σ) → Rels (rel3 ι σ) as us → (∀ w, (execOp a.eval o).run P w = (callFunc g us.toArray).run P w) →
      ∃ (g : FuncId) (us : Array Value), ∀ w, HRel W0 ι σ w → (execOp a.eval o).run P w = .ok (.enter g us) w ∧ Calls P g us w fun e w' => ∃ v, e = .returned v ∧ rel3 ι σ av v ∧ HRel W0 ι σ w' := by
    intro g as us ⟨hok, hc⟩ hrs hex
    refine ⟨g, us.toArray, fun w hh => ⟨?_, ?_⟩⟩
    · rw [hex w]
      unfold callOK at hok
      split at hok
      · rename_i fn hf
        simp only [Bool.and_eq_true, Bool.not_eq_true'] at hok
        have hb : fn.body.isNone = false := by cases hb : fn.body <;> simp [hb] at hok ⊢
        simp only [callFunc, Sem.run_bind, run_program, Result.andThen_ok, hf, hok.1, Bool.false_eq_true, if_false, hb, Sem.run_pure]
      · cases hok
    · refine (hc ι w us hh hrs).mono fun e w' ⟨v, ι', σ', av', h0, ⟨hav, hσ⟩, h3, h4, h5⟩ => ?_
      subst hσ
      subst hav
      have := ext_same h4 hh.len h3.len
      subst this
      exact ⟨v, h0, h5, h3⟩
  unfold callW at h
  split at h
  · rename_i g fs cs
    obtain ⟨rfl, rfl, h⟩ := h
    have e : fv = .func (.func g) #[] #[] := hf
    subst e
    exact fin g args vs h hr fun w => by rw [he]; simp [Deferred.ofValue, invoke]
  · rename_i g first caps
    obtain ⟨l1, l2, rfl, h1, h2⟩ := hf
    exact fin g _ (l1 ++ vs ++ l2) h (((h1.mono fun _ _ => rel3_of_rel0).append hr).append (h2.mono fun _ _ => rel3_of_rel0)) fun w => by rw [he]; simp [Deferred.ofValue, invoke]
  · exact h.elim
theorem quietOp_sound {o : Oper} {fr : Fr} {a : Act} {av : AV} (hd : det3 σ av) (h : quietOp P W0 o fr σ av) (hh : HRel W0 ι σ w) (hr : ∀ x, rel3 ι σ (evA fr x) (a.eval x)) :
    ∃ v, (∀ w', HRel W0 ι σ w' → o.quietAt P a (HRel W0 ι σ) w' v) ∧ rel3 ι σ av v := by
  unfold quietOp at h
  split at h
  · rename_i op hl
    obtain ⟨v, av', h1, ⟨rfl, _⟩, h3⟩ := run_looks (w := w) hl h hh hr
    refine ⟨v, fun w' hh' => ?_, h3⟩
    obtain ⟨v', av'', k1, ⟨rfl, _⟩, k3⟩ := run_looks (w := w') hl h hh' hr
    unfold Oper.quietAt
    rw [k1]
    exact ⟨rfl, hd.uniq k3 h3⟩
  · rename_i c hl hop
    split at h
    · rename_i f hcal
      have hm : (c.args.toList.map a.eval).toArray = c.args.map a.eval := by rw [← Array.toList_map, Array.toArray_toList]
      obtain ⟨g, us, hall⟩ := callW_enters (a := a) (o := o) h (hr f) (rels_map hr c.args.toList) (by
        rw [hm]
        obtain ⟨callee, args, argTypes⟩ := c
        dsimp only at hcal
        subst hcal
        simp [execOp, hop, resolve])
      have hex : ∃ v, rel3 ι σ av v := by
        obtain ⟨_, hc⟩ := hall w hh
        obtain ⟨e, w', fr', ⟨v, _, hv, _⟩, _⟩ := hc []
        exact ⟨v, hv⟩
      obtain ⟨v, hv⟩ := hex
      refine ⟨v, fun w' hh' => ?_, hv⟩
      obtain ⟨k1, k2⟩ := hall w' hh'
      unfold Oper.quietAt
      rw [k1]
      refine ⟨rfl, k2.mono fun e w'' ⟨v', h0, h5, h3⟩ => ⟨?_, h3⟩⟩
      rw [h0, hd.uniq h5 hv]
    · exact h.elim
  · exact h.elim
/-- The head of a region that draws. -/
def qW (P : Program) (W0 : World) (n : Nat) (ops : Array Oper) : List Oper → Fr → List Blk → (Fr → Prop) → Prop
  | [], fr, _, K => K fr
  | o :: rest, fr, σ, K => dOK n o.dst ∧ guardW ops fr o.guard (∃ av, det3 σ av ∧ quietOp P W0 o fr σ av ∧ qW P W0 n ops rest (updO fr o.dst av) σ K) (qW P W0 n ops rest (updO fr o.dst (.lit undef)) σ K)
theorem qW_sound {ops : Array Oper} {K : Fr → Prop} {Q : Act → Prop} {ds : List Deferred} (hQ : ∀ fr a, K fr → FRel ι σ n fr a → a.defers = ds → Q a) (hh : HRel W0 ι σ w) : ∀ (l : List Oper) (fr : Fr) (a : Act), qW P W0 n ops l fr σ K → FRel ι σ n fr a → a.defers = ds →
    wpQuiet P ops (HRel W0 ι σ) Q l a
  | [], fr, a, h, hf, hd => hQ fr a h hf hd
  | o :: rest, fr, a, h, hf, hd => by
    obtain ⟨hdst, h⟩ := h
    unfold wpQuiet
    rcases guardW_sound h hf o rfl with ⟨hw, av, hdet, hq, hrest⟩ | ⟨hw, h⟩
    · rw [if_pos hw]
      obtain ⟨v, h1, h2⟩ := quietOp_sound hdet hq hh hf.eval
      exact ⟨v, h1, qW_sound hQ hh rest _ _ hrest (hf.put hdst h2) (by rw [put_defers]; exact hd)⟩
    · rw [if_neg (by rw [hw]; simp)]
      exact qW_sound hQ hh rest _ _ h (hf.put hdst rfl) (by rw [put_defers]; exact hd)
end
/-! ### statements -/
abbrev CPost := Exit → Fr → List Blk → Prop
/-- A loop: what holds at each round's head, with a number that each round lowers; what is no longer looked at may be forgotten there. -/
structure LoopW (b0 : Nat) (body : Fr → List Blk → CPost → Prop) (fr : Fr) (σ : List Blk) (Q : CPost) : Prop where
  ok : ∃ (I : Nat → Fr → List Blk → Prop) (m : Nat) (fr0 : Fr) (σ1 : List Blk), Forget b0 fr σ fr0 σ1 ∧ I m fr0 σ1 ∧
    ∀ m fr σ, I m fr σ → body fr σ fun e fr' σ' => match e with
      | .normal => ∃ m' fr'' σ'', m' < m ∧ Forget b0 fr' σ' fr'' σ'' ∧ I m' fr'' σ''
      | e => Q e fr' σ'
/-- b0: how many blocks there were when the function began; cuts: where the head of each region that draws ends. -/
def cW (P : Program) (W0 : World) (n b0 : Nat) (cuts : Nat → Nat) : Code → Fr → List Blk → CPost → Prop
  | .skip, fr, σ, Q => Q .normal fr σ
  | .label _, fr, σ, Q => Q .normal fr σ
  | .region id ops draw, fr, σ, Q => match draw with
    | false => opsW P W0 n ops none ops.toList fr σ (Q .normal)
    | true => if cuts id = 0 then Region.lexB .any ops = true ∧ qW P W0 n ops ops.toList fr σ (fun fr => Q .normal fr σ)
      else Region.lexTailB .any ops (cuts id) = true ∧ qW P W0 n ops (ops.toList.take (cuts id)) fr σ fun fr => opsW P W0 n ops none (ops.toList.drop (cuts id)) fr σ (Q .normal)
  | .seq a b, fr, σ, Q => cW P W0 n b0 cuts a fr σ fun e fr σ => match e with
    | .normal => cW P W0 n b0 cuts b fr σ Q
    | e => Q e fr σ
  | .cond c a b, fr, σ, Q => match evA fr c with
    | .lit (.bool t) => (t = true → cW P W0 n b0 cuts a fr σ Q) ∧ (t = false → cW P W0 n b0 cuts b fr σ Q)
    | _ => False
  | .block id c, fr, σ, Q => cW P W0 n b0 cuts c fr σ fun e fr σ => match e with
    | .exit i => if i = id then Q .normal fr σ else Q (.exit i) fr σ
    | e => Q e fr σ
  | .exit id, fr, σ, Q => Q (.exit id) fr σ
  | .loop c, fr, σ, Q => LoopW b0 (fun fr σ Q => cW P W0 n b0 cuts c fr σ Q) fr σ Q
  | .ret, fr, σ, Q => Q .ret fr σ
  | .scope c, fr, σ, Q => cW P W0 n b0 cuts c fr σ fun e fr σ => match e with
    | .goto _ => False
    | e => Q e fr σ
  | .goto l, fr, σ, Q => Q (.goto l) fr σ
  | _, _, _, _ => False
section
variable {P : Program} {W0 : World} {ι0 : Loc} {σ0 : List Blk} {n : Nat} {cuts : Nat → Nat}
def Lift (W0 : World) (ι0 : Loc) (σ0 : List Blk) (n : Nat) (ds : List Deferred) (Q : CPost) : Exit → Act → World → Prop := fun e a w => Post W0 ι0 σ0 n ds (Q e) a w
theorem exists_least {p : Nat → Prop} : ∀ m, p m → ∃ k, p k ∧ ∀ j, p j → k ≤ j := by
  intro m
  induction m using Nat.strongRecOn with
  | _ m ih =>
    intro hm
    by_cases h : ∃ j, j < m ∧ p j
    · obtain ⟨j, hj, hp⟩ := h
      exact ih j hj hp
    · exact ⟨m, hm, fun j hj => Nat.le_of_not_lt fun hlt => h ⟨j, hlt, hj⟩⟩
theorem wp_loop_least {c : Code} {Q : Exit → Act → World → Prop} {a : Act} {w : World} (J : Nat → Act → World → Prop) (h0 : ∃ m, J m a w)
    (round : ∀ m a w, J m a w → c.wp P (Exit.then (fun a' w' => ∃ m', m' < m ∧ J m' a' w') Q) a w) : (Code.loop c).wp P Q a w := by
  classical
  have hex : ∀ a w, (∃ m, J m a w) → ∃ k, J k a w ∧ ∀ j, J j a w → k ≤ j := fun a w ⟨m, h⟩ => exists_least m h
  let least (a : Act) (w : World) : Nat := if h : ∃ m, J m a w then Classical.choose (hex a w h) else 0
  have spec : ∀ a w (h : ∃ m, J m a w), J (least a w) a w ∧ ∀ j, J j a w → least a w ≤ j := fun a w h => by
    have e : least a w = Classical.choose (hex a w h) := dif_pos h
    rw [e]
    exact Classical.choose_spec (hex a w h)
  refine wp_loop (fun a w => ∃ m, J m a w) least h0 fun a w h => ?_
  refine wp_mono (round (least a w) a w (spec a w h).1) fun e a' w' hq => ?_
  cases e with
  | normal =>
    obtain ⟨m', hlt, hj⟩ := hq
    exact ⟨⟨m', hj⟩, Nat.lt_of_le_of_lt ((spec a' w' ⟨m', hj⟩).2 m' hj) hlt⟩
  | _ => exact hq
theorem cW_sound (hm : P.follows .mixedOrders = true) (hl0 : ι0.length = σ0.length) : ∀ (c : Code) (Q : CPost) (fr : Fr) (σ : List Blk) (ι : Loc) (a : Act) (w : World) (ds : List Deferred), cW P W0 n σ0.length cuts c fr σ Q →
    HRel W0 ι σ w → FRel ι σ n fr a → Ext ι0 σ0 ι σ → a.defers = ds → c.wp P (Lift W0 ι0 σ0 n ds Q) a w
  | .skip, Q, fr, σ, ι, a, w, ds, h, hh, hf, hx, hd => wp_skip ⟨ι, σ, fr, h, hh, hf, hx, hd⟩
  | .label _, Q, fr, σ, ι, a, w, ds, h, hh, hf, hx, hd => wp_label ⟨ι, σ, fr, h, hh, hf, hx, hd⟩
  | .exit id, Q, fr, σ, ι, a, w, ds, h, hh, hf, hx, hd => wp_exit ⟨ι, σ, fr, h, hh, hf, hx, hd⟩
  | .goto l, Q, fr, σ, ι, a, w, ds, h, hh, hf, hx, hd => wp_goto ⟨ι, σ, fr, h, hh, hf, hx, hd⟩
  | .ret, Q, fr, σ, ι, a, w, ds, h, hh, hf, hx, hd => wp_ret ⟨ι, σ, fr, h, hh, hf, hx, hd⟩
  | .refuse _, Q, fr, σ, ι, a, w, ds, h, hh, hf, hx, hd => h.elim
  | .rangeFunc _ _ _ _, Q, fr, σ, ι, a, w, ds, h, hh, hf, hx, hd => h.elim
  | .region id ops draw, Q, fr, σ, ι, a, w, ds, h, hh, hf, hx, hd => by
    unfold cW at h
    cases draw with
    | false => exact wp_region_list (opsW_sound (fun _ _ hp => hp) _ none fr σ ι a w h hh hf hx hd (fun q hq => by cases hq))
    | true =>
      dsimp only at h
      split at h
      · obtain ⟨hB, h⟩ := h
        refine wp_region_quiet (C := HRel W0 ι σ) hm hB hh.drew ?_
        exact qW_sound (fun fr' a' hk hf' hd' w' hw' => ⟨ι, σ, fr', hk, hw', hf', hx, hd'⟩) hh _ _ _ h hf hd
      · obtain ⟨hB, h⟩ := h
        have hops : ops = ops.toList.toArray := by simp
        rw [hops]
        refine wp_region_head_tail (C := HRel W0 ι σ) (cuts id) hm (by rw [← hops]; exact hB) hh.drew ?_
        rw [← hops]
        exact qW_sound (fun fr' a' hk hf' hd' w' hw' => opsW_sound (fun _ _ hp => hp) _ none fr' σ ι a' w' hk hw' hf' hx hd' (fun q hq => by cases hq)) hh _ _ _ h hf hd
  | .seq x y, Q, fr, σ, ι, a, w, ds, h, hh, hf, hx, hd => by
    refine wp_seq (wp_mono (cW_sound hm hl0 x _ fr σ ι a w ds h hh hf hx hd) fun e a' w' hq => ?_)
    cases e with
    | normal =>
      obtain ⟨ι', σ', fr', hk, hh', hf', hx', hd'⟩ := hq
      exact cW_sound hm hl0 y Q fr' σ' ι' a' w' ds hk hh' hf' hx' hd'
    | _ => exact hq
  | .cond c x y, Q, fr, σ, ι, a, w, ds, h, hh, hf, hx, hd => by
    unfold cW at h
    split at h
    · rename_i t ht
      have h1 := hf.eval c
      rw [ht] at h1
      have e1 : a.eval c = .bool t := h1
      exact wp_cond_split e1 (fun e => cW_sound hm hl0 x Q fr σ ι a w ds (h.1 e) hh hf hx hd) (fun e => cW_sound hm hl0 y Q fr σ ι a w ds (h.2 e) hh hf hx hd)
    · exact h.elim
  | .block id c, Q, fr, σ, ι, a, w, ds, h, hh, hf, hx, hd => by
    refine wp_block (wp_mono (cW_sound hm hl0 c _ fr σ ι a w ds h hh hf hx hd) fun e a' w' hq => ?_)
    cases e with
    | exit i =>
      obtain ⟨ι', σ', fr', hk, hrest⟩ := hq
      simp only [Exit.inBlock]
      by_cases hi : i = id
      · simp only [hi, if_true] at hk ⊢; exact ⟨ι', σ', fr', hk, hrest⟩
      · simp only [hi, if_false] at hk ⊢; exact ⟨ι', σ', fr', hk, hrest⟩
    | _ => exact hq
  | .scope c, Q, fr, σ, ι, a, w, ds, h, hh, hf, hx, hd => by
    refine wp_scope_straight (wp_mono (cW_sound hm hl0 c _ fr σ ι a w ds h hh hf hx hd) fun e a' w' hq => ?_)
    cases e with
    | goto l => obtain ⟨ι', σ', fr', hk, hrest⟩ := hq; exact hk.elim
    | _ => exact hq
  | .loop c, Q, fr, σ, ι, a, w, ds, h, hh, hf, hx, hd => by
    obtain ⟨I, m, fr0, σ1, hfo, hI, round⟩ := h.ok
    obtain ⟨ι1, hh1, hf1, hx1⟩ := hf.forget hfo hh hx hl0
    refine wp_loop_least (fun m a w => ∃ ι σ fr, I m fr σ ∧ HRel W0 ι σ w ∧ FRel ι σ n fr a ∧ Ext ι0 σ0 ι σ ∧ a.defers = ds) ⟨m, ι1, σ1, fr0, hI, hh1, hf1, hx1, hd⟩ fun m a w ⟨ι, σ, fr, hI, hh, hf, hx, hd⟩ => ?_
    refine wp_mono (cW_sound hm hl0 c _ fr σ ι a w ds (round m fr σ hI) hh hf hx hd) fun e a' w' hq => ?_
    cases e with
    | normal =>
      obtain ⟨ι', σ', fr', ⟨m', fr'', σ'', hlt, hfo', hI'⟩, hh', hf', hx', hd'⟩ := hq
      obtain ⟨ι2, hh2, hf2, hx2⟩ := hf'.forget hfo' hh' hx' hl0
      exact ⟨m', hlt, ι2, σ'', fr'', hI', hh2, hf2, hx2, hd'⟩
    | _ => exact hq
end
end Go.Proofs.Ytcclhjohpicleaa.Abs
end

section
/- The abstract logic, part K: a function by its body; what may be dropped behind it. -/
set_option linter.unusedVariables false
set_option linter.unusedSimpArgs false
namespace Go.Proofs.Ytcclhjohpicleaa.Abs
open Go Go.RowKit
/-- the values of the result variables, one behind the other -/
def resW (P : Program) (W0 : World) (fr : Fr) (σ : List Blk) : List ResultVar → (List AV → Prop) → Prop
  | [], K => K []
  | .tmp t :: rs, K => resW P W0 fr σ rs fun vs => K (fr t :: vs)
  | .cell a t :: rs, K => loadW P W0 t (fr a) σ fun v _ => resW P W0 fr σ rs fun vs => K (v :: vs)
def one2 : AV → Bool
  | .tup _ => false
  | _ => true
/-- one result as it is; several as a tuple -/
def tupA : List AV → Option AV
  | [v] => some v
  | vs => if vs.all one2 then some (.tup vs) else none
def initFr (args : List AV) : Fr := fun t => args.getD t .junk
section
variable {P : Program} {W0 : World} {ι ι0 : Loc} {σ σ0 : List Blk} {w : World} {n : Nat}
theorem rel2_of_rel3 {v : AV} {x : Value} (h1 : one2 v = true) (h : rel3 ι σ v x) : rel2 ι σ v x := by
  cases v <;> first | exact h | simp [one2] at h1
def resOne (tmps : Array Value) : ResultVar → Sem Value
  | .tmp t => pure (tmps.getD t undef)
  | .cell a t => do loadVar t (← asAddr (tmps.getD a undef))
theorem results_eq (fn : Func) (tmps : Array Value) : results fn tmps = (do let vs ← fn.results.mapM (resOne tmps); pure (if h : vs.size = 1 then vs[0] else .tuple vs)) := by
  have : resOne tmps = fun r => (match r with | .tmp t => pure (tmps.getD t undef) | .cell a t => do loadVar t (← asAddr (tmps.getD a undef)) : Sem Value) := by
    funext r; cases r <;> rfl
  rw [this]; rfl
theorem run_resList {fr : Fr} {a : Act} (hf : FRel ι σ n fr a) (hh : HRel W0 ι σ w) : ∀ (rs : List ResultVar) (K : List AV → Prop), resW P W0 fr σ rs K →
    ∃ vs xs, K vs ∧ Rels (rel3 ι σ) vs xs ∧ (rs.mapM (resOne a.tmps)).run P w = .ok xs w
  | [], K, h => ⟨[], [], h, Rels.nil, by simp⟩
  | .tmp t :: rs, K, h => by
    obtain ⟨vs, xs, hk, hr, hrun⟩ := run_resList hf hh rs _ h
    refine ⟨_, _, hk, Rels.cons (hf.2 t) hr, ?_⟩
    simp only [List.mapM_cons, Sem.run_bind, resOne, Sem.run_pure, Result.andThen_ok, hrun]
  | .cell ad t :: rs, K, h => by
    obtain ⟨v, av, h1, h2, h3⟩ := loadW_sound (P := P) h hh (hf.2 ad)
    obtain ⟨vs, xs, hk, hr, hrun⟩ := run_resList hf hh rs _ h2
    refine ⟨_, _, hk, Rels.cons h3 hr, ?_⟩
    have hl : (resOne a.tmps (.cell ad t)).run P w = .ok v w := by
      unfold resOne
      dsimp only
      generalize a.tmps.getD ad undef = x at h1
      cases x with
      | pointer p =>
        cases p with
        | none => simp [Instr.loadAt, Instr.sureAddr, stuck, Sem.run] at h1
        | some p => simpa [Instr.loadAt, Instr.sureAddr, asAddr] using h1
      | _ => simp [Instr.loadAt, Instr.sureAddr, stuck, Sem.run] at h1
    simp only [List.mapM_cons, Sem.run_bind, hl, Result.andThen_ok, hrun, Sem.run_pure]
theorem run_results {fn : Func} {fr : Fr} {a : Act} {K : Cont} (hf : FRel ι σ n fr a) (hh : HRel W0 ι σ w) (h : resW P W0 fr σ fn.results.toList fun vs => ∃ v, tupA vs = some v ∧ K v σ) :
    ∃ v x, (results fn a.tmps).run P w = .ok x w ∧ K v σ ∧ rel3 ι σ v x := by
  obtain ⟨vs, xs, ⟨v, hv, hk⟩, hr, hrun⟩ := run_resList hf hh _ _ h
  have hm : (fn.results.mapM (resOne a.tmps)).run P w = .ok xs.toArray w := by
    rw [Array.mapM_eq_mapM_toList]
    simp only [Sem.run_map, hrun, Result.andThen_ok]
  have hres : (results fn a.tmps).run P w = .ok (if h : xs.toArray.size = 1 then xs.toArray[0] else .tuple xs.toArray) w := by
    rw [results_eq]
    simp only [Sem.run_bind, Sem.run_pure, hm, Result.andThen_ok]
  unfold tupA at hv
  split at hv
  · rename_i u
    cases hv
    obtain ⟨b, m, rfl, h1, h2⟩ := hr.uncons
    obtain rfl := h2.nil_inv
    exact ⟨v, b, by rw [hres]; rfl, hk, h1⟩
  · rename_i hne
    split at hv
    · rename_i hall
      cases hv
      have hl : xs.toArray.size ≠ 1 := by
        have := hr.1
        intro h1
        simp at h1
        rw [h1] at this
        match vs, this with
        | [u], _ => exact hne u rfl
      rw [dif_neg hl] at hres
      refine ⟨_, _, hres, hk, xs, rfl, hr.mono' fun a ha b hab => rel2_of_rel3 (List.all_eq_true.1 hall a ha) hab⟩
    · cases hv
/-- Behind a function: blocks that nothing leads to any more may be dropped. -/
def FinW (b0 : Nat) (K : Cont) (v : AV) (σ : List Blk) : Prop := K v σ ∨ ∃ k, b0 ≤ k ∧ Closed k (σ.take k) ∧ bel3 k v = true ∧ K v (σ.take k)
/-- **A function by its body.** -/
theorem ACall.intro {g : FuncId} {fn : Func} {c : Code} {args : List AV} {K : Cont} (cuts : Nat → Nat) (hm : P.follows .mixedOrders = true) (hf : P.funcs[g]? = some fn) (hb : fn.body = some c) (hname : (fn.name == "runtime.NumGoroutine") = false)
    (hn : args.length ≤ fn.ntmps)
    (h : Closed σ.length σ → cW P W0 fn.ntmps σ.length cuts c (initFr args) σ fun e fr' σ' => (e = .normal ∨ e = .ret) ∧ resW P W0 fr' σ' fn.results.toList fun vs => ∃ v, tupA vs = some v ∧ FinW σ.length K v σ') :
    ACall P W0 g args σ K := by
  refine ⟨by simp [callOK, hf, hname, hb], fun ι w vs hh hr => ?_⟩
  have hvl : vs.length = args.length := hr.1.symm
  refine calls_of_wp hf hb (wp_mono (cW_sound (ι0 := ι) (σ0 := σ) hm hh.len c _ (initFr args) σ ι _ w [] (h hh.closed) hh ⟨by simp; omega, fun t => ?_⟩ (Ext.refl _ _) rfl) fun e a' w' hq => ?_)
  · unfold initFr
    rcases Nat.lt_or_ge t args.length with ht | ht
    · have ha := List.getElem?_eq_getElem ht
      obtain ⟨b, hb', hab⟩ := hr.get ha
      have htl : t < vs.length := by omega
      have h1 : args.getD t .junk = args[t] := by simp [ht]
      have h2 : (vs.toArray ++ Array.replicate (fn.ntmps - vs.toArray.size) undef).getD t undef = b := by
        rw [Array.getD_eq_getD_getElem?, Array.getElem?_append_left (by simpa using htl)]
        simp [hb']
      rw [h1, h2]; exact hab
    · have h1 : args.getD t .junk = .junk := by simp [ht]
      rw [h1]; exact trivial
  · obtain ⟨ι', σ', fr', ⟨he, hres⟩, hh', hf', hx', hd'⟩ := hq
    obtain ⟨v, x, hrun, hfin, hrel⟩ := run_results hf' hh' hres
    have key : bodyPost P fn (fun e w' => ∃ v ι' σ' av, e = .returned v ∧ K av σ' ∧ HRel W0 ι' σ' w' ∧ Ext ι σ ι' σ' ∧ rel3 ι' σ' av v) .normal a' w' := by
      refine ⟨hd', x, hrun, ?_⟩
      rcases hfin with hk | ⟨k, hbk, hcl, hbel, hk⟩
      · exact ⟨x, ι', σ', v, rfl, hk, hh', hx', hrel⟩
      · exact ⟨x, ι'.take k, σ'.take k, v, rfl, hk, hh'.take hcl, hx'.take hh.len hbk, hrel.take hbel⟩
    rcases he with rfl | rfl
    · exact key
    · exact key
end
end Go.Proofs.Ytcclhjohpicleaa.Abs
end

section
/- The abstract logic, part L: code with its types resolved, so that a walk meets numbers alone; it stands for the code. -/
set_option linter.unusedVariables false
set_option linter.unusedSimpArgs false
namespace Go.Proofs.Ytcclhjohpicleaa.Abs
open Go Go.RowKit
inductive RA where
  | t (n : Nat)
  | v (a : AV)
def RA.ev (fr : Fr) : RA → AV
  | .t n => fr n
  | .v a => a
def cA : Operand → RA
  | .tmp t => .t t
  | .const v => .v (ofV v)
  | .global g => .v (.lit (.pointer (some ⟨g, 0, none⟩)))
  | .func f => .v (.lit (.func (.func f) #[] #[]))
theorem cA_ev (fr : Fr) (x : Operand) : (cA x).ev fr = evA fr x := by cases x <;> rfl
inductive ROp where
  | mv (x : RA)
  | pick (c a b : RA)
  | alloc (e : TypeId) (zc : List AV)
  | box (e : TypeId) (x : RA)
  | build (zc : List AV) (parts : List ((Nat × Nat) × RA))
  | bslice (e esz : Nat) (len : Nat) (zc : List AV) (parts : List (Nat × RA))
  | load (s : Nat) (g : Bool) (a : RA)
  | store (s : Nat) (a v : RA)
  | nilck (x : RA)
  | binI (op : BinOp) (x y : RA)
  | binS (op : BinOp) (x y : RA)
  | binB (neg : Bool) (x y : RA)
  | nilS (neg : Bool) (x : RA)
  | nilI (neg : Bool) (x : RA)
  | nilP (neg : Bool) (x : RA)
  | eqA (neg : Bool) (ks : List CK) (x y : RA)
  | un (op : UnOp) (x : RA)
  | conv (k : IntKind) (x : RA)
  | mkfn (f : Fn) (first caps : List RA)
  | mkslice (e esz by_ : Nat) (zc : List AV) (l c : RA)
  | sliceS (x : RA) (lo hi : Option RA)
  | slice (s : Nat) (x : RA) (lo hi : Option RA)
  | sliceP (n s : Nat) (x : RA) (lo hi : Option RA)
  | faddr (off : Nat) (x : RA)
  | fld (off n : Nat) (g : Bool) (x : RA)
  | iaddrA (len s : Nat) (x i : RA)
  | iaddrS (s : Nat) (x i : RA)
  | idxA (len s : Nat) (g : Bool) (x i : RA)
  | idxS (x i : RA)
  | ext (x : RA) (i : Nat)
  | call (f : RA) (args : List RA)
  | lenS (x : RA)
  | lenL (x : RA)
  | strL (x : RA)
  | append (t e esz by_ : Nat) (s x : RA)
  | bytesR (e : TypeId) (x : RA)
  | mkmap
  | mget (kd : IntKind) (z : AV) (ok : Bool) (x i : RA)
  | mput (kd : IntKind) (x i v : RA)
  | mm (mx : Bool) (x y : RA)
  | clr (esz : Nat) (zc : List AV) (x : RA)
def fillR : List AV → List ((Nat × Nat) × AV) → Option (List AV)
  | cells, [] => some cells
  | cells, ((off, size), v) :: rest => match cellsAV v with
    | some cs => if cs.length = size ∧ off + size ≤ cells.length then fillR (cells.take off ++ cs ++ cells.drop (off + size)) rest else none
    | none => none
def loadR (W0 : World) (s : Nat) (g : Bool) (a : AV) (σ : List Blk) (K : Cont) : Prop :=
  match a with
  | .ptr b ver off => ∃ B, σ[b]? = some B ∧ B.ver = ver ∧ off + s ≤ B.cells.length ∧ K (mkAV g ((B.cells.drop off).take s)) σ
  | .lit (.pointer (some ad)) => ∃ cs : List Value, cs.length = s ∧ (∀ (j : Nat) (v : Value), cs[j]? = some v → W0.cell? (ad.add j) = some v ∧ v.oneCell' = true) ∧ ad.block < W0.heap.size ∧ K (mkAV g (cs.map .lit)) σ
  | _ => False
def storeR (s : Nat) (a v : AV) (σ : List Blk) (K : Cont) : Prop :=
  match a, cellsAV v with
  | .ptr b ver off, some cs => ∃ B, σ[b]? = some B ∧ B.ver = ver ∧ cs.length = s ∧ off + s ≤ B.cells.length ∧ K (.lit undef) (σ.set b { B with cells := B.cells.take off ++ cs ++ B.cells.drop (off + s) })
  | _, _ => False
def faddrR (off : Nat) (a : AV) (σ : List Blk) (K : Cont) : Prop :=
  match a with
  | .ptr b ver o => (∃ B, σ[b]? = some B ∧ B.ver = ver) ∧ K (.ptr b ver (o + off)) σ
  | .lit (.pointer (some ad)) => K (.lit (.pointer (some (ad.add off)))) σ
  | _ => False
def fldR (off n : Nat) (g : Bool) (a : AV) (σ : List Blk) (K : Cont) : Prop :=
  match a with
  | .agg cs => match partA g n off cs with
    | some v => K v σ
    | none => False
  | _ => False
def iaddrAR (len s : Nat) (a i : AV) (σ : List Blk) (K : Cont) : Prop :=
  match a, i with
  | .ptr b ver o, .lit (.int _ i) => (∃ B, σ[b]? = some B ∧ B.ver = ver) ∧ 0 ≤ i ∧ i < (len : Int) ∧ K (.ptr b ver (o + i.toNat * s)) σ
  | .lit (.pointer (some ad)), .lit (.int _ i) => 0 ≤ i ∧ i < (len : Int) ∧ K (.lit (.pointer (some (ad.add (i.toNat * s))))) σ
  | _, _ => False
def iaddrSR (s : Nat) (a i : AV) (σ : List Blk) (K : Cont) : Prop :=
  match a, i with
  | .sl b ver o len _, .lit (.int _ i) => (∃ B, σ[b]? = some B ∧ B.ver = ver) ∧ 0 ≤ i ∧ i < (len : Int) ∧ K (.ptr b ver (o + i.toNat * s)) σ
  | .lit (.slice (some ad) len _), .lit (.int _ i) => 0 ≤ i ∧ i < (len : Int) ∧ K (.lit (.pointer (some (ad.add (i.toNat * s))))) σ
  | _, _ => False
def idxAR (len s : Nat) (g : Bool) (a i : AV) (σ : List Blk) (K : Cont) : Prop :=
  match a, i with
  | .agg cs, .lit (.int _ i) => 0 ≤ i ∧ i < (len : Int) ∧ match partA g s (i.toNat * s) cs with
    | some v => K v σ
    | none => False
  | _, _ => False
def idxSR (a i : AV) (σ : List Blk) (K : Cont) : Prop :=
  match a, i with
  | .lit (.string s), .lit (.int _ i) => 0 ≤ i ∧ i < (s.size : Int) ∧ K (.lit (.int .u8 (s.data[i.toNat]?.getD 0).toNat)) σ
  | _, _ => False
def lenSR (x : AV) (σ : List Blk) (K : Cont) : Prop :=
  match x with
  | .lit (.string s) => K (.lit (.int .i64 s.size)) σ
  | _ => False
def lenLR (x : AV) (σ : List Blk) (K : Cont) : Prop :=
  match x with
  | .lit (.slice _ n _) => K (.lit (.int .i64 n)) σ
  | .sl b ver _ n _ => (∃ B, σ[b]? = some B ∧ B.ver = ver) ∧ K (.lit (.int .i64 n)) σ
  | _ => False
def strLR (x : AV) (σ : List Blk) (K : Cont) : Prop :=
  match x with
  | .sl b ver off n _ => ∃ B xs, σ[b]? = some B ∧ B.ver = ver ∧ off + n ≤ B.cells.length ∧ (B.cells.drop off).take n = xs.map (fun x => AV.lit (.int .u8 x)) ∧ K (.lit (.string (strOfNums xs))) σ
  | _ => False
def bytesRR (e : TypeId) (x : AV) (σ : List Blk) (K : Cont) : Prop :=
  match x with
  | .lit (.string s) => s.size ≤ maxLen ∧ ∀ cap, s.size ≤ cap → cap ≤ maxLen → K (.sl σ.length 0 0 s.size cap) (σ ++ [⟨s.data.toList.map fun b => AV.lit (.int .u8 b.toNat), 0, e, 1, false, true⟩])
  | _ => False
def intR (op : BinOp) (x y : AV) (σ : List Blk) (K : Cont) : Prop :=
  match x, y with
  | .lit (.int k a), .lit (.int k' b) => match op with
    | .shl => 0 ≤ b ∧ K (.lit (.int k (shL k a b))) σ
    | .shr => 0 ≤ b ∧ K (.lit (.int k (shR k a b))) σ
    | .add => k = k' ∧ K (.lit (.int k (k.wrap (a + b)))) σ
    | .sub => k = k' ∧ K (.lit (.int k (k.wrap (a - b)))) σ
    | .mul => k = k' ∧ K (.lit (.int k (k.wrap (a * b)))) σ
    | .quo => k = k' ∧ b ≠ 0 ∧ K (.lit (.int k (k.wrap (a.tdiv b)))) σ
    | .rem => k = k' ∧ b ≠ 0 ∧ K (.lit (.int k (a.tmod b))) σ
    | .and => k = k' ∧ K (.lit (.int k (bAnd k a b))) σ
    | .or => k = k' ∧ K (.lit (.int k (bOr k a b))) σ
    | .xor => k = k' ∧ K (.lit (.int k (bXor k a b))) σ
    | .andNot => k = k' ∧ K (.lit (.int k (bAndNot k a b))) σ
    | .eql => k = k' ∧ K (.lit (.bool (decide (a = b)))) σ
    | .neq => k = k' ∧ K (.lit (.bool (!decide (a = b)))) σ
    | .lss => k = k' ∧ K (.lit (.bool (decide (a < b)))) σ
    | .leq => k = k' ∧ K (.lit (.bool (decide (a ≤ b)))) σ
    | .gtr => k = k' ∧ K (.lit (.bool (decide (b < a)))) σ
    | .geq => k = k' ∧ K (.lit (.bool (decide (b ≤ a)))) σ
  | _, _ => False
def strR (op : BinOp) (x y : AV) (σ : List Blk) (K : Cont) : Prop :=
  match x, y with
  | .lit (.string a), .lit (.string b) => match op with
    | .add => ((a.size + b.size : Nat) : Int) ≤ 9223372036854775807 ∧ K (.lit (.string (a ++ b))) σ
    | .eql => K (.lit (.bool (a.toList == b.toList))) σ
    | .neq => K (.lit (.bool (!(a.toList == b.toList)))) σ
    | .lss => K (.lit (.bool (Op.bytesLess a.toList b.toList))) σ
    | .geq => K (.lit (.bool (!Op.bytesLess a.toList b.toList))) σ
    | _ => False
  | _, _ => False
def boolR (neg : Bool) (x y : AV) (σ : List Blk) (K : Cont) : Prop :=
  match x, y with
  | .lit (.bool a), .lit (.bool b) => K (.lit (.bool (if neg then !(a == b) else (a == b)))) σ
  | _, _ => False
def nilSR (neg : Bool) (x : AV) (σ : List Blk) (K : Cont) : Prop :=
  match x with
  | .lit (.slice a _ _) => K (.lit (.bool (if neg then !a.isNone else a.isNone))) σ
  | .sl b ver _ _ _ => (∃ B, σ[b]? = some B ∧ B.ver = ver) ∧ K (.lit (.bool neg)) σ
  | _ => False
def nilIR (neg : Bool) (x : AV) (σ : List Blk) (K : Cont) : Prop :=
  match x with
  | .lit .nilIface => K (.lit (.bool (!neg))) σ
  | .lit (.iface _ _) => K (.lit (.bool neg)) σ
  | _ => False
def nilPR (neg : Bool) (x : AV) (σ : List Blk) (K : Cont) : Prop :=
  match x with
  | .ptr b ver _ => (∃ B, σ[b]? = some B ∧ B.ver = ver) ∧ K (.lit (.bool neg)) σ
  | _ => False
def eqAR (neg : Bool) (ks : List CK) (x y : AV) (σ : List Blk) (K : Cont) : Prop :=
  match x, y with
  | .agg xs, .agg ys => match litsA xs, litsA ys with
    | some vs, some us => match eqC ks vs us with
      | some b => K (.lit (.bool (if neg then !b else b))) σ
      | none => False
    | _, _ => False
  | _, _ => False
def bndR (fr : Fr) (d : Int) : Option RA → Option Int
  | none => some d
  | some x => match x.ev fr with
    | .lit (.int _ n) => some n
    | _ => none
def sliceSR (x : AV) (lo hi : Int → Option Int) (σ : List Blk) (K : Cont) : Prop :=
  match x with
  | .lit (.string s) => match lo 0, hi s.size with
    | some l, some h => 0 ≤ l ∧ l ≤ h ∧ h ≤ (s.size : Int) ∧ K (.lit (.string (s.extract l.toNat h.toNat))) σ
    | _, _ => False
  | _ => False
def sliceR (s : Nat) (x : AV) (lo hi : Int → Option Int) (σ : List Blk) (K : Cont) : Prop :=
  match x with
  | .sl b ver o len cap => match lo 0, hi len with
    | some l, some h => ∃ B, σ[b]? = some B ∧ B.ver = ver ∧ (B.row = true → B.esz = s) ∧ 0 ≤ l ∧ l ≤ h ∧ h ≤ (cap : Int) ∧
        K (.sl b ver (if cap = l.toNat then o else o + l.toNat * s) (h.toNat - l.toNat) (cap - l.toNat)) σ
    | _, _ => False
  | .lit (.slice (some ad) len cap) => match lo 0, hi len with
    | some l, some h => 0 ≤ l ∧ l ≤ h ∧ h ≤ (cap : Int) ∧ K (.lit (.slice (some (if cap = l.toNat then ad else ad.add (l.toNat * s))) (h.toNat - l.toNat) (cap - l.toNat))) σ
    | _, _ => False
  | .lit (.slice none 0 0) => match lo 0, hi 0 with
    | some l, some h => l = 0 ∧ h = 0 ∧ K (.lit (.slice none 0 0)) σ
    | _, _ => False
  | _ => False
def slicePR (n s : Nat) (x : AV) (lo hi : Int → Option Int) (σ : List Blk) (K : Cont) : Prop :=
  match x with
  | .ptr b ver o => match lo 0, hi n with
    | some l, some h => ∃ B, σ[b]? = some B ∧ B.ver = ver ∧ B.row = false ∧ n ≤ maxLen ∧ 0 ≤ l ∧ l ≤ h ∧ h ≤ (n : Int) ∧
          K (.sl b ver (if n = l.toNat then o else o + l.toNat * s) (h.toNat - l.toNat) (n - l.toNat)) σ
    | _, _ => False
  | _ => False
def appendR (e esz by_ : Nat) (s : AV) (m : Nat) (news : List AV) (σ : List Blk) (K : Cont) : Prop :=
  match s with
  | .sl b ver off n _ =>
    ∃ B, σ[b]? = some B ∧ B.ver = ver ∧ off = 0 ∧ B.row = true ∧ B.e = e ∧ B.esz = esz ∧ 0 < esz ∧ n * esz = B.cells.length ∧ news.length = m * esz ∧ n + m ≤ maxLen ∧ (n + m) * by_ ≤ 140737488355328 ∧
      ∀ cap, n + m ≤ cap → cap ≤ maxLen → K (.sl b (ver + 1) 0 (n + m) cap) (σ.set b { B with cells := B.cells ++ news, ver := B.ver + 1, room := true })
  | .lit (.slice none 0 0) => 0 < esz ∧ news.length = m * esz ∧ m ≤ maxLen ∧ m * by_ ≤ 140737488355328 ∧ (m = 0 → K (.lit (.slice none 0 0)) σ) ∧
      (0 < m → ∀ cap, m ≤ cap → cap ≤ maxLen → K (.sl σ.length 0 0 m cap) (σ ++ [⟨news, 0, e, esz, true, true⟩]))
  | _ => False
def srcR (W0 : World) (s : Nat) (x : AV) (σ : List Blk) (Q : Nat → List AV → Prop) : Prop :=
  match x with
  | .sl b ver off m _ => ∃ B, σ[b]? = some B ∧ B.ver = ver ∧ off + m * s ≤ B.cells.length ∧ Q m ((B.cells.drop off).take (m * s))
  | .lit (.slice (some ad) m _) => ∃ cs : List Value, cs.length = m * s ∧ (∀ (j : Nat) (v : Value), cs[j]? = some v → W0.cell? (ad.add j) = some v ∧ v.oneCell' = true) ∧ ad.block < W0.heap.size ∧ Q m (cs.map .lit)
  | .lit (.slice none 0 0) => Q 0 []
  | _ => False
def mksliceR (e esz by_ : Nat) (zc : List AV) (l c : AV) (σ : List Blk) (K : Cont) : Prop :=
  match l, c with
  | .lit (.int _ l), .lit (.int _ c) => 0 ≤ l ∧ l ≤ c ∧ (by_ : Int) * c ≤ 281474976710656 ∧ c ≤ 9223372036854775807 ∧ c.toNat ≤ maxLen ∧
            K (.sl σ.length 0 0 l.toNat c.toNat) (σ ++ [⟨rep c.toNat zc, 0, e, esz, true, true⟩])
  | _, _ => False
def extR (x : AV) (i : Nat) (σ : List Blk) (K : Cont) : Prop :=
  match x with
  | .tup vs => match vs[i]? with
    | some v => K v σ
    | none => False
  | _ => False
def pickR (c a b : AV) (σ : List Blk) (K : Cont) : Prop :=
  match c with
  | .lit (.bool t) => (t = true → K a σ) ∧ (t = false → K b σ)
  | _ => False
def nilckR (x : AV) (σ : List Blk) (K : Cont) : Prop :=
  match x with
  | .ptr b ver off => (∃ B, σ[b]? = some B ∧ B.ver = ver) ∧ K (.ptr b ver off) σ
  | .lit (.pointer (some a)) => K (.lit (.pointer (some a))) σ
  | .fn (.func g) first caps => K (.fn (.func g) first caps) σ
  | .lit (.func (.func g) a b) => K (.lit (.func (.func g) a b)) σ
  | _ => False
/-! ### values are worked out as they are made -/
def fL (l : List AV) : (List AV → Prop) → Prop :=
  List.rec (motive := fun _ => (List AV → Prop) → Prop) (fun K => K []) (fun a _ ih K => ih fun l' => match a with
    | .lit v => K (.lit v :: l')
    | a => K (a :: l')) l
def fv (v : AV) (K : AV → Prop) : Prop :=
  match v with
  | .lit u => K (.lit u)
  | .agg cs => fL cs fun cs => K (.agg cs)
  | .ptr b ver off => K (.ptr b ver off)
  | .sl b ver off n c => K (.sl b ver off n c)
  | .tup vs => K (.tup vs)
  | .fn f a b => K (.fn f a b)
  | .junk => K .junk
theorem fL_eq : ∀ (l : List AV) (K : List AV → Prop), fL l K = K l
  | [], K => rfl
  | a :: l, K => by
    show (fL l fun l' => match a with
      | .lit v => K (.lit v :: l')
      | a => K (a :: l')) = _
    rw [fL_eq l]
    cases a <;> rfl
theorem fv_eq (v : AV) (K : AV → Prop) : fv v K = K v := by
  cases v <;> first | rfl | (unfold fv; exact fL_eq _ _)
/-- the blocks too are worked out where they change -/
def fS (l : List Blk) : (List Blk → Prop) → Prop :=
  List.rec (motive := fun _ => (List Blk → Prop) → Prop) (fun K => K []) (fun B _ ih K => ih fun l' => match B with
    | ⟨cs, v, e, s, r, m⟩ => fL cs fun cs' => K (⟨cs', v, e, s, r, m⟩ :: l')) l
theorem fS_eq : ∀ (l : List Blk) (K : List Blk → Prop), fS l K = K l
  | [], K => rfl
  | B :: l, K => by
    show (fS l fun l' => match B with
      | ⟨cs, v, e, s, r, m⟩ => fL cs fun cs' => K (⟨cs', v, e, s, r, m⟩ :: l')) = _
    rw [fS_eq l]
    obtain ⟨cs, v, e, s, r, m⟩ := B
    exact fL_eq _ _
theorem fv_out {v : AV} {K : AV → Prop} (h : fv v K) : K v := by rw [fv_eq] at h; exact h
def ropW (P : Program) (W0 : World) (o : ROp) (fr : Fr) (σ : List Blk) (K : Cont) : Prop :=
  match o with
  | .mv x => K (x.ev fr) σ
  | .pick c a b => pickR (c.ev fr) (a.ev fr) (b.ev fr) σ K
  | .alloc e zc => fS (σ ++ [⟨zc, 0, e, 0, false, false⟩]) fun σ' => K (.ptr σ.length 0 0) σ'
  | .box e x => boxW e (x.ev fr) σ fun v σ' => fS σ' fun σ' => K v σ'
  | .build zc parts => match fillR zc (parts.map fun p => (p.1, p.2.ev fr)) with
    | some cs => K (.agg cs) σ
    | none => False
  | .bslice e esz len zc parts => match fillR (rep len zc) (parts.map fun p => ((p.1 * esz, esz), p.2.ev fr)) with
    | some cs => fS (σ ++ [⟨cs, 0, e, esz, true, true⟩]) fun σ' => K (.sl σ.length 0 0 len len) σ'
    | none => False
  | .load s g a => loadR W0 s g (a.ev fr) σ K
  | .store s a v => storeR s (a.ev fr) (v.ev fr) σ fun v σ' => fS σ' fun σ' => K v σ'
  | .nilck x => nilckR (x.ev fr) σ K
  | .binI op x y => intR op (x.ev fr) (y.ev fr) σ K
  | .binS op x y => strR op (x.ev fr) (y.ev fr) σ K
  | .binB neg x y => boolR neg (x.ev fr) (y.ev fr) σ K
  | .nilS neg x => nilSR neg (x.ev fr) σ K
  | .nilI neg x => nilIR neg (x.ev fr) σ K
  | .nilP neg x => nilPR neg (x.ev fr) σ K
  | .eqA neg ks x y => eqAR neg ks (x.ev fr) (y.ev fr) σ K
  | .un op x => unW op (x.ev fr) σ K
  | .conv k x => match x.ev fr with
    | .lit (.int _ n) => K (.lit (.int k (k.wrap n))) σ
    | _ => False
  | .mkfn f first caps => (first.map (RA.ev fr)).all atomA = true ∧ (caps.map (RA.ev fr)).all atomA = true ∧ K (.fn f (first.map (RA.ev fr)) (caps.map (RA.ev fr))) σ
  | .mkslice e esz by_ zc l c => mksliceR e esz by_ zc (l.ev fr) (c.ev fr) σ K
  | .sliceS x lo hi => sliceSR (x.ev fr) (fun d => bndR fr d lo) (fun d => bndR fr d hi) σ K
  | .slice s x lo hi => sliceR s (x.ev fr) (fun d => bndR fr d lo) (fun d => bndR fr d hi) σ K
  | .sliceP n s x lo hi => slicePR n s (x.ev fr) (fun d => bndR fr d lo) (fun d => bndR fr d hi) σ K
  | .faddr off x => faddrR off (x.ev fr) σ K
  | .fld off n g x => fldR off n g (x.ev fr) σ K
  | .iaddrA len s x i => iaddrAR len s (x.ev fr) (i.ev fr) σ K
  | .iaddrS s x i => iaddrSR s (x.ev fr) (i.ev fr) σ K
  | .idxA len s g x i => idxAR len s g (x.ev fr) (i.ev fr) σ K
  | .idxS x i => idxSR (x.ev fr) (i.ev fr) σ K
  | .ext x i => extR (x.ev fr) i σ K
  | .call f args => fL (args.map (RA.ev fr)) fun vs => callW P W0 (f.ev fr) vs σ K
  | .lenS x => lenSR (x.ev fr) σ K
  | .lenL x => lenLR (x.ev fr) σ K
  | .strL x => strLR (x.ev fr) σ K
  | .append t e esz by_ s x => srcR W0 esz (x.ev fr) σ fun m news => appendR e esz by_ (s.ev fr) m news σ K
  | .bytesR e x => bytesRR e (x.ev fr) σ K
  | .mkmap => fS (σ ++ [⟨[], 1, 0, 2, false, false⟩]) fun σ' => K (.ptr σ.length 0 0) σ'
  | .mget kd z ok x i => mgetR kd z ok (x.ev fr) (i.ev fr) σ K
  | .mput kd x i v => mputR kd (x.ev fr) (i.ev fr) (v.ev fr) σ fun v σ' => fS σ' fun σ' => K v σ'
  | .mm mx x y => mmR mx (x.ev fr) (y.ev fr) σ K
  | .clr esz zc x => clearR esz zc (x.ev fr) σ fun v σ' => fS σ' fun σ' => K v σ'
/-- the compilation of one operation -/
def zcP (P : Program) (t : TypeId) : Option (List AV) := (zeroP P t).bind fun z => cellsAV (ofV z)
def negOf : BinOp → Option Bool
  | .eql => some false
  | .neq => some true
  | _ => none
def compBin (P : Program) (op : BinOp) (t : TypeId) (x y : Operand) : Option ROp :=
  match P.underlying t with
  | some (.int _) => some (.binI op (cA x) (cA y))
  | some .string => some (.binS op (cA x) (cA y))
  | some .bool => (negOf op).map fun n => .binB n (cA x) (cA y)
  | some (.slice _) => match y with
    | .const (.slice none 0 0) => if (sliceP P t).isSome then (negOf op).map fun n => .nilS n (cA x) else none
    | _ => none
  | some (.interface _) => match y with
    | .const .nilIface => (negOf op).map fun n => .nilI n (cA x)
    | _ => none
  | some (.pointer e) => match y with
    | .const (.pointer none) => if P.pointee t = e then (negOf op).map fun n => .nilP n (cA x) else none
    | _ => none
  | some (.struct _) | some (.array _ _) => if P.eqGuardType P.depth t = false then match flatP P 8 t with
    | some ks => (negOf op).map fun n => .eqA n ks (cA x) (cA y)
    | none => none
    else none
  | _ => none
def compParts (P : Program) (t : TypeId) : List (Nat × Operand) → Option (List ((Nat × Nat) × RA))
  | [] => some []
  | (i, x) :: rest => match placesP P t i, compParts P t rest with
    | some p, some r => some ((p, cA x) :: r)
    | _, _ => none
def rowParts (parts : List (Nat × Operand)) : List (Nat × RA) := parts.map fun p => (p.1, cA p.2)
def compOp (P : Program) (op : Op) : Option ROp :=
  match op with
  | .move x | .assign x => some (.mv (cA x))
  | .pick c a b => some (.pick (cA c) (cA a) (cA b))
  | .alloc e => (zcP P e).map fun zc => .alloc e zc
  | .box e x => some (.box e (cA x))
  | .build t parts => match zcP P t, (structP P t).isSome || (arrayP P t).isSome, compParts P t parts.toList with
    | some zc, true, some ps => some (.build zc ps)
    | _, _, _ => none
  | .buildSlice t len parts => match sliceP P t with
    | some (e, esz, _) => match zcP P e with
      | some zc => if zc.length = esz ∧ 0 < esz ∧ len * esz ≤ 16777216 ∧ len ≤ 16777216 then some (.bslice e esz len zc (rowParts parts.toList)) else none
      | none => none
    | none => none
  | .load t a => match szP P t, aggP P t with
    | some s, some g => if g = false → s = 1 then some (.load s g (cA a)) else none
    | _, _ => none
  | .store t a v => (szP P t).map fun s => .store s (cA a) (cA v)
  | .nilCheck x => some (.nilck (cA x))
  | .binOp op t x y _ => compBin P op t x y
  | .unOp op _ x => some (.un op (cA x))
  | .convert src dst x => match P.underlying src, P.underlying dst with
    | some _, some (.int k) => some (.conv k (cA x))
    | some (.slice e), some .string => match P.underlying e with
      | some (.int .u8) => some (.strL (cA x))
      | _ => none
    | some .string, some (.slice e) => match P.underlying e with
      | some (.int .u8) => some (.bytesR e (cA x))
      | _ => none
    | _, _ => none
  | .makeFunc f first caps => some (.mkfn f (first.toList.map cA) (caps.toList.map cA))
  | .makeSlice t l c => match sliceP P t with
    | some (e, esz, by_) => match zcP P e with
      | some zc => if zc.length = esz then some (.mkslice e esz by_ zc (cA l) (cA c)) else none
      | none => none
    | none => none
  | .slice t x lo hi none => match sliceP P t with
    | some (_, s, _) => some (.slice s (cA x) (lo.map cA) (hi.map cA))
    | none => match arrayP P t with
      | some (n, s) => some (.sliceP n s (cA x) (lo.map cA) (hi.map cA))
      | none => match P.underlying t with
        | some .string => some (.sliceS (cA x) (lo.map cA) (hi.map cA))
        | _ => none
  | .fieldAddr s x f => match fieldP P s f with
    | some (off, n, _) => if n ≠ 0 then some (.faddr off (cA x)) else none
    | none => none
  | .field s x f => match fieldP P s f with
    | some (off, n, g) => some (.fld off n g (cA x))
    | none => none
  | .indexAddr t x i => match arrayP P t with
    | some (len, s) => some (.iaddrA len s (cA x) (cA i))
    | none => match sliceP P t with
      | some (_, s, _) => some (.iaddrS s (cA x) (cA i))
      | none => none
  | .index t x i => match P.underlying t with
    | some .string => some (.idxS (cA x) (cA i))
    | some (.array len e) => match szP P e, aggP P e with
      | some s, some g => some (.idxA len s g (cA x) (cA i))
      | _, _ => none
    | _ => none
  | .extract x i => some (.ext (cA x) i)
  | .makeMap _ none => some .mkmap
  | .lookup t x i ok => (mapP P t).map fun p => .mget p.1 (.lit p.2) ok (cA x) (cA i)
  | .mapUpdate t m k v => (mapP P t).map fun p => .mput p.1 (cA m) (cA k) (cA v)
  | .call c => match c.callee with
    | .value f => some (.call (cA f) (c.args.toList.map cA))
    | .builtin .len => match c.args.toList, c.argTypes.toList with
      | [x], [t] => if (sliceP P t).isSome = true then some (.lenL (cA x)) else match P.underlying t with
        | some .string => some (.lenS (cA x))
        | _ => none
      | _, _ => none
    | .builtin .clear => match c.args.toList, c.argTypes.toList with
      | [x], [t] => (zcM P t).map fun p => .clr p.1 p.2 (cA x)
      | _, _ => none
    | .builtin .max => match c.args.toList with
      | [x, y] => some (.mm true (cA x) (cA y))
      | _ => none
    | .builtin .min => match c.args.toList with
      | [x, y] => some (.mm false (cA x) (cA y))
      | _ => none
    | .builtin .append => match c.args.toList, c.argTypes.toList with
      | [s, x], [t, t'] => if t = t' then match sliceP P t with
          | some (e, esz, by_) => match zeroP P e with
            | some z => if z.cells.size = esz then some (.append t e esz by_ (cA s) (cA x)) else none
            | none => none
          | none => none
        else none
      | _, _ => none
    | _ => none
  | _ => none
section
variable {P : Program} {W0 : World} {fr : Fr} {σ : List Blk} {K : Cont}
theorem zcP_inv {t : TypeId} {zc : List AV} (h : zcP P t = some zc) : ∃ z, zeroP P t = some z ∧ cellsAV (ofV z) = some zc := by
  unfold zcP at h
  exact Option.bind_eq_some_iff.1 h
theorem bnd_eq (fr : Fr) (d : Int) (x : Option Operand) : bndR fr d (x.map cA) = bndA (evA fr) d x := by
  cases x with
  | none => rfl
  | some x =>
    simp only [Option.map_some, bndR, bndA, cA_ev] <;> (generalize evA fr x = v; cases v <;> rfl)
theorem map_cA (fr : Fr) (l : List Operand) : (l.map cA).map (RA.ev fr) = l.map (evA fr) := by
  rw [List.map_map]; congr 1; funext x; exact cA_ev fr x
theorem fillR_parts {t : TypeId} : ∀ (parts : List (Nat × Operand)) (ps : List ((Nat × Nat) × RA)) (cells out : List AV), compParts P t parts = some ps → fillR cells (ps.map fun p => (p.1, p.2.ev fr)) = some out →
    fillA (placesP P t) cells (parts.map fun (i, x) => (i, evA fr x)) = some out
  | [], ps, cells, out, h, hf => by
    simp only [compParts, Option.some.injEq] at h; subst h
    exact hf
  | (i, x) :: rest, ps, cells, out, h, hf => by
    simp only [compParts] at h
    split at h
    · rename_i p r hp hr
      cases h
      obtain ⟨off, size⟩ := p
      simp only [List.map_cons, fillR, cA_ev] at hf
      simp only [List.map_cons, fillA, hp]
      cases hc : cellsAV (evA fr x) with
      | none => rw [hc] at hf; cases hf
      | some cs =>
        rw [hc] at hf
        dsimp only at hf ⊢
        split at hf
        · rename_i hcond
          rw [if_pos hcond]
          exact fillR_parts rest r _ out hr hf
        · cases hf
    · cases h
theorem fillR_row {esz : Nat} : ∀ (parts : List (Nat × Operand)) (cells out : List AV), fillR cells ((rowParts parts).map fun p => ((p.1 * esz, esz), p.2.ev fr)) = some out →
    fillA (fun i => some (i * esz, esz)) cells (parts.map fun (i, x) => (i, evA fr x)) = some out
  | [], cells, out, hf => hf
  | (i, x) :: rest, cells, out, hf => by
    simp only [rowParts, List.map_cons, fillR, cA_ev] at hf
    simp only [List.map_cons, fillA]
    cases hc : cellsAV (evA fr x) with
    | none => rw [hc] at hf; cases hf
    | some cs =>
      rw [hc] at hf
      dsimp only at hf ⊢
      split at hf
      · rename_i hcond
        rw [if_pos hcond]
        exact fillR_row rest _ out hf
      · cases hf
theorem compBin_sound {op : BinOp} {t : TypeId} {x y : Operand} {r : ROp} (h : compBin P op t x y = some r) (hr : ropW P W0 r fr σ K) : binW P op t y (evA fr x) (evA fr y) σ K := by
  have hneg : ∀ {n : Bool}, negOf op = some n → (op = .eql ∧ n = false) ∨ (op = .neq ∧ n = true) := by
    intro n hn; cases op <;> simp [negOf] at hn <;> simp [hn]
  unfold compBin at h
  split at h
  · cases h
    simp only [ropW, cA_ev] at hr
    unfold intR at hr
    split at hr
    · rename_i k a k' b h1 h2
      rw [h1, h2]
      refine And.intro (fun hn => by cases hn) ?_
      cases op <;> exact hr
    · exact hr.elim
  · cases h
    simp only [ropW, cA_ev] at hr
    unfold strR at hr
    split at hr
    · rename_i a b h1 h2
      rw [h1, h2]
      refine And.intro (fun hn => by cases hn) ?_
      cases op <;> first | exact hr | exact hr.elim
    · exact hr.elim
  · rename_i hu
    obtain ⟨n, hn, rfl⟩ := Option.map_eq_some_iff.1 h
    simp only [ropW, cA_ev] at hr
    unfold boolR at hr
    split at hr
    · rename_i a b h1 h2
      rw [h1, h2]
      refine And.intro (fun hn => by cases hn) ?_
      rcases hneg hn with ⟨rfl, rfl⟩ | ⟨rfl, rfl⟩
      · exact ⟨hu, hr⟩
      · exact ⟨hu, hr⟩
    · exact hr.elim
  · rename_i e hu
    split at h
    · split at h
      · rename_i hs
        obtain ⟨n, hn, rfl⟩ := Option.map_eq_some_iff.1 h
        simp only [ropW, cA_ev] at hr
        unfold nilSR at hr
        split at hr
        · rename_i a _ _ h1
          rw [h1]
          refine And.intro (fun hn => by cases hn) ?_
          rcases hneg hn with ⟨rfl, rfl⟩ | ⟨rfl, rfl⟩
          · exact ⟨hs, hr⟩
          · exact ⟨hs, hr⟩
        · rename_i b ver _ _ _ h1
          rw [h1]
          rcases hneg hn with ⟨rfl, rfl⟩ | ⟨rfl, rfl⟩
          · exact ⟨hr.1, hs, hr.2⟩
          · exact ⟨hr.1, hs, hr.2⟩
        · exact hr.elim
      · cases h
    · cases h
  · rename_i ms hu
    split at h
    · obtain ⟨n, hn, rfl⟩ := Option.map_eq_some_iff.1 h
      simp only [ropW, cA_ev] at hr
      unfold nilIR at hr
      split at hr
      · rename_i h1
        rw [h1]
        refine ⟨fun _ _ => ⟨_, rfl⟩, ?_⟩
        rcases hneg hn with ⟨rfl, rfl⟩ | ⟨rfl, rfl⟩
        · exact ⟨⟨_, hu⟩, hr⟩
        · exact ⟨⟨_, hu⟩, hr⟩
      · rename_i a b h1
        rw [h1]
        refine And.intro (fun hn => by cases hn) ?_
        rcases hneg hn with ⟨rfl, rfl⟩ | ⟨rfl, rfl⟩
        · exact ⟨⟨_, hu⟩, hr⟩
        · exact ⟨⟨_, hu⟩, hr⟩
      · exact hr.elim
    · cases h
  · rename_i e hu
    split at h
    · split at h
      · rename_i he
        obtain ⟨n, hn, rfl⟩ := Option.map_eq_some_iff.1 h
        simp only [ropW, cA_ev] at hr
        unfold nilPR at hr
        split at hr
        · rename_i b ver _ h1
          rw [h1]
          rcases hneg hn with ⟨rfl, rfl⟩ | ⟨rfl, rfl⟩
          · exact ⟨hr.1, by rw [he]; exact hu, hr.2⟩
          · exact ⟨hr.1, by rw [he]; exact hu, hr.2⟩
        · exact hr.elim
      · cases h
    · cases h
  all_goals first
    | (rename_i hu
       split at h
       · rename_i hg
         split at h
         · rename_i ks hks
           obtain ⟨n, hn, rfl⟩ := Option.map_eq_some_iff.1 h
           simp only [ropW, cA_ev] at hr
           unfold eqAR at hr
           split at hr
           · rename_i xs ys h1 h2
             rw [h1, h2]
             split at hr
             · rename_i vs us hvs hus
               split at hr
               · rename_i b hb
                 refine ⟨by simp [aggP, hu, isAggD], hg, ?_⟩
                 simp only [hks, hvs, hus, hb]
                 rcases hneg hn with ⟨rfl, rfl⟩ | ⟨rfl, rfl⟩
                 · exact hr
                 · exact hr
               · exact hr.elim
             · exact hr.elim
           · exact hr.elim
         · cases h
       · cases h)
    | cases h
theorem compOp_sound {op : Op} {r : ROp} (h : compOp P op = some r) (hr : ropW P W0 r fr σ K) : opW P W0 op (evA fr) σ K := by
  unfold compOp at h
  split at h
  · cases h; simpa only [ropW, opW, cA_ev] using hr
  · cases h; simpa only [ropW, opW, cA_ev] using hr
  · rename_i c a b
    cases h
    simp only [ropW, cA_ev] at hr
    unfold pickR at hr
    unfold opW
    split at hr
    · rename_i t ht
      dsimp only
      rw [ht]
      split
      · rename_i t' x y e1 e2 e3
        cases e1
        rw [e2, e3] at hr
        cases t with
        | true => exact hr.1 rfl
        | false => exact hr.2 rfl
      · rename_i t' e1 hn
        cases e1
        exact hr
      · rename_i h1 h2 h3
        first | exact (h2 _ rfl).elim | exact (h1 _ rfl).elim | exact (h3 _ rfl).elim
    · exact hr.elim
  · obtain ⟨zc, hz, rfl⟩ := Option.map_eq_some_iff.1 h
    obtain ⟨z, h1, h2⟩ := zcP_inv hz
    simp only [opW, allocW, h1, boxW, h2]
    simp only [ropW, fS_eq] at hr
    exact hr
  · cases h; simpa only [ropW, opW, cA_ev, fS_eq] using hr
  · split at h
    · rename_i zc ps hz hs hp
      cases h
      obtain ⟨z, h1, h2⟩ := zcP_inv hz
      simp only [ropW] at hr
      split at hr
      · rename_i cs hc
        simp only [opW, buildW, h1, h2, partsA]
        rw [fillR_parts _ _ _ _ hp hc]
        exact ⟨hs, hr⟩
      · exact hr.elim
    · cases h
  · split at h
    · rename_i e esz by_ hs
      split at h
      · rename_i zc hz
        split at h
        · rename_i hcond
          cases h
          obtain ⟨z, h1, h2⟩ := zcP_inv hz
          simp only [ropW] at hr
          split at hr
          · rename_i cs hc
            rw [fS_eq] at hr
            simp only [opW, buildSliceW, hs, h1, h2, partsA]
            rw [fillR_row _ _ _ hc]
            exact ⟨hcond.1, hcond.2.1, hcond.2.2.1, hcond.2.2.2, hr⟩
          · exact hr.elim
        · cases h
      · cases h
    · cases h
  · split at h
    · rename_i s g hs hg
      split at h
      · rename_i h1
        cases h
        simp only [ropW, cA_ev] at hr
        simp only [opW, loadW, hs, hg]
        unfold loadR at hr
        split at hr
        · rename_i he
          obtain ⟨B, a1, a2, a3, a4⟩ := hr
          rw [he]
          exact ⟨B, a1, a2, a3, h1, a4⟩
        · rename_i he
          obtain ⟨cs, a1, a2, a3, a4⟩ := hr
          rw [he]
          exact ⟨cs, a1, h1, a2, a3, a4⟩
        · exact hr.elim
      · cases h
    · cases h
  · obtain ⟨s, hs, rfl⟩ := Option.map_eq_some_iff.1 h
    simp only [ropW, cA_ev, fS_eq] at hr
    unfold storeR at hr
    split at hr
    · rename_i he hc
      simp only [opW, storeW, hs, he, hc]
      exact hr
    · exact hr.elim
  · cases h
    simp only [ropW, cA_ev] at hr
    exact hr
  · exact compBin_sound h hr
  · cases h; simpa only [ropW, opW, cA_ev] using hr
  · split at h
    · rename_i hs hd
      cases h
      simp only [ropW, cA_ev] at hr
      have hb := bytesC_int hs hd
      split at hr
      · rename_i he
        simp only [opW, hb, convW, hs, hd, he]
        exact hr
      · exact hr.elim
    · rename_i e hs hd
      have hb := bytesC_str hs hd
      split at h
      · rename_i hu
        cases h
        simp only [ropW, cA_ev] at hr
        unfold strLR at hr
        split at hr
        · rename_i he
          simp only [opW, hb, convW, hs, hd, he]
          exact ⟨hu, hr⟩
        · exact hr.elim
      · cases h
    · rename_i e hs hd
      have hb := bytesC_yes hs hd
      split at h
      · rename_i hu
        cases h
        simp only [ropW, cA_ev] at hr
        unfold bytesRR at hr
        split at hr
        · rename_i he
          simp only [opW, hb, bytesW, hd, he]
          exact ⟨hu, hr⟩
        · exact hr.elim
      · cases h
    · cases h
  · cases h
    simp only [ropW, map_cA] at hr
    exact hr
  · split at h
    · rename_i e esz by_ hs
      split at h
      · rename_i zc hz
        split at h
        · rename_i hl
          cases h
          obtain ⟨z, h1, h2⟩ := zcP_inv hz
          simp only [ropW, cA_ev] at hr
          unfold mksliceR at hr
          split at hr
          · rename_i e1 e2
            simp only [opW, makeSliceW, e1, e2, hs, h1, h2]
            exact ⟨hl, hr⟩
          · exact hr.elim
        · cases h
      · cases h
    · cases h
  · split at h
    · rename_i hs
      cases h
      simp only [ropW, cA_ev, bnd_eq] at hr
      unfold sliceR at hr
      split at hr
      · rename_i he
        split at hr
        · rename_i hl hhi
          simp only [opW, sliceW, he, hl, hhi, hs]
          exact hr
        · exact hr.elim
      · rename_i he
        split at hr
        · rename_i hl hhi
          simp only [opW, sliceW, he, hl, hhi, hs]
          exact hr
        · exact hr.elim
      · rename_i he
        split at hr
        · rename_i hl hhi
          simp only [opW, sliceW, he, hl, hhi, hs]
          exact hr
        · exact hr.elim
      · exact hr.elim
    · split at h
      · rename_i ha
        cases h
        simp only [ropW, cA_ev, bnd_eq] at hr
        unfold slicePR at hr
        split at hr
        · rename_i he
          split at hr
          · rename_i hl hhi
            simp only [opW, sliceW, he, hl, hhi, ha]
            exact hr
          · exact hr.elim
        · exact hr.elim
      · split at h
        · rename_i hu
          cases h
          simp only [ropW, cA_ev, bnd_eq] at hr
          unfold sliceSR at hr
          split at hr
          · rename_i s he
            split at hr
            · rename_i l hh hl hhi
              simp only [opW, sliceW, he, hl, hhi]
              exact ⟨hu, hr⟩
            · exact hr.elim
          · exact hr.elim
        · cases h
  · split at h
    · rename_i off n g hf
      split at h
      · rename_i hn
        cases h
        simp only [ropW, cA_ev] at hr
        unfold faddrR at hr
        split at hr
        · rename_i he
          simp only [opW, fieldAddrW, hf, he]
          exact ⟨hr.1, hn, hr.2⟩
        · rename_i he
          simp only [opW, fieldAddrW, hf, he]
          exact ⟨hn, hr⟩
        · exact hr.elim
      · cases h
    · cases h
  · split at h
    · rename_i off n g hf
      cases h
      simp only [ropW, cA_ev] at hr
      unfold fldR at hr
      split at hr
      · rename_i he
        simp only [opW, fieldW, hf, he]
        exact hr
      · exact hr.elim
    · cases h
  · split at h
    · rename_i len s ha
      cases h
      simp only [ropW, cA_ev] at hr
      unfold iaddrAR at hr
      split at hr
      · rename_i e1 e2
        simp only [opW, indexAddrW, e1, e2, ha]
        exact hr
      · rename_i e1 e2
        simp only [opW, indexAddrW, e1, e2, ha]
        exact hr
      · exact hr.elim
    · split at h
      · rename_i hs
        cases h
        simp only [ropW, cA_ev] at hr
        unfold iaddrSR at hr
        split at hr
        · rename_i e1 e2
          simp only [opW, indexAddrW, e1, e2, hs]
          exact hr
        · rename_i e1 e2
          simp only [opW, indexAddrW, e1, e2, hs]
          exact hr
        · exact hr.elim
      · cases h
  · split at h
    · rename_i hu
      cases h
      simp only [ropW, cA_ev] at hr
      unfold idxSR at hr
      split at hr
      · rename_i e1 e2
        simp only [opW, indexW, e1, e2]
        exact ⟨hu, hr⟩
      · exact hr.elim
    · rename_i len e hu
      split at h
      · rename_i s g hs hg
        cases h
        simp only [ropW, cA_ev] at hr
        unfold idxAR at hr
        split at hr
        · rename_i e1 e2
          simp only [opW, indexW, e1, e2, hu, hs, hg]
          exact hr
        · exact hr.elim
      · cases h
    · cases h
  · cases h
    simp only [ropW, cA_ev] at hr
    exact hr
  · cases h
    simp only [ropW, fS_eq] at hr
    exact hr
  · obtain ⟨⟨kd, z⟩, hm, rfl⟩ := Option.map_eq_some_iff.1 h
    simp only [ropW, cA_ev] at hr
    simp only [opW, lookupW, hm]
    exact hr
  · obtain ⟨⟨kd, z⟩, hm, rfl⟩ := Option.map_eq_some_iff.1 h
    simp only [ropW, cA_ev, fS_eq] at hr
    simp only [opW, mapUpdW, hm]
    exact hr
  · rename_i c
    obtain ⟨callee, args, argTypes⟩ := c
    dsimp only at h
    split at h
    · cases h
      simp only [ropW, cA_ev, map_cA, fL_eq] at hr
      exact hr
    · split at h
      · rename_i x t hx ht
        split at h
        · rename_i hs
          cases h
          simp only [ropW, cA_ev] at hr
          simp only [opW, callOpW, hx, ht]
          unfold lenW
          unfold lenLR at hr
          split at hr
          · rename_i he
            rw [he]
            exact ⟨hs, hr⟩
          · rename_i he
            rw [he]
            exact ⟨hs, hr⟩
          · exact hr.elim
        · split at h
          · rename_i hu
            cases h
            simp only [ropW, cA_ev] at hr
            simp only [opW, callOpW, hx, ht]
            unfold lenW
            unfold lenSR at hr
            split at hr
            · rename_i he
              rw [he]
              exact ⟨hu, hr⟩
            · exact hr.elim
          · cases h
      · cases h
    · split at h
      · rename_i x t hx ht
        obtain ⟨⟨esz, zc⟩, hm, rfl⟩ := Option.map_eq_some_iff.1 h
        simp only [ropW, cA_ev, fS_eq] at hr
        simp only [opW, callOpW, hx, ht, clearW, hm]
        exact hr
      · cases h
    · split at h
      · rename_i x y hx
        cases h
        simp only [ropW, cA_ev] at hr
        simp only [opW, callOpW, hx]
        exact hr
      · cases h
    · split at h
      · rename_i x y hx
        cases h
        simp only [ropW, cA_ev] at hr
        simp only [opW, callOpW, hx]
        exact hr
      · cases h
    · split at h
      · rename_i s x t t' hx ht
        split at h
        · rename_i htt
          split at h
          · rename_i e esz by_ hs
            split at h
            · rename_i z hz
              split at h
              · rename_i hzs
                cases h
                simp only [ropW, cA_ev] at hr
                simp only [opW, callOpW, hx, ht]
                refine ⟨htt, ⟨e, esz, by_, z, hs, hz, hzs⟩, ?_⟩
                have happ : ∀ m news, appendR e esz by_ (evA fr s) m news σ K → appendW P t (evA fr s) m news σ K := by
                  intro m news h
                  unfold appendR at h
                  unfold appendW
                  rw [hs]
                  split at h
                  · rename_i he; rw [he]; exact h
                  · rename_i he; rw [he]; exact h
                  · exact h.elim
                unfold srcR at hr
                unfold srcW
                rw [hs]
                split at hr
                · rename_i he
                  rw [he]
                  obtain ⟨B, a1, a2, a3, a4⟩ := hr
                  exact ⟨B, a1, a2, a3, happ _ _ a4⟩
                · rename_i he
                  rw [he]
                  obtain ⟨cs, a1, a2, a3, a4⟩ := hr
                  exact ⟨cs, a1, a2, a3, happ _ _ a4⟩
                · rename_i he
                  rw [he]
                  exact happ _ _ hr
                · exact hr.elim
              · cases h
            · cases h
          · cases h
        · cases h
      · cases h
    · cases h
  · cases h
end
end Go.Proofs.Ytcclhjohpicleaa.Abs
end

section
/- The abstract logic, part M: resolved operations, regions and statements; they stand for the program's own. -/
set_option linter.unusedVariables false
set_option linter.unusedSimpArgs false
namespace Go.Proofs.Ytcclhjohpicleaa.Abs
open Go Go.RowKit
section
variable {P : Program} {W0 : World} {fr : Fr} {σ : List Blk} {K K' : Cont}
/-- a computation that only looks has one value -/
def LD (σ : List Blk) (R : Cont → Prop) (K : Cont) : Prop := ∃ av, K av σ ∧ ∀ K' : Cont, K' av σ → R K'
theorem pickR_ld {c a b : AV} (h : pickR c a b σ K) : LD σ (pickR c a b σ) K := by
  unfold pickR at h
  split at h
  · rename_i t
    cases t with
    | true => exact ⟨_, h.1 rfl, fun K' h' => ⟨fun _ => h', fun e => by cases e⟩⟩
    | false => exact ⟨_, h.2 rfl, fun K' h' => ⟨fun e => (by cases e), fun _ => h'⟩⟩
  · exact h.elim
theorem loadR_ld {s : Nat} {g : Bool} {a : AV} (h : loadR W0 s g a σ K) : LD σ (loadR W0 s g a σ) K := by
  unfold loadR at h
  split at h
  · obtain ⟨B, h1, h2, h3, hk⟩ := h; exact ⟨_, hk, fun K' h' => ⟨B, h1, h2, h3, h'⟩⟩
  · obtain ⟨B, h1, h2, h3, hk⟩ := h; exact ⟨_, hk, fun K' h' => ⟨B, h1, h2, h3, h'⟩⟩
  · exact h.elim
theorem faddrR_ld {off : Nat} {a : AV} (h : faddrR off a σ K) : LD σ (faddrR off a σ) K := by
  unfold faddrR at h
  split at h
  · exact ⟨_, h.2, fun K' h' => ⟨h.1, h'⟩⟩
  · exact ⟨_, h, fun K' h' => h'⟩
  · exact h.elim
theorem fldR_ld {off n : Nat} {g : Bool} {a : AV} (h : fldR off n g a σ K) : LD σ (fldR off n g a σ) K := by
  unfold fldR at h
  split at h
  · split at h
    · rename_i v hv
      exact ⟨_, h, fun K' h' => by unfold fldR; dsimp only; rw [hv]; exact h'⟩
    · exact h.elim
  · exact h.elim
theorem iaddrAR_ld {len s : Nat} {a i : AV} (h : iaddrAR len s a i σ K) : LD σ (iaddrAR len s a i σ) K := by
  unfold iaddrAR at h
  split at h
  · exact ⟨_, h.2.2.2, fun K' h' => ⟨h.1, h.2.1, h.2.2.1, h'⟩⟩
  · exact ⟨_, h.2.2, fun K' h' => ⟨h.1, h.2.1, h'⟩⟩
  · exact h.elim
theorem iaddrSR_ld {s : Nat} {a i : AV} (h : iaddrSR s a i σ K) : LD σ (iaddrSR s a i σ) K := by
  unfold iaddrSR at h
  split at h
  · exact ⟨_, h.2.2.2, fun K' h' => ⟨h.1, h.2.1, h.2.2.1, h'⟩⟩
  · exact ⟨_, h.2.2, fun K' h' => ⟨h.1, h.2.1, h'⟩⟩
  · exact h.elim
theorem idxAR_ld {len s : Nat} {g : Bool} {a i : AV} (h : idxAR len s g a i σ K) : LD σ (idxAR len s g a i σ) K := by
  unfold idxAR at h
  split at h
  · obtain ⟨h1, h2, h⟩ := h
    split at h
    · rename_i v hv
      exact ⟨_, h, fun K' h' => by unfold idxAR; dsimp only; rw [hv]; exact ⟨h1, h2, h'⟩⟩
    · exact h.elim
  · exact h.elim
theorem idxSR_ld {a i : AV} (h : idxSR a i σ K) : LD σ (idxSR a i σ) K := by
  unfold idxSR at h
  split at h
  · exact ⟨_, h.2.2, fun K' h' => ⟨h.1, h.2.1, h'⟩⟩
  · exact h.elim
theorem lenSR_ld {x : AV} (h : lenSR x σ K) : LD σ (lenSR x σ) K := by
  unfold lenSR at h
  split at h
  · exact ⟨_, h, fun K' h' => h'⟩
  · exact h.elim
theorem lenLR_ld {x : AV} (h : lenLR x σ K) : LD σ (lenLR x σ) K := by
  unfold lenLR at h
  split at h
  · exact ⟨_, h, fun K' h' => h'⟩
  · exact ⟨_, h.2, fun K' h' => ⟨h.1, h'⟩⟩
  · exact h.elim
theorem strLR_ld {x : AV} (h : strLR x σ K) : LD σ (strLR x σ) K := by
  unfold strLR at h
  split at h
  · obtain ⟨B, xs, h1, h2, h3, h4, hk⟩ := h
    exact ⟨_, hk, fun K' h' => ⟨B, xs, h1, h2, h3, h4, h'⟩⟩
  · exact h.elim
theorem mgetR_ld {kd : IntKind} {z : AV} {ok : Bool} {x i : AV} (h : mgetR kd z ok x i σ K) : LD σ (mgetR kd z ok x i σ) K := by
  unfold mgetR at h
  split at h
  · obtain ⟨B, h1, h2, h3, h4, r, h5, hk⟩ := h
    exact ⟨_, hk, fun K' h' => ⟨B, h1, h2, h3, h4, r, h5, h'⟩⟩
  · exact h.elim
theorem mmR_ld {mx : Bool} {x y : AV} (h : mmR mx x y σ K) : LD σ (mmR mx x y σ) K := by
  unfold mmR at h
  split at h
  · exact ⟨_, h, fun K' h' => h'⟩
  · exact h.elim
theorem intR_ld {op : BinOp} {x y : AV} (h : intR op x y σ K) : LD σ (intR op x y σ) K := by
  unfold intR at h
  split at h
  · cases op <;> first
      | exact ⟨_, h.2.2, fun K' h' => ⟨h.1, h.2.1, h'⟩⟩
      | exact ⟨_, h.2, fun K' h' => ⟨h.1, h'⟩⟩
  · exact h.elim
theorem strR_ld {op : BinOp} {x y : AV} (h : strR op x y σ K) : LD σ (strR op x y σ) K := by
  unfold strR at h
  split at h
  · cases op <;> first
      | exact h.elim
      | exact ⟨_, h, fun K' h' => h'⟩
      | exact ⟨_, h.2, fun K' h' => ⟨h.1, h'⟩⟩
  · exact h.elim
theorem boolR_ld {neg : Bool} {x y : AV} (h : boolR neg x y σ K) : LD σ (boolR neg x y σ) K := by
  unfold boolR at h
  split at h
  · exact ⟨_, h, fun K' h' => h'⟩
  · exact h.elim
theorem nilSR_ld {neg : Bool} {x : AV} (h : nilSR neg x σ K) : LD σ (nilSR neg x σ) K := by
  unfold nilSR at h
  split at h
  · exact ⟨_, h, fun K' h' => h'⟩
  · exact ⟨_, h.2, fun K' h' => ⟨h.1, h'⟩⟩
  · exact h.elim
theorem nilIR_ld {neg : Bool} {x : AV} (h : nilIR neg x σ K) : LD σ (nilIR neg x σ) K := by
  unfold nilIR at h
  split at h
  · exact ⟨_, h, fun K' h' => h'⟩
  · exact ⟨_, h, fun K' h' => h'⟩
  · exact h.elim
theorem nilPR_ld {neg : Bool} {x : AV} (h : nilPR neg x σ K) : LD σ (nilPR neg x σ) K := by
  unfold nilPR at h
  split at h
  · exact ⟨_, h.2, fun K' h' => ⟨h.1, h'⟩⟩
  · exact h.elim
theorem eqAR_ld {neg : Bool} {ks : List CK} {x y : AV} (h : eqAR neg ks x y σ K) : LD σ (eqAR neg ks x y σ) K := by
  unfold eqAR at h
  split at h
  · split at h
    · rename_i vs us e1 e2
      split at h
      · rename_i b hb
        exact ⟨_, h, fun K' h' => by unfold eqAR; dsimp only; rw [e1, e2]; dsimp only; rw [hb]; exact h'⟩
      · exact h.elim
    · exact h.elim
  · exact h.elim
theorem extR_ld {x : AV} {i : Nat} (h : extR x i σ K) : LD σ (extR x i σ) K := by
  unfold extR at h
  split at h
  · split at h
    · rename_i v hv
      exact ⟨_, h, fun K' h' => by unfold extR; dsimp only; rw [hv]; exact h'⟩
    · exact h.elim
  · exact h.elim
theorem nilckR_ld {x : AV} (h : nilckR x σ K) : LD σ (nilckR x σ) K := by
  unfold nilckR at h
  split at h
  · exact ⟨_, h.2, fun K' h' => ⟨h.1, h'⟩⟩
  · exact ⟨_, h, fun K' h' => h'⟩
  · exact ⟨_, h, fun K' h' => h'⟩
  · exact ⟨_, h, fun K' h' => h'⟩
  · exact h.elim
theorem sliceSR_ld {x : AV} {lo hi : Int → Option Int} (h : sliceSR x lo hi σ K) : LD σ (sliceSR x lo hi σ) K := by
  unfold sliceSR at h
  split at h
  · split at h
    · rename_i l hh e1 e2
      obtain ⟨a1, a2, a3, hk⟩ := h
      exact ⟨_, hk, fun K' h' => by unfold sliceSR; dsimp only; rw [e1, e2]; exact ⟨a1, a2, a3, h'⟩⟩
    · exact h.elim
  · exact h.elim
theorem sliceR_ld {s : Nat} {x : AV} {lo hi : Int → Option Int} (h : sliceR s x lo hi σ K) : LD σ (sliceR s x lo hi σ) K := by
  unfold sliceR at h
  split at h
  · split at h
    · rename_i l hh e1 e2
      obtain ⟨B, b1, b2, b3, a1, a2, a3, hk⟩ := h
      exact ⟨_, hk, fun K' h' => by unfold sliceR; dsimp only; rw [e1, e2]; exact ⟨B, b1, b2, b3, a1, a2, a3, h'⟩⟩
    · exact h.elim
  · split at h
    · rename_i l hh e1 e2
      obtain ⟨a1, a2, a3, hk⟩ := h
      exact ⟨_, hk, fun K' h' => by unfold sliceR; dsimp only; rw [e1, e2]; exact ⟨a1, a2, a3, h'⟩⟩
    · exact h.elim
  · split at h
    · rename_i l hh e1 e2
      obtain ⟨a1, a2, hk⟩ := h
      exact ⟨_, hk, fun K' h' => by unfold sliceR; (try dsimp only); rw [e1, e2]; exact ⟨a1, a2, h'⟩⟩
    · exact h.elim
  · exact h.elim
theorem slicePR_ld {n s : Nat} {x : AV} {lo hi : Int → Option Int} (h : slicePR n s x lo hi σ K) : LD σ (slicePR n s x lo hi σ) K := by
  unfold slicePR at h
  split at h
  · split at h
    · rename_i l hh e1 e2
      obtain ⟨B, b1, b2, b3, a0, a1, a2, a3, hk⟩ := h
      exact ⟨_, hk, fun K' h' => by unfold slicePR; dsimp only; rw [e1, e2]; exact ⟨B, b1, b2, b3, a0, a1, a2, a3, h'⟩⟩
    · exact h.elim
  · exact h.elim
theorem unW_ld {op : UnOp} {x : AV} (h : unW op x σ K) : LD σ (unW op x σ) K := by
  unfold unW at h
  split at h
  · exact ⟨_, h, fun K' h' => h'⟩
  · exact ⟨_, h, fun K' h' => h'⟩
  · exact ⟨_, h, fun K' h' => h'⟩
  · exact h.elim
def looksR : ROp → Bool
  | .alloc _ _ | .box _ _ | .bslice _ _ _ _ _ | .store _ _ _ | .mkslice _ _ _ _ _ _ | .call _ _ | .append _ _ _ _ _ _ | .bytesR _ _ | .mkmap | .mput _ _ _ _ | .clr _ _ _ => false
  | _ => true
theorem ropW_ld {o : ROp} (hl : looksR o = true) (h : ropW P W0 o fr σ K) : LD σ (ropW P W0 o fr σ) K := by
  cases o with
  | build zc parts =>
    simp only [ropW] at h
    split at h
    · rename_i he
      exact ⟨_, h, fun K' h' => by (simp only [ropW]; rw [he]; exact h')⟩
    · exact h.elim
  | conv k x =>
    simp only [ropW] at h
    split at h
    · rename_i he
      exact ⟨_, h, fun K' h' => by (simp only [ropW]; rw [he]; exact h')⟩
    · exact h.elim
  | sliceS x lo hi => exact sliceSR_ld (lo := fun d => bndR fr d lo) (hi := fun d => bndR fr d hi) h
  | slice s x lo hi => exact sliceR_ld (lo := fun d => bndR fr d lo) (hi := fun d => bndR fr d hi) h
  | sliceP n s x lo hi => exact slicePR_ld (lo := fun d => bndR fr d lo) (hi := fun d => bndR fr d hi) h
  | _ => first
    | (simp [looksR] at hl; done)
    | exact ⟨_, h, fun K' h' => h'⟩
    | exact pickR_ld h
    | exact loadR_ld h
    | exact faddrR_ld h
    | exact fldR_ld h
    | exact iaddrAR_ld h
    | exact iaddrSR_ld h
    | exact idxAR_ld h
    | exact idxSR_ld h
    | exact lenSR_ld h
    | exact lenLR_ld h
    | exact strLR_ld h
    | exact mgetR_ld h
    | exact mmR_ld h
    | exact intR_ld h
    | exact strR_ld h
    | exact boolR_ld h
    | exact nilSR_ld h
    | exact nilIR_ld h
    | exact nilPR_ld h
    | exact eqAR_ld h
    | exact extR_ld h
    | exact nilckR_ld h
    | exact unW_ld h
    | (obtain ⟨a1, a2, hk⟩ := h
       exact ⟨_, hk, fun K' h' => ⟨a1, a2, h'⟩⟩)
theorem callW_mono {f : AV} {args : List AV} (h : callW P W0 f args σ K) (hk : ∀ v σ', K v σ' → K' v σ') : callW P W0 f args σ K' := by
  unfold callW at h ⊢
  split at h
  · exact ⟨h.1, h.2.1, h.2.2.mono hk⟩
  · exact h.mono hk
  · exact h.elim
theorem appendR_mono {e esz by_ : Nat} {s : AV} {m : Nat} {news : List AV} (h : appendR e esz by_ s m news σ K) (hk : ∀ v σ', K v σ' → K' v σ') : appendR e esz by_ s m news σ K' := by
  unfold appendR at h
  split at h
  · obtain ⟨B, a1, a2, a3, a4, a5, a6, a7, a8, a9, a10, a11, h⟩ := h
    exact ⟨B, a1, a2, a3, a4, a5, a6, a7, a8, a9, a10, a11, fun c h1 h2 => hk _ _ (h c h1 h2)⟩
  · obtain ⟨a1, a2, a3, a4, h, h'⟩ := h
    exact ⟨a1, a2, a3, a4, fun e => hk _ _ (h e), fun e c h1 h2 => hk _ _ (h' e c h1 h2)⟩
  · exact h.elim
theorem ropW_mono {o : ROp} (h : ropW P W0 o fr σ K) (hk : ∀ v σ', K v σ' → K' v σ') : ropW P W0 o fr σ K' := by
  by_cases hl : looksR o = true
  · obtain ⟨av, h1, h2⟩ := ropW_ld hl h
    exact h2 _ (hk _ _ h1)
  · cases o <;> first | (exact (hl rfl).elim) | skip
    · unfold ropW at h ⊢
      simp only [fS_eq] at h ⊢
      exact hk _ _ h
    · unfold ropW boxW at h ⊢
      simp only [fS_eq] at h ⊢
      split at h
      · exact hk _ _ h
      · exact h.elim
    · unfold ropW at h ⊢
      simp only [fS_eq] at h ⊢
      split at h
      · exact hk _ _ h
      · exact h.elim
    · unfold ropW storeR at h ⊢
      simp only [fS_eq] at h ⊢
      split at h
      · obtain ⟨B, a1, a2, a3, a4, h⟩ := h
        exact ⟨B, a1, a2, a3, a4, hk _ _ h⟩
      · exact h.elim
    · unfold ropW mksliceR at h ⊢
      dsimp only at h ⊢
      split at h
      · obtain ⟨a1, a2, a3, a4, a5, h⟩ := h
        exact ⟨a1, a2, a3, a4, a5, hk _ _ h⟩
      · exact h.elim
    · unfold ropW at h ⊢
      simp only [fL_eq] at h ⊢
      exact callW_mono h hk
    · unfold ropW srcR at h ⊢
      dsimp only at h ⊢
      split at h
      · obtain ⟨B, a1, a2, a3, h⟩ := h
        exact ⟨B, a1, a2, a3, appendR_mono h hk⟩
      · obtain ⟨B, a1, a2, a3, h⟩ := h
        exact ⟨B, a1, a2, a3, appendR_mono h hk⟩
      · exact appendR_mono h hk
      · exact h.elim
    · unfold ropW bytesRR at h ⊢
      dsimp only at h ⊢
      split at h
      · exact ⟨h.1, fun cap h1 h2 => hk _ _ (h.2 cap h1 h2)⟩
      · exact h.elim
    · unfold ropW at h ⊢
      simp only [fS_eq] at h ⊢
      exact hk _ _ h
    · unfold ropW mputR at h ⊢
      simp only [fS_eq] at h ⊢
      split at h
      · obtain ⟨B, a1, a2, a3, a4, a5, cs, a6, h⟩ := h
        exact ⟨B, a1, a2, a3, a4, a5, cs, a6, hk _ _ h⟩
      · exact h.elim
    · unfold ropW clearR at h ⊢
      simp only [fS_eq] at h ⊢
      split at h
      · exact hk _ _ h
      · obtain ⟨B, a1, a2, a3, h⟩ := h
        exact ⟨B, a1, a2, a3, hk _ _ h⟩
      · exact h.elim
end
/-! ### regions -/
inductive RI where
  | op (d : Option Nat) (o : ROp)
  | grp (g : Nat) (b : Bool) (body : List (Option Nat × ROp))
  | app (d : Option Nat) (d0 e esz by_ : Nat) (s : RA) (len : Nat) (zc : List AV) (parts : List (Nat × RA))
def runB (P : Program) (W0 : World) (l : List (Option Nat × ROp)) : Fr → List Blk → (Fr → List Blk → Prop) → Prop :=
  List.rec (motive := fun _ => Fr → List Blk → (Fr → List Blk → Prop) → Prop) (fun fr σ K => K fr σ)
    (fun o _ ih fr σ K => ropW P W0 o.2 fr σ fun av σ' => fv av fun av => ih (updO fr o.1 av) σ' K) l
def skipB : List (Option Nat × ROp) → Fr → Fr
  | [], fr => fr
  | (d, _) :: rest, fr => skipB rest (updO fr d (.lit undef))
def riW (P : Program) (W0 : World) (l : List RI) : Fr → List Blk → (Fr → List Blk → Prop) → Prop :=
  List.rec (motive := fun _ => Fr → List Blk → (Fr → List Blk → Prop) → Prop) (fun fr σ K => K fr σ)
    (fun i _ ih fr σ K => match i with
      | .op d o => ropW P W0 o fr σ fun av σ' => fv av fun av => ih (updO fr d av) σ' K
      | .grp g b body => match fr g with
        | .lit (.bool t) => (t = b → runB P W0 body (upd fr g (.lit (.bool b))) σ fun fr σ => ih fr σ K) ∧ (t = !b → ih (skipB body (upd fr g (.lit (.bool (!b))))) σ K)
        | .lit _ => ih (skipB body fr) σ K
        | _ => False
      | .app d d0 e esz by_ s len zc parts => match fillR (rep len zc) (parts.map fun p => ((p.1 * esz, esz), p.2.ev fr)) with
        | some cs => appendR e esz by_ (s.ev (upd fr d0 .junk)) len cs σ fun av σ' => ih (updO (upd fr d0 .junk) d av) σ' K
        | none => False) l
section
variable {P : Program} {W0 : World} {rest : List RI} {fr : Fr} {σ : List Blk} {K : Fr → List Blk → Prop}
theorem riW_op {d : Option Nat} {o : ROp} : riW P W0 (.op d o :: rest) fr σ K = ropW P W0 o fr σ fun av σ' => fv av fun av => riW P W0 rest (updO fr d av) σ' K := rfl
theorem riW_grp {g : Nat} {b : Bool} {body : List (Option Nat × ROp)} : riW P W0 (.grp g b body :: rest) fr σ K = match fr g with
    | .lit (.bool t) => (t = b → runB P W0 body (upd fr g (.lit (.bool b))) σ fun fr σ => riW P W0 rest fr σ K) ∧ (t = !b → riW P W0 rest (skipB body (upd fr g (.lit (.bool (!b))))) σ K)
    | .lit _ => riW P W0 rest (skipB body fr) σ K
    | _ => False := rfl
theorem runB_cons {d : Option Nat} {o : ROp} {body : List (Option Nat × ROp)} : runB P W0 ((d, o) :: body) fr σ K = ropW P W0 o fr σ fun av σ' => fv av fun av => runB P W0 body (updO fr d av) σ' K := rfl
theorem runB_nil : runB P W0 [] fr σ K = K fr σ := rfl
theorem riW_app {d : Option Nat} {d0 e esz by_ : Nat} {s : RA} {len : Nat} {zc : List AV} {parts : List (Nat × RA)} : riW P W0 (.app d d0 e esz by_ s len zc parts :: rest) fr σ K = match fillR (rep len zc) (parts.map fun p => ((p.1 * esz, esz), p.2.ev fr)) with
    | some cs => appendR e esz by_ (s.ev (upd fr d0 .junk)) len cs σ fun av σ' => riW P W0 rest (updO (upd fr d0 .junk) d av) σ' K
    | none => False := rfl
end
def qOne (P : Program) (W0 : World) (o : ROp) (fr : Fr) (σ : List Blk) (K : AV → Prop) : Prop :=
  match o with
  | .call f args => ∃ av, callW P W0 (f.ev fr) (args.map (RA.ev fr)) σ (fun v σ' => v = av ∧ σ' = σ) ∧ det3 σ av ∧ K av
  | o => looksR o = true ∧ ropW P W0 o fr σ fun v σ' => σ' = σ ∧ det3 σ v ∧ K v
def qB (P : Program) (W0 : World) (l : List (Option Nat × ROp)) : Fr → List Blk → (Fr → Prop) → Prop :=
  List.rec (motive := fun _ => Fr → List Blk → (Fr → Prop) → Prop) (fun fr σ K => K fr)
    (fun o _ ih fr σ K => qOne P W0 o.2 fr σ fun av => fv av fun av => ih (updO fr o.1 av) σ K) l
def qR (P : Program) (W0 : World) (l : List RI) : Fr → List Blk → (Fr → Prop) → Prop :=
  List.rec (motive := fun _ => Fr → List Blk → (Fr → Prop) → Prop) (fun fr σ K => K fr)
    (fun i _ ih fr σ K => match i with
      | .op d o => qOne P W0 o fr σ fun av => fv av fun av => ih (updO fr d av) σ K
      | .grp g b body => match fr g with
        | .lit (.bool t) => (t = b → qB P W0 body (upd fr g (.lit (.bool b))) σ fun fr => ih fr σ K) ∧ (t = !b → ih (skipB body (upd fr g (.lit (.bool (!b))))) σ K)
        | .lit _ => ih (skipB body fr) σ K
        | _ => False
      | .app _ _ _ _ _ _ _ _ _ => False) l
theorem qR_grp {P : Program} {W0 : World} {rest : List RI} {fr : Fr} {σ : List Blk} {K : Fr → Prop} {g : Nat} {b : Bool} {body : List (Option Nat × ROp)} : qR P W0 (.grp g b body :: rest) fr σ K = match fr g with
    | .lit (.bool t) => (t = b → qB P W0 body (upd fr g (.lit (.bool b))) σ fun fr => qR P W0 rest fr σ K) ∧ (t = !b → qR P W0 rest (skipB body (upd fr g (.lit (.bool (!b))))) σ K)
    | .lit _ => qR P W0 rest (skipB body fr) σ K
    | _ => False := rfl
def dOKb (n : Nat) : Option Nat → Bool
  | some d => decide (d < n)
  | none => true
theorem dOKb_ok {n : Nat} {d : Option Nat} (h : dOKb n d = true) : dOK n d := by
  cases d with
  | none => trivial
  | some d => simpa [dOKb, dOK] using h
def addG (g : Nat) (b : Bool) (d : Option Nat) (r : ROp) : List RI → List RI
  | .grp g' b' body :: l => if g' = g ∧ b' = b ∧ d ≠ some g then .grp g b ((d, r) :: body) :: l else .grp g b [(d, r)] :: .grp g' b' body :: l
  | l => .grp g b [(d, r)] :: l
/-- whether an operation makes a row that the next one appends -/
def feeder (o : Oper) (rest : List Oper) : Bool :=
  match o.op, o.dst with
  | .buildSlice _ _ _, some d => feeds d rest && o.guard.isNone
  | _, _ => false
def appOf (P : Program) (o o2 : Oper) : Option RI :=
  match o.op, o.dst, o2.op with
  | .buildSlice t len parts, some d, .call c => match c.callee, c.args.toList, c.argTypes.toList with
    | .builtin .append, [s, .tmp d'], [t1, t2] => if d' = d ∧ t1 = t ∧ t2 = t ∧ o2.guard = none then
        match sliceP P t with
        | some (e, esz, by_) => match zcP P e with
          | some zc => if zc.length = esz ∧ len * esz ≤ 16777216 then some (.app o2.dst d e esz by_ (cA s) len zc (rowParts parts.toList)) else none
          | none => none
        | none => none
      else none
    | _, _, _ => none
  | _, _, _ => none
def compOps (P : Program) (n : Nat) (ops : Array Oper) : List Oper → Option (List RI)
  | [] => some []
  | o :: rest => if dOKb n o.dst then
      if feeder o rest then match rest with
        | [] => none
        | o2 :: rest2 => if dOKb n o2.dst then match appOf P o o2, compOps P n ops rest2 with
          | some it, some l => some (it :: l)
          | _, _ => none
          else none
      else match compOp P o.op, compOps P n ops rest with
        | some r, some l => match o.guard with
          | none => some (.op o.dst r :: l)
          | some (j, b) => match (ops[j]?).bind (·.dst) with
            | some g => some (addG g b o.dst r l)
            | none => none
        | _, _ => none
    else none
section
variable {P : Program} {W0 : World} {n : Nat} {ops : Array Oper}
theorem updO_ne {fr : Fr} {d : Option Nat} {v : AV} {g : Nat} (h : d ≠ some g) : updO fr d v g = fr g := by
  cases d with
  | none => rfl
  | some d =>
    simp only [updO, upd]
    rw [if_neg (fun e => h (by rw [e]))]
theorem upd_at {fr : Fr} {g : Nat} {v : AV} (h : fr g = v) : upd fr g v = fr := by
  funext t
  unfold upd
  split
  · rename_i e; rw [e, h]
  · rfl
theorem grp_in {fr : Fr} {g : Nat} {b t : Bool} {A : Fr → Prop} {B : Fr → Prop} (ht : fr g = .lit (.bool t)) (h : (t = b → A (upd fr g (.lit (.bool b)))) ∧ (t = !b → B (upd fr g (.lit (.bool (!b)))))) : (t = b → A fr) ∧ (t = !b → B fr) :=
  ⟨fun e => by (have h1 := h.1 e; rw [← e, upd_at ht] at h1; exact h1), fun e => by (have h1 := h.2 e; rw [← e, upd_at ht] at h1; exact h1)⟩
theorem grp_out {fr : Fr} {g : Nat} {b t : Bool} {A : Fr → Prop} {B : Fr → Prop} (ht : fr g = .lit (.bool t)) (h : (t = b → A fr) ∧ (t = !b → B fr)) : (t = b → A (upd fr g (.lit (.bool b)))) ∧ (t = !b → B (upd fr g (.lit (.bool (!b))))) :=
  ⟨fun e => by (have h1 := h.1 e; rw [← e, upd_at ht]; exact h1), fun e => by (have h1 := h.2 e; rw [← e, upd_at ht]; exact h1)⟩
theorem opsW_step {o : Oper} {rest : List Oper} {fr : Fr} {σ : List Blk} {K : Fr → List Blk → Prop} (hd : dOK n o.dst) (hf : feeder o rest = false)
    (h : guardW ops fr o.guard (opW P W0 o.op (evA fr) σ fun av σ' => opsW P W0 n ops none rest (updO fr o.dst av) σ' K) (opsW P W0 n ops none rest (updO fr o.dst (.lit undef)) σ K)) :
    opsW P W0 n ops none (o :: rest) fr σ K := by
  unfold opsW
  refine ⟨hd, ?_⟩
  split
  · rename_i t len parts d h1 h2 h3
    exfalso
    unfold feeder at hf
    rw [h1, h2] at hf
    dsimp only at hf
    rw [h2] at h3
    simp only [Option.getD_some] at h3
    rw [h3] at hf
    cases hf
  · exact h
theorem compOps_sound {K : Fr → List Blk → Prop} : ∀ (m : Nat) (l : List Oper) (is : List RI) (fr : Fr) (σ : List Blk), l.length ≤ m → compOps P n ops l = some is → riW P W0 is fr σ K → opsW P W0 n ops none l fr σ K
  | m, [], is, fr, σ, hm, hc, h => by
    simp only [compOps, Option.some.injEq] at hc; subst hc
    exact h
  | 0, o :: rest, is, fr, σ, hm, hc, h => by simp at hm
  | m + 1, o :: rest, is, fr, σ, hm, hc, h => by
    have hm' : rest.length ≤ m := by simpa using hm
    unfold compOps at hc
    split at hc
    · rename_i hd
      have hd := dOKb_ok hd
      split at hc
      · rename_i hfe
        split at hc
        · cases hc
        · rename_i o2 rest2
          split at hc
          · rename_i hd2
            have hd2 := dOKb_ok hd2
            split at hc
            · rename_i it l hit hl
              cases hc
              unfold appOf at hit
              split at hit
              · rename_i t len parts d c hop hdst hop2
                split at hit
                · rename_i s d' t1 t2 hcal hargs hts
                  split at hit
                  · rename_i hcond
                    obtain ⟨rfl, rfl, rfl, hg2⟩ := hcond
                    split at hit
                    · rename_i e esz by_ hs
                      split at hit
                      · rename_i zc hz
                        split at hit
                        · rename_i hlen
                          cases hit
                          obtain ⟨z, h1, h2⟩ := zcP_inv hz
                          rw [riW_app] at h
                          split at h
                          · rename_i cs hcs
                            unfold opsW
                            refine ⟨hd, ?_⟩
                            have hfe' : (feeds (o.dst.getD 0) (o2 :: rest2) && o.guard.isNone) = true := by
                              unfold feeder at hfe
                              rw [hop, hdst] at hfe
                              rw [hdst]
                              exact hfe
                            rw [hfe', hop, hdst]
                            dsimp only
                            unfold litRowW
                            rw [hs]
                            dsimp only
                            rw [h1]
                            dsimp only
                            rw [h2]
                            dsimp only
                            refine ⟨hlen.1, hlen.2, ?_⟩
                            unfold partsA
                            rw [fillR_row _ _ _ hcs]
                            dsimp only
                            unfold opsW
                            refine ⟨hd2, hg2, ?_⟩
                            rw [hop2]
                            dsimp only
                            rw [hcal, hargs, hts]
                            dsimp only
                            refine ⟨rfl, rfl, rfl, ?_⟩
                            have h' := appendR_mono h (K' := fun av σ' => opsW P W0 n ops none rest2 (updO (upd fr d' .junk) o2.dst av) σ' K) fun v σ' hk => compOps_sound m rest2 l _ _ (by simp at hm'; omega) hl hk
                            rw [cA_ev] at h'
                            unfold appendR at h'
                            unfold appendW
                            rw [hs]
                            split at h'
                            · rename_i he; rw [he]; exact h'
                            · rename_i he; rw [he]; exact h'
                            · exact h'.elim
                          · exact h.elim
                        · cases hit
                      · cases hit
                    · cases hit
                  · cases hit
                · cases hit
              · cases hit
            · cases hc
          · cases hc
      · rename_i hfe
        have hfe : feeder o rest = false := by simpa using hfe
        split at hc
        · rename_i r l hr hl
          refine opsW_step hd hfe ?_
          have rest_ok : ∀ fr σ, riW P W0 l fr σ K → opsW P W0 n ops none rest fr σ K := fun fr σ h => compOps_sound m rest l fr σ hm' hl h
          split at hc
          · rename_i hg
            cases hc
            rw [hg]
            rw [riW_op] at h
            exact compOp_sound hr (ropW_mono h fun v σ' hk => rest_ok _ _ (fv_out hk))
          · rename_i j b hg
            split at hc
            · rename_i g hj
              cases hc
              rw [hg]
              unfold guardW
              dsimp only
              rw [hj]
              dsimp only
              have single : riW P W0 (.grp g b [(o.dst, r)] :: l) fr σ K → match fr g with
                  | .lit (.bool t) => (t = b → opW P W0 o.op (evA fr) σ fun av σ' => opsW P W0 n ops none rest (updO fr o.dst av) σ' K) ∧ (t = !b → opsW P W0 n ops none rest (updO fr o.dst (.lit undef)) σ K)
                  | .lit _ => opsW P W0 n ops none rest (updO fr o.dst (.lit undef)) σ K
                  | _ => False := by
                intro h
                rw [riW_grp] at h
                split at h
                · rename_i t ht
                  have h := grp_in (A := fun fr => runB P W0 _ fr σ fun fr σ => riW P W0 l fr σ K) (B := fun fr => riW P W0 l (skipB _ fr) σ K) ht h
                  refine ⟨fun e => ?_, fun e => rest_ok _ _ (h.2 e)⟩
                  have h1 := h.1 e
                  simp only [runB_cons, runB_nil] at h1
                  exact compOp_sound hr (ropW_mono h1 fun v σ' hk => rest_ok _ _ (fv_out hk))
                · rename_i v hne ht
                  exact rest_ok _ _ h
                · exact h.elim
              unfold addG at h
              split at h
              · rename_i g' b' body l'
                split at h
                · rename_i hcond
                  obtain ⟨rfl, rfl, hne⟩ := hcond
                  rw [riW_grp] at h
                  split at h
                  · rename_i t ht
                    try rw [ht]
                    have h := grp_in (A := fun fr => runB P W0 _ fr σ fun fr σ => riW P W0 l' fr σ K) (B := fun fr => riW P W0 l' (skipB _ fr) σ K) ht h
                    refine ⟨fun e => compOp_sound hr (ropW_mono (runB_cons (K := fun fr σ => riW P W0 l' fr σ K) ▸ h.1 e) fun v σ' hk => rest_ok _ _ ?_), fun e => rest_ok _ _ ?_⟩
                    · have e2 : updO fr o.dst v g' = .lit (.bool t) := by rw [updO_ne hne, ht]
                      simp only [riW_grp, e2]
                      refine grp_out (A := fun fr => runB P W0 body fr σ' fun fr σ => riW P W0 l' fr σ K) (B := fun fr => riW P W0 l' (skipB body fr) σ' K) e2 ?_
                      exact ⟨fun _ => fv_out hk, fun e' => by (subst e; cases t <;> cases e')⟩
                    · have e2 : updO fr o.dst (.lit undef) g' = .lit (.bool t) := by rw [updO_ne hne, ht]
                      simp only [riW_grp, e2]
                      refine grp_out (A := fun fr => runB P W0 body fr σ fun fr σ => riW P W0 l' fr σ K) (B := fun fr => riW P W0 l' (skipB body fr) σ K) e2 ?_
                      exact ⟨fun e' => by (subst e'; cases t <;> cases e), fun _ => h.2 e⟩
                  · rename_i v hnb ht
                    try rw [ht]
                    have hrest : opsW P W0 n ops none rest (updO fr o.dst (.lit undef)) σ K := by
                      refine rest_ok _ _ ?_
                      rw [riW_grp]
                      rw [updO_ne hne, ht]
                      cases v <;> first | exact h | exact (hnb _ rfl).elim
                    cases v <;> first | exact hrest | exact (hnb _ rfl).elim
                  · exact h.elim
                · exact single h
              · exact single h
            · cases hc
        · cases hc
    · cases hc
theorem qOne_sound {o : Oper} {r : ROp} {fr : Fr} {σ : List Blk} {K : AV → Prop} (hc : compOp P o.op = some r) (h : qOne P W0 r fr σ K) : ∃ av, det3 σ av ∧ quietOp P W0 o fr σ av ∧ K av := by
  have look : ∀ (hl : looks P o.op = true) (hlr : looksR r = true), ropW P W0 r fr σ (fun v σ' => σ' = σ ∧ det3 σ v ∧ K v) → ∃ av, det3 σ av ∧ quietOp P W0 o fr σ av ∧ K av := by
    intro hl hlr h
    obtain ⟨av, ⟨_, h1, h2⟩, h3⟩ := ropW_ld hlr h
    refine ⟨av, h1, ?_, h2⟩
    unfold quietOp
    rw [hl]
    exact compOp_sound hc (h3 (fun v σ' => v = av ∧ σ' = σ) ⟨rfl, rfl⟩)
  by_cases hl : looks P o.op = true
  · have hlr : looksR r = true ∨ looksR r = false := by cases looksR r <;> simp
    rcases hlr with hlr | hlr
    · refine look hl hlr ?_
      cases r <;> first | exact h.2 | (simp [looksR] at hlr)
    · cases r <;> first | (simp [looksR] at hlr; done) | (have := h.1; rw [hlr] at this; cases this; done) | skip
      exfalso
      cases ho : o.op with
      | call c =>
        rw [ho] at hl hc
        obtain ⟨callee, args, argTypes⟩ := c
        cases callee with
        | value f => simp [looks] at hl
        | builtin b =>
          cases b <;> first | (simp [looks] at hl; done) | skip
          all_goals
            unfold compOp at hc
            dsimp only at hc
            repeat' (split at hc)
            all_goals (cases hc; done)
        | _ => simp [looks] at hl
      | slice t x lo hi max =>
        rw [ho] at hl hc
        cases max with
        | some m => simp [looks] at hl
        | none =>
          unfold compOp at hc
          dsimp only at hc
          split at hc
          · cases hc
          · split at hc
            · cases hc
            · split at hc <;> cases hc
      | binOp op t x y ty =>
        rw [ho] at hc
        simp only [compOp, compBin] at hc
        repeat' (split at hc)
        all_goals first
          | (cases hc; done)
          | (obtain ⟨n, hn, e⟩ := Option.map_eq_some_iff.1 hc; cases e; done)
      | _ =>
        rw [ho] at hl hc
        first
          | (simp [looks] at hl; done)
          | (simp only [compOp] at hc
             repeat' (split at hc)
             all_goals (cases hc; done))
          | (simp only [compOp] at hc; cases hc; done)
          | (simp only [compOp] at hc; obtain ⟨n, hn, e⟩ := Option.map_eq_some_iff.1 hc; cases e; done)
  · cases ho : o.op with
    | call c =>
      rw [ho] at hl hc
      obtain ⟨callee, args, argTypes⟩ := c
      cases callee with
      | value f =>
        simp only [compOp] at hc
        cases hc
        obtain ⟨av, h1, h2, h3⟩ := h
        refine ⟨av, h2, ?_, h3⟩
        unfold quietOp
        rw [ho]
        simp only [looks]
        simpa only [cA_ev, map_cA] using h1
      | builtin b =>
        exfalso
        cases b <;> first
          | (simp [looks] at hl; done)
          | (simp [compOp] at hc; done)
          | skip
        all_goals
          unfold compOp at hc
          dsimp only at hc
          repeat' (split at hc)
          all_goals first
            | (cases hc; done)
            | (cases hc; exact absurd h.1 (by simp [looksR]))
            | (obtain ⟨p, hp, e⟩ := Option.map_eq_some_iff.1 hc
               cases e
               exact absurd h.1 (by simp [looksR]))
      | _ => simp [compOp] at hc
    | convert src dst x =>
      exfalso
      rw [ho] at hl hc
      simp only [compOp] at hc
      simp only [looks] at hl
      split at hc
      · rename_i hs hd; rw [bytesC_int hs hd] at hl; exact hl rfl
      · rename_i hs hd; rw [bytesC_str hs hd] at hl; exact hl rfl
      · split at hc
        · cases hc; exact absurd h.1 (by simp [looksR])
        · cases hc
      · cases hc
    | _ =>
      exfalso
      rw [ho] at hl hc
      first
        | (simp [looks] at hl; done)
        | (simp [compOp] at hc; done)
        | (simp only [compOp] at hc
           repeat' (split at hc)
           all_goals first
             | (cases hc; done)
             | (cases hc; exact absurd h.1 (by simp [looksR])))
        | (simp only [compOp] at hc
           obtain ⟨n, hn, e⟩ := Option.map_eq_some_iff.1 hc
           cases e
           exact absurd h.1 (by simp [looksR]))
        | (simp only [compOp] at hc
           cases hc
           exact absurd h.1 (by simp [looksR]))
        | (rename_i max
           cases max with
           | none => first
             | (simp [looks] at hl; done)
             | (simp only [compOp] at hc
                cases hc
                exact absurd h.1 (by simp [looksR]))
           | some m => simp [compOp] at hc)
theorem qW_step {o : Oper} {rest : List Oper} {fr : Fr} {σ : List Blk} {K : Fr → Prop} (hd : dOK n o.dst)
    (h : guardW ops fr o.guard (∃ av, det3 σ av ∧ quietOp P W0 o fr σ av ∧ qW P W0 n ops rest (updO fr o.dst av) σ K) (qW P W0 n ops rest (updO fr o.dst (.lit undef)) σ K)) :
    qW P W0 n ops (o :: rest) fr σ K := by
  unfold qW
  exact ⟨hd, h⟩
theorem compOps_q {σ : List Blk} {K : Fr → Prop} : ∀ (l : List Oper) (is : List RI) (fr : Fr), compOps P n ops l = some is → qR P W0 is fr σ K → qW P W0 n ops l fr σ K
  | [], is, fr, hc, h => by
    simp only [compOps, Option.some.injEq] at hc; subst hc
    exact h
  | o :: rest, is, fr, hc, h => by
    unfold compOps at hc
    split at hc
    · rename_i hd
      have hd := dOKb_ok hd
      split at hc
      · exfalso
        split at hc
        · cases hc
        · split at hc
          · split at hc
            · rename_i it l hit hl
              cases hc
              unfold appOf at hit
              repeat' (split at hit)
              all_goals first
                | (cases hit; done)
                | (cases hit; exact h.elim)
            · cases hc
          · cases hc
      · split at hc
        · rename_i r l hr hl
          refine qW_step hd ?_
          have rest_ok : ∀ fr, qR P W0 l fr σ K → qW P W0 n ops rest fr σ K := fun fr h => compOps_q rest l fr hl h
          have one : ∀ (fr : Fr) (K' : AV → Prop), qOne P W0 r fr σ K' → (∀ av, K' av → qW P W0 n ops rest (updO fr o.dst av) σ K) → ∃ av, det3 σ av ∧ quietOp P W0 o fr σ av ∧ qW P W0 n ops rest (updO fr o.dst av) σ K :=
            fun fr K' h hk => let ⟨av, h1, h2, h3⟩ := qOne_sound hr h; ⟨av, h1, h2, hk av h3⟩
          split at hc
          · rename_i hg
            cases hc
            rw [hg]
            exact one _ _ h fun av hk => rest_ok _ (fv_out hk)
          · rename_i j b hg
            split at hc
            · rename_i g hj
              cases hc
              rw [hg]
              unfold guardW
              dsimp only
              rw [hj]
              dsimp only
              have single : qR P W0 (.grp g b [(o.dst, r)] :: l) fr σ K → match fr g with
                  | .lit (.bool t) => (t = b → ∃ av, det3 σ av ∧ quietOp P W0 o fr σ av ∧ qW P W0 n ops rest (updO fr o.dst av) σ K) ∧ (t = !b → qW P W0 n ops rest (updO fr o.dst (.lit undef)) σ K)
                  | .lit _ => qW P W0 n ops rest (updO fr o.dst (.lit undef)) σ K
                  | _ => False := by
                intro h
                rw [qR_grp] at h
                split at h
                · rename_i t ht
                  have h := grp_in (A := fun fr => qB P W0 _ fr σ fun fr => qR P W0 l fr σ K) (B := fun fr => qR P W0 l (skipB _ fr) σ K) ht h
                  exact ⟨fun e => one _ _ (h.1 e) fun av hk => rest_ok _ (fv_out hk), fun e => rest_ok _ (h.2 e)⟩
                · exact rest_ok _ h
                · exact h.elim
              unfold addG at h
              split at h
              · rename_i g' b' body l'
                split at h
                · rename_i hcond
                  obtain ⟨rfl, rfl, hne⟩ := hcond
                  rw [qR_grp] at h
                  split at h
                  · rename_i t ht
                    try rw [ht]
                    have h := grp_in (A := fun fr => qB P W0 _ fr σ fun fr => qR P W0 l' fr σ K) (B := fun fr => qR P W0 l' (skipB _ fr) σ K) ht h
                    refine ⟨fun e => one _ _ (h.1 e) fun av hk => rest_ok _ ?_, fun e => rest_ok _ ?_⟩
                    · have e2 : updO fr o.dst av g' = .lit (.bool t) := by rw [updO_ne hne, ht]
                      simp only [qR_grp, e2]
                      refine grp_out (A := fun fr => qB P W0 body fr σ fun fr => qR P W0 l' fr σ K) (B := fun fr => qR P W0 l' (skipB body fr) σ K) e2 ?_
                      exact ⟨fun _ => fv_out hk, fun e' => by (subst e; cases t <;> cases e')⟩
                    · have e2 : updO fr o.dst (.lit undef) g' = .lit (.bool t) := by rw [updO_ne hne, ht]
                      simp only [qR_grp, e2]
                      refine grp_out (A := fun fr => qB P W0 body fr σ fun fr => qR P W0 l' fr σ K) (B := fun fr => qR P W0 l' (skipB body fr) σ K) e2 ?_
                      exact ⟨fun e' => by (subst e'; cases t <;> cases e), fun _ => h.2 e⟩
                  · rename_i v hnb ht
                    try rw [ht]
                    have hrest : qW P W0 n ops rest (updO fr o.dst (.lit undef)) σ K := by
                      refine rest_ok _ ?_
                      rw [qR_grp]
                      rw [updO_ne hne, ht]
                      cases v <;> first | exact h | exact (hnb _ rfl).elim
                    cases v <;> first | exact hrest | exact (hnb _ rfl).elim
                  · exact h.elim
                · exact single h
              · exact single h
            · cases hc
        · cases hc
    · cases hc
end
end Go.Proofs.Ytcclhjohpicleaa.Abs
end

section
/- The abstract logic, part O: a region that draws its order, with a new block or a plain computation that may come up early. -/
set_option linter.unusedVariables false
set_option linter.unusedSimpArgs false
namespace Go.Proofs.Ytcclhjohpicleaa.Abs
open Go Go.RowKit
section
variable {P : Program} {W0 : World} {fr fr' : Fr} {σ : List Blk} {K K' : Cont}
/-- one value, whatever the blocks are / whatever blocks are added -/
def LP (R : List Blk → Cont → Prop) (σ : List Blk) (K : Cont) : Prop := ∃ av, K av σ ∧ ∀ (τ : List Blk) (K' : Cont), K' av τ → R τ K'
def LX (R : List Blk → Cont → Prop) (σ : List Blk) (K : Cont) : Prop := ∃ av, K av σ ∧ ∀ (τ : List Blk) (K' : Cont), K' av (σ ++ τ) → R (σ ++ τ) K'
theorem LP.lx {R : List Blk → Cont → Prop} (h : LP R σ K) : LX R σ K := let ⟨av, h1, h2⟩ := h; ⟨av, h1, fun τ K' hk => h2 _ K' hk⟩
theorem getx {b : Nat} {B : Blk} {τ : List Blk} (h : σ[b]? = some B) : (σ ++ τ)[b]? = some B := by
  rw [List.getElem?_append_left (getElem?_lt h)]; exact h
theorem curx {b ver : Nat} {τ : List Blk} (h : ∃ B, σ[b]? = some B ∧ B.ver = ver) : ∃ B, (σ ++ τ)[b]? = some B ∧ B.ver = ver :=
  let ⟨B, h1, h2⟩ := h; ⟨B, getx h1, h2⟩
theorem pickR_lp {c a b : AV} (h : pickR c a b σ K) : LP (fun σ => pickR c a b σ) σ K := by
  unfold pickR at h
  split at h
  · rename_i t
    cases t with
    | true => exact ⟨_, h.1 rfl, fun τ K' h' => ⟨fun _ => h', fun e => by cases e⟩⟩
    | false => exact ⟨_, h.2 rfl, fun τ K' h' => ⟨fun e => (by cases e), fun _ => h'⟩⟩
  · exact h.elim
theorem loadR_lx {s : Nat} {g : Bool} {a : AV} (h : loadR W0 s g a σ K) : LX (fun σ => loadR W0 s g a σ) σ K := by
  unfold loadR at h
  split at h
  · obtain ⟨B, h1, h2, h3, hk⟩ := h; exact ⟨_, hk, fun τ K' h' => ⟨B, getx h1, h2, h3, h'⟩⟩
  · obtain ⟨B, h1, h2, h3, hk⟩ := h; exact ⟨_, hk, fun τ K' h' => ⟨B, h1, h2, h3, h'⟩⟩
  · exact h.elim
theorem faddrR_lx {off : Nat} {a : AV} (h : faddrR off a σ K) : LX (fun σ => faddrR off a σ) σ K := by
  unfold faddrR at h
  split at h
  · exact ⟨_, h.2, fun τ K' h' => ⟨curx h.1, h'⟩⟩
  · exact ⟨_, h, fun τ K' h' => h'⟩
  · exact h.elim
theorem fldR_lp {off n : Nat} {g : Bool} {a : AV} (h : fldR off n g a σ K) : LP (fun σ => fldR off n g a σ) σ K := by
  unfold fldR at h
  split at h
  · split at h
    · rename_i v hv
      exact ⟨_, h, fun τ K' h' => by unfold fldR; dsimp only; rw [hv]; exact h'⟩
    · exact h.elim
  · exact h.elim
theorem iaddrAR_lx {len s : Nat} {a i : AV} (h : iaddrAR len s a i σ K) : LX (fun σ => iaddrAR len s a i σ) σ K := by
  unfold iaddrAR at h
  split at h
  · exact ⟨_, h.2.2.2, fun τ K' h' => ⟨curx h.1, h.2.1, h.2.2.1, h'⟩⟩
  · exact ⟨_, h.2.2, fun τ K' h' => ⟨h.1, h.2.1, h'⟩⟩
  · exact h.elim
theorem iaddrSR_lx {s : Nat} {a i : AV} (h : iaddrSR s a i σ K) : LX (fun σ => iaddrSR s a i σ) σ K := by
  unfold iaddrSR at h
  split at h
  · exact ⟨_, h.2.2.2, fun τ K' h' => ⟨curx h.1, h.2.1, h.2.2.1, h'⟩⟩
  · exact ⟨_, h.2.2, fun τ K' h' => ⟨h.1, h.2.1, h'⟩⟩
  · exact h.elim
theorem idxAR_lp {len s : Nat} {g : Bool} {a i : AV} (h : idxAR len s g a i σ K) : LP (fun σ => idxAR len s g a i σ) σ K := by
  unfold idxAR at h
  split at h
  · obtain ⟨h1, h2, h⟩ := h
    split at h
    · rename_i v hv
      exact ⟨_, h, fun τ K' h' => by unfold idxAR; dsimp only; rw [hv]; exact ⟨h1, h2, h'⟩⟩
    · exact h.elim
  · exact h.elim
theorem idxSR_lp {a i : AV} (h : idxSR a i σ K) : LP (fun σ => idxSR a i σ) σ K := by
  unfold idxSR at h
  split at h
  · exact ⟨_, h.2.2, fun τ K' h' => ⟨h.1, h.2.1, h'⟩⟩
  · exact h.elim
theorem lenSR_lp {x : AV} (h : lenSR x σ K) : LP (fun σ => lenSR x σ) σ K := by
  unfold lenSR at h
  split at h
  · exact ⟨_, h, fun τ K' h' => h'⟩
  · exact h.elim
theorem lenLR_lx {x : AV} (h : lenLR x σ K) : LX (fun σ => lenLR x σ) σ K := by
  unfold lenLR at h
  split at h
  · exact ⟨_, h, fun τ K' h' => h'⟩
  · exact ⟨_, h.2, fun τ K' h' => ⟨curx h.1, h'⟩⟩
  · exact h.elim
theorem strLR_lx {x : AV} (h : strLR x σ K) : LX (fun σ => strLR x σ) σ K := by
  unfold strLR at h
  split at h
  · obtain ⟨B, xs, h1, h2, h3, h4, hk⟩ := h
    exact ⟨_, hk, fun τ K' h' => ⟨B, xs, getx h1, h2, h3, h4, h'⟩⟩
  · exact h.elim
theorem mgetR_lx {kd : IntKind} {z : AV} {ok : Bool} {x i : AV} (h : mgetR kd z ok x i σ K) : LX (fun σ => mgetR kd z ok x i σ) σ K := by
  unfold mgetR at h
  split at h
  · obtain ⟨B, h1, h2, h3, h4, r, h5, hk⟩ := h
    exact ⟨_, hk, fun τ K' h' => ⟨B, getx h1, h2, h3, h4, r, h5, h'⟩⟩
  · exact h.elim
theorem mmR_lp {mx : Bool} {x y : AV} (h : mmR mx x y σ K) : LP (fun σ => mmR mx x y σ) σ K := by
  unfold mmR at h
  split at h
  · exact ⟨_, h, fun τ K' h' => h'⟩
  · exact h.elim
theorem intR_lp {op : BinOp} {x y : AV} (h : intR op x y σ K) : LP (fun σ => intR op x y σ) σ K := by
  unfold intR at h
  split at h
  · cases op <;> first
      | exact ⟨_, h.2.2, fun τ K' h' => ⟨h.1, h.2.1, h'⟩⟩
      | exact ⟨_, h.2, fun τ K' h' => ⟨h.1, h'⟩⟩
  · exact h.elim
theorem strR_lp {op : BinOp} {x y : AV} (h : strR op x y σ K) : LP (fun σ => strR op x y σ) σ K := by
  unfold strR at h
  split at h
  · cases op <;> first
      | exact h.elim
      | exact ⟨_, h, fun τ K' h' => h'⟩
      | exact ⟨_, h.2, fun τ K' h' => ⟨h.1, h'⟩⟩
  · exact h.elim
theorem boolR_lp {neg : Bool} {x y : AV} (h : boolR neg x y σ K) : LP (fun σ => boolR neg x y σ) σ K := by
  unfold boolR at h
  split at h
  · exact ⟨_, h, fun τ K' h' => h'⟩
  · exact h.elim
theorem nilSR_lx {neg : Bool} {x : AV} (h : nilSR neg x σ K) : LX (fun σ => nilSR neg x σ) σ K := by
  unfold nilSR at h
  split at h
  · exact ⟨_, h, fun τ K' h' => h'⟩
  · exact ⟨_, h.2, fun τ K' h' => ⟨curx h.1, h'⟩⟩
  · exact h.elim
theorem nilIR_lp {neg : Bool} {x : AV} (h : nilIR neg x σ K) : LP (fun σ => nilIR neg x σ) σ K := by
  unfold nilIR at h
  split at h
  · exact ⟨_, h, fun τ K' h' => h'⟩
  · exact ⟨_, h, fun τ K' h' => h'⟩
  · exact h.elim
theorem nilPR_lx {neg : Bool} {x : AV} (h : nilPR neg x σ K) : LX (fun σ => nilPR neg x σ) σ K := by
  unfold nilPR at h
  split at h
  · exact ⟨_, h.2, fun τ K' h' => ⟨curx h.1, h'⟩⟩
  · exact h.elim
theorem eqAR_lp {neg : Bool} {ks : List CK} {x y : AV} (h : eqAR neg ks x y σ K) : LP (fun σ => eqAR neg ks x y σ) σ K := by
  unfold eqAR at h
  split at h
  · split at h
    · rename_i vs us e1 e2
      split at h
      · rename_i b hb
        exact ⟨_, h, fun τ K' h' => by unfold eqAR; dsimp only; rw [e1, e2]; dsimp only; rw [hb]; exact h'⟩
      · exact h.elim
    · exact h.elim
  · exact h.elim
theorem extR_lp {x : AV} {i : Nat} (h : extR x i σ K) : LP (fun σ => extR x i σ) σ K := by
  unfold extR at h
  split at h
  · split at h
    · rename_i v hv
      exact ⟨_, h, fun τ K' h' => by unfold extR; dsimp only; rw [hv]; exact h'⟩
    · exact h.elim
  · exact h.elim
theorem nilckR_lx {x : AV} (h : nilckR x σ K) : LX (fun σ => nilckR x σ) σ K := by
  unfold nilckR at h
  split at h
  · exact ⟨_, h.2, fun τ K' h' => ⟨curx h.1, h'⟩⟩
  · exact ⟨_, h, fun τ K' h' => h'⟩
  · exact ⟨_, h, fun τ K' h' => h'⟩
  · exact ⟨_, h, fun τ K' h' => h'⟩
  · exact h.elim
theorem sliceSR_lp {x : AV} {lo hi : Int → Option Int} (h : sliceSR x lo hi σ K) : LP (fun σ => sliceSR x lo hi σ) σ K := by
  unfold sliceSR at h
  split at h
  · split at h
    · rename_i l hh e1 e2
      obtain ⟨a1, a2, a3, hk⟩ := h
      exact ⟨_, hk, fun τ K' h' => by unfold sliceSR; dsimp only; rw [e1, e2]; exact ⟨a1, a2, a3, h'⟩⟩
    · exact h.elim
  · exact h.elim
theorem sliceR_lx {s : Nat} {x : AV} {lo hi : Int → Option Int} (h : sliceR s x lo hi σ K) : LX (fun σ => sliceR s x lo hi σ) σ K := by
  unfold sliceR at h
  split at h
  · split at h
    · rename_i l hh e1 e2
      obtain ⟨B, b1, b2, b3, a1, a2, a3, hk⟩ := h
      exact ⟨_, hk, fun τ K' h' => by unfold sliceR; dsimp only; rw [e1, e2]; exact ⟨B, getx b1, b2, b3, a1, a2, a3, h'⟩⟩
    · exact h.elim
  · split at h
    · rename_i l hh e1 e2
      obtain ⟨a1, a2, a3, hk⟩ := h
      exact ⟨_, hk, fun τ K' h' => by unfold sliceR; dsimp only; rw [e1, e2]; exact ⟨a1, a2, a3, h'⟩⟩
    · exact h.elim
  · split at h
    · rename_i l hh e1 e2
      obtain ⟨a1, a2, hk⟩ := h
      exact ⟨_, hk, fun τ K' h' => by unfold sliceR; (try dsimp only); rw [e1, e2]; exact ⟨a1, a2, h'⟩⟩
    · exact h.elim
  · exact h.elim
theorem slicePR_lx {n s : Nat} {x : AV} {lo hi : Int → Option Int} (h : slicePR n s x lo hi σ K) : LX (fun σ => slicePR n s x lo hi σ) σ K := by
  unfold slicePR at h
  split at h
  · split at h
    · rename_i l hh e1 e2
      obtain ⟨B, b1, b2, b3, a0, a1, a2, a3, hk⟩ := h
      exact ⟨_, hk, fun τ K' h' => by unfold slicePR; dsimp only; rw [e1, e2]; exact ⟨B, getx b1, b2, b3, a0, a1, a2, a3, h'⟩⟩
    · exact h.elim
  · exact h.elim
theorem unW_lp {op : UnOp} {x : AV} (h : unW op x σ K) : LP (fun σ => unW op x σ) σ K := by
  unfold unW at h
  split at h
  · exact ⟨_, h, fun τ K' h' => h'⟩
  · exact ⟨_, h, fun τ K' h' => h'⟩
  · exact ⟨_, h, fun τ K' h' => h'⟩
  · exact h.elim
def pureR : ROp → Bool
  | .mv _ | .pick _ _ _ | .build _ _ | .binI _ _ _ | .binS _ _ _ | .binB _ _ _ | .nilI _ _ | .eqA _ _ _ _ | .un _ _ | .conv _ _ | .mkfn _ _ _ | .fld _ _ _ _ | .idxA _ _ _ _ _ | .idxS _ _ | .ext _ _ | .lenS _ | .sliceS _ _ _ | .mm _ _ _ => true
  | _ => false
theorem ropW_lp {o : ROp} (hp : pureR o = true) (h : ropW P W0 o fr σ K) : LP (ropW P W0 o fr) σ K := by
  cases o with
  | build zc parts =>
    simp only [ropW] at h
    split at h
    · rename_i he
      exact ⟨_, h, fun τ K' h' => by (simp only [ropW]; rw [he]; exact h')⟩
    · exact h.elim
  | conv k x =>
    simp only [ropW] at h
    split at h
    · rename_i he
      exact ⟨_, h, fun τ K' h' => by (simp only [ropW]; rw [he]; exact h')⟩
    · exact h.elim
  | sliceS x lo hi => exact sliceSR_lp (lo := fun d => bndR fr d lo) (hi := fun d => bndR fr d hi) h
  | _ => first
    | (simp [pureR] at hp; done)
    | exact ⟨_, h, fun τ K' h' => h'⟩
    | exact pickR_lp h
    | exact fldR_lp h
    | exact idxAR_lp h
    | exact idxSR_lp h
    | exact lenSR_lp h
    | exact mmR_lp h
    | exact intR_lp h
    | exact strR_lp h
    | exact boolR_lp h
    | exact nilIR_lp h
    | exact eqAR_lp h
    | exact extR_lp h
    | exact unW_lp h
    | (obtain ⟨a1, a2, hk⟩ := h
       exact ⟨_, hk, fun τ K' h' => ⟨a1, a2, h'⟩⟩)
theorem ropW_lx {o : ROp} (hl : looksR o = true) (h : ropW P W0 o fr σ K) : LX (ropW P W0 o fr) σ K := by
  by_cases hp : pureR o = true
  · exact (ropW_lp hp h).lx
  · cases o with
    | slice s x lo hi => exact sliceR_lx (lo := fun d => bndR fr d lo) (hi := fun d => bndR fr d hi) h
    | sliceP n s x lo hi => exact slicePR_lx (lo := fun d => bndR fr d lo) (hi := fun d => bndR fr d hi) h
    | _ => first
      | (simp [looksR] at hl; done)
      | (exact (hp rfl).elim)
      | exact loadR_lx h
      | exact faddrR_lx h
      | exact iaddrAR_lx h
      | exact iaddrSR_lx h
      | exact lenLR_lx h
      | exact strLR_lx h
      | exact mgetR_lx h
      | exact nilSR_lx h
      | exact nilPR_lx h
      | exact nilckR_lx h
/-! ### the slots that an operation looks at -/
def sl1 : RA → List Nat
  | .t n => [n]
  | .v _ => []
def slO : Option RA → List Nat
  | none => []
  | some x => sl1 x
def slotsR : ROp → List Nat
  | .mv x => sl1 x
  | .pick c a b => sl1 c ++ sl1 a ++ sl1 b
  | .alloc e zc => []
  | .box e x => sl1 x
  | .load s g a => sl1 a
  | .store s a v => sl1 a ++ sl1 v
  | .nilck x => sl1 x
  | .binI op x y => sl1 x ++ sl1 y
  | .binS op x y => sl1 x ++ sl1 y
  | .binB neg x y => sl1 x ++ sl1 y
  | .nilS neg x => sl1 x
  | .nilI neg x => sl1 x
  | .nilP neg x => sl1 x
  | .eqA neg ks x y => sl1 x ++ sl1 y
  | .un op x => sl1 x
  | .conv k x => sl1 x
  | .mkslice e esz by_ zc l c => sl1 l ++ sl1 c
  | .faddr off x => sl1 x
  | .fld off n g x => sl1 x
  | .iaddrA len s x i => sl1 x ++ sl1 i
  | .iaddrS s x i => sl1 x ++ sl1 i
  | .idxA len s g x i => sl1 x ++ sl1 i
  | .idxS x i => sl1 x ++ sl1 i
  | .ext x i => sl1 x
  | .lenS x => sl1 x
  | .lenL x => sl1 x
  | .strL x => sl1 x
  | .bytesR e x => sl1 x
  | .mkmap => []
  | .mget kd z ok x i => sl1 x ++ sl1 i
  | .mput kd x i v => sl1 x ++ sl1 i ++ sl1 v
  | .mm mx x y => sl1 x ++ sl1 y
  | .clr esz zc x => sl1 x
  | .append t e esz by_ s x => sl1 s ++ sl1 x
  | .build zc parts => parts.flatMap fun p => sl1 p.2
  | .bslice e esz len zc parts => parts.flatMap fun p => sl1 p.2
  | .mkfn f first caps => first.flatMap sl1 ++ caps.flatMap sl1
  | .sliceS x lo hi => sl1 x ++ slO lo ++ slO hi
  | .slice s x lo hi => sl1 x ++ slO lo ++ slO hi
  | .sliceP n s x lo hi => sl1 x ++ slO lo ++ slO hi
  | .call f args => sl1 f ++ args.flatMap sl1
theorem ev_congr {x : RA} (h : ∀ t ∈ sl1 x, fr t = fr' t) : x.ev fr = x.ev fr' := by
  cases x with
  | t n => exact h n (by simp [sl1])
  | v a => rfl
theorem evs_congr {l : List RA} (h : ∀ t ∈ l.flatMap sl1, fr t = fr' t) : l.map (RA.ev fr) = l.map (RA.ev fr') :=
  List.map_congr_left fun x hx => ev_congr fun t ht => h t (List.mem_flatMap.2 ⟨x, hx, ht⟩)
theorem bnd_congr {x : Option RA} (h : ∀ t ∈ slO x, fr t = fr' t) : (fun d => bndR fr d x) = fun d => bndR fr' d x := by
  cases x with
  | none => rfl
  | some x => funext d; simp only [bndR, ev_congr (x := x) h]
theorem ropW_congr {o : ROp} (h : ∀ t ∈ slotsR o, fr t = fr' t) : ropW P W0 o fr σ K = ropW P W0 o fr' σ K := by
  cases o with
  | mv x =>
    have e_x := ev_congr (x := x) fun t ht => h t (by simp [slotsR, ht])
    simp only [ropW, e_x]
  | pick c a b =>
    have e_c := ev_congr (x := c) fun t ht => h t (by simp [slotsR, ht])
    have e_a := ev_congr (x := a) fun t ht => h t (by simp [slotsR, ht])
    have e_b := ev_congr (x := b) fun t ht => h t (by simp [slotsR, ht])
    simp only [ropW, e_c, e_a, e_b]
  | alloc e zc =>
    simp only [ropW]
  | box e x =>
    have e_x := ev_congr (x := x) fun t ht => h t (by simp [slotsR, ht])
    simp only [ropW, e_x]
  | load s g a =>
    have e_a := ev_congr (x := a) fun t ht => h t (by simp [slotsR, ht])
    simp only [ropW, e_a]
  | store s a v =>
    have e_a := ev_congr (x := a) fun t ht => h t (by simp [slotsR, ht])
    have e_v := ev_congr (x := v) fun t ht => h t (by simp [slotsR, ht])
    simp only [ropW, e_a, e_v]
  | nilck x =>
    have e_x := ev_congr (x := x) fun t ht => h t (by simp [slotsR, ht])
    simp only [ropW, e_x]
  | binI op x y =>
    have e_x := ev_congr (x := x) fun t ht => h t (by simp [slotsR, ht])
    have e_y := ev_congr (x := y) fun t ht => h t (by simp [slotsR, ht])
    simp only [ropW, e_x, e_y]
  | binS op x y =>
    have e_x := ev_congr (x := x) fun t ht => h t (by simp [slotsR, ht])
    have e_y := ev_congr (x := y) fun t ht => h t (by simp [slotsR, ht])
    simp only [ropW, e_x, e_y]
  | binB neg x y =>
    have e_x := ev_congr (x := x) fun t ht => h t (by simp [slotsR, ht])
    have e_y := ev_congr (x := y) fun t ht => h t (by simp [slotsR, ht])
    simp only [ropW, e_x, e_y]
  | nilS neg x =>
    have e_x := ev_congr (x := x) fun t ht => h t (by simp [slotsR, ht])
    simp only [ropW, e_x]
  | nilI neg x =>
    have e_x := ev_congr (x := x) fun t ht => h t (by simp [slotsR, ht])
    simp only [ropW, e_x]
  | nilP neg x =>
    have e_x := ev_congr (x := x) fun t ht => h t (by simp [slotsR, ht])
    simp only [ropW, e_x]
  | eqA neg ks x y =>
    have e_x := ev_congr (x := x) fun t ht => h t (by simp [slotsR, ht])
    have e_y := ev_congr (x := y) fun t ht => h t (by simp [slotsR, ht])
    simp only [ropW, e_x, e_y]
  | un op x =>
    have e_x := ev_congr (x := x) fun t ht => h t (by simp [slotsR, ht])
    simp only [ropW, e_x]
  | conv k x =>
    have e_x := ev_congr (x := x) fun t ht => h t (by simp [slotsR, ht])
    simp only [ropW, e_x]
  | mkslice e esz by_ zc l c =>
    have e_l := ev_congr (x := l) fun t ht => h t (by simp [slotsR, ht])
    have e_c := ev_congr (x := c) fun t ht => h t (by simp [slotsR, ht])
    simp only [ropW, e_l, e_c]
  | faddr off x =>
    have e_x := ev_congr (x := x) fun t ht => h t (by simp [slotsR, ht])
    simp only [ropW, e_x]
  | fld off n g x =>
    have e_x := ev_congr (x := x) fun t ht => h t (by simp [slotsR, ht])
    simp only [ropW, e_x]
  | iaddrA len s x i =>
    have e_x := ev_congr (x := x) fun t ht => h t (by simp [slotsR, ht])
    have e_i := ev_congr (x := i) fun t ht => h t (by simp [slotsR, ht])
    simp only [ropW, e_x, e_i]
  | iaddrS s x i =>
    have e_x := ev_congr (x := x) fun t ht => h t (by simp [slotsR, ht])
    have e_i := ev_congr (x := i) fun t ht => h t (by simp [slotsR, ht])
    simp only [ropW, e_x, e_i]
  | idxA len s g x i =>
    have e_x := ev_congr (x := x) fun t ht => h t (by simp [slotsR, ht])
    have e_i := ev_congr (x := i) fun t ht => h t (by simp [slotsR, ht])
    simp only [ropW, e_x, e_i]
  | idxS x i =>
    have e_x := ev_congr (x := x) fun t ht => h t (by simp [slotsR, ht])
    have e_i := ev_congr (x := i) fun t ht => h t (by simp [slotsR, ht])
    simp only [ropW, e_x, e_i]
  | ext x i =>
    have e_x := ev_congr (x := x) fun t ht => h t (by simp [slotsR, ht])
    simp only [ropW, e_x]
  | lenS x =>
    have e_x := ev_congr (x := x) fun t ht => h t (by simp [slotsR, ht])
    simp only [ropW, e_x]
  | lenL x =>
    have e_x := ev_congr (x := x) fun t ht => h t (by simp [slotsR, ht])
    simp only [ropW, e_x]
  | strL x =>
    have e_x := ev_congr (x := x) fun t ht => h t (by simp [slotsR, ht])
    simp only [ropW, e_x]
  | bytesR e x =>
    have e_x := ev_congr (x := x) fun t ht => h t (by simp [slotsR, ht])
    simp only [ropW, e_x]
  | mkmap => simp only [ropW]
  | mget kd z ok x i =>
    have e_x := ev_congr (x := x) fun t ht => h t (by simp [slotsR, ht])
    have e_i := ev_congr (x := i) fun t ht => h t (by simp [slotsR, ht])
    simp only [ropW, e_x, e_i]
  | mput kd x i v =>
    have e_x := ev_congr (x := x) fun t ht => h t (by simp [slotsR, ht])
    have e_i := ev_congr (x := i) fun t ht => h t (by simp [slotsR, ht])
    have e_v := ev_congr (x := v) fun t ht => h t (by simp [slotsR, ht])
    simp only [ropW, e_x, e_i, e_v]
  | mm mx x y =>
    have e_x := ev_congr (x := x) fun t ht => h t (by simp [slotsR, ht])
    have e_y := ev_congr (x := y) fun t ht => h t (by simp [slotsR, ht])
    simp only [ropW, e_x, e_y]
  | clr esz zc x =>
    have e_x := ev_congr (x := x) fun t ht => h t (by simp [slotsR, ht])
    simp only [ropW, e_x]
  | append t e esz by_ s x =>
    have e_s := ev_congr (x := s) fun t ht => h t (by simp [slotsR, ht])
    have e_x := ev_congr (x := x) fun t ht => h t (by simp [slotsR, ht])
    simp only [ropW, e_s, e_x]
  | build zc parts =>
    have e : (parts.map fun p => (p.1, p.2.ev fr)) = parts.map fun p => (p.1, p.2.ev fr') := List.map_congr_left fun p hp => by rw [ev_congr fun t ht => h t (by simp only [slotsR]; exact List.mem_flatMap.2 ⟨p, hp, ht⟩)]
    simp only [ropW, e]
  | bslice e esz len zc parts =>
    have e : (parts.map fun p => ((p.1 * esz, esz), p.2.ev fr)) = parts.map fun p => ((p.1 * esz, esz), p.2.ev fr') := List.map_congr_left fun p hp => by rw [ev_congr fun t ht => h t (by simp only [slotsR]; exact List.mem_flatMap.2 ⟨p, hp, ht⟩)]
    simp only [ropW, e]
  | mkfn f first caps =>
    have e1 := evs_congr (l := first) fun t ht => h t (by simp only [slotsR]; exact List.mem_append_left _ ht)
    have e2 := evs_congr (l := caps) fun t ht => h t (by simp only [slotsR]; exact List.mem_append_right _ ht)
    simp only [ropW, e1, e2]
  | sliceS x lo hi =>
    have e1 := ev_congr (x := x) fun t ht => h t (by simp [slotsR, ht])
    have e2 := bnd_congr (x := lo) fun t ht => h t (by simp [slotsR, ht])
    have e3 := bnd_congr (x := hi) fun t ht => h t (by simp [slotsR, ht])
    simp only [ropW, e1, e2, e3]
  | slice s x lo hi =>
    have e1 := ev_congr (x := x) fun t ht => h t (by simp [slotsR, ht])
    have e2 := bnd_congr (x := lo) fun t ht => h t (by simp [slotsR, ht])
    have e3 := bnd_congr (x := hi) fun t ht => h t (by simp [slotsR, ht])
    simp only [ropW, e1, e2, e3]
  | sliceP n s x lo hi =>
    have e1 := ev_congr (x := x) fun t ht => h t (by simp [slotsR, ht])
    have e2 := bnd_congr (x := lo) fun t ht => h t (by simp [slotsR, ht])
    have e3 := bnd_congr (x := hi) fun t ht => h t (by simp [slotsR, ht])
    simp only [ropW, e1, e2, e3]
  | call f args =>
    have e1 := ev_congr (x := f) fun t ht => h t (by simp only [slotsR]; exact List.mem_append_left _ ht)
    have e2 := evs_congr (l := args) fun t ht => h t (by simp only [slotsR]; exact List.mem_append_right _ ht)
    simp only [ropW, e1, e2]
end
end Go.Proofs.Ytcclhjohpicleaa.Abs
end

section
/- The abstract logic, part Q: a region that draws its order: its head may be taken in the order of the text. -/
set_option linter.unusedVariables false
set_option linter.unusedSimpArgs false
namespace Go.Proofs.Ytcclhjohpicleaa.Abs
open Go Go.RowKit
abbrev DL := List (Option Nat × ROp)
theorem callW_fn {P : Program} {W0 : World} {g : FuncId} {args : List AV} {σ : List Blk} {K : Cont} (h : ACall P W0 g args σ K) : callW P W0 (.lit (.func (.func g) #[] #[])) args σ K := ⟨rfl, rfl, h⟩
/-- an operation of the head: it looks, or calls what leaves no trace -/
def hOne (P : Program) (W0 : World) (o : ROp) (fr : Fr) (σ : List Blk) (K : AV → Prop) : Prop :=
  match o with
  | .call f args => fL (args.map (RA.ev fr)) fun vs => ∃ r, (∀ τ, callW P W0 (f.ev fr) vs (σ ++ τ) fun v σ' => v = r ∧ σ' = σ ++ τ) ∧ K r
  | o => looksR o = true ∧ ropW P W0 o fr σ fun v _ => K v
def stepR (P : Program) (W0 : World) (b : Bool) (o : ROp) (fr : Fr) (σ : List Blk) (K : Cont) : Prop :=
  match b with
  | true => hOne P W0 o fr σ fun v => K v σ
  | false => ropW P W0 o fr σ K
def tree (P : Program) (W0 : World) (ops : Array Oper) (L : DL) (n : Nat) (K : Fr → List Blk → Prop) : Nat → Array Bool → Fr → List Blk → Prop
  | 0, done, fr, σ => Region.ready .any ops done = [] ∧ K fr σ
  | f + 1, done, fr, σ => Region.ready .any ops done ≠ [] ∧ ∀ i ∈ Region.ready .any ops done, ∃ d o, L[i]? = some (d, o) ∧ stepR P W0 (decide (i < n)) o fr σ fun v σ' => tree P W0 ops L n K f (done.setIfInBounds i true) (updO fr d v) σ'
def apartR (dj : Option Nat) (oj : ROp) (di : Option Nat) (oi : ROp) : Bool :=
  (match dj with
    | some d => !(slotsR oi).contains d && di != some d
    | none => true) &&
  (match di with
    | some d => !(slotsR oj).contains d
    | none => true)
def freeD (ops : Array Oper) (L : DL) (done : Array Bool) (j : Nat) : Bool :=
  match L[j]? with
  | some (dj, oj) => (List.range ops.size).all fun i => i == j || done.getD i true || Region.waitsFor .any ops i j || match L[i]? with
    | some (di, oi) => apartR dj oj di oi
    | none => true
  | none => false
def allocR : ROp → Bool
  | .alloc _ _ => true
  | _ => false
def condD (ops : Array Oper) (L : DL) (n j : Nat) : Bool :=
  match L[j]? with
  | some (_, oj) => pureR oj || (List.range ops.size).all fun t => decide (t < n) || Region.waitsFor .any ops t j || match L[t]? with
    | some (_, ot) => allocR ot
    | none => false
  | none => false
def lexD (ops : Array Oper) (L : DL) (n g : Nat) : Nat → Nat → Array Bool → Bool
  | 0, k, done => Region.seqB .any ops g k done
  | f + 1, k, done => (Region.ready .any ops done).contains k && freeD ops L done k && condD ops L n k && lexD ops L n g f (k + 1) (done.setIfInBounds k true)
section
variable {P : Program} {W0 : World} {ops : Array Oper} {L : DL} {n : Nat} {K : Fr → List Blk → Prop}
theorem hOne_congr {o : ROp} {fr fr' : Fr} {σ : List Blk} {K : AV → Prop} (h : ∀ t ∈ slotsR o, fr t = fr' t) : hOne P W0 o fr σ K = hOne P W0 o fr' σ K := by
  unfold hOne
  split
  · rename_i f args
    have e1 := ev_congr (x := f) fun t ht => h t (by simp only [slotsR]; exact List.mem_append_left _ ht)
    have e2 := evs_congr (l := args) fun t ht => h t (by simp only [slotsR]; exact List.mem_append_right _ ht)
    simp only [e1, e2]
  · rw [ropW_congr h]
theorem stepR_congr {b : Bool} {o : ROp} {fr fr' : Fr} {σ : List Blk} {K : Cont} (h : ∀ t ∈ slotsR o, fr t = fr' t) : stepR P W0 b o fr σ K = stepR P W0 b o fr' σ K := by
  cases b with
  | true => exact hOne_congr h
  | false => exact ropW_congr h
/-- the value of an operation of the head stays, whatever blocks are added; a plain one's, whatever the blocks are -/
theorem hOne_inv {o : ROp} {fr : Fr} {σ : List Blk} {K : AV → Prop} (h : hOne P W0 o fr σ K) :
    ∃ v, K v ∧ ∀ (σ' : List Blk) (K' : AV → Prop), (pureR o = true ∨ ∃ τ, σ' = σ ++ τ) → K' v → hOne P W0 o fr σ' K' := by
  unfold hOne at h
  split at h
  · rename_i f args
    rw [fL_eq] at h
    obtain ⟨r, h1, h2⟩ := h
    refine ⟨r, h2, fun σ' K' hσ hk => ?_⟩
    unfold hOne
    dsimp only
    rw [fL_eq]
    rcases hσ with hp | ⟨τ, rfl⟩
    · simp [pureR] at hp
    · exact ⟨r, fun τ' => by rw [List.append_assoc]; exact h1 _, hk⟩
  · rename_i hne
    obtain ⟨hl, h⟩ := h
    by_cases hp : pureR o = true
    · obtain ⟨v, h1, h2⟩ := ropW_lp hp h
      refine ⟨v, h1, fun σ' K' _ hk => ?_⟩
      unfold hOne
      split
      · exact (hne _ _ rfl).elim
      · exact ⟨hl, h2 σ' (fun v _ => K' v) hk⟩
    · obtain ⟨v, h1, h2⟩ := ropW_lx hl h
      refine ⟨v, h1, fun σ' K' hσ hk => ?_⟩
      rcases hσ with hp' | ⟨τ, rfl⟩
      · exact (hp hp').elim
      · unfold hOne
        split
        · exact (hne _ _ rfl).elim
        · exact ⟨hl, h2 τ (fun v _ => K' v) hk⟩
theorem hOne_mono {o : ROp} {fr : Fr} {σ : List Blk} {K K' : AV → Prop} (h : hOne P W0 o fr σ K) (hk : ∀ v, K v → K' v) : hOne P W0 o fr σ K' := by
  obtain ⟨v, h1, h2⟩ := hOne_inv h
  exact h2 σ K' (.inr ⟨[], by simp⟩) (hk v h1)
theorem stepR_mono {b : Bool} {o : ROp} {fr : Fr} {σ : List Blk} {K K' : Cont} (h : stepR P W0 b o fr σ K) (hk : ∀ v σ', K v σ' → K' v σ') : stepR P W0 b o fr σ K' := by
  cases b with
  | true => exact hOne_mono h fun v => hk v σ
  | false => exact ropW_mono h hk
theorem apartR_spec {dj di : Option Nat} {oj oi : ROp} (h : apartR dj oj di oi = true) : (∀ d, dj = some d → d ∉ slotsR oi) ∧ (∀ d, dj = some d → di ≠ some d) ∧ (∀ d, di = some d → d ∉ slotsR oj) := by
  unfold apartR at h
  rw [Bool.and_eq_true] at h
  refine ⟨fun d hd => ?_, fun d hd => ?_, fun d hd => ?_⟩
  · subst hd; simp at h; exact h.1.1
  · subst hd; simp at h; exact fun e => h.1.2 e
  · subst hd; simp at h; exact h.2
theorem updO_comm {fr : Fr} {di dj : Option Nat} {u v : AV} (h : ∀ d, dj = some d → di ≠ some d) : updO (updO fr dj v) di u = updO (updO fr di u) dj v := by
  cases dj with
  | none => rfl
  | some b =>
    cases di with
    | none => rfl
    | some a =>
      have hne : a ≠ b := fun e => h b rfl (by rw [e])
      funext t
      simp only [updO, upd]
      by_cases h1 : t = a
      · by_cases h2 : t = b
        · exact (hne (h1.symm.trans h2)).elim
        · simp [h1, hne]
      · by_cases h2 : t = b
        · simp [h2, Ne.symm hne]
        · simp [h1, h2]
theorem updO_off {fr : Fr} {d : Option Nat} {v : AV} {o : ROp} (h : ∀ x, d = some x → x ∉ slotsR o) : ∀ t ∈ slotsR o, updO fr d v t = fr t := fun t ht => by
  cases d with
  | none => rfl
  | some x =>
    have : t ≠ x := fun e => h x rfl (e ▸ ht)
    simp [updO, upd, this]
theorem waits_undone {done : Array Bool} {i j : Nat} (hi : i ∈ Region.ready .any ops done) (hj : j ∈ Region.ready .any ops done) : Region.waitsFor .any ops i j = false := by
  cases hw : Region.waitsFor .any ops i j with
  | false => rfl
  | true =>
    obtain ⟨o, ho, e, he, hb, hon⟩ := Region.waitsFor_spec hw
    obtain ⟨_, o', ho', hall⟩ := mem_ready.1 hi
    rw [ho] at ho'; cases ho'
    have h1 := hall e he hb
    rw [hon] at h1
    have h2 := getD_both (mem_ready.1 hj).1
    rw [h1] at h2; cases h2
/-- An operation of the head that may come up may be taken first. -/
theorem tree_take {j : Nat} {dj : Option Nat} {oj : ROp} {v : AV} (hL : L[j]? = some (dj, oj)) (hjn : j < n) (hc : condD ops L n j = true) : ∀ (f : Nat) (done : Array Bool) (fr : Fr) (σ : List Blk),
    j ∈ Region.ready .any ops done → freeD ops L done j = true → (∀ (fr' : Fr) (σ' : List Blk) (K' : AV → Prop), (∀ t ∈ slotsR oj, fr' t = fr t) → (pureR oj = true ∨ ∃ τ, σ' = σ ++ τ) → K' v → hOne P W0 oj fr' σ' K') →
    tree P W0 ops L n K f (done.setIfInBounds j true) (updO fr dj v) σ → tree P W0 ops L n K (f + 1) done fr σ := by
  have here : ∀ {f : Nat} {done : Array Bool} {fr : Fr} {σ : List Blk}, (∀ (fr' : Fr) (σ' : List Blk) (K' : AV → Prop), (∀ t ∈ slotsR oj, fr' t = fr t) → (pureR oj = true ∨ ∃ τ, σ' = σ ++ τ) → K' v → hOne P W0 oj fr' σ' K') →
      tree P W0 ops L n K f (done.setIfInBounds j true) (updO fr dj v) σ → ∃ d o, L[j]? = some (d, o) ∧ stepR P W0 (decide (j < n)) o fr σ fun v σ' => tree P W0 ops L n K f (done.setIfInBounds j true) (updO fr d v) σ' := fun hs h => by
    refine ⟨dj, oj, hL, ?_⟩
    rw [decide_eq_true hjn]
    exact hs _ _ _ (fun _ _ => rfl) (.inr ⟨[], by simp⟩) h
  intro f
  induction f with
  | zero =>
    intro done fr σ hr hfree hs H
    refine ⟨fun h0 => (by rw [h0] at hr; cases hr), fun i hi => ?_⟩
    rcases Nat.decEq i j with hne | rfl
    · have := ready_mono hi hne
      rw [H.1] at this; cases this
    · exact here hs H
  | succ f ih =>
    intro done fr σ hr hfree hs H
    refine ⟨fun h0 => (by rw [h0] at hr; cases hr), fun i hi => ?_⟩
    rcases Nat.decEq i j with hne | rfl
    · obtain ⟨di, oi, hLi, hst⟩ := H.2 i (ready_mono hi hne)
      have hiu := (mem_ready.1 hi).1
      have hisz : i < ops.size := by
        obtain ⟨_, o, ho, _⟩ := mem_ready.1 hi
        exact (Array.getElem?_eq_some_iff.1 ho).1
      have hw := waits_undone hi hr
      have hap : apartR dj oj di oi = true := by
        unfold freeD at hfree
        rw [hL] at hfree
        have := List.all_eq_true.1 hfree i (List.mem_range.2 hisz)
        rw [hw, hiu, hLi] at this
        simpa [hne] using this
      obtain ⟨a1, a2, a3⟩ := apartR_spec hap
      rw [stepR_congr (fr' := fr) (updO_off a1)] at hst
      have hgrow : stepR P W0 (decide (i < n)) oi fr σ fun u σ' => (pureR oj = true ∨ ∃ τ, σ' = σ ++ τ) ∧ tree P W0 ops L n K f ((done.setIfInBounds j true).setIfInBounds i true) (updO (updO fr dj v) di u) σ' := by
        by_cases hp : pureR oj = true
        · exact stepR_mono hst fun u σ' h => ⟨.inl hp, h⟩
        · by_cases hin : i < n
          · rw [decide_eq_true hin] at hst ⊢
            exact hOne_mono hst fun u h => ⟨.inr ⟨[], by simp⟩, h⟩
          · rw [decide_eq_false hin] at hst ⊢
            have hal : allocR oi = true := by
              unfold condD at hc
              rw [hL] at hc
              simp only [Bool.or_eq_true] at hc
              rcases hc with hc | hc
              · exact (hp hc).elim
              · have := List.all_eq_true.1 hc i (List.mem_range.2 hisz)
                rw [hw, hLi] at this
                simpa [hin] using this
            cases oi <;> simp [allocR] at hal
            unfold stepR ropW at hst ⊢
            simp only [fS_eq] at hst ⊢
            exact ⟨.inr ⟨_, rfl⟩, hst⟩
      refine ⟨di, oi, hLi, stepR_mono hgrow fun u σ' ⟨hσ, h⟩ => ?_⟩
      rw [Array.setIfInBounds_comm _ _ (Ne.symm hne), updO_comm a2] at h
      refine ih (done.setIfInBounds i true) (updO fr di u) σ' (ready_mono hr (Ne.symm hne)) ?_ ?_ h
      · unfold freeD at hfree ⊢
        rw [hL] at hfree ⊢
        rw [List.all_eq_true] at hfree ⊢
        intro k hk
        have h1 := hfree k hk
        simp only [Bool.or_eq_true] at h1 ⊢
        rcases h1 with ((h1 | h1) | h1) | h1
        · exact .inl (.inl (.inl h1))
        · refine .inl (.inl (.inr ?_))
          rcases Nat.decEq i k with hik | rfl
          · rw [getD_set_ne true hik]; exact h1
          · have : i < done.size ∨ done.size ≤ i := Nat.lt_or_ge _ _
            rcases this with hlt | hge
            · simp [hlt]
            · simp [hge]
        · exact .inl (.inr h1)
        · exact .inr h1
      · intro fr' σ'' K' hfr hσ' hk
        refine hs fr' σ'' K' (fun t ht => (hfr t ht).trans (updO_off a3 t ht)) ?_ hk
        rcases hσ' with hp | ⟨τ', rfl⟩
        · exact .inl hp
        · rcases hσ with hp | ⟨τ, rfl⟩
          · exact .inl hp
          · exact .inr ⟨τ ++ τ', by rw [List.append_assoc]⟩
    · exact here hs H
/-- the head in the order of the text, then the tail -/
def hR (P : Program) (W0 : World) (l : DL) : Fr → List Blk → (Fr → Prop) → Prop :=
  List.rec (motive := fun _ => Fr → List Blk → (Fr → Prop) → Prop) (fun fr σ K => K fr)
    (fun o _ ih fr σ K => hOne P W0 o.2 fr σ fun av => fv av fun av => ih (updO fr o.1 av) σ K) l
theorem hR_cons {d : Option Nat} {o : ROp} {rest : DL} {fr : Fr} {σ : List Blk} {K : Fr → Prop} : hR P W0 ((d, o) :: rest) fr σ K = hOne P W0 o fr σ fun av => fv av fun av => hR P W0 rest (updO fr d av) σ K := rfl
theorem tree_of_seq : ∀ (l : DL) (k : Nat) (done : Array Bool) (fr : Fr) (σ : List Blk), n ≤ k → (∀ j, l[j]? = L[k + j]?) → Region.seqB .any ops l.length k done = true → runB P W0 l fr σ K → tree P W0 ops L n K l.length done fr σ
  | [], k, done, fr, σ, hn, hl, hB, h => ⟨by simpa [Region.seqB] using hB, h⟩
  | (d, o) :: l, k, done, fr, σ, hn, hl, hB, h => by
    have h0 : L[k]? = some (d, o) := by simpa using (hl 0).symm
    simp only [List.length_cons, Region.seqB, Bool.and_eq_true, decide_eq_true_eq] at hB
    refine ⟨by rw [hB.1]; simp, fun i hi => ?_⟩
    rw [hB.1] at hi
    obtain rfl : i = k := by simpa using hi
    refine ⟨d, o, h0, ?_⟩
    rw [decide_eq_false (by omega)]
    rw [runB_cons] at h
    unfold stepR
    dsimp only
    refine ropW_mono h fun v σ' hk => ?_
    exact tree_of_seq l (i + 1) _ _ _ (by omega) (fun j => by have := hl (j + 1); simpa [Nat.add_assoc, Nat.add_comm 1 j] using this) hB.2 (fv_out hk)
theorem tree_of_lex {g : Nat} {tl : DL} (htl : ∀ j, tl[j]? = L[n + j]?) (hg : tl.length = g) : ∀ (l : DL) (k : Nat) (done : Array Bool) (fr : Fr) (σ : List Blk), (∀ j, j < l.length → l[j]? = L[k + j]?) → k + l.length = n → lexD ops L n g l.length k done = true →
    hR P W0 l fr σ (fun fr => runB P W0 tl fr σ K) → tree P W0 ops L n K (l.length + g) done fr σ
  | [], k, done, fr, σ, hl, hk, hB, h => by
    obtain rfl : k = n := by simpa using hk
    subst hg
    rw [show ([] : DL).length + tl.length = tl.length by simp]
    exact tree_of_seq tl k done fr σ (Nat.le_refl _) htl (by simpa [lexD] using hB) h
  | (d, o) :: l, k, done, fr, σ, hl, hk, hB, h => by
    have h0 : L[k]? = some (d, o) := by have := hl 0 (by simp); simpa using this.symm
    simp only [List.length_cons, lexD, Bool.and_eq_true] at hB
    obtain ⟨⟨⟨hr, hf⟩, hc⟩, hB⟩ := hB
    have hkn : k < n := by simp only [List.length_cons] at hk; omega
    rw [hR_cons] at h
    obtain ⟨v, h1, h2⟩ := hOne_inv h
    rw [show ((d, o) :: l).length + g = (l.length + g) + 1 by simp only [List.length_cons]; omega]
    refine tree_take h0 hkn hc _ done fr σ (by simpa using hr) hf (fun fr' σ' K' hfr hσ hk => ?_) (tree_of_lex htl hg l (k + 1) _ _ _ (fun j hj => by have := hl (j + 1) (by simp; omega); simpa [Nat.add_assoc, Nat.add_comm 1 j] using this) (by simp only [List.length_cons] at hk; omega) hB (fv_out h1))
    rw [hOne_congr hfr]
    exact h2 σ' K' hσ hk
end
/-! ### the program's operations -/
def compD (P : Program) (n : Nat) : List Oper → Option DL
  | [] => some []
  | o :: rest => if dOKb n o.dst && o.guard.isNone then match compOp P o.op, compD P n rest with
    | some r, some l => some ((o.dst, r) :: l)
    | _, _ => none
    else none
section
variable {P : Program} {W0 : World} {ι ι0 : Loc} {σ σ0 : List Blk} {n : Nat} {ops : Array Oper}
theorem compD_get : ∀ (l : List Oper) (L : DL), compD P n l = some L → L.length = l.length ∧ ∀ (i : Nat) (d : Option Nat) (r : ROp), L[i]? = some (d, r) → ∃ o, l[i]? = some o ∧ o.dst = d ∧ o.guard = none ∧ compOp P o.op = some r ∧ dOK n o.dst
  | [], L, h => by
    simp only [compD, Option.some.injEq] at h; subst h
    exact ⟨rfl, fun i d r h => by simp at h⟩
  | o :: rest, L, h => by
    unfold compD at h
    split at h
    · rename_i hd
      simp only [Bool.and_eq_true] at hd
      split at h
      · rename_i r l hr hl
        cases h
        obtain ⟨h1, h2⟩ := compD_get rest l hl
        refine ⟨by simp [h1], fun i d r' hi => ?_⟩
        cases i with
        | zero =>
          simp at hi
          obtain ⟨rfl, rfl⟩ := hi
          exact ⟨o, rfl, rfl, by cases hg : o.guard <;> simp [hg] at hd ⊢, hr, dOKb_ok hd.1⟩
        | succ i => simpa using h2 i d r' (by simpa using hi)
      · cases h
    · cases h
theorem wpAny_of_tree {L : DL} {m : Nat} {ds : List Deferred} {K : Fr → List Blk → Prop} {Q : Exit → Act → World → Prop} (hL : compD P n ops.toList = some L) (hQ : ∀ a w, Post W0 ι0 σ0 n ds K a w → Q .normal a w) :
    ∀ (f : Nat) (done : Array Bool) (fr : Fr) (σ : List Blk) (ι : Loc) (a : Act) (w : World), tree P W0 ops L m K f done fr σ → HRel W0 ι σ w → FRel ι σ n fr a → Ext ι0 σ0 ι σ → a.defers = ds → wpAny P .any ops Q f done a w
  | 0, done, fr, σ, ι, a, w, h, hh, hf, hx, hd => ⟨h.1, hQ _ _ ⟨ι, σ, fr, h.2, hh, hf, hx, hd⟩⟩
  | f + 1, done, fr, σ, ι, a, w, h, hh, hf, hx, hd => by
    refine ⟨fun h0 => (h.1 h0).elim, fun i hi => ?_⟩
    obtain ⟨d, r, hLi, hst⟩ := h.2 i hi
    obtain ⟨o, ho, rfl, hg, hr, hdo⟩ := (compD_get _ _ hL).2 i d r hLi
    have ho' : ops[i]? = some o := by simpa using ho
    have hop : opW P W0 o.op (evA fr) σ fun v σ' => tree P W0 ops L m K f (done.setIfInBounds i true) (updO fr o.dst v) σ' := by
      refine compOp_sound hr ?_
      cases hb : decide (i < m) with
      | false => rw [hb] at hst; exact hst
      | true =>
        rw [hb] at hst
        unfold stepR hOne at hst
        dsimp only at hst
        split at hst
        · rename_i fn args
          rw [fL_eq] at hst
          obtain ⟨q, h1, h2⟩ := hst
          have h3 := h1 []
          rw [List.append_nil] at h3
          simp only [ropW, fL_eq]
          refine callW_mono h3 fun v σ' ⟨e1, e2⟩ => ?_
          rw [e1, e2]; exact h2
        · obtain ⟨hl, h1⟩ := hst
          obtain ⟨v, h2, h3⟩ := ropW_ld hl h1
          exact h3 _ h2
    unfold wpOp
    rw [ho']
    dsimp only
    have hwant : Region.wanted o (yielded ops a.tmps) = true := by unfold Region.wanted; rw [hg]
    rw [if_pos hwant]
    refine .inl (opW_sound hop hh hf.eval fun v w' ι' σ' av h2 h3 h4 h5 => ?_)
    exact wpAny_of_tree hL hQ f _ _ σ' ι' _ w' h2 h3 ((hf.mono h4).put hdo h5) (hx.trans h4) (by rw [put_defers]; exact hd)
theorem wp_region_lexD {id m : Nat} {L : DL} {ds : List Deferred} {K : Fr → List Blk → Prop} {Q : Exit → Act → World → Prop} {fr : Fr} {a : Act} {w : World} (hm : P.follows .mixedOrders = true) (hL : compD P n ops.toList = some L) (hmn : m ≤ L.length)
    (hB : lexD ops L m (L.length - m) m 0 (Array.replicate ops.size false) = true) (hQ : ∀ a w, Post W0 ι0 σ0 n ds K a w → Q .normal a w)
    (h : hR P W0 (L.take m) fr σ fun fr => runB P W0 (L.drop m) fr σ K) (hh : HRel W0 ι σ w) (hf : FRel ι σ n fr a) (hx : Ext ι0 σ0 ι σ) (hd : a.defers = ds) : (Code.region id ops true).wp P Q a w := by
  have hsz : L.length = ops.size := by have := (compD_get _ _ hL).1; simpa using this
  have htk : (L.take m).length = m := by simp; omega
  have ht := tree_of_lex (P := P) (W0 := W0) (ops := ops) (L := L) (n := m) (K := K) (g := L.length - m) (tl := L.drop m) (fun j => by rw [List.getElem?_drop]) (by simp) (L.take m) 0 (Array.replicate ops.size false) fr σ
    (fun j hj => by rw [htk] at hj; rw [List.getElem?_take, if_pos hj, Nat.zero_add]) (by rw [htk, Nat.zero_add]) (by rw [htk]; exact hB) h
  rw [htk, show m + (L.length - m) = ops.size by omega] at ht
  exact wp_region_any hm (wpAny_of_tree hL hQ _ _ _ _ _ _ _ ht hh.drew hf hx hd)
end
end Go.Proofs.Ytcclhjohpicleaa.Abs
end
