/- The abstract logic, part J: what reads alone, in whatever order; statements; loops; functions. -/
import Derived.Test.YtlmplfgnhibfcaaDoorAbsI
set_option linter.unusedVariables false
set_option linter.unusedSimpArgs false
namespace Go.Proofs.YtlmplfgnhibfcaaDoor.Abs
open Go Go.RowKit

/-! ### values that are told to the last bit -/
def cur (σ : List Blk) (b ver : Nat) : Prop := ∃ B, σ[b]? = some B ∧ B.ver = ver
def det0 (σ : List Blk) : AV → Prop
  | .lit _ => True
  | .ptr b ver _ => cur σ b ver
  | _ => False
def det1 (σ : List Blk) : AV → Prop
  | .lit _ => True
  | .ptr b ver _ => cur σ b ver
  | .sl b ver _ _ _ => cur σ b ver
  | .fn _ first caps => (∀ v ∈ first, det0 σ v) ∧ ∀ v ∈ caps, det0 σ v
  | _ => False
def det2 (σ : List Blk) : AV → Prop
  | .agg cs => ∀ v ∈ cs, det1 σ v
  | v => det1 σ v
def det3 (σ : List Blk) : AV → Prop
  | .tup vs => ∀ v ∈ vs, det2 σ v
  | v => det2 σ v

section
variable {P : Program} {W0 : World} {ι ι0 : Loc} {σ σ0 : List Blk} {w : World} {n : Nat}

theorem Rels.uniq {α β : Type} {R : α → β → Prop} {l : List α} {m m' : List β} (h : Rels R l m) (h' : Rels R l m') (hu : ∀ a ∈ l, ∀ b b', R a b → R a b' → b = b') : m = m' := by
  apply List.ext_getElem
  · rw [← h.1, ← h'.1]
  · intro i h1 h2
    have hl : i < l.length := by rw [h.1]; exact h1
    have ha := List.getElem?_eq_getElem hl
    exact hu _ (List.getElem_mem hl) _ _ (h.2 i _ _ ha (List.getElem?_eq_getElem h1)) (h'.2 i _ _ ha (List.getElem?_eq_getElem h2))

theorem det0.uniq {v : AV} {x y : Value} (hd : det0 σ v) (h : rel0 ι σ v x) (h' : rel0 ι σ v y) : x = y := by
  cases v with
  | lit v => exact (show x = v from h).trans (show y = v from h').symm
  | ptr b ver off =>
    obtain ⟨B, hB, hv⟩ := hd
    obtain ⟨c, t, hi, rfl⟩ := ptrRel_now h hB hv
    obtain ⟨c', t', hi', rfl⟩ := ptrRel_now h' hB hv
    rw [hi] at hi'; cases hi'; rfl
  | _ => exact hd.elim
theorem det1.uniq {v : AV} {x y : Value} (hd : det1 σ v) (h : rel1 ι σ v x) (h' : rel1 ι σ v y) : x = y := by
  cases v with
  | lit v => exact (show x = v from h).trans (show y = v from h').symm
  | ptr b ver off => exact det0.uniq (v := .ptr b ver off) hd h h'
  | sl b ver off len cap =>
    obtain ⟨B, hB, hv⟩ := hd
    obtain ⟨c, t, hi, rfl, _⟩ := slRel_now h hB hv
    obtain ⟨c', t', hi', rfl, _⟩ := slRel_now h' hB hv
    rw [hi] at hi'; cases hi'; rfl
  | fn f first caps =>
    obtain ⟨l1, l2, rfl, h1, h2⟩ := h
    obtain ⟨m1, m2, rfl, k1, k2⟩ := h'
    rw [h1.uniq k1 fun a ha _ _ => det0.uniq (hd.1 a ha), h2.uniq k2 fun a ha _ _ => det0.uniq (hd.2 a ha)]
  | _ => exact hd.elim
theorem det2.uniq {v : AV} {x y : Value} (hd : det2 σ v) (h : rel2 ι σ v x) (h' : rel2 ι σ v y) : x = y := by
  cases v with
  | agg cs =>
    obtain ⟨l, rfl, h1⟩ := h
    obtain ⟨m, rfl, k1⟩ := h'
    rw [h1.uniq k1 fun a ha _ _ h h' => det1.uniq (hd a ha) h.1 h'.1]
  | lit v => exact (show x = v from h).trans (show y = v from h').symm
  | ptr b ver off => exact det1.uniq (v := .ptr b ver off) hd h h'
  | sl b ver off len cap => exact det1.uniq (v := .sl b ver off len cap) hd h h'
  | fn f first caps => exact det1.uniq (v := .fn f first caps) hd h h'
  | junk => exact hd.elim
  | tup vs => exact hd.elim
theorem det3.uniq {v : AV} {x y : Value} (hd : det3 σ v) (h : rel3 ι σ v x) (h' : rel3 ι σ v y) : x = y := by
  cases v with
  | tup vs =>
    obtain ⟨l, rfl, h1⟩ := h
    obtain ⟨m, rfl, k1⟩ := h'
    rw [h1.uniq k1 fun a ha _ _ => det2.uniq (hd a ha)]
  | agg cs => exact det2.uniq (v := .agg cs) hd h h'
  | lit v => exact (show x = v from h).trans (show y = v from h').symm
  | ptr b ver off => exact det2.uniq (v := .ptr b ver off) hd h h'
  | sl b ver off len cap => exact det2.uniq (v := .sl b ver off len cap) hd h h'
  | fn f first caps => exact det2.uniq (v := .fn f first caps) hd h h'
  | junk => exact hd.elim

/-- operations that only look -/
def looks : Op → Bool
  | .move _ | .assign _ | .pick _ _ _ | .build _ _ | .load _ _ | .nilCheck _ | .binOp _ _ _ _ _ | .unOp _ _ _ | .convert _ _ _ | .makeFunc _ _ _ | .fieldAddr _ _ _ | .field _ _ _ | .indexAddr _ _ _ | .index _ _ _ | .extract _ _ => true
  | .slice _ _ _ _ none => true
  | .call c => match c.callee with
    | .builtin .len => true
    | _ => false
  | _ => false

theorem run_looks {o : Oper} {fr : Fr} {a : Act} {K : Cont} (hl : looks o.op = true) (h : opW P W0 o.op (evA fr) σ K) (hh : HRel W0 ι σ w) (hr : ∀ x, rel3 ι σ (evA fr x) (a.eval x)) :
    ∃ v av, (execOp a.eval o).run P w = .ok (.value v) w ∧ K av σ ∧ rel3 ι σ av v := by
  obtain ⟨dst, op, type, pos, after, guard⟩ := o
  have fin : ∀ {s : Sem Value}, Yields0 P ι σ w K s → execOp a.eval ⟨dst, op, type, pos, after, guard⟩ = (do pure (.value (← s))) → ∃ v av, (execOp a.eval ⟨dst, op, type, pos, after, guard⟩).run P w = .ok (.value v) w ∧ K av σ ∧ rel3 ι σ av v := by
    intro s ⟨v, av, h1, h2, h3⟩ he
    exact ⟨v, av, by rw [he]; simp [h1], h2, h3⟩
  unfold opW at h
  dsimp only at h hl
  split at h
  · rename_i x
    exact ⟨_, _, rfl, h, hr x⟩
  · rename_i x
    exact ⟨_, _, rfl, h, hr x⟩
  · rename_i c x y
    split at h
    · rename_i t u v hc hx hy
      have h1 := hr c; rw [hc] at h1; have e1 : a.eval c = .bool t := h1
      have h2 := hr x; rw [hx] at h2; have e2 : a.eval x = .bool u := h2
      have h3 := hr y; rw [hy] at h3; have e3 : a.eval y = .bool v := h3
      refine ⟨.bool (if t then u else v), _, ?_, h, rfl⟩
      simp only [execOp, e1, asBool, Sem.run_bind, Sem.run_pure, Result.andThen_ok, e2, e3]
      cases t <;> rfl
    · rename_i _ _ t hc hnn
      have h1 := hr c; rw [hc] at h1; have e1 : a.eval c = .bool t := h1
      cases t with
      | true => exact ⟨a.eval x, _, by simp [execOp, e1, asBool], h.1 rfl, hr x⟩
      | false => exact ⟨a.eval y, _, by simp [execOp, e1, asBool], h.2 rfl, hr y⟩
    · exact h.elim
  · simp [looks] at hl
  · simp [looks] at hl
  · exact fin (buildW_sound h hh hr) rfl
  · simp [looks] at hl
  · rename_i t x
    exact fin (loadW_sound h hh (hr x)) rfl
  · simp [looks] at hl
  · rename_i x
    split at h
    · rename_i b ver off hx
      have h1 := hr x; rw [hx] at h1
      obtain ⟨⟨B, hB, hv⟩, hk⟩ := h
      obtain ⟨c, tt, hi, e1⟩ := ptrRel_now h1 hB hv
      exact ⟨a.eval x, _, by simp [execOp, e1], hk, h1⟩
    · rename_i ad hx
      have h1 := hr x; rw [hx] at h1
      have e1 : a.eval x = .pointer (some ad) := h1
      exact ⟨a.eval x, _, by simp [execOp, e1], h, h1⟩
    · rename_i g first caps hx
      have h1 := hr x; rw [hx] at h1
      have h1' := h1
      obtain ⟨l1, l2, e1, _, _⟩ := h1
      exact ⟨a.eval x, _, by simp [execOp, e1], h, h1'⟩
    · rename_i g f1 f2 hx
      have h1 := hr x; rw [hx] at h1
      have e1 : a.eval x = .func (.func g) f1 f2 := h1
      exact ⟨a.eval x, _, by simp [execOp, e1], h, h1⟩
    · exact h.elim
  · rename_i bop t x y ty
    exact fin (binW_sound (x := x) h hh (hr x) (hr y)) rfl
  · rename_i uop t x
    exact fin (unW_sound h hh (hr x)) rfl
  · rename_i src d x
    exact fin (convW_sound h hh (hr x)) rfl
  · rename_i f first caps
    obtain ⟨h1, h2, hk⟩ := h
    refine ⟨.func f (first.map a.eval) (caps.map a.eval), _, by simp [execOp, Instr.makeFunc], hk, ?_⟩
    refine ⟨(first.map a.eval).toList, (caps.map a.eval).toList, by rw [Array.toArray_toList, Array.toArray_toList], ?_, ?_⟩
    · rw [Array.toList_map]; exact rels_atoms h1 (rels_map hr _)
    · rw [Array.toList_map]; exact rels_atoms h2 (rels_map hr _)
  · simp [looks] at hl
  · rename_i t x lo hi
    exact fin (sliceW_sound hr h hh) rfl
  · rename_i s x f
    exact fin (fieldAddrW_sound h hh (hr x)) rfl
  · rename_i s x f
    exact fin (fieldW_sound h hh (hr x)) rfl
  · rename_i t x i
    exact fin (indexAddrW_sound h hh (hr x) (hr i)) rfl
  · rename_i t x i
    exact fin (indexW_sound h hh (hr x) (hr i)) rfl
  · rename_i x i
    split at h
    · rename_i vs hx
      split at h
      · rename_i v hv
        have h1 := hr x; rw [hx] at h1
        obtain ⟨l, e1, hl'⟩ := h1
        obtain ⟨u, hu, hru⟩ := hl'.get hv
        refine ⟨u, _, by simp [execOp, e1, Instr.extract, hu], h, ?_⟩
        cases v <;> first | exact hru | exact hru.elim
      · exact h.elim
    · exact h.elim
  · rename_i c
    obtain ⟨callee, args, argTypes⟩ := c
    unfold callOpW at h
    dsimp only at h
    split at h
    · simp [looks] at hl
    · split at h
      · rename_i x t ha ht
        have ha := list1 ha; have ht := list1 ht
        subst ha; subst ht
        obtain ⟨v, av, h1, h2, h5⟩ := lenW_sound (P := P) h hh (hr x) type
        exact ⟨v, av, by simp [execOp, resolve, invoke, builtin, h1], h2, h5⟩
      · exact h.elim
    · simp [looks] at hl
    · exact h.elim
  · exact h.elim

/-- An operation that leaves no trace, and the value that it yields. -/
def quietOp (P : Program) (W0 : World) (o : Oper) (fr : Fr) (σ : List Blk) (av : AV) : Prop :=
  match looks o.op, o.op with
  | true, op => opW P W0 op (evA fr) σ fun v σ' => v = av ∧ σ' = σ
  | false, .call c => match c.callee with
    | .value f => callW P W0 (evA fr f) (c.args.toList.map (evA fr)) σ fun v σ' => v = av ∧ σ' = σ
    | _ => False
  | _, _ => False

theorem ext_same {ι' : Loc} (h : Ext ι σ ι' σ) (hl : ι.length = σ.length) (hl' : ι'.length = σ.length) : ι' = ι := by
  apply List.ext_getElem?
  intro i
  rcases Nat.lt_or_ge i σ.length with hi | hi
  · exact h.loc i _ _ (List.getElem?_eq_getElem hi) (List.getElem?_eq_getElem hi) rfl
  · rw [List.getElem?_eq_none (by omega), List.getElem?_eq_none (by omega)]

theorem callW_enters {f : AV} {fv : Value} {args : List AV} {vs : List Value} {o : Oper} {a : Act} {av : AV} (h : callW P W0 f args σ fun v σ' => v = av ∧ σ' = σ) (hf : rel3 ι σ f fv) (hr : Rels (rel3 ι σ) args vs)
    (he : execOp a.eval o = (do let d ← Deferred.ofValue fv vs.toArray; invoke d.target d.args)) :
    ∃ (g : FuncId) (us : Array Value), ∀ w, HRel W0 ι σ w → (execOp a.eval o).run P w = .ok (.enter g us) w ∧ Calls P g us w fun e w' => ∃ v, e = .returned v ∧ rel3 ι σ av v ∧ HRel W0 ι σ w' := by
  have fin : ∀ (g : FuncId) (as : List AV) (us : List Value), ACall P W0 g as σ (fun v σ' => v = av ∧ σ' = σ) → Rels (rel3 ι σ) as us → (∀ w, (execOp a.eval o).run P w = (callFunc g us.toArray).run P w) →
      ∃ (g : FuncId) (us : Array Value), ∀ w, HRel W0 ι σ w → (execOp a.eval o).run P w = .ok (.enter g us) w ∧ Calls P g us w fun e w' => ∃ v, e = .returned v ∧ rel3 ι σ av v ∧ HRel W0 ι σ w' := by
    intro g as us ⟨hok, hc⟩ hrs hex
    refine ⟨g, us.toArray, fun w hh => ⟨?_, ?_⟩⟩
    · rw [hex w]
      unfold callOK at hok
      split at hok
      · rename_i fn hf
        simp only [Bool.and_eq_true, Bool.not_eq_true'] at hok
        have hb : fn.body.isNone = false := by cases hb : fn.body <;> simp [hb] at hok ⊢
        simp only [callFunc, Sem.run_bind, run_program, Result.andThen_ok, hf, hok.1, Bool.false_eq_true, if_false, hb, Sem.run_pure]
      · cases hok
    · refine (hc ι w us hh hrs).mono fun e w' ⟨v, ι', σ', av', h0, ⟨hav, hσ⟩, h3, h4, h5⟩ => ?_
      subst hσ
      subst hav
      have := ext_same h4 hh.len h3.len
      subst this
      exact ⟨v, h0, h5, h3⟩
  unfold callW at h
  split at h
  · rename_i g fs cs
    obtain ⟨rfl, rfl, h⟩ := h
    have e : fv = .func (.func g) #[] #[] := hf
    subst e
    exact fin g args vs h hr fun w => by rw [he]; simp [Deferred.ofValue, invoke]
  · rename_i g first caps
    obtain ⟨l1, l2, rfl, h1, h2⟩ := hf
    exact fin g _ (l1 ++ vs ++ l2) h (((h1.mono fun _ _ => rel3_of_rel0).append hr).append (h2.mono fun _ _ => rel3_of_rel0)) fun w => by rw [he]; simp [Deferred.ofValue, invoke]
  · exact h.elim

theorem quietOp_sound {o : Oper} {fr : Fr} {a : Act} {av : AV} (hd : det3 σ av) (h : quietOp P W0 o fr σ av) (hh : HRel W0 ι σ w) (hr : ∀ x, rel3 ι σ (evA fr x) (a.eval x)) :
    ∃ v, (∀ w', HRel W0 ι σ w' → o.quietAt P a (HRel W0 ι σ) w' v) ∧ rel3 ι σ av v := by
  unfold quietOp at h
  split at h
  · rename_i op hl
    obtain ⟨v, av', h1, ⟨rfl, _⟩, h3⟩ := run_looks (w := w) hl h hh hr
    refine ⟨v, fun w' hh' => ?_, h3⟩
    obtain ⟨v', av'', k1, ⟨rfl, _⟩, k3⟩ := run_looks (w := w') hl h hh' hr
    unfold Oper.quietAt
    rw [k1]
    exact ⟨rfl, hd.uniq k3 h3⟩
  · rename_i c hl hop
    split at h
    · rename_i f hcal
      have hm : (c.args.toList.map a.eval).toArray = c.args.map a.eval := by rw [← Array.toList_map, Array.toArray_toList]
      obtain ⟨g, us, hall⟩ := callW_enters (a := a) (o := o) h (hr f) (rels_map hr c.args.toList) (by
        rw [hm]
        obtain ⟨callee, args, argTypes⟩ := c
        dsimp only at hcal
        subst hcal
        simp [execOp, hop, resolve])
      have hex : ∃ v, rel3 ι σ av v := by
        obtain ⟨_, hc⟩ := hall w hh
        obtain ⟨e, w', fr', ⟨v, _, hv, _⟩, _⟩ := hc []
        exact ⟨v, hv⟩
      obtain ⟨v, hv⟩ := hex
      refine ⟨v, fun w' hh' => ?_, hv⟩
      obtain ⟨k1, k2⟩ := hall w' hh'
      unfold Oper.quietAt
      rw [k1]
      refine ⟨rfl, k2.mono fun e w'' ⟨v', h0, h5, h3⟩ => ⟨?_, h3⟩⟩
      rw [h0, hd.uniq h5 hv]
    · exact h.elim
  · exact h.elim

/-- The head of a region that draws. -/
def qW (P : Program) (W0 : World) (n : Nat) (ops : Array Oper) : List Oper → Fr → List Blk → (Fr → Prop) → Prop
  | [], fr, _, K => K fr
  | o :: rest, fr, σ, K => dOK n o.dst ∧ guardW ops fr o.guard (∃ av, det3 σ av ∧ quietOp P W0 o fr σ av ∧ qW P W0 n ops rest (updO fr o.dst av) σ K) (qW P W0 n ops rest (updO fr o.dst (.lit undef)) σ K)

theorem qW_sound {ops : Array Oper} {K : Fr → Prop} {Q : Act → Prop} {ds : List Deferred} (hQ : ∀ fr a, K fr → FRel ι σ n fr a → a.defers = ds → Q a) (hh : HRel W0 ι σ w) : ∀ (l : List Oper) (fr : Fr) (a : Act), qW P W0 n ops l fr σ K → FRel ι σ n fr a → a.defers = ds →
    wpQuiet P ops (HRel W0 ι σ) Q l a
  | [], fr, a, h, hf, hd => hQ fr a h hf hd
  | o :: rest, fr, a, h, hf, hd => by
    obtain ⟨hdst, h⟩ := h
    unfold wpQuiet
    rcases guardW_sound h hf o rfl with ⟨hw, av, hdet, hq, hrest⟩ | ⟨hw, h⟩
    · rw [if_pos hw]
      obtain ⟨v, h1, h2⟩ := quietOp_sound hdet hq hh hf.eval
      exact ⟨v, h1, qW_sound hQ hh rest _ _ hrest (hf.put hdst h2) (by rw [put_defers]; exact hd)⟩
    · rw [if_neg (by rw [hw]; simp)]
      exact qW_sound hQ hh rest _ _ h (hf.put hdst rfl) (by rw [put_defers]; exact hd)

end

/-! ### statements -/
abbrev CPost := Exit → Fr → List Blk → Prop

/-- A loop: what holds at each round's head, with a number that each round lowers; what is no longer looked at may be forgotten there. -/
structure LoopW (b0 : Nat) (body : Fr → List Blk → CPost → Prop) (fr : Fr) (σ : List Blk) (Q : CPost) : Prop where
  ok : ∃ (I : Nat → Fr → List Blk → Prop) (m : Nat) (fr0 : Fr) (σ1 : List Blk), Forget b0 fr σ fr0 σ1 ∧ I m fr0 σ1 ∧
    ∀ m fr σ, I m fr σ → body fr σ fun e fr' σ' => match e with
      | .normal => ∃ m' fr'' σ'', m' < m ∧ Forget b0 fr' σ' fr'' σ'' ∧ I m' fr'' σ''
      | e => Q e fr' σ'

/-- b0: how many blocks there were when the function began; cuts: where the head of each region that draws ends. -/
def cW (P : Program) (W0 : World) (n b0 : Nat) (cuts : Nat → Nat) : Code → Fr → List Blk → CPost → Prop
  | .skip, fr, σ, Q => Q .normal fr σ
  | .label _, fr, σ, Q => Q .normal fr σ
  | .region id ops draw, fr, σ, Q => match draw with
    | false => opsW P W0 n ops none ops.toList fr σ (Q .normal)
    | true => if cuts id = 0 then Region.lexB .any ops = true ∧ qW P W0 n ops ops.toList fr σ (fun fr => Q .normal fr σ)
      else Region.lexTailB .any ops (cuts id) = true ∧ qW P W0 n ops (ops.toList.take (cuts id)) fr σ fun fr => opsW P W0 n ops none (ops.toList.drop (cuts id)) fr σ (Q .normal)
  | .seq a b, fr, σ, Q => cW P W0 n b0 cuts a fr σ fun e fr σ => match e with
    | .normal => cW P W0 n b0 cuts b fr σ Q
    | e => Q e fr σ
  | .cond c a b, fr, σ, Q => match evA fr c with
    | .lit (.bool t) => (t = true → cW P W0 n b0 cuts a fr σ Q) ∧ (t = false → cW P W0 n b0 cuts b fr σ Q)
    | _ => False
  | .block id c, fr, σ, Q => cW P W0 n b0 cuts c fr σ fun e fr σ => match e with
    | .exit i => if i = id then Q .normal fr σ else Q (.exit i) fr σ
    | e => Q e fr σ
  | .exit id, fr, σ, Q => Q (.exit id) fr σ
  | .loop c, fr, σ, Q => LoopW b0 (fun fr σ Q => cW P W0 n b0 cuts c fr σ Q) fr σ Q
  | .ret, fr, σ, Q => Q .ret fr σ
  | .scope c, fr, σ, Q => cW P W0 n b0 cuts c fr σ fun e fr σ => match e with
    | .goto _ => False
    | e => Q e fr σ
  | .goto l, fr, σ, Q => Q (.goto l) fr σ
  | _, _, _, _ => False

section
variable {P : Program} {W0 : World} {ι0 : Loc} {σ0 : List Blk} {n : Nat} {cuts : Nat → Nat}

def Lift (W0 : World) (ι0 : Loc) (σ0 : List Blk) (n : Nat) (ds : List Deferred) (Q : CPost) : Exit → Act → World → Prop := fun e a w => Post W0 ι0 σ0 n ds (Q e) a w

theorem exists_least {p : Nat → Prop} : ∀ m, p m → ∃ k, p k ∧ ∀ j, p j → k ≤ j := by
  intro m
  induction m using Nat.strongRecOn with
  | _ m ih =>
    intro hm
    by_cases h : ∃ j, j < m ∧ p j
    · obtain ⟨j, hj, hp⟩ := h
      exact ih j hj hp
    · exact ⟨m, hm, fun j hj => Nat.le_of_not_lt fun hlt => h ⟨j, hlt, hj⟩⟩

theorem wp_loop_least {c : Code} {Q : Exit → Act → World → Prop} {a : Act} {w : World} (J : Nat → Act → World → Prop) (h0 : ∃ m, J m a w)
    (round : ∀ m a w, J m a w → c.wp P (Exit.then (fun a' w' => ∃ m', m' < m ∧ J m' a' w') Q) a w) : (Code.loop c).wp P Q a w := by
  classical
  have hex : ∀ a w, (∃ m, J m a w) → ∃ k, J k a w ∧ ∀ j, J j a w → k ≤ j := fun a w ⟨m, h⟩ => exists_least m h
  let least (a : Act) (w : World) : Nat := if h : ∃ m, J m a w then Classical.choose (hex a w h) else 0
  have spec : ∀ a w (h : ∃ m, J m a w), J (least a w) a w ∧ ∀ j, J j a w → least a w ≤ j := fun a w h => by
    have e : least a w = Classical.choose (hex a w h) := dif_pos h
    rw [e]
    exact Classical.choose_spec (hex a w h)
  refine wp_loop (fun a w => ∃ m, J m a w) least h0 fun a w h => ?_
  refine wp_mono (round (least a w) a w (spec a w h).1) fun e a' w' hq => ?_
  cases e with
  | normal =>
    obtain ⟨m', hlt, hj⟩ := hq
    exact ⟨⟨m', hj⟩, Nat.lt_of_le_of_lt ((spec a' w' ⟨m', hj⟩).2 m' hj) hlt⟩
  | _ => exact hq

theorem cW_sound (hm : P.follows .mixedOrders = true) (hl0 : ι0.length = σ0.length) : ∀ (c : Code) (Q : CPost) (fr : Fr) (σ : List Blk) (ι : Loc) (a : Act) (w : World) (ds : List Deferred), cW P W0 n σ0.length cuts c fr σ Q →
    HRel W0 ι σ w → FRel ι σ n fr a → Ext ι0 σ0 ι σ → a.defers = ds → c.wp P (Lift W0 ι0 σ0 n ds Q) a w
  | .skip, Q, fr, σ, ι, a, w, ds, h, hh, hf, hx, hd => wp_skip ⟨ι, σ, fr, h, hh, hf, hx, hd⟩
  | .label _, Q, fr, σ, ι, a, w, ds, h, hh, hf, hx, hd => wp_label ⟨ι, σ, fr, h, hh, hf, hx, hd⟩
  | .exit id, Q, fr, σ, ι, a, w, ds, h, hh, hf, hx, hd => wp_exit ⟨ι, σ, fr, h, hh, hf, hx, hd⟩
  | .goto l, Q, fr, σ, ι, a, w, ds, h, hh, hf, hx, hd => wp_goto ⟨ι, σ, fr, h, hh, hf, hx, hd⟩
  | .ret, Q, fr, σ, ι, a, w, ds, h, hh, hf, hx, hd => wp_ret ⟨ι, σ, fr, h, hh, hf, hx, hd⟩
  | .refuse _, Q, fr, σ, ι, a, w, ds, h, hh, hf, hx, hd => h.elim
  | .rangeFunc _ _ _ _, Q, fr, σ, ι, a, w, ds, h, hh, hf, hx, hd => h.elim
  | .region id ops draw, Q, fr, σ, ι, a, w, ds, h, hh, hf, hx, hd => by
    unfold cW at h
    cases draw with
    | false => exact wp_region_list (opsW_sound (fun _ _ hp => hp) _ none fr σ ι a w h hh hf hx hd (fun q hq => by cases hq))
    | true =>
      dsimp only at h
      split at h
      · obtain ⟨hB, h⟩ := h
        refine wp_region_quiet (C := HRel W0 ι σ) hm hB hh.drew ?_
        exact qW_sound (fun fr' a' hk hf' hd' w' hw' => ⟨ι, σ, fr', hk, hw', hf', hx, hd'⟩) hh _ _ _ h hf hd
      · obtain ⟨hB, h⟩ := h
        have hops : ops = ops.toList.toArray := by simp
        rw [hops]
        refine wp_region_head_tail (C := HRel W0 ι σ) (cuts id) hm (by rw [← hops]; exact hB) hh.drew ?_
        rw [← hops]
        exact qW_sound (fun fr' a' hk hf' hd' w' hw' => opsW_sound (fun _ _ hp => hp) _ none fr' σ ι a' w' hk hw' hf' hx hd' (fun q hq => by cases hq)) hh _ _ _ h hf hd
  | .seq x y, Q, fr, σ, ι, a, w, ds, h, hh, hf, hx, hd => by
    refine wp_seq (wp_mono (cW_sound hm hl0 x _ fr σ ι a w ds h hh hf hx hd) fun e a' w' hq => ?_)
    cases e with
    | normal =>
      obtain ⟨ι', σ', fr', hk, hh', hf', hx', hd'⟩ := hq
      exact cW_sound hm hl0 y Q fr' σ' ι' a' w' ds hk hh' hf' hx' hd'
    | _ => exact hq
  | .cond c x y, Q, fr, σ, ι, a, w, ds, h, hh, hf, hx, hd => by
    unfold cW at h
    split at h
    · rename_i t ht
      have h1 := hf.eval c
      rw [ht] at h1
      have e1 : a.eval c = .bool t := h1
      exact wp_cond_split e1 (fun e => cW_sound hm hl0 x Q fr σ ι a w ds (h.1 e) hh hf hx hd) (fun e => cW_sound hm hl0 y Q fr σ ι a w ds (h.2 e) hh hf hx hd)
    · exact h.elim
  | .block id c, Q, fr, σ, ι, a, w, ds, h, hh, hf, hx, hd => by
    refine wp_block (wp_mono (cW_sound hm hl0 c _ fr σ ι a w ds h hh hf hx hd) fun e a' w' hq => ?_)
    cases e with
    | exit i =>
      obtain ⟨ι', σ', fr', hk, hrest⟩ := hq
      simp only [Exit.inBlock]
      by_cases hi : i = id
      · simp only [hi, if_true] at hk ⊢; exact ⟨ι', σ', fr', hk, hrest⟩
      · simp only [hi, if_false] at hk ⊢; exact ⟨ι', σ', fr', hk, hrest⟩
    | _ => exact hq
  | .scope c, Q, fr, σ, ι, a, w, ds, h, hh, hf, hx, hd => by
    refine wp_scope_straight (wp_mono (cW_sound hm hl0 c _ fr σ ι a w ds h hh hf hx hd) fun e a' w' hq => ?_)
    cases e with
    | goto l => obtain ⟨ι', σ', fr', hk, hrest⟩ := hq; exact hk.elim
    | _ => exact hq
  | .loop c, Q, fr, σ, ι, a, w, ds, h, hh, hf, hx, hd => by
    obtain ⟨I, m, fr0, σ1, hfo, hI, round⟩ := h.ok
    obtain ⟨ι1, hh1, hf1, hx1⟩ := hf.forget hfo hh hx hl0
    refine wp_loop_least (fun m a w => ∃ ι σ fr, I m fr σ ∧ HRel W0 ι σ w ∧ FRel ι σ n fr a ∧ Ext ι0 σ0 ι σ ∧ a.defers = ds) ⟨m, ι1, σ1, fr0, hI, hh1, hf1, hx1, hd⟩ fun m a w ⟨ι, σ, fr, hI, hh, hf, hx, hd⟩ => ?_
    refine wp_mono (cW_sound hm hl0 c _ fr σ ι a w ds (round m fr σ hI) hh hf hx hd) fun e a' w' hq => ?_
    cases e with
    | normal =>
      obtain ⟨ι', σ', fr', ⟨m', fr'', σ'', hlt, hfo', hI'⟩, hh', hf', hx', hd'⟩ := hq
      obtain ⟨ι2, hh2, hf2, hx2⟩ := hf'.forget hfo' hh' hx' hl0
      exact ⟨m', hlt, ι2, σ'', fr'', hI', hh2, hf2, hx2, hd'⟩
    | _ => exact hq

end
end Go.Proofs.YtlmplfgnhibfcaaDoor.Abs
