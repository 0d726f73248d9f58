/- The abstract logic, part G: one operation; what is asked of a call. -/
import Derived.Test.YtlmplfgnhibfcaaDoorAbsF
import Derived.Laws.BytesArg
set_option linter.unusedVariables false
set_option linter.unusedSimpArgs false
namespace Go.Proofs.YtlmplfgnhibfcaaDoor.Abs
open Go Go.RowKit

abbrev Fr := Nat → AV
def upd (fr : Fr) (d : Nat) (v : AV) : Fr := fun t => if t = d then v else fr t
def updO (fr : Fr) : Option Nat → AV → Fr
  | some d, v => upd fr d v
  | none, _ => fr
def evA (fr : Fr) : Operand → AV
  | .tmp t => fr t
  | .const v => ofV v
  | .global g => .lit (.pointer (some ⟨g, 0, none⟩))
  | .func f => .lit (.func (.func f) #[] #[])

def callOK (P : Program) (g : FuncId) : Bool :=
  match P.funcs[g]? with
  | some fn => !(fn.name == "runtime.NumGoroutine") && fn.body.isSome
  | none => false

/-- A call with abstract arguments: it returns a value and blocks of which K holds. -/
structure ACall (P : Program) (W0 : World) (g : FuncId) (args : List AV) (σ : List Blk) (K : Cont) : Prop where
  ok : callOK P g = true
  run : ∀ (ι : Loc) (w : World) (vs : List Value), HRel W0 ι σ w → Rels (rel3 ι σ) args vs →
    Calls P g vs.toArray w fun e w' => ∃ v ι' σ' av, e = .returned v ∧ K av σ' ∧ HRel W0 ι' σ' w' ∧ Ext ι σ ι' σ' ∧ rel3 ι' σ' av v

theorem ACall.mono {P : Program} {W0 : World} {g : FuncId} {args : List AV} {σ : List Blk} {K K' : Cont} (h : ACall P W0 g args σ K) (hk : ∀ v σ', K v σ' → K' v σ') : ACall P W0 g args σ K' :=
  ⟨h.1, fun ι w vs hh hr => (h.2 ι w vs hh hr).mono fun _ _ ⟨v, ι', σ', av, he, hk', r⟩ => ⟨v, ι', σ', av, he, hk _ _ hk', r⟩⟩

/-- the elements that are appended: the cells of an own slice, or of one that came in -/
def srcW (P : Program) (W0 : World) (t : TypeId) (x : AV) (σ : List Blk) (Q : Nat → List AV → Prop) : Prop :=
  match sliceP P t, x with
  | some (_, s, _), .sl b ver off m _ => ∃ B, σ[b]? = some B ∧ B.ver = ver ∧ off + m * s ≤ B.cells.length ∧ Q m ((B.cells.drop off).take (m * s))
  | some (_, s, _), .lit (.slice (some ad) m _) => ∃ cs : List Value, cs.length = m * s ∧ (∀ (j : Nat) (v : Value), cs[j]? = some v → W0.cell? (ad.add j) = some v ∧ v.oneCell' = true) ∧ ad.block < W0.heap.size ∧ Q m (cs.map .lit)
  | _, _ => False

def lenW (P : Program) (t : TypeId) (x : AV) (σ : List Blk) (K : Cont) : Prop :=
  match x with
  | .lit (.string s) => P.underlying t = some .string ∧ K (.lit (.int .i64 s.size)) σ
  | .lit (.slice _ n _) => (sliceP P t).isSome = true ∧ K (.lit (.int .i64 n)) σ
  | .sl b ver _ n _ => (sliceP P t).isSome = true ∧ (∃ B, σ[b]? = some B ∧ B.ver = ver) ∧ K (.lit (.int .i64 n)) σ
  | _ => False

def atomA : AV → Bool
  | .lit _ | .ptr _ _ _ => true
  | _ => false

def unW (op : UnOp) (x : AV) (σ : List Blk) (K : Cont) : Prop :=
  match op, x with
  | .not, .lit (.bool b) => K (.lit (.bool (!b))) σ
  | .neg, .lit (.int k n) => K (.lit (.int k (k.wrap (0 - n)))) σ
  | .xor, .lit (.int k n) => K (.lit (.int k (bXor k (if k.signed then -1 else k.max) n))) σ
  | _, _ => False
def convW (P : Program) (src dst : TypeId) (x : AV) (σ : List Blk) (K : Cont) : Prop :=
  match P.underlying src, P.underlying dst, x with
  | some _, some (.int k), .lit (.int _ n) => K (.lit (.int k (k.wrap n))) σ
  | some _, some .string, .lit (.string s) => K (.lit (.string s)) σ
  | some (.slice e), some .string, .sl b ver off n _ => P.underlying e = some (.int .u8) ∧ ∃ B xs, σ[b]? = some B ∧ B.ver = ver ∧ off + n ≤ B.cells.length ∧ (B.cells.drop off).take n = xs.map (fun x => AV.lit (.int .u8 x)) ∧ K (.lit (.string (strOfNums xs))) σ
  | _, _, _ => False

def callW (P : Program) (W0 : World) (f : AV) (args : List AV) (σ : List Blk) (K : Cont) : Prop :=
  match f with
  | .lit (.func (.func g) fs cs) => fs = #[] ∧ cs = #[] ∧ ACall P W0 g args σ K
  | .fn (.func g) first caps => ACall P W0 g (first ++ args ++ caps) σ K
  | _ => False

def callOpW (P : Program) (W0 : World) (c : Call) (fr : Operand → AV) (σ : List Blk) (K : Cont) : Prop :=
  match c.callee with
  | .value f => callW P W0 (fr f) (c.args.toList.map fr) σ K
  | .builtin .len => match c.args.toList, c.argTypes.toList with
    | [x], [t] => lenW P t (fr x) σ K
    | _, _ => False
  | .builtin .append => match c.args.toList, c.argTypes.toList with
    | [s, x], [t, t'] => t = t' ∧ (∃ e s b z, sliceP P t = some (e, s, b) ∧ zeroP P e = some z ∧ z.cells.size = s) ∧ srcW P W0 t (fr x) σ fun m news => appendW P t (fr s) m news σ K
    | _, _ => False
  | _ => False

/-- What one operation does (but for a row of new elements that the next one appends). -/
def opW (P : Program) (W0 : World) (op : Op) (fr : Operand → AV) (σ : List Blk) (K : Cont) : Prop :=
  match op with
  | .move x | .assign x => K (fr x) σ
  | .pick c a b => match fr c, fr a, fr b with
    | .lit (.bool t), .lit (.bool x), .lit (.bool y) => K (.lit (.bool (if t then x else y))) σ
    | .lit (.bool t), x, y => (t = true → K x σ) ∧ (t = false → K y σ)
    | _, _, _ => False
  | .alloc elem => allocW P elem σ K
  | .box elem x => boxW elem (fr x) σ K
  | .build t parts => buildW P fr t parts σ K
  | .buildSlice t len parts => buildSliceW P fr t len parts σ K
  | .load t a => loadW P W0 t (fr a) σ K
  | .store t a v => storeW P t (fr a) (fr v) σ K
  | .nilCheck x => match fr x with
    | .ptr b ver off => (∃ B, σ[b]? = some B ∧ B.ver = ver) ∧ K (.ptr b ver off) σ
    | .lit (.pointer (some a)) => K (.lit (.pointer (some a))) σ
    | .fn (.func g) first caps => K (.fn (.func g) first caps) σ
    | .lit (.func (.func g) a b) => K (.lit (.func (.func g) a b)) σ
    | _ => False
  | .binOp op t x y _ => binW P op t y (fr x) (fr y) σ K
  | .unOp op _ x => unW op (fr x) σ K
  | .convert src dst x => convW P src dst (fr x) σ K
  | .makeFunc f first caps => (first.toList.map fr).all atomA = true ∧ (caps.toList.map fr).all atomA = true ∧ K (.fn f (first.toList.map fr) (caps.toList.map fr)) σ
  | .makeSlice t l c => makeSliceW P t (fr l) (fr c) σ K
  | .slice t x lo hi none => sliceW P fr t x lo hi σ K
  | .fieldAddr s x f => fieldAddrW P s (fr x) f σ K
  | .field s x f => fieldW P s (fr x) f σ K
  | .indexAddr t x i => indexAddrW P t (fr x) (fr i) σ K
  | .index t x i => indexW P t (fr x) (fr i) σ K
  | .extract x i => match fr x with
    | .tup vs => match vs[i]? with
      | some v => K v σ
      | none => False
    | _ => False
  | .call c => callOpW P W0 c fr σ K
  | _ => False

section
variable {P : Program} {W0 : World} {ι : Loc} {σ : List Blk} {w : World} {K : Cont}

theorem wp_of_run {o : Oper} {a : Act} {v : Value} {w' : World} {next : Act → World → Prop} {Q : Exit → Act → World → Prop} (h : (execOp a.eval o).run P w = .ok (.value v) w') (hn : next (a.put o.dst v) w') : o.wp P a w next Q := by
  unfold Oper.wp
  rw [h]
  exact hn
theorem wp_of_skip {o : Oper} {a : Act} {w' : World} {next : Act → World → Prop} {Q : Exit → Act → World → Prop} (h : (execOp a.eval o).run P w = .ok .skip w') (hn : next (a.put o.dst undef) w') : o.wp P a w next Q := by
  unfold Oper.wp
  rw [h]
  exact hn

/-- What is to follow an operation. -/
def Nxt (W0 : World) (ι : Loc) (σ : List Blk) (K : Cont) (o : Oper) (a : Act) (next : Act → World → Prop) : Prop :=
  ∀ v w' ι' σ' av, K av σ' → HRel W0 ι' σ' w' → Ext ι σ ι' σ' → rel3 ι' σ' av v → next (a.put o.dst v) w'

theorem wp_of_yields {o : Oper} {a : Act} {next : Act → World → Prop} {Q : Exit → Act → World → Prop} {s : Sem Value} (hy : Yields P W0 ι σ w K s) (he : execOp a.eval o = (do pure (.value (← s)))) (hn : Nxt W0 ι σ K o a next) :
    o.wp P a w next Q := by
  obtain ⟨v, w', ι', σ', av, h1, h2, h3, h4, h5⟩ := hy
  refine wp_of_run (v := v) (w' := w') ?_ (hn v w' ι' σ' av h2 h3 h4 h5)
  rw [he]
  simp [h1]

theorem rels_map {fr : Operand → AV} {ρ : Operand → Value} (hr : ∀ x, rel3 ι σ (fr x) (ρ x)) (l : List Operand) : Rels (rel3 ι σ) (l.map fr) (l.map ρ) :=
  ⟨by simp, fun i a b ha hb => by
    rw [List.getElem?_map] at ha hb
    cases hl : l[i]? with
    | none => rw [hl] at ha; cases ha
    | some q => rw [hl] at ha hb; simp at ha hb; subst ha; subst hb; exact hr q⟩

theorem rel0_of_atom {v : AV} {x : Value} (h : atomA v = true) (hr : rel3 ι σ v x) : rel0 ι σ v x := by
  cases v <;> first | exact hr | simp [atomA] at h
theorem rels_atoms {l : List AV} {m : List Value} (h : l.all atomA = true) (hr : Rels (rel3 ι σ) l m) : Rels (rel0 ι σ) l m :=
  ⟨hr.1, fun i a b ha hb => rel0_of_atom (List.all_eq_true.1 h a (List.mem_of_getElem? ha)) (hr.2 i a b ha hb)⟩
theorem rel3_of_rel0 {v : AV} {x : Value} (h : rel0 ι σ v x) : rel3 ι σ v x := by
  cases v <;> first | exact h | exact h.elim

theorem wp_of_ACall {g : FuncId} {args : List AV} {vs : List Value} {o : Oper} {a : Act} {next : Act → World → Prop} {Q : Exit → Act → World → Prop} (h : ACall P W0 g args σ K) (hh : HRel W0 ι σ w) (hr : Rels (rel3 ι σ) args vs)
    (he : (execOp a.eval o).run P w = (callFunc g vs.toArray).run P w) (hn : Nxt W0 ι σ K o a next) : o.wp P a w next Q := by
  obtain ⟨hok, hc⟩ := h
  have hent : (callFunc g vs.toArray).run P w = .ok (.enter g vs.toArray) w := by
    unfold callOK at hok
    split at hok
    · rename_i fn hf
      simp only [Bool.and_eq_true, Bool.not_eq_true'] at hok
      have hb : fn.body.isNone = false := by cases hb : fn.body <;> simp [hb] at hok ⊢
      simp only [callFunc, Sem.run_bind, run_program, Result.andThen_ok, hf, hok.1, Bool.false_eq_true, if_false, hb, Sem.run_pure]
    · cases hok
  unfold Oper.wp
  rw [he, hent, Oper.upon_enter]
  refine (hc ι w vs hh hr).mono fun e w' ⟨v, ι', σ', av, h0, h2, h3, h4, h5⟩ => ?_
  subst h0
  exact hn v w' ι' σ' av h2 h3 h4 h5

theorem callW_sound {f : AV} {fv : Value} {args : List AV} {vs : List Value} {o : Oper} {a : Act} {next : Act → World → Prop} {Q : Exit → Act → World → Prop} (h : callW P W0 f args σ K) (hh : HRel W0 ι σ w) (hf : rel3 ι σ f fv) (hr : Rels (rel3 ι σ) args vs)
    (he : execOp a.eval o = (do let d ← Deferred.ofValue fv vs.toArray; invoke d.target d.args)) (hn : Nxt W0 ι σ K o a next) : o.wp P a w next Q := by
  unfold callW at h
  split at h
  · rename_i g fs cs
    obtain ⟨rfl, rfl, h⟩ := h
    have e : fv = .func (.func g) #[] #[] := hf
    subst e
    refine wp_of_ACall h hh hr ?_ hn
    rw [he]
    simp [Deferred.ofValue, invoke]
  · rename_i g first caps
    obtain ⟨l1, l2, rfl, h1, h2⟩ := hf
    refine wp_of_ACall h hh (((h1.mono fun _ _ => rel3_of_rel0).append hr).append (h2.mono fun _ _ => rel3_of_rel0)) ?_ hn
    rw [he]
    simp [Deferred.ofValue, invoke]
  · exact h.elim

theorem lenW_sound {t : TypeId} {av : AV} {x : Value} (h : lenW P t av σ K) (hh : HRel W0 ι σ w) (hr : rel3 ι σ av x) (ty : TypeId) : Yields0 P ι σ w K (Builtin.len_ #[t] ty #[x]) := by
  unfold lenW at h
  split at h
  · rename_i s
    have e : x = .string s := hr
    subst e
    refine Yields0.lit ?_ h.2
    simp [Builtin.len_, run_underlying h.1, goInt]
  · rename_i ad n c
    have e : x = .slice ad n c := hr
    subst e
    obtain ⟨⟨e, s, b⟩, hs⟩ := Option.isSome_iff_exists.1 h.1
    obtain ⟨i, hu, _⟩ := sliceP_inv hs
    refine Yields0.lit ?_ h.2
    simp [Builtin.len_, run_underlying hu, goInt]
  · rename_i b ver off n cap
    obtain ⟨hsm, ⟨B, hB, hv⟩, hk⟩ := h
    obtain ⟨⟨e, s, b⟩, hs⟩ := Option.isSome_iff_exists.1 hsm
    obtain ⟨i, hu, _⟩ := sliceP_inv hs
    obtain ⟨c, tt, hi, rfl, _⟩ := slRel_now hr hB hv
    refine Yields0.lit ?_ hk
    simp [Builtin.len_, run_underlying hu, goInt]
  · exact h.elim

theorem unW_sound {op : UnOp} {av : AV} {x : Value} (h : unW op av σ K) (hh : HRel W0 ι σ w) (hr : rel3 ι σ av x) : Yields0 P ι σ w K (Op.unary op x) := by
  unfold unW at h
  split at h
  · rename_i b
    have e : x = .bool b := hr
    subst e
    exact Yields0.lit (by simp [Op.unary]) h
  · rename_i k n
    have e : x = .int k n := hr
    subst e
    exact Yields0.lit (by simp [Op.unary, Op.intArith]) h
  · rename_i k n
    have e : x = .int k n := hr
    subst e
    exact Yields0.lit (by simp [Op.unary, Op.intBits, bXor]) h
  · exact h.elim

theorem addN (c off i : Nat) : (⟨c, off, none⟩ : Addr).add i = ⟨c, off + i, none⟩ := by unfold Addr.add; split <;> simp_all
theorem convW_sound {src dst : TypeId} {av : AV} {x : Value} (h : convW P src dst av σ K) (hh : HRel W0 ι σ w) (hr : rel3 ι σ av x) : Yields0 P ι σ w K (convert src dst x) := by
  unfold convW at h
  split at h
  · rename_i d k k' n hs hd
    have e : x = .int k' n := hr
    subst e
    refine Yields0.lit ?_ h
    simp only [convert, Sem.run_bind, run_underlying hs, run_underlying hd, Result.andThen_ok]
    cases d <;> simp [Conv.intToInt]
  · rename_i d s hs hd
    have e : x = .string s := hr
    subst e
    refine Yields0.lit ?_ h
    simp only [convert, Sem.run_bind, run_underlying hs, run_underlying hd, Result.andThen_ok]
    cases d <;> simp
  · rename_i e b ver off n cap hs hd
    obtain ⟨he, B, xs, hB, hv, hl, hx, hk⟩ := h
    obtain ⟨c, tt, hi, rfl, _⟩ := slRel_now hr hB hv
    obtain ⟨vs, rest, hheap, _, hrel, _⟩ := hh.blk b B c tt hB hi
    have hvl : vs.length = B.cells.length := hrel.1.symm
    have hrel' := (hrel.drop off).take n
    rw [hx] at hrel'
    have hlen : xs.length = n := by
      have := congrArg List.length hx
      rw [List.length_take, List.length_drop, List.length_map] at this
      omega
    refine Yields0.lit (run_convert_bytes_arg w src e hs he c off n cap xs hlen (fun i hin => ?_) _ hd) hk
    have hvi : ((vs.drop off).take n)[i]? = some vs[off + i] := by
      rw [List.getElem?_take, if_pos hin, List.getElem?_drop, List.getElem?_eq_getElem (by omega)]
    have hxi : (xs.map (fun x => AV.lit (.int .u8 x)))[i]? = some (AV.lit (.int .u8 (xs.getD i 0))) := by
      rw [List.getElem?_map, List.getElem?_eq_getElem (by omega), List.getD_eq_getElem?_getD, List.getElem?_eq_getElem (by omega)]; rfl
    have hc := (hrel'.2 i _ _ hxi hvi).1
    have hc' : vs[off + i] = .int .u8 (xs.getD i 0) := hc
    rw [← addN c off i]
    rw [cell?_own hheap, List.getElem?_append_left (by omega), List.getElem?_eq_getElem (by omega), hc']
  · exact h.elim

theorem srcW_sound {t : TypeId} {av : AV} {x : Value} {Q : Nat → List AV → Prop} (h : srcW P W0 t av σ Q) (hh : HRel W0 ι σ w) (hr : rel3 ι σ av x) :
    ∃ ad m c news vs, x = .slice (some ad) m c ∧ Q m news ∧ Rels (crel ι σ) news vs ∧ ∀ (j : Nat) (u : Value), vs[j]? = some u → w.cell? (ad.add j) = some u := by
  unfold srcW at h
  split at h
  · rename_i e s by_ b ver off m cap hs
    obtain ⟨B, hB, hv, hl, hq⟩ := h
    obtain ⟨c, tt, hi, rfl, _⟩ := slRel_now hr hB hv
    obtain ⟨vs, rest, hheap, _, hrel, _⟩ := hh.blk b B c tt hB hi
    have hvl : vs.length = B.cells.length := hrel.1.symm
    refine ⟨_, _, _, _, _, rfl, hq, (hrel.drop off).take (m * s), fun j u hj => ?_⟩
    rw [cell?_own hheap]
    rw [List.getElem?_take] at hj
    split at hj
    · rw [List.getElem?_drop] at hj
      rw [List.getElem?_append_left (getElem?_lt hj)]; exact hj
    · cases hj
  · rename_i e s by_ ad m cap hs
    obtain ⟨cs, hl, hc, hlt, hq⟩ := h
    have e : x = .slice (some ad) m cap := hr
    subst e
    refine ⟨_, _, _, _, cs, rfl, hq, ⟨by simp, fun i a b ha hb => ?_⟩, fun j u hj => ?_⟩
    · rw [List.getElem?_map, hb] at ha
      simp at ha; subst ha
      exact ⟨rfl, (hc i b hb).2⟩
    · rw [← (hc j u hj).1]
      have hb : (ad.add j).block = ad.block := by unfold Addr.add; split <;> rfl
      exact hh.below.cell (by rw [hb]; exact hlt)
  · exact h.elim

theorem list2 {α : Type} {a : Array α} {x y : α} (h : a.toList = [x, y]) : a = #[x, y] := by
  have := congrArg List.toArray h
  simpa using this
theorem list1 {α : Type} {a : Array α} {x : α} (h : a.toList = [x]) : a = #[x] := by
  have := congrArg List.toArray h
  simpa using this

theorem opW_sound {o : Oper} {fr : Fr} {a : Act} {next : Act → World → Prop} {Q : Exit → Act → World → Prop} (h : opW P W0 o.op (evA fr) σ K) (hh : HRel W0 ι σ w) (hr : ∀ x, rel3 ι σ (evA fr x) (a.eval x)) (hn : Nxt W0 ι σ K o a next) :
    o.wp P a w next Q := by
  obtain ⟨dst, op, type, pos, after, guard⟩ := o
  unfold opW at h
  dsimp only at h
  split at h
  · rename_i x
    exact wp_of_run rfl (hn _ _ _ _ _ h hh (Ext.refl _ _) (hr x))
  · rename_i x
    exact wp_of_run rfl (hn _ _ _ _ _ h hh (Ext.refl _ _) (hr x))
  · rename_i c x y
    split at h
    · rename_i t u v hc hx hy
      have h1 := hr c; rw [hc] at h1; have e1 : a.eval c = .bool t := h1
      have h2 := hr x; rw [hx] at h2; have e2 : a.eval x = .bool u := h2
      have h3 := hr y; rw [hy] at h3; have e3 : a.eval y = .bool v := h3
      refine wp_of_run (v := .bool (if t then u else v)) (w' := w) ?_ (hn _ _ _ _ _ h hh (Ext.refl _ _) rfl)
      simp only [execOp, e1, asBool, Sem.run_bind, Sem.run_pure, Result.andThen_ok, e2, e3]
      cases t <;> rfl
    · rename_i _ _ t hc hnn
      have h1 := hr c; rw [hc] at h1; have e1 : a.eval c = .bool t := h1
      cases t with
      | true => exact wp_of_run (v := a.eval x) (w' := w) (by simp [execOp, e1, asBool]) (hn _ _ _ _ _ (h.1 rfl) hh (Ext.refl _ _) (hr x))
      | false => exact wp_of_run (v := a.eval y) (w' := w) (by simp [execOp, e1, asBool]) (hn _ _ _ _ _ (h.2 rfl) hh (Ext.refl _ _) (hr y))
    · exact h.elim
  · exact wp_of_yields (allocW_sound h hh) rfl hn
  · rename_i elem x
    exact wp_of_yields (boxW_sound h hh (hr x)) rfl hn
  · exact wp_of_yields ((buildW_sound h hh hr).to hh) rfl hn
  · exact wp_of_yields (buildSliceW_sound h hh hr) rfl hn
  · rename_i t x
    exact wp_of_yields ((loadW_sound h hh (hr x)).to hh) rfl hn
  · rename_i t x y
    obtain ⟨w', ι', σ', h1, h2, h3, h4⟩ := storeW_sound (P := P) h hh (hr x) (hr y)
    refine wp_of_skip (w' := w') ?_ (hn _ _ _ _ _ h2 h3 h4 rfl)
    simp [execOp, h1]
  · rename_i x
    split at h
    · rename_i b ver off hx
      have h1 := hr x; rw [hx] at h1
      obtain ⟨⟨B, hB, hv⟩, hk⟩ := h
      obtain ⟨c, tt, hi, e1⟩ := ptrRel_now h1 hB hv
      exact wp_of_run (v := a.eval x) (w' := w) (by simp [execOp, e1]) (hn _ _ _ _ _ hk hh (Ext.refl _ _) h1)
    · rename_i ad hx
      have h1 := hr x; rw [hx] at h1
      have e1 : a.eval x = .pointer (some ad) := h1
      exact wp_of_run (v := a.eval x) (w' := w) (by simp [execOp, e1]) (hn _ _ _ _ _ h hh (Ext.refl _ _) h1)
    · rename_i g first caps hx
      have h1 := hr x; rw [hx] at h1
      have h1' := h1
      obtain ⟨l1, l2, e1, _, _⟩ := h1
      exact wp_of_run (v := a.eval x) (w' := w) (by simp [execOp, e1]) (hn _ _ _ _ _ h hh (Ext.refl _ _) h1')
    · rename_i g f1 f2 hx
      have h1 := hr x; rw [hx] at h1
      have e1 : a.eval x = .func (.func g) f1 f2 := h1
      exact wp_of_run (v := a.eval x) (w' := w) (by simp [execOp, e1]) (hn _ _ _ _ _ h hh (Ext.refl _ _) h1)
    · exact h.elim
  · rename_i bop t x y ty
    exact wp_of_yields ((binW_sound (x := x) h hh (hr x) (hr y)).to hh) rfl hn
  · rename_i uop t x
    exact wp_of_yields ((unW_sound h hh (hr x)).to hh) rfl hn
  · rename_i src d x
    exact wp_of_yields ((convW_sound h hh (hr x)).to hh) rfl hn
  · rename_i f first caps
    obtain ⟨h1, h2, hk⟩ := h
    refine wp_of_run (v := .func f (first.map a.eval) (caps.map a.eval)) (w' := w) (by simp [execOp, Instr.makeFunc]) (hn _ _ _ _ _ hk hh (Ext.refl _ _) ?_)
    refine ⟨(first.map a.eval).toList, (caps.map a.eval).toList, by rw [Array.toArray_toList, Array.toArray_toList], ?_, ?_⟩
    · rw [Array.toList_map]; exact rels_atoms h1 (rels_map hr _)
    · rw [Array.toList_map]; exact rels_atoms h2 (rels_map hr _)
  · rename_i t l c
    exact wp_of_yields (makeSliceW_sound h hh (hr l) (hr c)) rfl hn
  · rename_i t x lo hi
    exact wp_of_yields ((sliceW_sound hr h hh).to hh) rfl hn
  · rename_i s x f
    exact wp_of_yields ((fieldAddrW_sound h hh (hr x)).to hh) rfl hn
  · rename_i s x f
    exact wp_of_yields ((fieldW_sound h hh (hr x)).to hh) rfl hn
  · rename_i t x i
    exact wp_of_yields ((indexAddrW_sound h hh (hr x) (hr i)).to hh) rfl hn
  · rename_i t x i
    exact wp_of_yields ((indexW_sound h hh (hr x) (hr i)).to hh) rfl hn
  · rename_i x i
    split at h
    · rename_i vs hx
      split at h
      · rename_i v hv
        have h1 := hr x; rw [hx] at h1
        obtain ⟨l, e1, hl⟩ := h1
        obtain ⟨u, hu, hru⟩ := hl.get hv
        refine wp_of_run (v := u) (w' := w) ?_ (hn _ _ _ _ _ h hh (Ext.refl _ _) ?_)
        · simp [execOp, e1, Instr.extract, hu]
        · cases v <;> first | exact hru | exact hru.elim
      · exact h.elim
    · exact h.elim
  · rename_i c
    obtain ⟨callee, args, argTypes⟩ := c
    unfold callOpW at h
    dsimp only at h
    split at h
    · rename_i f
      refine callW_sound h hh (hr f) (rels_map hr args.toList) ?_ hn
      have hm : (args.toList.map a.eval).toArray = args.map a.eval := by rw [← Array.toList_map, Array.toArray_toList]
      rw [hm]
      simp [execOp, resolve]
    · split at h
      · rename_i x t ha ht
        have ha := list1 ha; have ht := list1 ht
        subst ha; subst ht
        obtain ⟨v, av, h1, h2, h5⟩ := lenW_sound (P := P) h hh (hr x) type
        refine wp_of_run (v := v) (w' := w) ?_ (hn v w ι σ av h2 hh (Ext.refl _ _) h5)
        simp [execOp, resolve, invoke, builtin, h1]
      · exact h.elim
    · split at h
      · rename_i s x t t' ha ht
        have ha := list2 ha; have ht := list2 ht
        subst ha; subst ht
        obtain ⟨rfl, ⟨e, sz, by_, z, hs, hz, hzs⟩, h⟩ := h
        obtain ⟨ad, m, c, news, vs, e1, hq, hv, hat⟩ := srcW_sound h hh (hr x)
        obtain ⟨v, w', ι', σ', av, h1, h2, h3, h4, h5⟩ := appendW_sound (P := P) hq hh (hr s) (fun e' s' b' hs' => by rw [hs] at hs'; cases hs'; exact ⟨z, hz, hzs⟩) (c := c) hv hat type
        refine wp_of_run (v := v) (w' := w') ?_ (hn v w' ι' σ' av h2 h3 h4 h5)
        simp [execOp, resolve, invoke, builtin, e1, h1]
      · exact h.elim
    · exact h.elim
  · exact h.elim

end
end Go.Proofs.YtlmplfgnhibfcaaDoor.Abs
