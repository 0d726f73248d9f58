import Derived.Test.YtbbmlnaekefaaaaH1
section
/- The abstract logic, part K: a function by its body; what may be dropped behind it. -/
set_option linter.unusedVariables false
set_option linter.unusedSimpArgs false
namespace Go.Proofs.Ytbbmlnaekefaaaa.Abs
open Go Go.RowKit
/-- the values of the result variables, one behind the other -/
def resW (P : Program) (W0 : World) (fr : Fr) (σ : List Blk) : List ResultVar → (List AV → Prop) → Prop
  | [], K => K []
  | .tmp t :: rs, K => resW P W0 fr σ rs fun vs => K (fr t :: vs)
  | .cell a t :: rs, K => loadW P W0 t (fr a) σ fun v _ => resW P W0 fr σ rs fun vs => K (v :: vs)
def one2 : AV → Bool
  | .tup _ => false
  | _ => true
/-- one result as it is; several as a tuple -/
def tupA : List AV → Option AV
  | [v] => some v
  | vs => if vs.all one2 then some (.tup vs) else none
def initFr (args : List AV) : Fr := fun t => args.getD t .junk
section
variable {P : Program} {W0 : World} {ι ι0 : Loc} {σ σ0 : List Blk} {w : World} {n : Nat}
theorem rel2_of_rel3 {v : AV} {x : Value} (h1 : one2 v = true) (h : rel3 ι σ v x) : rel2 ι σ v x := by
  cases v <;> first | exact h | simp [one2] at h1
def resOne (tmps : Array Value) : ResultVar → Sem Value
  | .tmp t => pure (tmps.getD t undef)
  | .cell a t => do loadVar t (← asAddr (tmps.getD a undef))
theorem results_eq (fn : Func) (tmps : Array Value) : results fn tmps = (do let vs ← fn.results.mapM (resOne tmps); pure (if h : vs.size = 1 then vs[0] else .tuple vs)) := by
  have : resOne tmps = fun r => (match r with | .tmp t => pure (tmps.getD t undef) | .cell a t => do loadVar t (← asAddr (tmps.getD a undef)) : Sem Value) := by
    funext r; cases r <;> rfl
  rw [this]; rfl
theorem run_resList {fr : Fr} {a : Act} (hf : FRel ι σ n fr a) (hh : HRel W0 ι σ w) : ∀ (rs : List ResultVar) (K : List AV → Prop), resW P W0 fr σ rs K →
    ∃ vs xs, K vs ∧ Rels (rel3 ι σ) vs xs ∧ (rs.mapM (resOne a.tmps)).run P w = .ok xs w
  | [], K, h => ⟨[], [], h, Rels.nil, by simp⟩
  | .tmp t :: rs, K, h => by
    obtain ⟨vs, xs, hk, hr, hrun⟩ := run_resList hf hh rs _ h
    refine ⟨_, _, hk, Rels.cons (hf.2 t) hr, ?_⟩
    simp only [List.mapM_cons, Sem.run_bind, resOne, Sem.run_pure, Result.andThen_ok, hrun]
  | .cell ad t :: rs, K, h => by
    obtain ⟨v, av, h1, h2, h3⟩ := loadW_sound (P := P) h hh (hf.2 ad)
    obtain ⟨vs, xs, hk, hr, hrun⟩ := run_resList hf hh rs _ h2
    refine ⟨_, _, hk, Rels.cons h3 hr, ?_⟩
    have hl : (resOne a.tmps (.cell ad t)).run P w = .ok v w := by
      unfold resOne
      dsimp only
      generalize a.tmps.getD ad undef = x at h1
      cases x with
      | pointer p =>
        cases p with
        | none => simp [Instr.loadAt, Instr.sureAddr, stuck, Sem.run] at h1
        | some p => simpa [Instr.loadAt, Instr.sureAddr, asAddr] using h1
      | _ => simp [Instr.loadAt, Instr.sureAddr, stuck, Sem.run] at h1
    simp only [List.mapM_cons, Sem.run_bind, hl, Result.andThen_ok, hrun, Sem.run_pure]
theorem run_results {fn : Func} {fr : Fr} {a : Act} {K : Cont} (hf : FRel ι σ n fr a) (hh : HRel W0 ι σ w) (h : resW P W0 fr σ fn.results.toList fun vs => ∃ v, tupA vs = some v ∧ K v σ) :
    ∃ v x, (results fn a.tmps).run P w = .ok x w ∧ K v σ ∧ rel3 ι σ v x := by
  obtain ⟨vs, xs, ⟨v, hv, hk⟩, hr, hrun⟩ := run_resList hf hh _ _ h
  have hm : (fn.results.mapM (resOne a.tmps)).run P w = .ok xs.toArray w := by
    rw [Array.mapM_eq_mapM_toList]
    simp only [Sem.run_map, hrun, Result.andThen_ok]
  have hres : (results fn a.tmps).run P w = .ok (if h : xs.toArray.size = 1 then xs.toArray[0] else .tuple xs.toArray) w := by
    rw [results_eq]
    simp only [Sem.run_bind, Sem.run_pure, hm, Result.andThen_ok]
  unfold tupA at hv
  split at hv
  · rename_i u
    cases hv
    obtain ⟨b, m, rfl, h1, h2⟩ := hr.uncons
    obtain rfl := h2.nil_inv
    exact ⟨v, b, by rw [hres]; rfl, hk, h1⟩
  · rename_i hne
    split at hv
    · rename_i hall
      cases hv
      have hl : xs.toArray.size ≠ 1 := by
        have := hr.1
        intro h1
        simp at h1
        rw [h1] at this
        match vs, this with
        | [u], _ => exact hne u rfl
      rw [dif_neg hl] at hres
      refine ⟨_, _, hres, hk, xs, rfl, hr.mono' fun a ha b hab => rel2_of_rel3 (List.all_eq_true.1 hall a ha) hab⟩
    · cases hv
/-- Behind a function: blocks that nothing leads to any more may be dropped. -/
def FinW (b0 : Nat) (K : Cont) (v : AV) (σ : List Blk) : Prop := K v σ ∨ ∃ k, b0 ≤ k ∧ Closed k (σ.take k) ∧ bel3 k v = true ∧ K v (σ.take k)
/-- **A function by its body.** -/
theorem ACall.intro {g : FuncId} {fn : Func} {c : Code} {args : List AV} {K : Cont} (cuts : Nat → Nat) (hm : P.follows .mixedOrders = true) (hf : P.funcs[g]? = some fn) (hb : fn.body = some c) (hname : (fn.name == "runtime.NumGoroutine") = false)
    (hn : args.length ≤ fn.ntmps)
    (h : Closed σ.length σ → cW P W0 fn.ntmps σ.length cuts c (initFr args) σ fun e fr' σ' => (e = .normal ∨ e = .ret) ∧ resW P W0 fr' σ' fn.results.toList fun vs => ∃ v, tupA vs = some v ∧ FinW σ.length K v σ') :
    ACall P W0 g args σ K := by
  refine ⟨by simp [callOK, hf, hname, hb], fun ι w vs hh hr => ?_⟩
  have hvl : vs.length = args.length := hr.1.symm
  refine calls_of_wp hf hb (wp_mono (cW_sound (ι0 := ι) (σ0 := σ) hm hh.len c _ (initFr args) σ ι _ w [] (h hh.closed) hh ⟨by simp; omega, fun t => ?_⟩ (Ext.refl _ _) rfl) fun e a' w' hq => ?_)
  · unfold initFr
    rcases Nat.lt_or_ge t args.length with ht | ht
    · have ha := List.getElem?_eq_getElem ht
      obtain ⟨b, hb', hab⟩ := hr.get ha
      have htl : t < vs.length := by omega
      have h1 : args.getD t .junk = args[t] := by simp [ht]
      have h2 : (vs.toArray ++ Array.replicate (fn.ntmps - vs.toArray.size) undef).getD t undef = b := by
        rw [Array.getD_eq_getD_getElem?, Array.getElem?_append_left (by simpa using htl)]
        simp [hb']
      rw [h1, h2]; exact hab
    · have h1 : args.getD t .junk = .junk := by simp [ht]
      rw [h1]; exact trivial
  · obtain ⟨ι', σ', fr', ⟨he, hres⟩, hh', hf', hx', hd'⟩ := hq
    obtain ⟨v, x, hrun, hfin, hrel⟩ := run_results hf' hh' hres
    have key : bodyPost P fn (fun e w' => ∃ v ι' σ' av, e = .returned v ∧ K av σ' ∧ HRel W0 ι' σ' w' ∧ Ext ι σ ι' σ' ∧ rel3 ι' σ' av v) .normal a' w' := by
      refine ⟨hd', x, hrun, ?_⟩
      rcases hfin with hk | ⟨k, hbk, hcl, hbel, hk⟩
      · exact ⟨x, ι', σ', v, rfl, hk, hh', hx', hrel⟩
      · exact ⟨x, ι'.take k, σ'.take k, v, rfl, hk, hh'.take hcl, hx'.take hh.len hbk, hrel.take hbel⟩
    rcases he with rfl | rfl
    · exact key
    · exact key
end
end Go.Proofs.Ytbbmlnaekefaaaa.Abs
end

section
/- The abstract logic, part L: code with its types resolved, so that a walk meets numbers alone; it stands for the code. -/
set_option linter.unusedVariables false
set_option linter.unusedSimpArgs false
namespace Go.Proofs.Ytbbmlnaekefaaaa.Abs
open Go Go.RowKit
inductive RA where
  | t (n : Nat)
  | v (a : AV)
def RA.ev (fr : Fr) : RA → AV
  | .t n => fr n
  | .v a => a
def cA : Operand → RA
  | .tmp t => .t t
  | .const v => .v (ofV v)
  | .global g => .v (.lit (.pointer (some ⟨g, 0, none⟩)))
  | .func f => .v (.lit (.func (.func f) #[] #[]))
theorem cA_ev (fr : Fr) (x : Operand) : (cA x).ev fr = evA fr x := by cases x <;> rfl
inductive ROp where
  | mv (x : RA)
  | pick (c a b : RA)
  | alloc (e : TypeId) (zc : List AV)
  | box (e : TypeId) (x : RA)
  | build (zc : List AV) (parts : List ((Nat × Nat) × RA))
  | bslice (e esz : Nat) (len : Nat) (zc : List AV) (parts : List (Nat × RA))
  | load (s : Nat) (g : Bool) (a : RA)
  | store (s : Nat) (a v : RA)
  | nilck (x : RA)
  | binI (op : BinOp) (x y : RA)
  | binS (op : BinOp) (x y : RA)
  | binB (neg : Bool) (x y : RA)
  | nilS (neg : Bool) (x : RA)
  | nilI (neg : Bool) (x : RA)
  | nilP (neg : Bool) (x : RA)
  | eqA (neg : Bool) (ks : List CK) (x y : RA)
  | un (op : UnOp) (x : RA)
  | conv (k : IntKind) (x : RA)
  | mkfn (f : Fn) (first caps : List RA)
  | mkslice (e esz by_ : Nat) (zc : List AV) (l c : RA)
  | sliceS (x : RA) (lo hi : Option RA)
  | slice (s : Nat) (x : RA) (lo hi : Option RA)
  | sliceP (n s : Nat) (x : RA) (lo hi : Option RA)
  | faddr (off : Nat) (x : RA)
  | fld (off n : Nat) (g : Bool) (x : RA)
  | iaddrA (len s : Nat) (x i : RA)
  | iaddrS (s : Nat) (x i : RA)
  | idxA (len s : Nat) (g : Bool) (x i : RA)
  | idxS (x i : RA)
  | ext (x : RA) (i : Nat)
  | call (f : RA) (args : List RA)
  | lenS (x : RA)
  | lenL (x : RA)
  | strL (x : RA)
  | append (t e esz by_ : Nat) (s x : RA)
  | bytesR (e : TypeId) (x : RA)
def fillR : List AV → List ((Nat × Nat) × AV) → Option (List AV)
  | cells, [] => some cells
  | cells, ((off, size), v) :: rest => match cellsAV v with
    | some cs => if cs.length = size ∧ off + size ≤ cells.length then fillR (cells.take off ++ cs ++ cells.drop (off + size)) rest else none
    | none => none
def loadR (W0 : World) (s : Nat) (g : Bool) (a : AV) (σ : List Blk) (K : Cont) : Prop :=
  match a with
  | .ptr b ver off => ∃ B, σ[b]? = some B ∧ B.ver = ver ∧ off + s ≤ B.cells.length ∧ K (mkAV g ((B.cells.drop off).take s)) σ
  | .lit (.pointer (some ad)) => ∃ cs : List Value, cs.length = s ∧ (∀ (j : Nat) (v : Value), cs[j]? = some v → W0.cell? (ad.add j) = some v ∧ v.oneCell' = true) ∧ ad.block < W0.heap.size ∧ K (mkAV g (cs.map .lit)) σ
  | _ => False
def storeR (s : Nat) (a v : AV) (σ : List Blk) (K : Cont) : Prop :=
  match a, cellsAV v with
  | .ptr b ver off, some cs => ∃ B, σ[b]? = some B ∧ B.ver = ver ∧ cs.length = s ∧ off + s ≤ B.cells.length ∧ K (.lit undef) (σ.set b { B with cells := B.cells.take off ++ cs ++ B.cells.drop (off + s) })
  | _, _ => False
def faddrR (off : Nat) (a : AV) (σ : List Blk) (K : Cont) : Prop :=
  match a with
  | .ptr b ver o => (∃ B, σ[b]? = some B ∧ B.ver = ver) ∧ K (.ptr b ver (o + off)) σ
  | .lit (.pointer (some ad)) => K (.lit (.pointer (some (ad.add off)))) σ
  | _ => False
def fldR (off n : Nat) (g : Bool) (a : AV) (σ : List Blk) (K : Cont) : Prop :=
  match a with
  | .agg cs => match partA g n off cs with
    | some v => K v σ
    | none => False
  | _ => False
def iaddrAR (len s : Nat) (a i : AV) (σ : List Blk) (K : Cont) : Prop :=
  match a, i with
  | .ptr b ver o, .lit (.int _ i) => (∃ B, σ[b]? = some B ∧ B.ver = ver) ∧ 0 ≤ i ∧ i < (len : Int) ∧ K (.ptr b ver (o + i.toNat * s)) σ
  | .lit (.pointer (some ad)), .lit (.int _ i) => 0 ≤ i ∧ i < (len : Int) ∧ K (.lit (.pointer (some (ad.add (i.toNat * s))))) σ
  | _, _ => False
def iaddrSR (s : Nat) (a i : AV) (σ : List Blk) (K : Cont) : Prop :=
  match a, i with
  | .sl b ver o len _, .lit (.int _ i) => (∃ B, σ[b]? = some B ∧ B.ver = ver) ∧ 0 ≤ i ∧ i < (len : Int) ∧ K (.ptr b ver (o + i.toNat * s)) σ
  | .lit (.slice (some ad) len _), .lit (.int _ i) => 0 ≤ i ∧ i < (len : Int) ∧ K (.lit (.pointer (some (ad.add (i.toNat * s))))) σ
  | _, _ => False
def idxAR (len s : Nat) (g : Bool) (a i : AV) (σ : List Blk) (K : Cont) : Prop :=
  match a, i with
  | .agg cs, .lit (.int _ i) => 0 ≤ i ∧ i < (len : Int) ∧ match partA g s (i.toNat * s) cs with
    | some v => K v σ
    | none => False
  | _, _ => False
def idxSR (a i : AV) (σ : List Blk) (K : Cont) : Prop :=
  match a, i with
  | .lit (.string s), .lit (.int _ i) => 0 ≤ i ∧ i < (s.size : Int) ∧ K (.lit (.int .u8 (s.data[i.toNat]?.getD 0).toNat)) σ
  | _, _ => False
def lenSR (x : AV) (σ : List Blk) (K : Cont) : Prop :=
  match x with
  | .lit (.string s) => K (.lit (.int .i64 s.size)) σ
  | _ => False
def lenLR (x : AV) (σ : List Blk) (K : Cont) : Prop :=
  match x with
  | .lit (.slice _ n _) => K (.lit (.int .i64 n)) σ
  | .sl b ver _ n _ => (∃ B, σ[b]? = some B ∧ B.ver = ver) ∧ K (.lit (.int .i64 n)) σ
  | _ => False
def strLR (x : AV) (σ : List Blk) (K : Cont) : Prop :=
  match x with
  | .sl b ver off n _ => ∃ B xs, σ[b]? = some B ∧ B.ver = ver ∧ off + n ≤ B.cells.length ∧ (B.cells.drop off).take n = xs.map (fun x => AV.lit (.int .u8 x)) ∧ K (.lit (.string (strOfNums xs))) σ
  | _ => False
def bytesRR (e : TypeId) (x : AV) (σ : List Blk) (K : Cont) : Prop :=
  match x with
  | .lit (.string s) => s.size ≤ maxLen ∧ ∀ cap, s.size ≤ cap → cap ≤ maxLen → K (.sl σ.length 0 0 s.size cap) (σ ++ [⟨s.data.toList.map fun b => AV.lit (.int .u8 b.toNat), 0, e, 1, false, true⟩])
  | _ => False
def intR (op : BinOp) (x y : AV) (σ : List Blk) (K : Cont) : Prop :=
  match x, y with
  | .lit (.int k a), .lit (.int k' b) => match op with
    | .shl => 0 ≤ b ∧ K (.lit (.int k (shL k a b))) σ
    | .shr => 0 ≤ b ∧ K (.lit (.int k (shR k a b))) σ
    | .add => k = k' ∧ K (.lit (.int k (k.wrap (a + b)))) σ
    | .sub => k = k' ∧ K (.lit (.int k (k.wrap (a - b)))) σ
    | .mul => k = k' ∧ K (.lit (.int k (k.wrap (a * b)))) σ
    | .quo => k = k' ∧ b ≠ 0 ∧ K (.lit (.int k (k.wrap (a.tdiv b)))) σ
    | .rem => k = k' ∧ b ≠ 0 ∧ K (.lit (.int k (a.tmod b))) σ
    | .and => k = k' ∧ K (.lit (.int k (bAnd k a b))) σ
    | .or => k = k' ∧ K (.lit (.int k (bOr k a b))) σ
    | .xor => k = k' ∧ K (.lit (.int k (bXor k a b))) σ
    | .andNot => k = k' ∧ K (.lit (.int k (bAndNot k a b))) σ
    | .eql => k = k' ∧ K (.lit (.bool (decide (a = b)))) σ
    | .neq => k = k' ∧ K (.lit (.bool (!decide (a = b)))) σ
    | .lss => k = k' ∧ K (.lit (.bool (decide (a < b)))) σ
    | .leq => k = k' ∧ K (.lit (.bool (decide (a ≤ b)))) σ
    | .gtr => k = k' ∧ K (.lit (.bool (decide (b < a)))) σ
    | .geq => k = k' ∧ K (.lit (.bool (decide (b ≤ a)))) σ
  | _, _ => False
def strR (op : BinOp) (x y : AV) (σ : List Blk) (K : Cont) : Prop :=
  match x, y with
  | .lit (.string a), .lit (.string b) => match op with
    | .add => ((a.size + b.size : Nat) : Int) ≤ 9223372036854775807 ∧ K (.lit (.string (a ++ b))) σ
    | .eql => K (.lit (.bool (a.toList == b.toList))) σ
    | .neq => K (.lit (.bool (!(a.toList == b.toList)))) σ
    | .lss => K (.lit (.bool (Op.bytesLess a.toList b.toList))) σ
    | .geq => K (.lit (.bool (!Op.bytesLess a.toList b.toList))) σ
    | _ => False
  | _, _ => False
def boolR (neg : Bool) (x y : AV) (σ : List Blk) (K : Cont) : Prop :=
  match x, y with
  | .lit (.bool a), .lit (.bool b) => K (.lit (.bool (if neg then !(a == b) else (a == b)))) σ
  | _, _ => False
def nilSR (neg : Bool) (x : AV) (σ : List Blk) (K : Cont) : Prop :=
  match x with
  | .lit (.slice a _ _) => K (.lit (.bool (if neg then !a.isNone else a.isNone))) σ
  | .sl b ver _ _ _ => (∃ B, σ[b]? = some B ∧ B.ver = ver) ∧ K (.lit (.bool neg)) σ
  | _ => False
def nilIR (neg : Bool) (x : AV) (σ : List Blk) (K : Cont) : Prop :=
  match x with
  | .lit .nilIface => K (.lit (.bool (!neg))) σ
  | .lit (.iface _ _) => K (.lit (.bool neg)) σ
  | _ => False
def nilPR (neg : Bool) (x : AV) (σ : List Blk) (K : Cont) : Prop :=
  match x with
  | .ptr b ver _ => (∃ B, σ[b]? = some B ∧ B.ver = ver) ∧ K (.lit (.bool neg)) σ
  | _ => False
def eqAR (neg : Bool) (ks : List CK) (x y : AV) (σ : List Blk) (K : Cont) : Prop :=
  match x, y with
  | .agg xs, .agg ys => match litsA xs, litsA ys with
    | some vs, some us => match eqC ks vs us with
      | some b => K (.lit (.bool (if neg then !b else b))) σ
      | none => False
    | _, _ => False
  | _, _ => False
def bndR (fr : Fr) (d : Int) : Option RA → Option Int
  | none => some d
  | some x => match x.ev fr with
    | .lit (.int _ n) => some n
    | _ => none
def sliceSR (x : AV) (lo hi : Int → Option Int) (σ : List Blk) (K : Cont) : Prop :=
  match x with
  | .lit (.string s) => match lo 0, hi s.size with
    | some l, some h => 0 ≤ l ∧ l ≤ h ∧ h ≤ (s.size : Int) ∧ K (.lit (.string (s.extract l.toNat h.toNat))) σ
    | _, _ => False
  | _ => False
def sliceR (s : Nat) (x : AV) (lo hi : Int → Option Int) (σ : List Blk) (K : Cont) : Prop :=
  match x with
  | .sl b ver o len cap => match lo 0, hi len with
    | some l, some h => ∃ B, σ[b]? = some B ∧ B.ver = ver ∧ (B.row = true → B.esz = s) ∧ 0 ≤ l ∧ l ≤ h ∧ h ≤ (cap : Int) ∧
        K (.sl b ver (if cap = l.toNat then o else o + l.toNat * s) (h.toNat - l.toNat) (cap - l.toNat)) σ
    | _, _ => False
  | .lit (.slice (some ad) len cap) => match lo 0, hi len with
    | some l, some h => 0 ≤ l ∧ l ≤ h ∧ h ≤ (cap : Int) ∧ K (.lit (.slice (some (if cap = l.toNat then ad else ad.add (l.toNat * s))) (h.toNat - l.toNat) (cap - l.toNat))) σ
    | _, _ => False
  | .lit (.slice none 0 0) => match lo 0, hi 0 with
    | some l, some h => l = 0 ∧ h = 0 ∧ K (.lit (.slice none 0 0)) σ
    | _, _ => False
  | _ => False
def slicePR (n s : Nat) (x : AV) (lo hi : Int → Option Int) (σ : List Blk) (K : Cont) : Prop :=
  match x with
  | .ptr b ver o => match lo 0, hi n with
    | some l, some h => ∃ B, σ[b]? = some B ∧ B.ver = ver ∧ B.row = false ∧ n ≤ maxLen ∧ 0 ≤ l ∧ l ≤ h ∧ h ≤ (n : Int) ∧
          K (.sl b ver (if n = l.toNat then o else o + l.toNat * s) (h.toNat - l.toNat) (n - l.toNat)) σ
    | _, _ => False
  | _ => False
def appendR (e esz by_ : Nat) (s : AV) (m : Nat) (news : List AV) (σ : List Blk) (K : Cont) : Prop :=
  match s with
  | .sl b ver off n _ =>
    ∃ B, σ[b]? = some B ∧ B.ver = ver ∧ off = 0 ∧ B.row = true ∧ B.e = e ∧ B.esz = esz ∧ 0 < esz ∧ n * esz = B.cells.length ∧ news.length = m * esz ∧ n + m ≤ maxLen ∧ (n + m) * by_ ≤ 140737488355328 ∧
      ∀ cap, n + m ≤ cap → cap ≤ maxLen → K (.sl b (ver + 1) 0 (n + m) cap) (σ.set b { B with cells := B.cells ++ news, ver := B.ver + 1, room := true })
  | .lit (.slice none 0 0) => 0 < esz ∧ news.length = m * esz ∧ m ≤ maxLen ∧ m * by_ ≤ 140737488355328 ∧ (m = 0 → K (.lit (.slice none 0 0)) σ) ∧
      (0 < m → ∀ cap, m ≤ cap → cap ≤ maxLen → K (.sl σ.length 0 0 m cap) (σ ++ [⟨news, 0, e, esz, true, true⟩]))
  | _ => False
def srcR (W0 : World) (s : Nat) (x : AV) (σ : List Blk) (Q : Nat → List AV → Prop) : Prop :=
  match x with
  | .sl b ver off m _ => ∃ B, σ[b]? = some B ∧ B.ver = ver ∧ off + m * s ≤ B.cells.length ∧ Q m ((B.cells.drop off).take (m * s))
  | .lit (.slice (some ad) m _) => ∃ cs : List Value, cs.length = m * s ∧ (∀ (j : Nat) (v : Value), cs[j]? = some v → W0.cell? (ad.add j) = some v ∧ v.oneCell' = true) ∧ ad.block < W0.heap.size ∧ Q m (cs.map .lit)
  | .lit (.slice none 0 0) => Q 0 []
  | _ => False
def mksliceR (e esz by_ : Nat) (zc : List AV) (l c : AV) (σ : List Blk) (K : Cont) : Prop :=
  match l, c with
  | .lit (.int _ l), .lit (.int _ c) => 0 ≤ l ∧ l ≤ c ∧ (by_ : Int) * c ≤ 281474976710656 ∧ c ≤ 9223372036854775807 ∧ c.toNat ≤ maxLen ∧
            K (.sl σ.length 0 0 l.toNat c.toNat) (σ ++ [⟨rep c.toNat zc, 0, e, esz, true, true⟩])
  | _, _ => False
def extR (x : AV) (i : Nat) (σ : List Blk) (K : Cont) : Prop :=
  match x with
  | .tup vs => match vs[i]? with
    | some v => K v σ
    | none => False
  | _ => False
def pickR (c a b : AV) (σ : List Blk) (K : Cont) : Prop :=
  match c with
  | .lit (.bool t) => (t = true → K a σ) ∧ (t = false → K b σ)
  | _ => False
def nilckR (x : AV) (σ : List Blk) (K : Cont) : Prop :=
  match x with
  | .ptr b ver off => (∃ B, σ[b]? = some B ∧ B.ver = ver) ∧ K (.ptr b ver off) σ
  | .lit (.pointer (some a)) => K (.lit (.pointer (some a))) σ
  | .fn (.func g) first caps => K (.fn (.func g) first caps) σ
  | .lit (.func (.func g) a b) => K (.lit (.func (.func g) a b)) σ
  | _ => False
/-! ### values are worked out as they are made -/
def fL (l : List AV) : (List AV → Prop) → Prop :=
  List.rec (motive := fun _ => (List AV → Prop) → Prop) (fun K => K []) (fun a _ ih K => ih fun l' => match a with
    | .lit v => K (.lit v :: l')
    | a => K (a :: l')) l
def fv (v : AV) (K : AV → Prop) : Prop :=
  match v with
  | .lit u => K (.lit u)
  | .agg cs => fL cs fun cs => K (.agg cs)
  | .ptr b ver off => K (.ptr b ver off)
  | .sl b ver off n c => K (.sl b ver off n c)
  | .tup vs => K (.tup vs)
  | .fn f a b => K (.fn f a b)
  | .junk => K .junk
theorem fL_eq : ∀ (l : List AV) (K : List AV → Prop), fL l K = K l
  | [], K => rfl
  | a :: l, K => by
    show (fL l fun l' => match a with
      | .lit v => K (.lit v :: l')
      | a => K (a :: l')) = _
    rw [fL_eq l]
    cases a <;> rfl
theorem fv_eq (v : AV) (K : AV → Prop) : fv v K = K v := by
  cases v <;> first | rfl | (unfold fv; exact fL_eq _ _)
/-- the blocks too are worked out where they change -/
def fS (l : List Blk) : (List Blk → Prop) → Prop :=
  List.rec (motive := fun _ => (List Blk → Prop) → Prop) (fun K => K []) (fun B _ ih K => ih fun l' => match B with
    | ⟨cs, v, e, s, r, m⟩ => fL cs fun cs' => K (⟨cs', v, e, s, r, m⟩ :: l')) l
theorem fS_eq : ∀ (l : List Blk) (K : List Blk → Prop), fS l K = K l
  | [], K => rfl
  | B :: l, K => by
    show (fS l fun l' => match B with
      | ⟨cs, v, e, s, r, m⟩ => fL cs fun cs' => K (⟨cs', v, e, s, r, m⟩ :: l')) = _
    rw [fS_eq l]
    obtain ⟨cs, v, e, s, r, m⟩ := B
    exact fL_eq _ _
theorem fv_out {v : AV} {K : AV → Prop} (h : fv v K) : K v := by rw [fv_eq] at h; exact h
def ropW (P : Program) (W0 : World) (o : ROp) (fr : Fr) (σ : List Blk) (K : Cont) : Prop :=
  match o with
  | .mv x => K (x.ev fr) σ
  | .pick c a b => pickR (c.ev fr) (a.ev fr) (b.ev fr) σ K
  | .alloc e zc => fS (σ ++ [⟨zc, 0, e, 0, false, false⟩]) fun σ' => K (.ptr σ.length 0 0) σ'
  | .box e x => boxW e (x.ev fr) σ fun v σ' => fS σ' fun σ' => K v σ'
  | .build zc parts => match fillR zc (parts.map fun p => (p.1, p.2.ev fr)) with
    | some cs => K (.agg cs) σ
    | none => False
  | .bslice e esz len zc parts => match fillR (rep len zc) (parts.map fun p => ((p.1 * esz, esz), p.2.ev fr)) with
    | some cs => fS (σ ++ [⟨cs, 0, e, esz, true, true⟩]) fun σ' => K (.sl σ.length 0 0 len len) σ'
    | none => False
  | .load s g a => loadR W0 s g (a.ev fr) σ K
  | .store s a v => storeR s (a.ev fr) (v.ev fr) σ fun v σ' => fS σ' fun σ' => K v σ'
  | .nilck x => nilckR (x.ev fr) σ K
  | .binI op x y => intR op (x.ev fr) (y.ev fr) σ K
  | .binS op x y => strR op (x.ev fr) (y.ev fr) σ K
  | .binB neg x y => boolR neg (x.ev fr) (y.ev fr) σ K
  | .nilS neg x => nilSR neg (x.ev fr) σ K
  | .nilI neg x => nilIR neg (x.ev fr) σ K
  | .nilP neg x => nilPR neg (x.ev fr) σ K
  | .eqA neg ks x y => eqAR neg ks (x.ev fr) (y.ev fr) σ K
  | .un op x => unW op (x.ev fr) σ K
  | .conv k x => match x.ev fr with
    | .lit (.int _ n) => K (.lit (.int k (k.wrap n))) σ
    | _ => False
  | .mkfn f first caps => (first.map (RA.ev fr)).all atomA = true ∧ (caps.map (RA.ev fr)).all atomA = true ∧ K (.fn f (first.map (RA.ev fr)) (caps.map (RA.ev fr))) σ
  | .mkslice e esz by_ zc l c => mksliceR e esz by_ zc (l.ev fr) (c.ev fr) σ K
  | .sliceS x lo hi => sliceSR (x.ev fr) (fun d => bndR fr d lo) (fun d => bndR fr d hi) σ K
  | .slice s x lo hi => sliceR s (x.ev fr) (fun d => bndR fr d lo) (fun d => bndR fr d hi) σ K
  | .sliceP n s x lo hi => slicePR n s (x.ev fr) (fun d => bndR fr d lo) (fun d => bndR fr d hi) σ K
  | .faddr off x => faddrR off (x.ev fr) σ K
  | .fld off n g x => fldR off n g (x.ev fr) σ K
  | .iaddrA len s x i => iaddrAR len s (x.ev fr) (i.ev fr) σ K
  | .iaddrS s x i => iaddrSR s (x.ev fr) (i.ev fr) σ K
  | .idxA len s g x i => idxAR len s g (x.ev fr) (i.ev fr) σ K
  | .idxS x i => idxSR (x.ev fr) (i.ev fr) σ K
  | .ext x i => extR (x.ev fr) i σ K
  | .call f args => fL (args.map (RA.ev fr)) fun vs => callW P W0 (f.ev fr) vs σ K
  | .lenS x => lenSR (x.ev fr) σ K
  | .lenL x => lenLR (x.ev fr) σ K
  | .strL x => strLR (x.ev fr) σ K
  | .append t e esz by_ s x => srcR W0 esz (x.ev fr) σ fun m news => appendR e esz by_ (s.ev fr) m news σ K
  | .bytesR e x => bytesRR e (x.ev fr) σ K
/-- the compilation of one operation -/
def zcP (P : Program) (t : TypeId) : Option (List AV) := (zeroP P t).bind fun z => cellsAV (ofV z)
def negOf : BinOp → Option Bool
  | .eql => some false
  | .neq => some true
  | _ => none
def compBin (P : Program) (op : BinOp) (t : TypeId) (x y : Operand) : Option ROp :=
  match P.underlying t with
  | some (.int _) => some (.binI op (cA x) (cA y))
  | some .string => some (.binS op (cA x) (cA y))
  | some .bool => (negOf op).map fun n => .binB n (cA x) (cA y)
  | some (.slice _) => match y with
    | .const (.slice none 0 0) => if (sliceP P t).isSome then (negOf op).map fun n => .nilS n (cA x) else none
    | _ => none
  | some (.interface _) => match y with
    | .const .nilIface => (negOf op).map fun n => .nilI n (cA x)
    | _ => none
  | some (.pointer e) => match y with
    | .const (.pointer none) => if P.pointee t = e then (negOf op).map fun n => .nilP n (cA x) else none
    | _ => none
  | some (.struct _) | some (.array _ _) => if P.eqGuardType P.depth t = false then match flatP P 8 t with
    | some ks => (negOf op).map fun n => .eqA n ks (cA x) (cA y)
    | none => none
    else none
  | _ => none
def compParts (P : Program) (t : TypeId) : List (Nat × Operand) → Option (List ((Nat × Nat) × RA))
  | [] => some []
  | (i, x) :: rest => match placesP P t i, compParts P t rest with
    | some p, some r => some ((p, cA x) :: r)
    | _, _ => none
def rowParts (parts : List (Nat × Operand)) : List (Nat × RA) := parts.map fun p => (p.1, cA p.2)
def compOp (P : Program) (op : Op) : Option ROp :=
  match op with
  | .move x | .assign x => some (.mv (cA x))
  | .pick c a b => some (.pick (cA c) (cA a) (cA b))
  | .alloc e => (zcP P e).map fun zc => .alloc e zc
  | .box e x => some (.box e (cA x))
  | .build t parts => match zcP P t, (structP P t).isSome || (arrayP P t).isSome, compParts P t parts.toList with
    | some zc, true, some ps => some (.build zc ps)
    | _, _, _ => none
  | .buildSlice t len parts => match sliceP P t with
    | some (e, esz, _) => match zcP P e with
      | some zc => if zc.length = esz ∧ 0 < esz ∧ len * esz ≤ 16777216 ∧ len ≤ 16777216 then some (.bslice e esz len zc (rowParts parts.toList)) else none
      | none => none
    | none => none
  | .load t a => match szP P t, aggP P t with
    | some s, some g => if g = false → s = 1 then some (.load s g (cA a)) else none
    | _, _ => none
  | .store t a v => (szP P t).map fun s => .store s (cA a) (cA v)
  | .nilCheck x => some (.nilck (cA x))
  | .binOp op t x y _ => compBin P op t x y
  | .unOp op _ x => some (.un op (cA x))
  | .convert src dst x => match P.underlying src, P.underlying dst with
    | some _, some (.int k) => some (.conv k (cA x))
    | some (.slice e), some .string => match P.underlying e with
      | some (.int .u8) => some (.strL (cA x))
      | _ => none
    | some .string, some (.slice e) => match P.underlying e with
      | some (.int .u8) => some (.bytesR e (cA x))
      | _ => none
    | _, _ => none
  | .makeFunc f first caps => some (.mkfn f (first.toList.map cA) (caps.toList.map cA))
  | .makeSlice t l c => match sliceP P t with
    | some (e, esz, by_) => match zcP P e with
      | some zc => if zc.length = esz then some (.mkslice e esz by_ zc (cA l) (cA c)) else none
      | none => none
    | none => none
  | .slice t x lo hi none => match sliceP P t with
    | some (_, s, _) => some (.slice s (cA x) (lo.map cA) (hi.map cA))
    | none => match arrayP P t with
      | some (n, s) => some (.sliceP n s (cA x) (lo.map cA) (hi.map cA))
      | none => match P.underlying t with
        | some .string => some (.sliceS (cA x) (lo.map cA) (hi.map cA))
        | _ => none
  | .fieldAddr s x f => match fieldP P s f with
    | some (off, n, _) => if n ≠ 0 then some (.faddr off (cA x)) else none
    | none => none
  | .field s x f => match fieldP P s f with
    | some (off, n, g) => some (.fld off n g (cA x))
    | none => none
  | .indexAddr t x i => match arrayP P t with
    | some (len, s) => some (.iaddrA len s (cA x) (cA i))
    | none => match sliceP P t with
      | some (_, s, _) => some (.iaddrS s (cA x) (cA i))
      | none => none
  | .index t x i => match P.underlying t with
    | some .string => some (.idxS (cA x) (cA i))
    | some (.array len e) => match szP P e, aggP P e with
      | some s, some g => some (.idxA len s g (cA x) (cA i))
      | _, _ => none
    | _ => none
  | .extract x i => some (.ext (cA x) i)
  | .call c => match c.callee with
    | .value f => some (.call (cA f) (c.args.toList.map cA))
    | .builtin .len => match c.args.toList, c.argTypes.toList with
      | [x], [t] => if (sliceP P t).isSome = true then some (.lenL (cA x)) else match P.underlying t with
        | some .string => some (.lenS (cA x))
        | _ => none
      | _, _ => none
    | .builtin .append => match c.args.toList, c.argTypes.toList with
      | [s, x], [t, t'] => if t = t' then match sliceP P t with
          | some (e, esz, by_) => match zeroP P e with
            | some z => if z.cells.size = esz then some (.append t e esz by_ (cA s) (cA x)) else none
            | none => none
          | none => none
        else none
      | _, _ => none
    | _ => none
  | _ => none
section
variable {P : Program} {W0 : World} {fr : Fr} {σ : List Blk} {K : Cont}
theorem zcP_inv {t : TypeId} {zc : List AV} (h : zcP P t = some zc) : ∃ z, zeroP P t = some z ∧ cellsAV (ofV z) = some zc := by
  unfold zcP at h
  exact Option.bind_eq_some_iff.1 h
theorem bnd_eq (fr : Fr) (d : Int) (x : Option Operand) : bndR fr d (x.map cA) = bndA (evA fr) d x := by
  cases x with
  | none => rfl
  | some x =>
    simp only [Option.map_some, bndR, bndA, cA_ev] <;> (generalize evA fr x = v; cases v <;> rfl)
theorem map_cA (fr : Fr) (l : List Operand) : (l.map cA).map (RA.ev fr) = l.map (evA fr) := by
  rw [List.map_map]; congr 1; funext x; exact cA_ev fr x
theorem fillR_parts {t : TypeId} : ∀ (parts : List (Nat × Operand)) (ps : List ((Nat × Nat) × RA)) (cells out : List AV), compParts P t parts = some ps → fillR cells (ps.map fun p => (p.1, p.2.ev fr)) = some out →
    fillA (placesP P t) cells (parts.map fun (i, x) => (i, evA fr x)) = some out
  | [], ps, cells, out, h, hf => by
    simp only [compParts, Option.some.injEq] at h; subst h
    exact hf
  | (i, x) :: rest, ps, cells, out, h, hf => by
    simp only [compParts] at h
    split at h
    · rename_i p r hp hr
      cases h
      obtain ⟨off, size⟩ := p
      simp only [List.map_cons, fillR, cA_ev] at hf
      simp only [List.map_cons, fillA, hp]
      cases hc : cellsAV (evA fr x) with
      | none => rw [hc] at hf; cases hf
      | some cs =>
        rw [hc] at hf
        dsimp only at hf ⊢
        split at hf
        · rename_i hcond
          rw [if_pos hcond]
          exact fillR_parts rest r _ out hr hf
        · cases hf
    · cases h
theorem fillR_row {esz : Nat} : ∀ (parts : List (Nat × Operand)) (cells out : List AV), fillR cells ((rowParts parts).map fun p => ((p.1 * esz, esz), p.2.ev fr)) = some out →
    fillA (fun i => some (i * esz, esz)) cells (parts.map fun (i, x) => (i, evA fr x)) = some out
  | [], cells, out, hf => hf
  | (i, x) :: rest, cells, out, hf => by
    simp only [rowParts, List.map_cons, fillR, cA_ev] at hf
    simp only [List.map_cons, fillA]
    cases hc : cellsAV (evA fr x) with
    | none => rw [hc] at hf; cases hf
    | some cs =>
      rw [hc] at hf
      dsimp only at hf ⊢
      split at hf
      · rename_i hcond
        rw [if_pos hcond]
        exact fillR_row rest _ out hf
      · cases hf
theorem compBin_sound {op : BinOp} {t : TypeId} {x y : Operand} {r : ROp} (h : compBin P op t x y = some r) (hr : ropW P W0 r fr σ K) : binW P op t y (evA fr x) (evA fr y) σ K := by
  have hneg : ∀ {n : Bool}, negOf op = some n → (op = .eql ∧ n = false) ∨ (op = .neq ∧ n = true) := by
    intro n hn; cases op <;> simp [negOf] at hn <;> simp [hn]
  unfold compBin at h
  split at h
  · cases h
    simp only [ropW, cA_ev] at hr
    unfold intR at hr
    split at hr
    · rename_i k a k' b h1 h2
      rw [h1, h2]
      refine And.intro (fun hn => by cases hn) ?_
      cases op <;> exact hr
    · exact hr.elim
  · cases h
    simp only [ropW, cA_ev] at hr
    unfold strR at hr
    split at hr
    · rename_i a b h1 h2
      rw [h1, h2]
      refine And.intro (fun hn => by cases hn) ?_
      cases op <;> first | exact hr | exact hr.elim
    · exact hr.elim
  · rename_i hu
    obtain ⟨n, hn, rfl⟩ := Option.map_eq_some_iff.1 h
    simp only [ropW, cA_ev] at hr
    unfold boolR at hr
    split at hr
    · rename_i a b h1 h2
      rw [h1, h2]
      refine And.intro (fun hn => by cases hn) ?_
      rcases hneg hn with ⟨rfl, rfl⟩ | ⟨rfl, rfl⟩
      · exact ⟨hu, hr⟩
      · exact ⟨hu, hr⟩
    · exact hr.elim
  · rename_i e hu
    split at h
    · split at h
      · rename_i hs
        obtain ⟨n, hn, rfl⟩ := Option.map_eq_some_iff.1 h
        simp only [ropW, cA_ev] at hr
        unfold nilSR at hr
        split at hr
        · rename_i a _ _ h1
          rw [h1]
          refine And.intro (fun hn => by cases hn) ?_
          rcases hneg hn with ⟨rfl, rfl⟩ | ⟨rfl, rfl⟩
          · exact ⟨hs, hr⟩
          · exact ⟨hs, hr⟩
        · rename_i b ver _ _ _ h1
          rw [h1]
          rcases hneg hn with ⟨rfl, rfl⟩ | ⟨rfl, rfl⟩
          · exact ⟨hr.1, hs, hr.2⟩
          · exact ⟨hr.1, hs, hr.2⟩
        · exact hr.elim
      · cases h
    · cases h
  · rename_i ms hu
    split at h
    · obtain ⟨n, hn, rfl⟩ := Option.map_eq_some_iff.1 h
      simp only [ropW, cA_ev] at hr
      unfold nilIR at hr
      split at hr
      · rename_i h1
        rw [h1]
        refine ⟨fun _ _ => ⟨_, rfl⟩, ?_⟩
        rcases hneg hn with ⟨rfl, rfl⟩ | ⟨rfl, rfl⟩
        · exact ⟨⟨_, hu⟩, hr⟩
        · exact ⟨⟨_, hu⟩, hr⟩
      · rename_i a b h1
        rw [h1]
        refine And.intro (fun hn => by cases hn) ?_
        rcases hneg hn with ⟨rfl, rfl⟩ | ⟨rfl, rfl⟩
        · exact ⟨⟨_, hu⟩, hr⟩
        · exact ⟨⟨_, hu⟩, hr⟩
      · exact hr.elim
    · cases h
  · rename_i e hu
    split at h
    · split at h
      · rename_i he
        obtain ⟨n, hn, rfl⟩ := Option.map_eq_some_iff.1 h
        simp only [ropW, cA_ev] at hr
        unfold nilPR at hr
        split at hr
        · rename_i b ver _ h1
          rw [h1]
          rcases hneg hn with ⟨rfl, rfl⟩ | ⟨rfl, rfl⟩
          · exact ⟨hr.1, by rw [he]; exact hu, hr.2⟩
          · exact ⟨hr.1, by rw [he]; exact hu, hr.2⟩
        · exact hr.elim
      · cases h
    · cases h
  all_goals first
    | (rename_i hu
       split at h
       · rename_i hg
         split at h
         · rename_i ks hks
           obtain ⟨n, hn, rfl⟩ := Option.map_eq_some_iff.1 h
           simp only [ropW, cA_ev] at hr
           unfold eqAR at hr
           split at hr
           · rename_i xs ys h1 h2
             rw [h1, h2]
             split at hr
             · rename_i vs us hvs hus
               split at hr
               · rename_i b hb
                 refine ⟨by simp [aggP, hu, isAggD], hg, ?_⟩
                 simp only [hks, hvs, hus, hb]
                 rcases hneg hn with ⟨rfl, rfl⟩ | ⟨rfl, rfl⟩
                 · exact hr
                 · exact hr
               · exact hr.elim
             · exact hr.elim
           · exact hr.elim
         · cases h
       · cases h)
    | cases h
theorem compOp_sound {op : Op} {r : ROp} (h : compOp P op = some r) (hr : ropW P W0 r fr σ K) : opW P W0 op (evA fr) σ K := by
  unfold compOp at h
  split at h
  · cases h; simpa only [ropW, opW, cA_ev] using hr
  · cases h; simpa only [ropW, opW, cA_ev] using hr
  · rename_i c a b
    cases h
    simp only [ropW, cA_ev] at hr
    unfold pickR at hr
    unfold opW
    split at hr
    · rename_i t ht
      dsimp only
      rw [ht]
      split
      · rename_i t' x y e1 e2 e3
        cases e1
        rw [e2, e3] at hr
        cases t with
        | true => exact hr.1 rfl
        | false => exact hr.2 rfl
      · rename_i t' e1 hn
        cases e1
        exact hr
      · rename_i h1 h2 h3
        first | exact (h2 _ rfl).elim | exact (h1 _ rfl).elim | exact (h3 _ rfl).elim
    · exact hr.elim
  · obtain ⟨zc, hz, rfl⟩ := Option.map_eq_some_iff.1 h
    obtain ⟨z, h1, h2⟩ := zcP_inv hz
    simp only [opW, allocW, h1, boxW, h2]
    simp only [ropW, fS_eq] at hr
    exact hr
  · cases h; simpa only [ropW, opW, cA_ev, fS_eq] using hr
  · split at h
    · rename_i zc ps hz hs hp
      cases h
      obtain ⟨z, h1, h2⟩ := zcP_inv hz
      simp only [ropW] at hr
      split at hr
      · rename_i cs hc
        simp only [opW, buildW, h1, h2, partsA]
        rw [fillR_parts _ _ _ _ hp hc]
        exact ⟨hs, hr⟩
      · exact hr.elim
    · cases h
  · split at h
    · rename_i e esz by_ hs
      split at h
      · rename_i zc hz
        split at h
        · rename_i hcond
          cases h
          obtain ⟨z, h1, h2⟩ := zcP_inv hz
          simp only [ropW] at hr
          split at hr
          · rename_i cs hc
            rw [fS_eq] at hr
            simp only [opW, buildSliceW, hs, h1, h2, partsA]
            rw [fillR_row _ _ _ hc]
            exact ⟨hcond.1, hcond.2.1, hcond.2.2.1, hcond.2.2.2, hr⟩
          · exact hr.elim
        · cases h
      · cases h
    · cases h
  · split at h
    · rename_i s g hs hg
      split at h
      · rename_i h1
        cases h
        simp only [ropW, cA_ev] at hr
        simp only [opW, loadW, hs, hg]
        unfold loadR at hr
        split at hr
        · rename_i he
          obtain ⟨B, a1, a2, a3, a4⟩ := hr
          rw [he]
          exact ⟨B, a1, a2, a3, h1, a4⟩
        · rename_i he
          obtain ⟨cs, a1, a2, a3, a4⟩ := hr
          rw [he]
          exact ⟨cs, a1, h1, a2, a3, a4⟩
        · exact hr.elim
      · cases h
    · cases h
  · obtain ⟨s, hs, rfl⟩ := Option.map_eq_some_iff.1 h
    simp only [ropW, cA_ev, fS_eq] at hr
    unfold storeR at hr
    split at hr
    · rename_i he hc
      simp only [opW, storeW, hs, he, hc]
      exact hr
    · exact hr.elim
  · cases h
    simp only [ropW, cA_ev] at hr
    exact hr
  · exact compBin_sound h hr
  · cases h; simpa only [ropW, opW, cA_ev] using hr
  · split at h
    · rename_i hs hd
      cases h
      simp only [ropW, cA_ev] at hr
      have hb := bytesC_int hs hd
      split at hr
      · rename_i he
        simp only [opW, hb, convW, hs, hd, he]
        exact hr
      · exact hr.elim
    · rename_i e hs hd
      have hb := bytesC_str hs hd
      split at h
      · rename_i hu
        cases h
        simp only [ropW, cA_ev] at hr
        unfold strLR at hr
        split at hr
        · rename_i he
          simp only [opW, hb, convW, hs, hd, he]
          exact ⟨hu, hr⟩
        · exact hr.elim
      · cases h
    · rename_i e hs hd
      have hb := bytesC_yes hs hd
      split at h
      · rename_i hu
        cases h
        simp only [ropW, cA_ev] at hr
        unfold bytesRR at hr
        split at hr
        · rename_i he
          simp only [opW, hb, bytesW, hd, he]
          exact ⟨hu, hr⟩
        · exact hr.elim
      · cases h
    · cases h
  · cases h
    simp only [ropW, map_cA] at hr
    exact hr
  · split at h
    · rename_i e esz by_ hs
      split at h
      · rename_i zc hz
        split at h
        · rename_i hl
          cases h
          obtain ⟨z, h1, h2⟩ := zcP_inv hz
          simp only [ropW, cA_ev] at hr
          unfold mksliceR at hr
          split at hr
          · rename_i e1 e2
            simp only [opW, makeSliceW, e1, e2, hs, h1, h2]
            exact ⟨hl, hr⟩
          · exact hr.elim
        · cases h
      · cases h
    · cases h
  · split at h
    · rename_i hs
      cases h
      simp only [ropW, cA_ev, bnd_eq] at hr
      unfold sliceR at hr
      split at hr
      · rename_i he
        split at hr
        · rename_i hl hhi
          simp only [opW, sliceW, he, hl, hhi, hs]
          exact hr
        · exact hr.elim
      · rename_i he
        split at hr
        · rename_i hl hhi
          simp only [opW, sliceW, he, hl, hhi, hs]
          exact hr
        · exact hr.elim
      · rename_i he
        split at hr
        · rename_i hl hhi
          simp only [opW, sliceW, he, hl, hhi, hs]
          exact hr
        · exact hr.elim
      · exact hr.elim
    · split at h
      · rename_i ha
        cases h
        simp only [ropW, cA_ev, bnd_eq] at hr
        unfold slicePR at hr
        split at hr
        · rename_i he
          split at hr
          · rename_i hl hhi
            simp only [opW, sliceW, he, hl, hhi, ha]
            exact hr
          · exact hr.elim
        · exact hr.elim
      · split at h
        · rename_i hu
          cases h
          simp only [ropW, cA_ev, bnd_eq] at hr
          unfold sliceSR at hr
          split at hr
          · rename_i s he
            split at hr
            · rename_i l hh hl hhi
              simp only [opW, sliceW, he, hl, hhi]
              exact ⟨hu, hr⟩
            · exact hr.elim
          · exact hr.elim
        · cases h
  · split at h
    · rename_i off n g hf
      split at h
      · rename_i hn
        cases h
        simp only [ropW, cA_ev] at hr
        unfold faddrR at hr
        split at hr
        · rename_i he
          simp only [opW, fieldAddrW, hf, he]
          exact ⟨hr.1, hn, hr.2⟩
        · rename_i he
          simp only [opW, fieldAddrW, hf, he]
          exact ⟨hn, hr⟩
        · exact hr.elim
      · cases h
    · cases h
  · split at h
    · rename_i off n g hf
      cases h
      simp only [ropW, cA_ev] at hr
      unfold fldR at hr
      split at hr
      · rename_i he
        simp only [opW, fieldW, hf, he]
        exact hr
      · exact hr.elim
    · cases h
  · split at h
    · rename_i len s ha
      cases h
      simp only [ropW, cA_ev] at hr
      unfold iaddrAR at hr
      split at hr
      · rename_i e1 e2
        simp only [opW, indexAddrW, e1, e2, ha]
        exact hr
      · rename_i e1 e2
        simp only [opW, indexAddrW, e1, e2, ha]
        exact hr
      · exact hr.elim
    · split at h
      · rename_i hs
        cases h
        simp only [ropW, cA_ev] at hr
        unfold iaddrSR at hr
        split at hr
        · rename_i e1 e2
          simp only [opW, indexAddrW, e1, e2, hs]
          exact hr
        · rename_i e1 e2
          simp only [opW, indexAddrW, e1, e2, hs]
          exact hr
        · exact hr.elim
      · cases h
  · split at h
    · rename_i hu
      cases h
      simp only [ropW, cA_ev] at hr
      unfold idxSR at hr
      split at hr
      · rename_i e1 e2
        simp only [opW, indexW, e1, e2]
        exact ⟨hu, hr⟩
      · exact hr.elim
    · rename_i len e hu
      split at h
      · rename_i s g hs hg
        cases h
        simp only [ropW, cA_ev] at hr
        unfold idxAR at hr
        split at hr
        · rename_i e1 e2
          simp only [opW, indexW, e1, e2, hu, hs, hg]
          exact hr
        · exact hr.elim
      · cases h
    · cases h
  · cases h
    simp only [ropW, cA_ev] at hr
    exact hr
  · rename_i c
    obtain ⟨callee, args, argTypes⟩ := c
    dsimp only at h
    split at h
    · cases h
      simp only [ropW, cA_ev, map_cA, fL_eq] at hr
      exact hr
    · split at h
      · rename_i x t hx ht
        split at h
        · rename_i hs
          cases h
          simp only [ropW, cA_ev] at hr
          simp only [opW, callOpW, hx, ht]
          unfold lenW
          unfold lenLR at hr
          split at hr
          · rename_i he
            rw [he]
            exact ⟨hs, hr⟩
          · rename_i he
            rw [he]
            exact ⟨hs, hr⟩
          · exact hr.elim
        · split at h
          · rename_i hu
            cases h
            simp only [ropW, cA_ev] at hr
            simp only [opW, callOpW, hx, ht]
            unfold lenW
            unfold lenSR at hr
            split at hr
            · rename_i he
              rw [he]
              exact ⟨hu, hr⟩
            · exact hr.elim
          · cases h
      · cases h
    · split at h
      · rename_i s x t t' hx ht
        split at h
        · rename_i htt
          split at h
          · rename_i e esz by_ hs
            split at h
            · rename_i z hz
              split at h
              · rename_i hzs
                cases h
                simp only [ropW, cA_ev] at hr
                simp only [opW, callOpW, hx, ht]
                refine ⟨htt, ⟨e, esz, by_, z, hs, hz, hzs⟩, ?_⟩
                have happ : ∀ m news, appendR e esz by_ (evA fr s) m news σ K → appendW P t (evA fr s) m news σ K := by
                  intro m news h
                  unfold appendR at h
                  unfold appendW
                  rw [hs]
                  split at h
                  · rename_i he; rw [he]; exact h
                  · rename_i he; rw [he]; exact h
                  · exact h.elim
                unfold srcR at hr
                unfold srcW
                rw [hs]
                split at hr
                · rename_i he
                  rw [he]
                  obtain ⟨B, a1, a2, a3, a4⟩ := hr
                  exact ⟨B, a1, a2, a3, happ _ _ a4⟩
                · rename_i he
                  rw [he]
                  obtain ⟨cs, a1, a2, a3, a4⟩ := hr
                  exact ⟨cs, a1, a2, a3, happ _ _ a4⟩
                · rename_i he
                  rw [he]
                  exact happ _ _ hr
                · exact hr.elim
              · cases h
            · cases h
          · cases h
        · cases h
      · cases h
    · cases h
  · cases h
end
end Go.Proofs.Ytbbmlnaekefaaaa.Abs
end

section
/- The abstract logic, part M: resolved operations, regions and statements; they stand for the program's own. -/
set_option linter.unusedVariables false
set_option linter.unusedSimpArgs false
namespace Go.Proofs.Ytbbmlnaekefaaaa.Abs
open Go Go.RowKit
section
variable {P : Program} {W0 : World} {fr : Fr} {σ : List Blk} {K K' : Cont}
/-- a computation that only looks has one value -/
def LD (σ : List Blk) (R : Cont → Prop) (K : Cont) : Prop := ∃ av, K av σ ∧ ∀ K' : Cont, K' av σ → R K'
theorem pickR_ld {c a b : AV} (h : pickR c a b σ K) : LD σ (pickR c a b σ) K := by
  unfold pickR at h
  split at h
  · rename_i t
    cases t with
    | true => exact ⟨_, h.1 rfl, fun K' h' => ⟨fun _ => h', fun e => by cases e⟩⟩
    | false => exact ⟨_, h.2 rfl, fun K' h' => ⟨fun e => (by cases e), fun _ => h'⟩⟩
  · exact h.elim
theorem loadR_ld {s : Nat} {g : Bool} {a : AV} (h : loadR W0 s g a σ K) : LD σ (loadR W0 s g a σ) K := by
  unfold loadR at h
  split at h
  · obtain ⟨B, h1, h2, h3, hk⟩ := h; exact ⟨_, hk, fun K' h' => ⟨B, h1, h2, h3, h'⟩⟩
  · obtain ⟨B, h1, h2, h3, hk⟩ := h; exact ⟨_, hk, fun K' h' => ⟨B, h1, h2, h3, h'⟩⟩
  · exact h.elim
theorem faddrR_ld {off : Nat} {a : AV} (h : faddrR off a σ K) : LD σ (faddrR off a σ) K := by
  unfold faddrR at h
  split at h
  · exact ⟨_, h.2, fun K' h' => ⟨h.1, h'⟩⟩
  · exact ⟨_, h, fun K' h' => h'⟩
  · exact h.elim
theorem fldR_ld {off n : Nat} {g : Bool} {a : AV} (h : fldR off n g a σ K) : LD σ (fldR off n g a σ) K := by
  unfold fldR at h
  split at h
  · split at h
    · rename_i v hv
      exact ⟨_, h, fun K' h' => by unfold fldR; dsimp only; rw [hv]; exact h'⟩
    · exact h.elim
  · exact h.elim
theorem iaddrAR_ld {len s : Nat} {a i : AV} (h : iaddrAR len s a i σ K) : LD σ (iaddrAR len s a i σ) K := by
  unfold iaddrAR at h
  split at h
  · exact ⟨_, h.2.2.2, fun K' h' => ⟨h.1, h.2.1, h.2.2.1, h'⟩⟩
  · exact ⟨_, h.2.2, fun K' h' => ⟨h.1, h.2.1, h'⟩⟩
  · exact h.elim
theorem iaddrSR_ld {s : Nat} {a i : AV} (h : iaddrSR s a i σ K) : LD σ (iaddrSR s a i σ) K := by
  unfold iaddrSR at h
  split at h
  · exact ⟨_, h.2.2.2, fun K' h' => ⟨h.1, h.2.1, h.2.2.1, h'⟩⟩
  · exact ⟨_, h.2.2, fun K' h' => ⟨h.1, h.2.1, h'⟩⟩
  · exact h.elim
theorem idxAR_ld {len s : Nat} {g : Bool} {a i : AV} (h : idxAR len s g a i σ K) : LD σ (idxAR len s g a i σ) K := by
  unfold idxAR at h
  split at h
  · obtain ⟨h1, h2, h⟩ := h
    split at h
    · rename_i v hv
      exact ⟨_, h, fun K' h' => by unfold idxAR; dsimp only; rw [hv]; exact ⟨h1, h2, h'⟩⟩
    · exact h.elim
  · exact h.elim
theorem idxSR_ld {a i : AV} (h : idxSR a i σ K) : LD σ (idxSR a i σ) K := by
  unfold idxSR at h
  split at h
  · exact ⟨_, h.2.2, fun K' h' => ⟨h.1, h.2.1, h'⟩⟩
  · exact h.elim
theorem lenSR_ld {x : AV} (h : lenSR x σ K) : LD σ (lenSR x σ) K := by
  unfold lenSR at h
  split at h
  · exact ⟨_, h, fun K' h' => h'⟩
  · exact h.elim
theorem lenLR_ld {x : AV} (h : lenLR x σ K) : LD σ (lenLR x σ) K := by
  unfold lenLR at h
  split at h
  · exact ⟨_, h, fun K' h' => h'⟩
  · exact ⟨_, h.2, fun K' h' => ⟨h.1, h'⟩⟩
  · exact h.elim
theorem strLR_ld {x : AV} (h : strLR x σ K) : LD σ (strLR x σ) K := by
  unfold strLR at h
  split at h
  · obtain ⟨B, xs, h1, h2, h3, h4, hk⟩ := h
    exact ⟨_, hk, fun K' h' => ⟨B, xs, h1, h2, h3, h4, h'⟩⟩
  · exact h.elim
theorem intR_ld {op : BinOp} {x y : AV} (h : intR op x y σ K) : LD σ (intR op x y σ) K := by
  unfold intR at h
  split at h
  · cases op <;> first
      | exact ⟨_, h.2.2, fun K' h' => ⟨h.1, h.2.1, h'⟩⟩
      | exact ⟨_, h.2, fun K' h' => ⟨h.1, h'⟩⟩
  · exact h.elim
theorem strR_ld {op : BinOp} {x y : AV} (h : strR op x y σ K) : LD σ (strR op x y σ) K := by
  unfold strR at h
  split at h
  · cases op <;> first
      | exact h.elim
      | exact ⟨_, h, fun K' h' => h'⟩
      | exact ⟨_, h.2, fun K' h' => ⟨h.1, h'⟩⟩
  · exact h.elim
theorem boolR_ld {neg : Bool} {x y : AV} (h : boolR neg x y σ K) : LD σ (boolR neg x y σ) K := by
  unfold boolR at h
  split at h
  · exact ⟨_, h, fun K' h' => h'⟩
  · exact h.elim
theorem nilSR_ld {neg : Bool} {x : AV} (h : nilSR neg x σ K) : LD σ (nilSR neg x σ) K := by
  unfold nilSR at h
  split at h
  · exact ⟨_, h, fun K' h' => h'⟩
  · exact ⟨_, h.2, fun K' h' => ⟨h.1, h'⟩⟩
  · exact h.elim
theorem nilIR_ld {neg : Bool} {x : AV} (h : nilIR neg x σ K) : LD σ (nilIR neg x σ) K := by
  unfold nilIR at h
  split at h
  · exact ⟨_, h, fun K' h' => h'⟩
  · exact ⟨_, h, fun K' h' => h'⟩
  · exact h.elim
theorem nilPR_ld {neg : Bool} {x : AV} (h : nilPR neg x σ K) : LD σ (nilPR neg x σ) K := by
  unfold nilPR at h
  split at h
  · exact ⟨_, h.2, fun K' h' => ⟨h.1, h'⟩⟩
  · exact h.elim
theorem eqAR_ld {neg : Bool} {ks : List CK} {x y : AV} (h : eqAR neg ks x y σ K) : LD σ (eqAR neg ks x y σ) K := by
  unfold eqAR at h
  split at h
  · split at h
    · rename_i vs us e1 e2
      split at h
      · rename_i b hb
        exact ⟨_, h, fun K' h' => by unfold eqAR; dsimp only; rw [e1, e2]; dsimp only; rw [hb]; exact h'⟩
      · exact h.elim
    · exact h.elim
  · exact h.elim
theorem extR_ld {x : AV} {i : Nat} (h : extR x i σ K) : LD σ (extR x i σ) K := by
  unfold extR at h
  split at h
  · split at h
    · rename_i v hv
      exact ⟨_, h, fun K' h' => by unfold extR; dsimp only; rw [hv]; exact h'⟩
    · exact h.elim
  · exact h.elim
theorem nilckR_ld {x : AV} (h : nilckR x σ K) : LD σ (nilckR x σ) K := by
  unfold nilckR at h
  split at h
  · exact ⟨_, h.2, fun K' h' => ⟨h.1, h'⟩⟩
  · exact ⟨_, h, fun K' h' => h'⟩
  · exact ⟨_, h, fun K' h' => h'⟩
  · exact ⟨_, h, fun K' h' => h'⟩
  · exact h.elim
theorem sliceSR_ld {x : AV} {lo hi : Int → Option Int} (h : sliceSR x lo hi σ K) : LD σ (sliceSR x lo hi σ) K := by
  unfold sliceSR at h
  split at h
  · split at h
    · rename_i l hh e1 e2
      obtain ⟨a1, a2, a3, hk⟩ := h
      exact ⟨_, hk, fun K' h' => by unfold sliceSR; dsimp only; rw [e1, e2]; exact ⟨a1, a2, a3, h'⟩⟩
    · exact h.elim
  · exact h.elim
theorem sliceR_ld {s : Nat} {x : AV} {lo hi : Int → Option Int} (h : sliceR s x lo hi σ K) : LD σ (sliceR s x lo hi σ) K := by
  unfold sliceR at h
  split at h
  · split at h
    · rename_i l hh e1 e2
      obtain ⟨B, b1, b2, b3, a1, a2, a3, hk⟩ := h
      exact ⟨_, hk, fun K' h' => by unfold sliceR; dsimp only; rw [e1, e2]; exact ⟨B, b1, b2, b3, a1, a2, a3, h'⟩⟩
    · exact h.elim
  · split at h
    · rename_i l hh e1 e2
      obtain ⟨a1, a2, a3, hk⟩ := h
      exact ⟨_, hk, fun K' h' => by unfold sliceR; dsimp only; rw [e1, e2]; exact ⟨a1, a2, a3, h'⟩⟩
    · exact h.elim
  · split at h
    · rename_i l hh e1 e2
      obtain ⟨a1, a2, hk⟩ := h
      exact ⟨_, hk, fun K' h' => by unfold sliceR; (try dsimp only); rw [e1, e2]; exact ⟨a1, a2, h'⟩⟩
    · exact h.elim
  · exact h.elim
theorem slicePR_ld {n s : Nat} {x : AV} {lo hi : Int → Option Int} (h : slicePR n s x lo hi σ K) : LD σ (slicePR n s x lo hi σ) K := by
  unfold slicePR at h
  split at h
  · split at h
    · rename_i l hh e1 e2
      obtain ⟨B, b1, b2, b3, a0, a1, a2, a3, hk⟩ := h
      exact ⟨_, hk, fun K' h' => by unfold slicePR; dsimp only; rw [e1, e2]; exact ⟨B, b1, b2, b3, a0, a1, a2, a3, h'⟩⟩
    · exact h.elim
  · exact h.elim
theorem unW_ld {op : UnOp} {x : AV} (h : unW op x σ K) : LD σ (unW op x σ) K := by
  unfold unW at h
  split at h
  · exact ⟨_, h, fun K' h' => h'⟩
  · exact ⟨_, h, fun K' h' => h'⟩
  · exact ⟨_, h, fun K' h' => h'⟩
  · exact h.elim
def looksR : ROp → Bool
  | .alloc _ _ | .box _ _ | .bslice _ _ _ _ _ | .store _ _ _ | .mkslice _ _ _ _ _ _ | .call _ _ | .append _ _ _ _ _ _ | .bytesR _ _ => false
  | _ => true
theorem ropW_ld {o : ROp} (hl : looksR o = true) (h : ropW P W0 o fr σ K) : LD σ (ropW P W0 o fr σ) K := by
  cases o with
  | build zc parts =>
    simp only [ropW] at h
    split at h
    · rename_i he
      exact ⟨_, h, fun K' h' => by (simp only [ropW]; rw [he]; exact h')⟩
    · exact h.elim
  | conv k x =>
    simp only [ropW] at h
    split at h
    · rename_i he
      exact ⟨_, h, fun K' h' => by (simp only [ropW]; rw [he]; exact h')⟩
    · exact h.elim
  | sliceS x lo hi => exact sliceSR_ld (lo := fun d => bndR fr d lo) (hi := fun d => bndR fr d hi) h
  | slice s x lo hi => exact sliceR_ld (lo := fun d => bndR fr d lo) (hi := fun d => bndR fr d hi) h
  | sliceP n s x lo hi => exact slicePR_ld (lo := fun d => bndR fr d lo) (hi := fun d => bndR fr d hi) h
  | _ => first
    | (simp [looksR] at hl; done)
    | exact ⟨_, h, fun K' h' => h'⟩
    | exact pickR_ld h
    | exact loadR_ld h
    | exact faddrR_ld h
    | exact fldR_ld h
    | exact iaddrAR_ld h
    | exact iaddrSR_ld h
    | exact idxAR_ld h
    | exact idxSR_ld h
    | exact lenSR_ld h
    | exact lenLR_ld h
    | exact strLR_ld h
    | exact intR_ld h
    | exact strR_ld h
    | exact boolR_ld h
    | exact nilSR_ld h
    | exact nilIR_ld h
    | exact nilPR_ld h
    | exact eqAR_ld h
    | exact extR_ld h
    | exact nilckR_ld h
    | exact unW_ld h
    | (obtain ⟨a1, a2, hk⟩ := h
       exact ⟨_, hk, fun K' h' => ⟨a1, a2, h'⟩⟩)
theorem callW_mono {f : AV} {args : List AV} (h : callW P W0 f args σ K) (hk : ∀ v σ', K v σ' → K' v σ') : callW P W0 f args σ K' := by
  unfold callW at h ⊢
  split at h
  · exact ⟨h.1, h.2.1, h.2.2.mono hk⟩
  · exact h.mono hk
  · exact h.elim
theorem appendR_mono {e esz by_ : Nat} {s : AV} {m : Nat} {news : List AV} (h : appendR e esz by_ s m news σ K) (hk : ∀ v σ', K v σ' → K' v σ') : appendR e esz by_ s m news σ K' := by
  unfold appendR at h
  split at h
  · obtain ⟨B, a1, a2, a3, a4, a5, a6, a7, a8, a9, a10, a11, h⟩ := h
    exact ⟨B, a1, a2, a3, a4, a5, a6, a7, a8, a9, a10, a11, fun c h1 h2 => hk _ _ (h c h1 h2)⟩
  · obtain ⟨a1, a2, a3, a4, h, h'⟩ := h
    exact ⟨a1, a2, a3, a4, fun e => hk _ _ (h e), fun e c h1 h2 => hk _ _ (h' e c h1 h2)⟩
  · exact h.elim
theorem ropW_mono {o : ROp} (h : ropW P W0 o fr σ K) (hk : ∀ v σ', K v σ' → K' v σ') : ropW P W0 o fr σ K' := by
  by_cases hl : looksR o = true
  · obtain ⟨av, h1, h2⟩ := ropW_ld hl h
    exact h2 _ (hk _ _ h1)
  · cases o <;> first | (exact (hl rfl).elim) | skip
    · unfold ropW at h ⊢
      simp only [fS_eq] at h ⊢
      exact hk _ _ h
    · unfold ropW boxW at h ⊢
      simp only [fS_eq] at h ⊢
      split at h
      · exact hk _ _ h
      · exact h.elim
    · unfold ropW at h ⊢
      simp only [fS_eq] at h ⊢
      split at h
      · exact hk _ _ h
      · exact h.elim
    · unfold ropW storeR at h ⊢
      simp only [fS_eq] at h ⊢
      split at h
      · obtain ⟨B, a1, a2, a3, a4, h⟩ := h
        exact ⟨B, a1, a2, a3, a4, hk _ _ h⟩
      · exact h.elim
    · unfold ropW mksliceR at h ⊢
      dsimp only at h ⊢
      split at h
      · obtain ⟨a1, a2, a3, a4, a5, h⟩ := h
        exact ⟨a1, a2, a3, a4, a5, hk _ _ h⟩
      · exact h.elim
    · unfold ropW at h ⊢
      simp only [fL_eq] at h ⊢
      exact callW_mono h hk
    · unfold ropW srcR at h ⊢
      dsimp only at h ⊢
      split at h
      · obtain ⟨B, a1, a2, a3, h⟩ := h
        exact ⟨B, a1, a2, a3, appendR_mono h hk⟩
      · obtain ⟨B, a1, a2, a3, h⟩ := h
        exact ⟨B, a1, a2, a3, appendR_mono h hk⟩
      · exact appendR_mono h hk
      · exact h.elim
    · unfold ropW bytesRR at h ⊢
      dsimp only at h ⊢
      split at h
      · exact ⟨h.1, fun cap h1 h2 => hk _ _ (h.2 cap h1 h2)⟩
      · exact h.elim
end
/-! ### regions -/
inductive RI where
  | op (d : Option Nat) (o : ROp)
  | grp (g : Nat) (b : Bool) (body : List (Option Nat × ROp))
  | app (d : Option Nat) (d0 e esz by_ : Nat) (s : RA) (len : Nat) (zc : List AV) (parts : List (Nat × RA))
def runB (P : Program) (W0 : World) (l : List (Option Nat × ROp)) : Fr → List Blk → (Fr → List Blk → Prop) → Prop :=
  List.rec (motive := fun _ => Fr → List Blk → (Fr → List Blk → Prop) → Prop) (fun fr σ K => K fr σ)
    (fun o _ ih fr σ K => ropW P W0 o.2 fr σ fun av σ' => fv av fun av => ih (updO fr o.1 av) σ' K) l
def skipB : List (Option Nat × ROp) → Fr → Fr
  | [], fr => fr
  | (d, _) :: rest, fr => skipB rest (updO fr d (.lit undef))
def riW (P : Program) (W0 : World) (l : List RI) : Fr → List Blk → (Fr → List Blk → Prop) → Prop :=
  List.rec (motive := fun _ => Fr → List Blk → (Fr → List Blk → Prop) → Prop) (fun fr σ K => K fr σ)
    (fun i _ ih fr σ K => match i with
      | .op d o => ropW P W0 o fr σ fun av σ' => fv av fun av => ih (updO fr d av) σ' K
      | .grp g b body => match fr g with
        | .lit (.bool t) => (t = b → runB P W0 body (upd fr g (.lit (.bool b))) σ fun fr σ => ih fr σ K) ∧ (t = !b → ih (skipB body (upd fr g (.lit (.bool (!b))))) σ K)
        | .lit _ => ih (skipB body fr) σ K
        | _ => False
      | .app d d0 e esz by_ s len zc parts => match fillR (rep len zc) (parts.map fun p => ((p.1 * esz, esz), p.2.ev fr)) with
        | some cs => appendR e esz by_ (s.ev (upd fr d0 .junk)) len cs σ fun av σ' => ih (updO (upd fr d0 .junk) d av) σ' K
        | none => False) l
section
variable {P : Program} {W0 : World} {rest : List RI} {fr : Fr} {σ : List Blk} {K : Fr → List Blk → Prop}
theorem riW_op {d : Option Nat} {o : ROp} : riW P W0 (.op d o :: rest) fr σ K = ropW P W0 o fr σ fun av σ' => fv av fun av => riW P W0 rest (updO fr d av) σ' K := rfl
theorem riW_grp {g : Nat} {b : Bool} {body : List (Option Nat × ROp)} : riW P W0 (.grp g b body :: rest) fr σ K = match fr g with
    | .lit (.bool t) => (t = b → runB P W0 body (upd fr g (.lit (.bool b))) σ fun fr σ => riW P W0 rest fr σ K) ∧ (t = !b → riW P W0 rest (skipB body (upd fr g (.lit (.bool (!b))))) σ K)
    | .lit _ => riW P W0 rest (skipB body fr) σ K
    | _ => False := rfl
theorem runB_cons {d : Option Nat} {o : ROp} {body : List (Option Nat × ROp)} : runB P W0 ((d, o) :: body) fr σ K = ropW P W0 o fr σ fun av σ' => fv av fun av => runB P W0 body (updO fr d av) σ' K := rfl
theorem runB_nil : runB P W0 [] fr σ K = K fr σ := rfl
theorem riW_app {d : Option Nat} {d0 e esz by_ : Nat} {s : RA} {len : Nat} {zc : List AV} {parts : List (Nat × RA)} : riW P W0 (.app d d0 e esz by_ s len zc parts :: rest) fr σ K = match fillR (rep len zc) (parts.map fun p => ((p.1 * esz, esz), p.2.ev fr)) with
    | some cs => appendR e esz by_ (s.ev (upd fr d0 .junk)) len cs σ fun av σ' => riW P W0 rest (updO (upd fr d0 .junk) d av) σ' K
    | none => False := rfl
end
def qOne (P : Program) (W0 : World) (o : ROp) (fr : Fr) (σ : List Blk) (K : AV → Prop) : Prop :=
  match o with
  | .call f args => ∃ av, callW P W0 (f.ev fr) (args.map (RA.ev fr)) σ (fun v σ' => v = av ∧ σ' = σ) ∧ det3 σ av ∧ K av
  | o => looksR o = true ∧ ropW P W0 o fr σ fun v σ' => σ' = σ ∧ det3 σ v ∧ K v
def qB (P : Program) (W0 : World) (l : List (Option Nat × ROp)) : Fr → List Blk → (Fr → Prop) → Prop :=
  List.rec (motive := fun _ => Fr → List Blk → (Fr → Prop) → Prop) (fun fr σ K => K fr)
    (fun o _ ih fr σ K => qOne P W0 o.2 fr σ fun av => fv av fun av => ih (updO fr o.1 av) σ K) l
def qR (P : Program) (W0 : World) (l : List RI) : Fr → List Blk → (Fr → Prop) → Prop :=
  List.rec (motive := fun _ => Fr → List Blk → (Fr → Prop) → Prop) (fun fr σ K => K fr)
    (fun i _ ih fr σ K => match i with
      | .op d o => qOne P W0 o fr σ fun av => fv av fun av => ih (updO fr d av) σ K
      | .grp g b body => match fr g with
        | .lit (.bool t) => (t = b → qB P W0 body (upd fr g (.lit (.bool b))) σ fun fr => ih fr σ K) ∧ (t = !b → ih (skipB body (upd fr g (.lit (.bool (!b))))) σ K)
        | .lit _ => ih (skipB body fr) σ K
        | _ => False
      | .app _ _ _ _ _ _ _ _ _ => False) l
theorem qR_grp {P : Program} {W0 : World} {rest : List RI} {fr : Fr} {σ : List Blk} {K : Fr → Prop} {g : Nat} {b : Bool} {body : List (Option Nat × ROp)} : qR P W0 (.grp g b body :: rest) fr σ K = match fr g with
    | .lit (.bool t) => (t = b → qB P W0 body (upd fr g (.lit (.bool b))) σ fun fr => qR P W0 rest fr σ K) ∧ (t = !b → qR P W0 rest (skipB body (upd fr g (.lit (.bool (!b))))) σ K)
    | .lit _ => qR P W0 rest (skipB body fr) σ K
    | _ => False := rfl
def dOKb (n : Nat) : Option Nat → Bool
  | some d => decide (d < n)
  | none => true
theorem dOKb_ok {n : Nat} {d : Option Nat} (h : dOKb n d = true) : dOK n d := by
  cases d with
  | none => trivial
  | some d => simpa [dOKb, dOK] using h
def addG (g : Nat) (b : Bool) (d : Option Nat) (r : ROp) : List RI → List RI
  | .grp g' b' body :: l => if g' = g ∧ b' = b ∧ d ≠ some g then .grp g b ((d, r) :: body) :: l else .grp g b [(d, r)] :: .grp g' b' body :: l
  | l => .grp g b [(d, r)] :: l
/-- whether an operation makes a row that the next one appends -/
def feeder (o : Oper) (rest : List Oper) : Bool :=
  match o.op, o.dst with
  | .buildSlice _ _ _, some d => feeds d rest && o.guard.isNone
  | _, _ => false
def appOf (P : Program) (o o2 : Oper) : Option RI :=
  match o.op, o.dst, o2.op with
  | .buildSlice t len parts, some d, .call c => match c.callee, c.args.toList, c.argTypes.toList with
    | .builtin .append, [s, .tmp d'], [t1, t2] => if d' = d ∧ t1 = t ∧ t2 = t ∧ o2.guard = none then
        match sliceP P t with
        | some (e, esz, by_) => match zcP P e with
          | some zc => if zc.length = esz ∧ len * esz ≤ 16777216 then some (.app o2.dst d e esz by_ (cA s) len zc (rowParts parts.toList)) else none
          | none => none
        | none => none
      else none
    | _, _, _ => none
  | _, _, _ => none
def compOps (P : Program) (n : Nat) (ops : Array Oper) : List Oper → Option (List RI)
  | [] => some []
  | o :: rest => if dOKb n o.dst then
      if feeder o rest then match rest with
        | [] => none
        | o2 :: rest2 => if dOKb n o2.dst then match appOf P o o2, compOps P n ops rest2 with
          | some it, some l => some (it :: l)
          | _, _ => none
          else none
      else match compOp P o.op, compOps P n ops rest with
        | some r, some l => match o.guard with
          | none => some (.op o.dst r :: l)
          | some (j, b) => match (ops[j]?).bind (·.dst) with
            | some g => some (addG g b o.dst r l)
            | none => none
        | _, _ => none
    else none
section
variable {P : Program} {W0 : World} {n : Nat} {ops : Array Oper}
theorem updO_ne {fr : Fr} {d : Option Nat} {v : AV} {g : Nat} (h : d ≠ some g) : updO fr d v g = fr g := by
  cases d with
  | none => rfl
  | some d =>
    simp only [updO, upd]
    rw [if_neg (fun e => h (by rw [e]))]
theorem upd_at {fr : Fr} {g : Nat} {v : AV} (h : fr g = v) : upd fr g v = fr := by
  funext t
  unfold upd
  split
  · rename_i e; rw [e, h]
  · rfl
theorem grp_in {fr : Fr} {g : Nat} {b t : Bool} {A : Fr → Prop} {B : Fr → Prop} (ht : fr g = .lit (.bool t)) (h : (t = b → A (upd fr g (.lit (.bool b)))) ∧ (t = !b → B (upd fr g (.lit (.bool (!b)))))) : (t = b → A fr) ∧ (t = !b → B fr) :=
  ⟨fun e => by (have h1 := h.1 e; rw [← e, upd_at ht] at h1; exact h1), fun e => by (have h1 := h.2 e; rw [← e, upd_at ht] at h1; exact h1)⟩
theorem grp_out {fr : Fr} {g : Nat} {b t : Bool} {A : Fr → Prop} {B : Fr → Prop} (ht : fr g = .lit (.bool t)) (h : (t = b → A fr) ∧ (t = !b → B fr)) : (t = b → A (upd fr g (.lit (.bool b)))) ∧ (t = !b → B (upd fr g (.lit (.bool (!b))))) :=
  ⟨fun e => by (have h1 := h.1 e; rw [← e, upd_at ht]; exact h1), fun e => by (have h1 := h.2 e; rw [← e, upd_at ht]; exact h1)⟩
theorem opsW_step {o : Oper} {rest : List Oper} {fr : Fr} {σ : List Blk} {K : Fr → List Blk → Prop} (hd : dOK n o.dst) (hf : feeder o rest = false)
    (h : guardW ops fr o.guard (opW P W0 o.op (evA fr) σ fun av σ' => opsW P W0 n ops none rest (updO fr o.dst av) σ' K) (opsW P W0 n ops none rest (updO fr o.dst (.lit undef)) σ K)) :
    opsW P W0 n ops none (o :: rest) fr σ K := by
  unfold opsW
  refine ⟨hd, ?_⟩
  split
  · rename_i t len parts d h1 h2 h3
    exfalso
    unfold feeder at hf
    rw [h1, h2] at hf
    dsimp only at hf
    rw [h2] at h3
    simp only [Option.getD_some] at h3
    rw [h3] at hf
    cases hf
  · exact h
theorem compOps_sound {K : Fr → List Blk → Prop} : ∀ (m : Nat) (l : List Oper) (is : List RI) (fr : Fr) (σ : List Blk), l.length ≤ m → compOps P n ops l = some is → riW P W0 is fr σ K → opsW P W0 n ops none l fr σ K
  | m, [], is, fr, σ, hm, hc, h => by
    simp only [compOps, Option.some.injEq] at hc; subst hc
    exact h
  | 0, o :: rest, is, fr, σ, hm, hc, h => by simp at hm
  | m + 1, o :: rest, is, fr, σ, hm, hc, h => by
    have hm' : rest.length ≤ m := by simpa using hm
    unfold compOps at hc
    split at hc
    · rename_i hd
      have hd := dOKb_ok hd
      split at hc
      · rename_i hfe
        split at hc
        · cases hc
        · rename_i o2 rest2
          split at hc
          · rename_i hd2
            have hd2 := dOKb_ok hd2
            split at hc
            · rename_i it l hit hl
              cases hc
              unfold appOf at hit
              split at hit
              · rename_i t len parts d c hop hdst hop2
                split at hit
                · rename_i s d' t1 t2 hcal hargs hts
                  split at hit
                  · rename_i hcond
                    obtain ⟨rfl, rfl, rfl, hg2⟩ := hcond
                    split at hit
                    · rename_i e esz by_ hs
                      split at hit
                      · rename_i zc hz
                        split at hit
                        · rename_i hlen
                          cases hit
                          obtain ⟨z, h1, h2⟩ := zcP_inv hz
                          rw [riW_app] at h
                          split at h
                          · rename_i cs hcs
                            unfold opsW
                            refine ⟨hd, ?_⟩
                            have hfe' : (feeds (o.dst.getD 0) (o2 :: rest2) && o.guard.isNone) = true := by
                              unfold feeder at hfe
                              rw [hop, hdst] at hfe
                              rw [hdst]
                              exact hfe
                            rw [hfe', hop, hdst]
                            dsimp only
                            unfold litRowW
                            rw [hs]
                            dsimp only
                            rw [h1]
                            dsimp only
                            rw [h2]
                            dsimp only
                            refine ⟨hlen.1, hlen.2, ?_⟩
                            unfold partsA
                            rw [fillR_row _ _ _ hcs]
                            dsimp only
                            unfold opsW
                            refine ⟨hd2, hg2, ?_⟩
                            rw [hop2]
                            dsimp only
                            rw [hcal, hargs, hts]
                            dsimp only
                            refine ⟨rfl, rfl, rfl, ?_⟩
                            have h' := appendR_mono h (K' := fun av σ' => opsW P W0 n ops none rest2 (updO (upd fr d' .junk) o2.dst av) σ' K) fun v σ' hk => compOps_sound m rest2 l _ _ (by simp at hm'; omega) hl hk
                            rw [cA_ev] at h'
                            unfold appendR at h'
                            unfold appendW
                            rw [hs]
                            split at h'
                            · rename_i he; rw [he]; exact h'
                            · rename_i he; rw [he]; exact h'
                            · exact h'.elim
                          · exact h.elim
                        · cases hit
                      · cases hit
                    · cases hit
                  · cases hit
                · cases hit
              · cases hit
            · cases hc
          · cases hc
      · rename_i hfe
        have hfe : feeder o rest = false := by simpa using hfe
        split at hc
        · rename_i r l hr hl
          refine opsW_step hd hfe ?_
          have rest_ok : ∀ fr σ, riW P W0 l fr σ K → opsW P W0 n ops none rest fr σ K := fun fr σ h => compOps_sound m rest l fr σ hm' hl h
          split at hc
          · rename_i hg
            cases hc
            rw [hg]
            rw [riW_op] at h
            exact compOp_sound hr (ropW_mono h fun v σ' hk => rest_ok _ _ (fv_out hk))
          · rename_i j b hg
            split at hc
            · rename_i g hj
              cases hc
              rw [hg]
              unfold guardW
              dsimp only
              rw [hj]
              dsimp only
              have single : riW P W0 (.grp g b [(o.dst, r)] :: l) fr σ K → match fr g with
                  | .lit (.bool t) => (t = b → opW P W0 o.op (evA fr) σ fun av σ' => opsW P W0 n ops none rest (updO fr o.dst av) σ' K) ∧ (t = !b → opsW P W0 n ops none rest (updO fr o.dst (.lit undef)) σ K)
                  | .lit _ => opsW P W0 n ops none rest (updO fr o.dst (.lit undef)) σ K
                  | _ => False := by
                intro h
                rw [riW_grp] at h
                split at h
                · rename_i t ht
                  have h := grp_in (A := fun fr => runB P W0 _ fr σ fun fr σ => riW P W0 l fr σ K) (B := fun fr => riW P W0 l (skipB _ fr) σ K) ht h
                  refine ⟨fun e => ?_, fun e => rest_ok _ _ (h.2 e)⟩
                  have h1 := h.1 e
                  simp only [runB_cons, runB_nil] at h1
                  exact compOp_sound hr (ropW_mono h1 fun v σ' hk => rest_ok _ _ (fv_out hk))
                · rename_i v hne ht
                  exact rest_ok _ _ h
                · exact h.elim
              unfold addG at h
              split at h
              · rename_i g' b' body l'
                split at h
                · rename_i hcond
                  obtain ⟨rfl, rfl, hne⟩ := hcond
                  rw [riW_grp] at h
                  split at h
                  · rename_i t ht
                    rw [ht]
                    have h := grp_in (A := fun fr => runB P W0 _ fr σ fun fr σ => riW P W0 l' fr σ K) (B := fun fr => riW P W0 l' (skipB _ fr) σ K) ht h
                    refine ⟨fun e => compOp_sound hr (ropW_mono (runB_cons (K := fun fr σ => riW P W0 l' fr σ K) ▸ h.1 e) fun v σ' hk => rest_ok _ _ ?_), fun e => rest_ok _ _ ?_⟩
                    · have e2 : updO fr o.dst v g' = .lit (.bool t) := by rw [updO_ne hne, ht]
                      simp only [riW_grp, e2]
                      refine grp_out (A := fun fr => runB P W0 body fr σ' fun fr σ => riW P W0 l' fr σ K) (B := fun fr => riW P W0 l' (skipB body fr) σ' K) e2 ?_
                      exact ⟨fun _ => fv_out hk, fun e' => by (subst e; cases t <;> cases e')⟩
                    · have e2 : updO fr o.dst (.lit undef) g' = .lit (.bool t) := by rw [updO_ne hne, ht]
                      simp only [riW_grp, e2]
                      refine grp_out (A := fun fr => runB P W0 body fr σ fun fr σ => riW P W0 l' fr σ K) (B := fun fr => riW P W0 l' (skipB body fr) σ K) e2 ?_
                      exact ⟨fun e' => by (subst e'; cases t <;> cases e), fun _ => h.2 e⟩
                  · rename_i v hnb ht
                    rw [ht]
                    have hrest : opsW P W0 n ops none rest (updO fr o.dst (.lit undef)) σ K := by
                      refine rest_ok _ _ ?_
                      rw [riW_grp]
                      rw [updO_ne hne, ht]
                      cases v <;> first | exact h | exact (hnb _ rfl).elim
                    cases v <;> first | exact hrest | exact (hnb _ rfl).elim
                  · exact h.elim
                · exact single h
              · exact single h
            · cases hc
        · cases hc
    · cases hc
theorem qOne_sound {o : Oper} {r : ROp} {fr : Fr} {σ : List Blk} {K : AV → Prop} (hc : compOp P o.op = some r) (h : qOne P W0 r fr σ K) : ∃ av, det3 σ av ∧ quietOp P W0 o fr σ av ∧ K av := by
  have look : ∀ (hl : looks P o.op = true) (hlr : looksR r = true), ropW P W0 r fr σ (fun v σ' => σ' = σ ∧ det3 σ v ∧ K v) → ∃ av, det3 σ av ∧ quietOp P W0 o fr σ av ∧ K av := by
    intro hl hlr h
    obtain ⟨av, ⟨_, h1, h2⟩, h3⟩ := ropW_ld hlr h
    refine ⟨av, h1, ?_, h2⟩
    unfold quietOp
    rw [hl]
    exact compOp_sound hc (h3 (fun v σ' => v = av ∧ σ' = σ) ⟨rfl, rfl⟩)
  by_cases hl : looks P o.op = true
  · have hlr : looksR r = true ∨ looksR r = false := by cases looksR r <;> simp
    rcases hlr with hlr | hlr
    · refine look hl hlr ?_
      cases r <;> first | exact h.2 | (simp [looksR] at hlr)
    · cases r <;> first | (simp [looksR] at hlr; done) | (have := h.1; rw [hlr] at this; cases this; done) | skip
      exfalso
      cases ho : o.op with
      | call c =>
        rw [ho] at hl hc
        obtain ⟨callee, args, argTypes⟩ := c
        cases callee with
        | value f => simp [looks] at hl
        | builtin b =>
          cases b <;> first | (simp [looks] at hl; done) | skip
          unfold compOp at hc
          dsimp only at hc
          split at hc
          · split at hc
            · cases hc
            · split at hc <;> cases hc
          · cases hc
        | _ => simp [looks] at hl
      | slice t x lo hi max =>
        rw [ho] at hl hc
        cases max with
        | some m => simp [looks] at hl
        | none =>
          unfold compOp at hc
          dsimp only at hc
          split at hc
          · cases hc
          · split at hc
            · cases hc
            · split at hc <;> cases hc
      | binOp op t x y ty =>
        rw [ho] at hc
        simp only [compOp, compBin] at hc
        repeat' (split at hc)
        all_goals first
          | (cases hc; done)
          | (obtain ⟨n, hn, e⟩ := Option.map_eq_some_iff.1 hc; cases e; done)
      | _ =>
        rw [ho] at hl hc
        first
          | (simp [looks] at hl; done)
          | (simp only [compOp] at hc
             repeat' (split at hc)
             all_goals (cases hc; done))
          | (simp only [compOp] at hc; cases hc; done)
  · cases ho : o.op with
    | call c =>
      rw [ho] at hl hc
      obtain ⟨callee, args, argTypes⟩ := c
      cases callee with
      | value f =>
        simp only [compOp] at hc
        cases hc
        obtain ⟨av, h1, h2, h3⟩ := h
        refine ⟨av, h2, ?_, h3⟩
        unfold quietOp
        rw [ho]
        simp only [looks]
        simpa only [cA_ev, map_cA] using h1
      | builtin b =>
        exfalso
        cases b <;> first
          | (simp [looks] at hl; done)
          | (simp [compOp] at hc; done)
          | skip
        unfold compOp at hc
        dsimp only at hc
        repeat' (split at hc)
        all_goals first
          | (cases hc; done)
          | (cases hc; exact absurd h.1 (by simp [looksR]))
      | _ => simp [compOp] at hc
    | convert src dst x =>
      exfalso
      rw [ho] at hl hc
      simp only [compOp] at hc
      simp only [looks] at hl
      split at hc
      · rename_i hs hd; rw [bytesC_int hs hd] at hl; exact hl rfl
      · rename_i hs hd; rw [bytesC_str hs hd] at hl; exact hl rfl
      · split at hc
        · cases hc; exact absurd h.1 (by simp [looksR])
        · cases hc
      · cases hc
    | _ =>
      exfalso
      rw [ho] at hl hc
      first
        | (simp [looks] at hl; done)
        | (simp [compOp] at hc; done)
        | (simp only [compOp] at hc
           repeat' (split at hc)
           all_goals first
             | (cases hc; done)
             | (cases hc; exact absurd h.1 (by simp [looksR])))
        | (simp only [compOp] at hc
           obtain ⟨n, hn, e⟩ := Option.map_eq_some_iff.1 hc
           cases e
           exact absurd h.1 (by simp [looksR]))
        | (simp only [compOp] at hc
           cases hc
           exact absurd h.1 (by simp [looksR]))
        | (rename_i max
           cases max with
           | none => simp [looks] at hl
           | some m => simp [compOp] at hc)
theorem qW_step {o : Oper} {rest : List Oper} {fr : Fr} {σ : List Blk} {K : Fr → Prop} (hd : dOK n o.dst)
    (h : guardW ops fr o.guard (∃ av, det3 σ av ∧ quietOp P W0 o fr σ av ∧ qW P W0 n ops rest (updO fr o.dst av) σ K) (qW P W0 n ops rest (updO fr o.dst (.lit undef)) σ K)) :
    qW P W0 n ops (o :: rest) fr σ K := by
  unfold qW
  exact ⟨hd, h⟩
theorem compOps_q {σ : List Blk} {K : Fr → Prop} : ∀ (l : List Oper) (is : List RI) (fr : Fr), compOps P n ops l = some is → qR P W0 is fr σ K → qW P W0 n ops l fr σ K
  | [], is, fr, hc, h => by
    simp only [compOps, Option.some.injEq] at hc; subst hc
    exact h
  | o :: rest, is, fr, hc, h => by
    unfold compOps at hc
    split at hc
    · rename_i hd
      have hd := dOKb_ok hd
      split at hc
      · exfalso
        split at hc
        · cases hc
        · split at hc
          · split at hc
            · rename_i it l hit hl
              cases hc
              unfold appOf at hit
              repeat' (split at hit)
              all_goals first
                | (cases hit; done)
                | (cases hit; exact h.elim)
            · cases hc
          · cases hc
      · split at hc
        · rename_i r l hr hl
          refine qW_step hd ?_
          have rest_ok : ∀ fr, qR P W0 l fr σ K → qW P W0 n ops rest fr σ K := fun fr h => compOps_q rest l fr hl h
          have one : ∀ (fr : Fr) (K' : AV → Prop), qOne P W0 r fr σ K' → (∀ av, K' av → qW P W0 n ops rest (updO fr o.dst av) σ K) → ∃ av, det3 σ av ∧ quietOp P W0 o fr σ av ∧ qW P W0 n ops rest (updO fr o.dst av) σ K :=
            fun fr K' h hk => let ⟨av, h1, h2, h3⟩ := qOne_sound hr h; ⟨av, h1, h2, hk av h3⟩
          split at hc
          · rename_i hg
            cases hc
            rw [hg]
            exact one _ _ h fun av hk => rest_ok _ (fv_out hk)
          · rename_i j b hg
            split at hc
            · rename_i g hj
              cases hc
              rw [hg]
              unfold guardW
              dsimp only
              rw [hj]
              dsimp only
              have single : qR P W0 (.grp g b [(o.dst, r)] :: l) fr σ K → match fr g with
                  | .lit (.bool t) => (t = b → ∃ av, det3 σ av ∧ quietOp P W0 o fr σ av ∧ qW P W0 n ops rest (updO fr o.dst av) σ K) ∧ (t = !b → qW P W0 n ops rest (updO fr o.dst (.lit undef)) σ K)
                  | .lit _ => qW P W0 n ops rest (updO fr o.dst (.lit undef)) σ K
                  | _ => False := by
                intro h
                rw [qR_grp] at h
                split at h
                · rename_i t ht
                  have h := grp_in (A := fun fr => qB P W0 _ fr σ fun fr => qR P W0 l fr σ K) (B := fun fr => qR P W0 l (skipB _ fr) σ K) ht h
                  exact ⟨fun e => one _ _ (h.1 e) fun av hk => rest_ok _ (fv_out hk), fun e => rest_ok _ (h.2 e)⟩
                · exact rest_ok _ h
                · exact h.elim
              unfold addG at h
              split at h
              · rename_i g' b' body l'
                split at h
                · rename_i hcond
                  obtain ⟨rfl, rfl, hne⟩ := hcond
                  rw [qR_grp] at h
                  split at h
                  · rename_i t ht
                    rw [ht]
                    have h := grp_in (A := fun fr => qB P W0 _ fr σ fun fr => qR P W0 l' fr σ K) (B := fun fr => qR P W0 l' (skipB _ fr) σ K) ht h
                    refine ⟨fun e => one _ _ (h.1 e) fun av hk => rest_ok _ ?_, fun e => rest_ok _ ?_⟩
                    · have e2 : updO fr o.dst av g' = .lit (.bool t) := by rw [updO_ne hne, ht]
                      simp only [qR_grp, e2]
                      refine grp_out (A := fun fr => qB P W0 body fr σ fun fr => qR P W0 l' fr σ K) (B := fun fr => qR P W0 l' (skipB body fr) σ K) e2 ?_
                      exact ⟨fun _ => fv_out hk, fun e' => by (subst e; cases t <;> cases e')⟩
                    · have e2 : updO fr o.dst (.lit undef) g' = .lit (.bool t) := by rw [updO_ne hne, ht]
                      simp only [qR_grp, e2]
                      refine grp_out (A := fun fr => qB P W0 body fr σ fun fr => qR P W0 l' fr σ K) (B := fun fr => qR P W0 l' (skipB body fr) σ K) e2 ?_
                      exact ⟨fun e' => by (subst e'; cases t <;> cases e), fun _ => h.2 e⟩
                  · rename_i v hnb ht
                    rw [ht]
                    have hrest : qW P W0 n ops rest (updO fr o.dst (.lit undef)) σ K := by
                      refine rest_ok _ ?_
                      rw [qR_grp]
                      rw [updO_ne hne, ht]
                      cases v <;> first | exact h | exact (hnb _ rfl).elim
                    cases v <;> first | exact hrest | exact (hnb _ rfl).elim
                  · exact h.elim
                · exact single h
              · exact single h
            · cases hc
        · cases hc
    · cases hc
end
end Go.Proofs.Ytbbmlnaekefaaaa.Abs
end

section
/- The abstract logic, part O: a region that draws its order, with a new block or a plain computation that may come up early. -/
set_option linter.unusedVariables false
set_option linter.unusedSimpArgs false
namespace Go.Proofs.Ytbbmlnaekefaaaa.Abs
open Go Go.RowKit
section
variable {P : Program} {W0 : World} {fr fr' : Fr} {σ : List Blk} {K K' : Cont}
/-- one value, whatever the blocks are / whatever blocks are added -/
def LP (R : List Blk → Cont → Prop) (σ : List Blk) (K : Cont) : Prop := ∃ av, K av σ ∧ ∀ (τ : List Blk) (K' : Cont), K' av τ → R τ K'
def LX (R : List Blk → Cont → Prop) (σ : List Blk) (K : Cont) : Prop := ∃ av, K av σ ∧ ∀ (τ : List Blk) (K' : Cont), K' av (σ ++ τ) → R (σ ++ τ) K'
theorem LP.lx {R : List Blk → Cont → Prop} (h : LP R σ K) : LX R σ K := let ⟨av, h1, h2⟩ := h; ⟨av, h1, fun τ K' hk => h2 _ K' hk⟩
theorem getx {b : Nat} {B : Blk} {τ : List Blk} (h : σ[b]? = some B) : (σ ++ τ)[b]? = some B := by
  rw [List.getElem?_append_left (getElem?_lt h)]; exact h
theorem curx {b ver : Nat} {τ : List Blk} (h : ∃ B, σ[b]? = some B ∧ B.ver = ver) : ∃ B, (σ ++ τ)[b]? = some B ∧ B.ver = ver :=
  let ⟨B, h1, h2⟩ := h; ⟨B, getx h1, h2⟩
theorem pickR_lp {c a b : AV} (h : pickR c a b σ K) : LP (fun σ => pickR c a b σ) σ K := by
  unfold pickR at h
  split at h
  · rename_i t
    cases t with
    | true => exact ⟨_, h.1 rfl, fun τ K' h' => ⟨fun _ => h', fun e => by cases e⟩⟩
    | false => exact ⟨_, h.2 rfl, fun τ K' h' => ⟨fun e => (by cases e), fun _ => h'⟩⟩
  · exact h.elim
theorem loadR_lx {s : Nat} {g : Bool} {a : AV} (h : loadR W0 s g a σ K) : LX (fun σ => loadR W0 s g a σ) σ K := by
  unfold loadR at h
  split at h
  · obtain ⟨B, h1, h2, h3, hk⟩ := h; exact ⟨_, hk, fun τ K' h' => ⟨B, getx h1, h2, h3, h'⟩⟩
  · obtain ⟨B, h1, h2, h3, hk⟩ := h; exact ⟨_, hk, fun τ K' h' => ⟨B, h1, h2, h3, h'⟩⟩
  · exact h.elim
theorem faddrR_lx {off : Nat} {a : AV} (h : faddrR off a σ K) : LX (fun σ => faddrR off a σ) σ K := by
  unfold faddrR at h
  split at h
  · exact ⟨_, h.2, fun τ K' h' => ⟨curx h.1, h'⟩⟩
  · exact ⟨_, h, fun τ K' h' => h'⟩
  · exact h.elim
theorem fldR_lp {off n : Nat} {g : Bool} {a : AV} (h : fldR off n g a σ K) : LP (fun σ => fldR off n g a σ) σ K := by
  unfold fldR at h
  split at h
  · split at h
    · rename_i v hv
      exact ⟨_, h, fun τ K' h' => by unfold fldR; dsimp only; rw [hv]; exact h'⟩
    · exact h.elim
  · exact h.elim
theorem iaddrAR_lx {len s : Nat} {a i : AV} (h : iaddrAR len s a i σ K) : LX (fun σ => iaddrAR len s a i σ) σ K := by
  unfold iaddrAR at h
  split at h
  · exact ⟨_, h.2.2.2, fun τ K' h' => ⟨curx h.1, h.2.1, h.2.2.1, h'⟩⟩
  · exact ⟨_, h.2.2, fun τ K' h' => ⟨h.1, h.2.1, h'⟩⟩
  · exact h.elim
theorem iaddrSR_lx {s : Nat} {a i : AV} (h : iaddrSR s a i σ K) : LX (fun σ => iaddrSR s a i σ) σ K := by
  unfold iaddrSR at h
  split at h
  · exact ⟨_, h.2.2.2, fun τ K' h' => ⟨curx h.1, h.2.1, h.2.2.1, h'⟩⟩
  · exact ⟨_, h.2.2, fun τ K' h' => ⟨h.1, h.2.1, h'⟩⟩
  · exact h.elim
theorem idxAR_lp {len s : Nat} {g : Bool} {a i : AV} (h : idxAR len s g a i σ K) : LP (fun σ => idxAR len s g a i σ) σ K := by
  unfold idxAR at h
  split at h
  · obtain ⟨h1, h2, h⟩ := h
    split at h
    · rename_i v hv
      exact ⟨_, h, fun τ K' h' => by unfold idxAR; dsimp only; rw [hv]; exact ⟨h1, h2, h'⟩⟩
    · exact h.elim
  · exact h.elim
theorem idxSR_lp {a i : AV} (h : idxSR a i σ K) : LP (fun σ => idxSR a i σ) σ K := by
  unfold idxSR at h
  split at h
  · exact ⟨_, h.2.2, fun τ K' h' => ⟨h.1, h.2.1, h'⟩⟩
  · exact h.elim
theorem lenSR_lp {x : AV} (h : lenSR x σ K) : LP (fun σ => lenSR x σ) σ K := by
  unfold lenSR at h
  split at h
  · exact ⟨_, h, fun τ K' h' => h'⟩
  · exact h.elim
theorem lenLR_lx {x : AV} (h : lenLR x σ K) : LX (fun σ => lenLR x σ) σ K := by
  unfold lenLR at h
  split at h
  · exact ⟨_, h, fun τ K' h' => h'⟩
  · exact ⟨_, h.2, fun τ K' h' => ⟨curx h.1, h'⟩⟩
  · exact h.elim
theorem strLR_lx {x : AV} (h : strLR x σ K) : LX (fun σ => strLR x σ) σ K := by
  unfold strLR at h
  split at h
  · obtain ⟨B, xs, h1, h2, h3, h4, hk⟩ := h
    exact ⟨_, hk, fun τ K' h' => ⟨B, xs, getx h1, h2, h3, h4, h'⟩⟩
  · exact h.elim
theorem intR_lp {op : BinOp} {x y : AV} (h : intR op x y σ K) : LP (fun σ => intR op x y σ) σ K := by
  unfold intR at h
  split at h
  · cases op <;> first
      | exact ⟨_, h.2.2, fun τ K' h' => ⟨h.1, h.2.1, h'⟩⟩
      | exact ⟨_, h.2, fun τ K' h' => ⟨h.1, h'⟩⟩
  · exact h.elim
theorem strR_lp {op : BinOp} {x y : AV} (h : strR op x y σ K) : LP (fun σ => strR op x y σ) σ K := by
  unfold strR at h
  split at h
  · cases op <;> first
      | exact h.elim
      | exact ⟨_, h, fun τ K' h' => h'⟩
      | exact ⟨_, h.2, fun τ K' h' => ⟨h.1, h'⟩⟩
  · exact h.elim
theorem boolR_lp {neg : Bool} {x y : AV} (h : boolR neg x y σ K) : LP (fun σ => boolR neg x y σ) σ K := by
  unfold boolR at h
  split at h
  · exact ⟨_, h, fun τ K' h' => h'⟩
  · exact h.elim
theorem nilSR_lx {neg : Bool} {x : AV} (h : nilSR neg x σ K) : LX (fun σ => nilSR neg x σ) σ K := by
  unfold nilSR at h
  split at h
  · exact ⟨_, h, fun τ K' h' => h'⟩
  · exact ⟨_, h.2, fun τ K' h' => ⟨curx h.1, h'⟩⟩
  · exact h.elim
theorem nilIR_lp {neg : Bool} {x : AV} (h : nilIR neg x σ K) : LP (fun σ => nilIR neg x σ) σ K := by
  unfold nilIR at h
  split at h
  · exact ⟨_, h, fun τ K' h' => h'⟩
  · exact ⟨_, h, fun τ K' h' => h'⟩
  · exact h.elim
theorem nilPR_lx {neg : Bool} {x : AV} (h : nilPR neg x σ K) : LX (fun σ => nilPR neg x σ) σ K := by
  unfold nilPR at h
  split at h
  · exact ⟨_, h.2, fun τ K' h' => ⟨curx h.1, h'⟩⟩
  · exact h.elim
theorem eqAR_lp {neg : Bool} {ks : List CK} {x y : AV} (h : eqAR neg ks x y σ K) : LP (fun σ => eqAR neg ks x y σ) σ K := by
  unfold eqAR at h
  split at h
  · split at h
    · rename_i vs us e1 e2
      split at h
      · rename_i b hb
        exact ⟨_, h, fun τ K' h' => by unfold eqAR; dsimp only; rw [e1, e2]; dsimp only; rw [hb]; exact h'⟩
      · exact h.elim
    · exact h.elim
  · exact h.elim
theorem extR_lp {x : AV} {i : Nat} (h : extR x i σ K) : LP (fun σ => extR x i σ) σ K := by
  unfold extR at h
  split at h
  · split at h
    · rename_i v hv
      exact ⟨_, h, fun τ K' h' => by unfold extR; dsimp only; rw [hv]; exact h'⟩
    · exact h.elim
  · exact h.elim
theorem nilckR_lx {x : AV} (h : nilckR x σ K) : LX (fun σ => nilckR x σ) σ K := by
  unfold nilckR at h
  split at h
  · exact ⟨_, h.2, fun τ K' h' => ⟨curx h.1, h'⟩⟩
  · exact ⟨_, h, fun τ K' h' => h'⟩
  · exact ⟨_, h, fun τ K' h' => h'⟩
  · exact ⟨_, h, fun τ K' h' => h'⟩
  · exact h.elim
theorem sliceSR_lp {x : AV} {lo hi : Int → Option Int} (h : sliceSR x lo hi σ K) : LP (fun σ => sliceSR x lo hi σ) σ K := by
  unfold sliceSR at h
  split at h
  · split at h
    · rename_i l hh e1 e2
      obtain ⟨a1, a2, a3, hk⟩ := h
      exact ⟨_, hk, fun τ K' h' => by unfold sliceSR; dsimp only; rw [e1, e2]; exact ⟨a1, a2, a3, h'⟩⟩
    · exact h.elim
  · exact h.elim
theorem sliceR_lx {s : Nat} {x : AV} {lo hi : Int → Option Int} (h : sliceR s x lo hi σ K) : LX (fun σ => sliceR s x lo hi σ) σ K := by
  unfold sliceR at h
  split at h
  · split at h
    · rename_i l hh e1 e2
      obtain ⟨B, b1, b2, b3, a1, a2, a3, hk⟩ := h
      exact ⟨_, hk, fun τ K' h' => by unfold sliceR; dsimp only; rw [e1, e2]; exact ⟨B, getx b1, b2, b3, a1, a2, a3, h'⟩⟩
    · exact h.elim
  · split at h
    · rename_i l hh e1 e2
      obtain ⟨a1, a2, a3, hk⟩ := h
      exact ⟨_, hk, fun τ K' h' => by unfold sliceR; dsimp only; rw [e1, e2]; exact ⟨a1, a2, a3, h'⟩⟩
    · exact h.elim
  · split at h
    · rename_i l hh e1 e2
      obtain ⟨a1, a2, hk⟩ := h
      exact ⟨_, hk, fun τ K' h' => by unfold sliceR; (try dsimp only); rw [e1, e2]; exact ⟨a1, a2, h'⟩⟩
    · exact h.elim
  · exact h.elim
theorem slicePR_lx {n s : Nat} {x : AV} {lo hi : Int → Option Int} (h : slicePR n s x lo hi σ K) : LX (fun σ => slicePR n s x lo hi σ) σ K := by
  unfold slicePR at h
  split at h
  · split at h
    · rename_i l hh e1 e2
      obtain ⟨B, b1, b2, b3, a0, a1, a2, a3, hk⟩ := h
      exact ⟨_, hk, fun τ K' h' => by unfold slicePR; dsimp only; rw [e1, e2]; exact ⟨B, getx b1, b2, b3, a0, a1, a2, a3, h'⟩⟩
    · exact h.elim
  · exact h.elim
theorem unW_lp {op : UnOp} {x : AV} (h : unW op x σ K) : LP (fun σ => unW op x σ) σ K := by
  unfold unW at h
  split at h
  · exact ⟨_, h, fun τ K' h' => h'⟩
  · exact ⟨_, h, fun τ K' h' => h'⟩
  · exact ⟨_, h, fun τ K' h' => h'⟩
  · exact h.elim
def pureR : ROp → Bool
  | .mv _ | .pick _ _ _ | .build _ _ | .binI _ _ _ | .binS _ _ _ | .binB _ _ _ | .nilI _ _ | .eqA _ _ _ _ | .un _ _ | .conv _ _ | .mkfn _ _ _ | .fld _ _ _ _ | .idxA _ _ _ _ _ | .idxS _ _ | .ext _ _ | .lenS _ | .sliceS _ _ _ => true
  | _ => false
theorem ropW_lp {o : ROp} (hp : pureR o = true) (h : ropW P W0 o fr σ K) : LP (ropW P W0 o fr) σ K := by
  cases o with
  | build zc parts =>
    simp only [ropW] at h
    split at h
    · rename_i he
      exact ⟨_, h, fun τ K' h' => by (simp only [ropW]; rw [he]; exact h')⟩
    · exact h.elim
  | conv k x =>
    simp only [ropW] at h
    split at h
    · rename_i he
      exact ⟨_, h, fun τ K' h' => by (simp only [ropW]; rw [he]; exact h')⟩
    · exact h.elim
  | sliceS x lo hi => exact sliceSR_lp (lo := fun d => bndR fr d lo) (hi := fun d => bndR fr d hi) h
  | _ => first
    | (simp [pureR] at hp; done)
    | exact ⟨_, h, fun τ K' h' => h'⟩
    | exact pickR_lp h
    | exact fldR_lp h
    | exact idxAR_lp h
    | exact idxSR_lp h
    | exact lenSR_lp h
    | exact intR_lp h
    | exact strR_lp h
    | exact boolR_lp h
    | exact nilIR_lp h
    | exact eqAR_lp h
    | exact extR_lp h
    | exact unW_lp h
    | (obtain ⟨a1, a2, hk⟩ := h
       exact ⟨_, hk, fun τ K' h' => ⟨a1, a2, h'⟩⟩)
theorem ropW_lx {o : ROp} (hl : looksR o = true) (h : ropW P W0 o fr σ K) : LX (ropW P W0 o fr) σ K := by
  by_cases hp : pureR o = true
  · exact (ropW_lp hp h).lx
  · cases o with
    | slice s x lo hi => exact sliceR_lx (lo := fun d => bndR fr d lo) (hi := fun d => bndR fr d hi) h
    | sliceP n s x lo hi => exact slicePR_lx (lo := fun d => bndR fr d lo) (hi := fun d => bndR fr d hi) h
    | _ => first
      | (simp [looksR] at hl; done)
      | (exact (hp rfl).elim)
      | exact loadR_lx h
      | exact faddrR_lx h
      | exact iaddrAR_lx h
      | exact iaddrSR_lx h
      | exact lenLR_lx h
      | exact strLR_lx h
      | exact nilSR_lx h
      | exact nilPR_lx h
      | exact nilckR_lx h
/-! ### the slots that an operation looks at -/
def sl1 : RA → List Nat
  | .t n => [n]
  | .v _ => []
def slO : Option RA → List Nat
  | none => []
  | some x => sl1 x
def slotsR : ROp → List Nat
  | .mv x => sl1 x
  | .pick c a b => sl1 c ++ sl1 a ++ sl1 b
  | .alloc e zc => []
  | .box e x => sl1 x
  | .load s g a => sl1 a
  | .store s a v => sl1 a ++ sl1 v
  | .nilck x => sl1 x
  | .binI op x y => sl1 x ++ sl1 y
  | .binS op x y => sl1 x ++ sl1 y
  | .binB neg x y => sl1 x ++ sl1 y
  | .nilS neg x => sl1 x
  | .nilI neg x => sl1 x
  | .nilP neg x => sl1 x
  | .eqA neg ks x y => sl1 x ++ sl1 y
  | .un op x => sl1 x
  | .conv k x => sl1 x
  | .mkslice e esz by_ zc l c => sl1 l ++ sl1 c
  | .faddr off x => sl1 x
  | .fld off n g x => sl1 x
  | .iaddrA len s x i => sl1 x ++ sl1 i
  | .iaddrS s x i => sl1 x ++ sl1 i
  | .idxA len s g x i => sl1 x ++ sl1 i
  | .idxS x i => sl1 x ++ sl1 i
  | .ext x i => sl1 x
  | .lenS x => sl1 x
  | .lenL x => sl1 x
  | .strL x => sl1 x
  | .bytesR e x => sl1 x
  | .append t e esz by_ s x => sl1 s ++ sl1 x
  | .build zc parts => parts.flatMap fun p => sl1 p.2
  | .bslice e esz len zc parts => parts.flatMap fun p => sl1 p.2
  | .mkfn f first caps => first.flatMap sl1 ++ caps.flatMap sl1
  | .sliceS x lo hi => sl1 x ++ slO lo ++ slO hi
  | .slice s x lo hi => sl1 x ++ slO lo ++ slO hi
  | .sliceP n s x lo hi => sl1 x ++ slO lo ++ slO hi
  | .call f args => sl1 f ++ args.flatMap sl1
theorem ev_congr {x : RA} (h : ∀ t ∈ sl1 x, fr t = fr' t) : x.ev fr = x.ev fr' := by
  cases x with
  | t n => exact h n (by simp [sl1])
  | v a => rfl
theorem evs_congr {l : List RA} (h : ∀ t ∈ l.flatMap sl1, fr t = fr' t) : l.map (RA.ev fr) = l.map (RA.ev fr') :=
  List.map_congr_left fun x hx => ev_congr fun t ht => h t (List.mem_flatMap.2 ⟨x, hx, ht⟩)
theorem bnd_congr {x : Option RA} (h : ∀ t ∈ slO x, fr t = fr' t) : (fun d => bndR fr d x) = fun d => bndR fr' d x := by
  cases x with
  | none => rfl
  | some x => funext d; simp only [bndR, ev_congr (x := x) h]
theorem ropW_congr {o : ROp} (h : ∀ t ∈ slotsR o, fr t = fr' t) : ropW P W0 o fr σ K = ropW P W0 o fr' σ K := by
  cases o with
  | mv x =>
    have e_x := ev_congr (x := x) fun t ht => h t (by simp [slotsR, ht])
    simp only [ropW, e_x]
  | pick c a b =>
    have e_c := ev_congr (x := c) fun t ht => h t (by simp [slotsR, ht])
    have e_a := ev_congr (x := a) fun t ht => h t (by simp [slotsR, ht])
    have e_b := ev_congr (x := b) fun t ht => h t (by simp [slotsR, ht])
    simp only [ropW, e_c, e_a, e_b]
  | alloc e zc =>
    simp only [ropW]
  | box e x =>
    have e_x := ev_congr (x := x) fun t ht => h t (by simp [slotsR, ht])
    simp only [ropW, e_x]
  | load s g a =>
    have e_a := ev_congr (x := a) fun t ht => h t (by simp [slotsR, ht])
    simp only [ropW, e_a]
  | store s a v =>
    have e_a := ev_congr (x := a) fun t ht => h t (by simp [slotsR, ht])
    have e_v := ev_congr (x := v) fun t ht => h t (by simp [slotsR, ht])
    simp only [ropW, e_a, e_v]
  | nilck x =>
    have e_x := ev_congr (x := x) fun t ht => h t (by simp [slotsR, ht])
    simp only [ropW, e_x]
  | binI op x y =>
    have e_x := ev_congr (x := x) fun t ht => h t (by simp [slotsR, ht])
    have e_y := ev_congr (x := y) fun t ht => h t (by simp [slotsR, ht])
    simp only [ropW, e_x, e_y]
  | binS op x y =>
    have e_x := ev_congr (x := x) fun t ht => h t (by simp [slotsR, ht])
    have e_y := ev_congr (x := y) fun t ht => h t (by simp [slotsR, ht])
    simp only [ropW, e_x, e_y]
  | binB neg x y =>
    have e_x := ev_congr (x := x) fun t ht => h t (by simp [slotsR, ht])
    have e_y := ev_congr (x := y) fun t ht => h t (by simp [slotsR, ht])
    simp only [ropW, e_x, e_y]
  | nilS neg x =>
    have e_x := ev_congr (x := x) fun t ht => h t (by simp [slotsR, ht])
    simp only [ropW, e_x]
  | nilI neg x =>
    have e_x := ev_congr (x := x) fun t ht => h t (by simp [slotsR, ht])
    simp only [ropW, e_x]
  | nilP neg x =>
    have e_x := ev_congr (x := x) fun t ht => h t (by simp [slotsR, ht])
    simp only [ropW, e_x]
  | eqA neg ks x y =>
    have e_x := ev_congr (x := x) fun t ht => h t (by simp [slotsR, ht])
    have e_y := ev_congr (x := y) fun t ht => h t (by simp [slotsR, ht])
    simp only [ropW, e_x, e_y]
  | un op x =>
    have e_x := ev_congr (x := x) fun t ht => h t (by simp [slotsR, ht])
    simp only [ropW, e_x]
  | conv k x =>
    have e_x := ev_congr (x := x) fun t ht => h t (by simp [slotsR, ht])
    simp only [ropW, e_x]
  | mkslice e esz by_ zc l c =>
    have e_l := ev_congr (x := l) fun t ht => h t (by simp [slotsR, ht])
    have e_c := ev_congr (x := c) fun t ht => h t (by simp [slotsR, ht])
    simp only [ropW, e_l, e_c]
  | faddr off x =>
    have e_x := ev_congr (x := x) fun t ht => h t (by simp [slotsR, ht])
    simp only [ropW, e_x]
  | fld off n g x =>
    have e_x := ev_congr (x := x) fun t ht => h t (by simp [slotsR, ht])
    simp only [ropW, e_x]
  | iaddrA len s x i =>
    have e_x := ev_congr (x := x) fun t ht => h t (by simp [slotsR, ht])
    have e_i := ev_congr (x := i) fun t ht => h t (by simp [slotsR, ht])
    simp only [ropW, e_x, e_i]
  | iaddrS s x i =>
    have e_x := ev_congr (x := x) fun t ht => h t (by simp [slotsR, ht])
    have e_i := ev_congr (x := i) fun t ht => h t (by simp [slotsR, ht])
    simp only [ropW, e_x, e_i]
  | idxA len s g x i =>
    have e_x := ev_congr (x := x) fun t ht => h t (by simp [slotsR, ht])
    have e_i := ev_congr (x := i) fun t ht => h t (by simp [slotsR, ht])
    simp only [ropW, e_x, e_i]
  | idxS x i =>
    have e_x := ev_congr (x := x) fun t ht => h t (by simp [slotsR, ht])
    have e_i := ev_congr (x := i) fun t ht => h t (by simp [slotsR, ht])
    simp only [ropW, e_x, e_i]
  | ext x i =>
    have e_x := ev_congr (x := x) fun t ht => h t (by simp [slotsR, ht])
    simp only [ropW, e_x]
  | lenS x =>
    have e_x := ev_congr (x := x) fun t ht => h t (by simp [slotsR, ht])
    simp only [ropW, e_x]
  | lenL x =>
    have e_x := ev_congr (x := x) fun t ht => h t (by simp [slotsR, ht])
    simp only [ropW, e_x]
  | strL x =>
    have e_x := ev_congr (x := x) fun t ht => h t (by simp [slotsR, ht])
    simp only [ropW, e_x]
  | bytesR e x =>
    have e_x := ev_congr (x := x) fun t ht => h t (by simp [slotsR, ht])
    simp only [ropW, e_x]
  | append t e esz by_ s x =>
    have e_s := ev_congr (x := s) fun t ht => h t (by simp [slotsR, ht])
    have e_x := ev_congr (x := x) fun t ht => h t (by simp [slotsR, ht])
    simp only [ropW, e_s, e_x]
  | build zc parts =>
    have e : (parts.map fun p => (p.1, p.2.ev fr)) = parts.map fun p => (p.1, p.2.ev fr') := List.map_congr_left fun p hp => by rw [ev_congr fun t ht => h t (by simp only [slotsR]; exact List.mem_flatMap.2 ⟨p, hp, ht⟩)]
    simp only [ropW, e]
  | bslice e esz len zc parts =>
    have e : (parts.map fun p => ((p.1 * esz, esz), p.2.ev fr)) = parts.map fun p => ((p.1 * esz, esz), p.2.ev fr') := List.map_congr_left fun p hp => by rw [ev_congr fun t ht => h t (by simp only [slotsR]; exact List.mem_flatMap.2 ⟨p, hp, ht⟩)]
    simp only [ropW, e]
  | mkfn f first caps =>
    have e1 := evs_congr (l := first) fun t ht => h t (by simp only [slotsR]; exact List.mem_append_left _ ht)
    have e2 := evs_congr (l := caps) fun t ht => h t (by simp only [slotsR]; exact List.mem_append_right _ ht)
    simp only [ropW, e1, e2]
  | sliceS x lo hi =>
    have e1 := ev_congr (x := x) fun t ht => h t (by simp [slotsR, ht])
    have e2 := bnd_congr (x := lo) fun t ht => h t (by simp [slotsR, ht])
    have e3 := bnd_congr (x := hi) fun t ht => h t (by simp [slotsR, ht])
    simp only [ropW, e1, e2, e3]
  | slice s x lo hi =>
    have e1 := ev_congr (x := x) fun t ht => h t (by simp [slotsR, ht])
    have e2 := bnd_congr (x := lo) fun t ht => h t (by simp [slotsR, ht])
    have e3 := bnd_congr (x := hi) fun t ht => h t (by simp [slotsR, ht])
    simp only [ropW, e1, e2, e3]
  | sliceP n s x lo hi =>
    have e1 := ev_congr (x := x) fun t ht => h t (by simp [slotsR, ht])
    have e2 := bnd_congr (x := lo) fun t ht => h t (by simp [slotsR, ht])
    have e3 := bnd_congr (x := hi) fun t ht => h t (by simp [slotsR, ht])
    simp only [ropW, e1, e2, e3]
  | call f args =>
    have e1 := ev_congr (x := f) fun t ht => h t (by simp only [slotsR]; exact List.mem_append_left _ ht)
    have e2 := evs_congr (l := args) fun t ht => h t (by simp only [slotsR]; exact List.mem_append_right _ ht)
    simp only [ropW, e1, e2]
end
end Go.Proofs.Ytbbmlnaekefaaaa.Abs
end

section
/- The abstract logic, part Q: a region that draws its order: its head may be taken in the order of the text. -/
set_option linter.unusedVariables false
set_option linter.unusedSimpArgs false
namespace Go.Proofs.Ytbbmlnaekefaaaa.Abs
open Go Go.RowKit
abbrev DL := List (Option Nat × ROp)
theorem callW_fn {P : Program} {W0 : World} {g : FuncId} {args : List AV} {σ : List Blk} {K : Cont} (h : ACall P W0 g args σ K) : callW P W0 (.lit (.func (.func g) #[] #[])) args σ K := ⟨rfl, rfl, h⟩
/-- an operation of the head: it looks, or calls what leaves no trace -/
def hOne (P : Program) (W0 : World) (o : ROp) (fr : Fr) (σ : List Blk) (K : AV → Prop) : Prop :=
  match o with
  | .call f args => fL (args.map (RA.ev fr)) fun vs => ∃ r, (∀ τ, callW P W0 (f.ev fr) vs (σ ++ τ) fun v σ' => v = r ∧ σ' = σ ++ τ) ∧ K r
  | o => looksR o = true ∧ ropW P W0 o fr σ fun v _ => K v
def stepR (P : Program) (W0 : World) (b : Bool) (o : ROp) (fr : Fr) (σ : List Blk) (K : Cont) : Prop :=
  match b with
  | true => hOne P W0 o fr σ fun v => K v σ
  | false => ropW P W0 o fr σ K
def tree (P : Program) (W0 : World) (ops : Array Oper) (L : DL) (n : Nat) (K : Fr → List Blk → Prop) : Nat → Array Bool → Fr → List Blk → Prop
  | 0, done, fr, σ => Region.ready .any ops done = [] ∧ K fr σ
  | f + 1, done, fr, σ => Region.ready .any ops done ≠ [] ∧ ∀ i ∈ Region.ready .any ops done, ∃ d o, L[i]? = some (d, o) ∧ stepR P W0 (decide (i < n)) o fr σ fun v σ' => tree P W0 ops L n K f (done.setIfInBounds i true) (updO fr d v) σ'
def apartR (dj : Option Nat) (oj : ROp) (di : Option Nat) (oi : ROp) : Bool :=
  (match dj with
    | some d => !(slotsR oi).contains d && di != some d
    | none => true) &&
  (match di with
    | some d => !(slotsR oj).contains d
    | none => true)
def freeD (ops : Array Oper) (L : DL) (done : Array Bool) (j : Nat) : Bool :=
  match L[j]? with
  | some (dj, oj) => (List.range ops.size).all fun i => i == j || done.getD i true || Region.waitsFor .any ops i j || match L[i]? with
    | some (di, oi) => apartR dj oj di oi
    | none => true
  | none => false
def allocR : ROp → Bool
  | .alloc _ _ => true
  | _ => false
def condD (ops : Array Oper) (L : DL) (n j : Nat) : Bool :=
  match L[j]? with
  | some (_, oj) => pureR oj || (List.range ops.size).all fun t => decide (t < n) || Region.waitsFor .any ops t j || match L[t]? with
    | some (_, ot) => allocR ot
    | none => false
  | none => false
def lexD (ops : Array Oper) (L : DL) (n g : Nat) : Nat → Nat → Array Bool → Bool
  | 0, k, done => Region.seqB .any ops g k done
  | f + 1, k, done => (Region.ready .any ops done).contains k && freeD ops L done k && condD ops L n k && lexD ops L n g f (k + 1) (done.setIfInBounds k true)
section
variable {P : Program} {W0 : World} {ops : Array Oper} {L : DL} {n : Nat} {K : Fr → List Blk → Prop}
theorem hOne_congr {o : ROp} {fr fr' : Fr} {σ : List Blk} {K : AV → Prop} (h : ∀ t ∈ slotsR o, fr t = fr' t) : hOne P W0 o fr σ K = hOne P W0 o fr' σ K := by
  unfold hOne
  split
  · rename_i f args
    have e1 := ev_congr (x := f) fun t ht => h t (by simp only [slotsR]; exact List.mem_append_left _ ht)
    have e2 := evs_congr (l := args) fun t ht => h t (by simp only [slotsR]; exact List.mem_append_right _ ht)
    simp only [e1, e2]
  · rw [ropW_congr h]
theorem stepR_congr {b : Bool} {o : ROp} {fr fr' : Fr} {σ : List Blk} {K : Cont} (h : ∀ t ∈ slotsR o, fr t = fr' t) : stepR P W0 b o fr σ K = stepR P W0 b o fr' σ K := by
  cases b with
  | true => exact hOne_congr h
  | false => exact ropW_congr h
/-- the value of an operation of the head stays, whatever blocks are added; a plain one's, whatever the blocks are -/
theorem hOne_inv {o : ROp} {fr : Fr} {σ : List Blk} {K : AV → Prop} (h : hOne P W0 o fr σ K) :
    ∃ v, K v ∧ ∀ (σ' : List Blk) (K' : AV → Prop), (pureR o = true ∨ ∃ τ, σ' = σ ++ τ) → K' v → hOne P W0 o fr σ' K' := by
  unfold hOne at h
  split at h
  · rename_i f args
    rw [fL_eq] at h
    obtain ⟨r, h1, h2⟩ := h
    refine ⟨r, h2, fun σ' K' hσ hk => ?_⟩
    unfold hOne
    dsimp only
    rw [fL_eq]
    rcases hσ with hp | ⟨τ, rfl⟩
    · simp [pureR] at hp
    · exact ⟨r, fun τ' => by rw [List.append_assoc]; exact h1 _, hk⟩
  · rename_i hne
    obtain ⟨hl, h⟩ := h
    by_cases hp : pureR o = true
    · obtain ⟨v, h1, h2⟩ := ropW_lp hp h
      refine ⟨v, h1, fun σ' K' _ hk => ?_⟩
      unfold hOne
      split
      · exact (hne _ _ rfl).elim
      · exact ⟨hl, h2 σ' (fun v _ => K' v) hk⟩
    · obtain ⟨v, h1, h2⟩ := ropW_lx hl h
      refine ⟨v, h1, fun σ' K' hσ hk => ?_⟩
      rcases hσ with hp' | ⟨τ, rfl⟩
      · exact (hp hp').elim
      · unfold hOne
        split
        · exact (hne _ _ rfl).elim
        · exact ⟨hl, h2 τ (fun v _ => K' v) hk⟩
theorem hOne_mono {o : ROp} {fr : Fr} {σ : List Blk} {K K' : AV → Prop} (h : hOne P W0 o fr σ K) (hk : ∀ v, K v → K' v) : hOne P W0 o fr σ K' := by
  obtain ⟨v, h1, h2⟩ := hOne_inv h
  exact h2 σ K' (.inr ⟨[], by simp⟩) (hk v h1)
theorem stepR_mono {b : Bool} {o : ROp} {fr : Fr} {σ : List Blk} {K K' : Cont} (h : stepR P W0 b o fr σ K) (hk : ∀ v σ', K v σ' → K' v σ') : stepR P W0 b o fr σ K' := by
  cases b with
  | true => exact hOne_mono h fun v => hk v σ
  | false => exact ropW_mono h hk
theorem apartR_spec {dj di : Option Nat} {oj oi : ROp} (h : apartR dj oj di oi = true) : (∀ d, dj = some d → d ∉ slotsR oi) ∧ (∀ d, dj = some d → di ≠ some d) ∧ (∀ d, di = some d → d ∉ slotsR oj) := by
  unfold apartR at h
  rw [Bool.and_eq_true] at h
  refine ⟨fun d hd => ?_, fun d hd => ?_, fun d hd => ?_⟩
  · subst hd; simp at h; exact h.1.1
  · subst hd; simp at h; exact fun e => h.1.2 e
  · subst hd; simp at h; exact h.2
theorem updO_comm {fr : Fr} {di dj : Option Nat} {u v : AV} (h : ∀ d, dj = some d → di ≠ some d) : updO (updO fr dj v) di u = updO (updO fr di u) dj v := by
  cases dj with
  | none => rfl
  | some b =>
    cases di with
    | none => rfl
    | some a =>
      have hne : a ≠ b := fun e => h b rfl (by rw [e])
      funext t
      simp only [updO, upd]
      by_cases h1 : t = a
      · by_cases h2 : t = b
        · exact (hne (h1.symm.trans h2)).elim
        · simp [h1, hne]
      · by_cases h2 : t = b
        · simp [h2, Ne.symm hne]
        · simp [h1, h2]
theorem updO_off {fr : Fr} {d : Option Nat} {v : AV} {o : ROp} (h : ∀ x, d = some x → x ∉ slotsR o) : ∀ t ∈ slotsR o, updO fr d v t = fr t := fun t ht => by
  cases d with
  | none => rfl
  | some x =>
    have : t ≠ x := fun e => h x rfl (e ▸ ht)
    simp [updO, upd, this]
theorem waits_undone {done : Array Bool} {i j : Nat} (hi : i ∈ Region.ready .any ops done) (hj : j ∈ Region.ready .any ops done) : Region.waitsFor .any ops i j = false := by
  cases hw : Region.waitsFor .any ops i j with
  | false => rfl
  | true =>
    obtain ⟨o, ho, e, he, hb, hon⟩ := Region.waitsFor_spec hw
    obtain ⟨_, o', ho', hall⟩ := mem_ready.1 hi
    rw [ho] at ho'; cases ho'
    have h1 := hall e he hb
    rw [hon] at h1
    have h2 := getD_both (mem_ready.1 hj).1
    rw [h1] at h2; cases h2
/-- An operation of the head that may come up may be taken first. -/
theorem tree_take {j : Nat} {dj : Option Nat} {oj : ROp} {v : AV} (hL : L[j]? = some (dj, oj)) (hjn : j < n) (hc : condD ops L n j = true) : ∀ (f : Nat) (done : Array Bool) (fr : Fr) (σ : List Blk),
    j ∈ Region.ready .any ops done → freeD ops L done j = true → (∀ (fr' : Fr) (σ' : List Blk) (K' : AV → Prop), (∀ t ∈ slotsR oj, fr' t = fr t) → (pureR oj = true ∨ ∃ τ, σ' = σ ++ τ) → K' v → hOne P W0 oj fr' σ' K') →
    tree P W0 ops L n K f (done.setIfInBounds j true) (updO fr dj v) σ → tree P W0 ops L n K (f + 1) done fr σ := by
  have here : ∀ {f : Nat} {done : Array Bool} {fr : Fr} {σ : List Blk}, (∀ (fr' : Fr) (σ' : List Blk) (K' : AV → Prop), (∀ t ∈ slotsR oj, fr' t = fr t) → (pureR oj = true ∨ ∃ τ, σ' = σ ++ τ) → K' v → hOne P W0 oj fr' σ' K') →
      tree P W0 ops L n K f (done.setIfInBounds j true) (updO fr dj v) σ → ∃ d o, L[j]? = some (d, o) ∧ stepR P W0 (decide (j < n)) o fr σ fun v σ' => tree P W0 ops L n K f (done.setIfInBounds j true) (updO fr d v) σ' := fun hs h => by
    refine ⟨dj, oj, hL, ?_⟩
    rw [decide_eq_true hjn]
    exact hs _ _ _ (fun _ _ => rfl) (.inr ⟨[], by simp⟩) h
  intro f
  induction f with
  | zero =>
    intro done fr σ hr hfree hs H
    refine ⟨fun h0 => (by rw [h0] at hr; cases hr), fun i hi => ?_⟩
    rcases Nat.decEq i j with hne | rfl
    · have := ready_mono hi hne
      rw [H.1] at this; cases this
    · exact here hs H
  | succ f ih =>
    intro done fr σ hr hfree hs H
    refine ⟨fun h0 => (by rw [h0] at hr; cases hr), fun i hi => ?_⟩
    rcases Nat.decEq i j with hne | rfl
    · obtain ⟨di, oi, hLi, hst⟩ := H.2 i (ready_mono hi hne)
      have hiu := (mem_ready.1 hi).1
      have hisz : i < ops.size := by
        obtain ⟨_, o, ho, _⟩ := mem_ready.1 hi
        exact (Array.getElem?_eq_some_iff.1 ho).1
      have hw := waits_undone hi hr
      have hap : apartR dj oj di oi = true := by
        unfold freeD at hfree
        rw [hL] at hfree
        have := List.all_eq_true.1 hfree i (List.mem_range.2 hisz)
        rw [hw, hiu, hLi] at this
        simpa [hne] using this
      obtain ⟨a1, a2, a3⟩ := apartR_spec hap
      rw [stepR_congr (fr' := fr) (updO_off a1)] at hst
      have hgrow : stepR P W0 (decide (i < n)) oi fr σ fun u σ' => (pureR oj = true ∨ ∃ τ, σ' = σ ++ τ) ∧ tree P W0 ops L n K f ((done.setIfInBounds j true).setIfInBounds i true) (updO (updO fr dj v) di u) σ' := by
        by_cases hp : pureR oj = true
        · exact stepR_mono hst fun u σ' h => ⟨.inl hp, h⟩
        · by_cases hin : i < n
          · rw [decide_eq_true hin] at hst ⊢
            exact hOne_mono hst fun u h => ⟨.inr ⟨[], by simp⟩, h⟩
          · rw [decide_eq_false hin] at hst ⊢
            have hal : allocR oi = true := by
              unfold condD at hc
              rw [hL] at hc
              simp only [Bool.or_eq_true] at hc
              rcases hc with hc | hc
              · exact (hp hc).elim
              · have := List.all_eq_true.1 hc i (List.mem_range.2 hisz)
                rw [hw, hLi] at this
                simpa [hin] using this
            cases oi <;> simp [allocR] at hal
            unfold stepR ropW at hst ⊢
            simp only [fS_eq] at hst ⊢
            exact ⟨.inr ⟨_, rfl⟩, hst⟩
      refine ⟨di, oi, hLi, stepR_mono hgrow fun u σ' ⟨hσ, h⟩ => ?_⟩
      rw [Array.setIfInBounds_comm _ _ (Ne.symm hne), updO_comm a2] at h
      refine ih (done.setIfInBounds i true) (updO fr di u) σ' (ready_mono hr (Ne.symm hne)) ?_ ?_ h
      · unfold freeD at hfree ⊢
        rw [hL] at hfree ⊢
        rw [List.all_eq_true] at hfree ⊢
        intro k hk
        have h1 := hfree k hk
        simp only [Bool.or_eq_true] at h1 ⊢
        rcases h1 with ((h1 | h1) | h1) | h1
        · exact .inl (.inl (.inl h1))
        · refine .inl (.inl (.inr ?_))
          rcases Nat.decEq i k with hik | rfl
          · rw [getD_set_ne true hik]; exact h1
          · have : i < done.size ∨ done.size ≤ i := Nat.lt_or_ge _ _
            rcases this with hlt | hge
            · simp [hlt]
            · simp [hge]
        · exact .inl (.inr h1)
        · exact .inr h1
      · intro fr' σ'' K' hfr hσ' hk
        refine hs fr' σ'' K' (fun t ht => (hfr t ht).trans (updO_off a3 t ht)) ?_ hk
        rcases hσ' with hp | ⟨τ', rfl⟩
        · exact .inl hp
        · rcases hσ with hp | ⟨τ, rfl⟩
          · exact .inl hp
          · exact .inr ⟨τ ++ τ', by rw [List.append_assoc]⟩
    · exact here hs H
/-- the head in the order of the text, then the tail -/
def hR (P : Program) (W0 : World) (l : DL) : Fr → List Blk → (Fr → Prop) → Prop :=
  List.rec (motive := fun _ => Fr → List Blk → (Fr → Prop) → Prop) (fun fr σ K => K fr)
    (fun o _ ih fr σ K => hOne P W0 o.2 fr σ fun av => fv av fun av => ih (updO fr o.1 av) σ K) l
theorem hR_cons {d : Option Nat} {o : ROp} {rest : DL} {fr : Fr} {σ : List Blk} {K : Fr → Prop} : hR P W0 ((d, o) :: rest) fr σ K = hOne P W0 o fr σ fun av => fv av fun av => hR P W0 rest (updO fr d av) σ K := rfl
theorem tree_of_seq : ∀ (l : DL) (k : Nat) (done : Array Bool) (fr : Fr) (σ : List Blk), n ≤ k → (∀ j, l[j]? = L[k + j]?) → Region.seqB .any ops l.length k done = true → runB P W0 l fr σ K → tree P W0 ops L n K l.length done fr σ
  | [], k, done, fr, σ, hn, hl, hB, h => ⟨by simpa [Region.seqB] using hB, h⟩
  | (d, o) :: l, k, done, fr, σ, hn, hl, hB, h => by
    have h0 : L[k]? = some (d, o) := by simpa using (hl 0).symm
    simp only [List.length_cons, Region.seqB, Bool.and_eq_true, decide_eq_true_eq] at hB
    refine ⟨by rw [hB.1]; simp, fun i hi => ?_⟩
    rw [hB.1] at hi
    obtain rfl : i = k := by simpa using hi
    refine ⟨d, o, h0, ?_⟩
    rw [decide_eq_false (by omega)]
    rw [runB_cons] at h
    unfold stepR
    dsimp only
    refine ropW_mono h fun v σ' hk => ?_
    exact tree_of_seq l (i + 1) _ _ _ (by omega) (fun j => by have := hl (j + 1); simpa [Nat.add_assoc, Nat.add_comm 1 j] using this) hB.2 (fv_out hk)
theorem tree_of_lex {g : Nat} {tl : DL} (htl : ∀ j, tl[j]? = L[n + j]?) (hg : tl.length = g) : ∀ (l : DL) (k : Nat) (done : Array Bool) (fr : Fr) (σ : List Blk), (∀ j, j < l.length → l[j]? = L[k + j]?) → k + l.length = n → lexD ops L n g l.length k done = true →
    hR P W0 l fr σ (fun fr => runB P W0 tl fr σ K) → tree P W0 ops L n K (l.length + g) done fr σ
  | [], k, done, fr, σ, hl, hk, hB, h => by
    obtain rfl : k = n := by simpa using hk
    subst hg
    rw [show ([] : DL).length + tl.length = tl.length by simp]
    exact tree_of_seq tl k done fr σ (Nat.le_refl _) htl (by simpa [lexD] using hB) h
  | (d, o) :: l, k, done, fr, σ, hl, hk, hB, h => by
    have h0 : L[k]? = some (d, o) := by have := hl 0 (by simp); simpa using this.symm
    simp only [List.length_cons, lexD, Bool.and_eq_true] at hB
    obtain ⟨⟨⟨hr, hf⟩, hc⟩, hB⟩ := hB
    have hkn : k < n := by simp only [List.length_cons] at hk; omega
    rw [hR_cons] at h
    obtain ⟨v, h1, h2⟩ := hOne_inv h
    rw [show ((d, o) :: l).length + g = (l.length + g) + 1 by simp only [List.length_cons]; omega]
    refine tree_take h0 hkn hc _ done fr σ (by simpa using hr) hf (fun fr' σ' K' hfr hσ hk => ?_) (tree_of_lex htl hg l (k + 1) _ _ _ (fun j hj => by have := hl (j + 1) (by simp; omega); simpa [Nat.add_assoc, Nat.add_comm 1 j] using this) (by simp only [List.length_cons] at hk; omega) hB (fv_out h1))
    rw [hOne_congr hfr]
    exact h2 σ' K' hσ hk
end
/-! ### the program's operations -/
def compD (P : Program) (n : Nat) : List Oper → Option DL
  | [] => some []
  | o :: rest => if dOKb n o.dst && o.guard.isNone then match compOp P o.op, compD P n rest with
    | some r, some l => some ((o.dst, r) :: l)
    | _, _ => none
    else none
section
variable {P : Program} {W0 : World} {ι ι0 : Loc} {σ σ0 : List Blk} {n : Nat} {ops : Array Oper}
theorem compD_get : ∀ (l : List Oper) (L : DL), compD P n l = some L → L.length = l.length ∧ ∀ (i : Nat) (d : Option Nat) (r : ROp), L[i]? = some (d, r) → ∃ o, l[i]? = some o ∧ o.dst = d ∧ o.guard = none ∧ compOp P o.op = some r ∧ dOK n o.dst
  | [], L, h => by
    simp only [compD, Option.some.injEq] at h; subst h
    exact ⟨rfl, fun i d r h => by simp at h⟩
  | o :: rest, L, h => by
    unfold compD at h
    split at h
    · rename_i hd
      simp only [Bool.and_eq_true] at hd
      split at h
      · rename_i r l hr hl
        cases h
        obtain ⟨h1, h2⟩ := compD_get rest l hl
        refine ⟨by simp [h1], fun i d r' hi => ?_⟩
        cases i with
        | zero =>
          simp at hi
          obtain ⟨rfl, rfl⟩ := hi
          exact ⟨o, rfl, rfl, by cases hg : o.guard <;> simp [hg] at hd ⊢, hr, dOKb_ok hd.1⟩
        | succ i => simpa using h2 i d r' (by simpa using hi)
      · cases h
    · cases h
theorem wpAny_of_tree {L : DL} {m : Nat} {ds : List Deferred} {K : Fr → List Blk → Prop} {Q : Exit → Act → World → Prop} (hL : compD P n ops.toList = some L) (hQ : ∀ a w, Post W0 ι0 σ0 n ds K a w → Q .normal a w) :
    ∀ (f : Nat) (done : Array Bool) (fr : Fr) (σ : List Blk) (ι : Loc) (a : Act) (w : World), tree P W0 ops L m K f done fr σ → HRel W0 ι σ w → FRel ι σ n fr a → Ext ι0 σ0 ι σ → a.defers = ds → wpAny P .any ops Q f done a w
  | 0, done, fr, σ, ι, a, w, h, hh, hf, hx, hd => ⟨h.1, hQ _ _ ⟨ι, σ, fr, h.2, hh, hf, hx, hd⟩⟩
  | f + 1, done, fr, σ, ι, a, w, h, hh, hf, hx, hd => by
    refine ⟨fun h0 => (h.1 h0).elim, fun i hi => ?_⟩
    obtain ⟨d, r, hLi, hst⟩ := h.2 i hi
    obtain ⟨o, ho, rfl, hg, hr, hdo⟩ := (compD_get _ _ hL).2 i d r hLi
    have ho' : ops[i]? = some o := by simpa using ho
    have hop : opW P W0 o.op (evA fr) σ fun v σ' => tree P W0 ops L m K f (done.setIfInBounds i true) (updO fr o.dst v) σ' := by
      refine compOp_sound hr ?_
      cases hb : decide (i < m) with
      | false => rw [hb] at hst; exact hst
      | true =>
        rw [hb] at hst
        unfold stepR hOne at hst
        dsimp only at hst
        split at hst
        · rename_i fn args
          rw [fL_eq] at hst
          obtain ⟨q, h1, h2⟩ := hst
          have h3 := h1 []
          rw [List.append_nil] at h3
          simp only [ropW, fL_eq]
          refine callW_mono h3 fun v σ' ⟨e1, e2⟩ => ?_
          rw [e1, e2]; exact h2
        · obtain ⟨hl, h1⟩ := hst
          obtain ⟨v, h2, h3⟩ := ropW_ld hl h1
          exact h3 _ h2
    unfold wpOp
    rw [ho']
    dsimp only
    have hwant : Region.wanted o (yielded ops a.tmps) = true := by unfold Region.wanted; rw [hg]
    rw [if_pos hwant]
    refine .inl (opW_sound hop hh hf.eval fun v w' ι' σ' av h2 h3 h4 h5 => ?_)
    exact wpAny_of_tree hL hQ f _ _ σ' ι' _ w' h2 h3 ((hf.mono h4).put hdo h5) (hx.trans h4) (by rw [put_defers]; exact hd)
theorem wp_region_lexD {id m : Nat} {L : DL} {ds : List Deferred} {K : Fr → List Blk → Prop} {Q : Exit → Act → World → Prop} {fr : Fr} {a : Act} {w : World} (hm : P.follows .mixedOrders = true) (hL : compD P n ops.toList = some L) (hmn : m ≤ L.length)
    (hB : lexD ops L m (L.length - m) m 0 (Array.replicate ops.size false) = true) (hQ : ∀ a w, Post W0 ι0 σ0 n ds K a w → Q .normal a w)
    (h : hR P W0 (L.take m) fr σ fun fr => runB P W0 (L.drop m) fr σ K) (hh : HRel W0 ι σ w) (hf : FRel ι σ n fr a) (hx : Ext ι0 σ0 ι σ) (hd : a.defers = ds) : (Code.region id ops true).wp P Q a w := by
  have hsz : L.length = ops.size := by have := (compD_get _ _ hL).1; simpa using this
  have htk : (L.take m).length = m := by simp; omega
  have ht := tree_of_lex (P := P) (W0 := W0) (ops := ops) (L := L) (n := m) (K := K) (g := L.length - m) (tl := L.drop m) (fun j => by rw [List.getElem?_drop]) (by simp) (L.take m) 0 (Array.replicate ops.size false) fr σ
    (fun j hj => by rw [htk] at hj; rw [List.getElem?_take, if_pos hj, Nat.zero_add]) (by rw [htk, Nat.zero_add]) (by rw [htk]; exact hB) h
  rw [htk, show m + (L.length - m) = ops.size by omega] at ht
  exact wp_region_any hm (wpAny_of_tree hL hQ _ _ _ _ _ _ _ ht hh.drew hf hx hd)
end
end Go.Proofs.Ytbbmlnaekefaaaa.Abs
end

section
/- The abstract logic, part S: a region that draws its order: what leaves no trace is taken in the order of the text, what does is tried in every order that is open; guards. -/
set_option linter.unusedVariables false
set_option linter.unusedSimpArgs false
namespace Go.Proofs.Ytbbmlnaekefaaaa.Abs
open Go Go.RowKit
/-- guard (its slot), destination, operation -/
structure GI where
  g : Option (Nat × Bool)
  d : Option Nat
  o : ROp
/-- a plan for a region: 'n': nothing that leaves a trace can come before; 'h': it can, and does no harm; 't': it leaves a trace -/
inductive PT
  | fin
  | n (it : GI) (r : PT)
  | h (it : GI) (r : PT)
  | t (it : GI) (r : PT)
  | both (a b : PT)
  | u (it : GI) (r : PT)
noncomputable def memB (k : Nat) (l : List Nat) : Bool := List.rec (motive := fun _ => Bool) false (fun x _ ih => cond (Nat.beq k x) true ih) l
/-- blocks may be added, those of F may be written -/
def varL (F : List Nat) (σ0 : List Blk) : Nat → List Blk → Prop :=
  List.rec (motive := fun _ => Nat → List Blk → Prop) (fun _ _ => True) (fun B _ ih k σ' => match σ' with
    | [] => False
    | B' :: σ'' => (B'.ver = B.ver ∧ B'.esz = B.esz ∧ B'.row = B.row ∧ (memB k F = false → B' = B)) ∧ ih (k + 1) σ'') σ0
def simB (σ σ' : List Blk) : Prop := ∀ (b : Nat) (B : Blk), σ[b]? = some B → ∃ B', σ'[b]? = some B' ∧ B'.ver = B.ver ∧ B'.esz = B.esz ∧ B'.row = B.row
theorem varL_get {F : List Nat} : ∀ {σ0 : List Blk} {k : Nat} {σ' : List Blk}, varL F σ0 k σ' → ∀ (b : Nat) (B : Blk), σ0[b]? = some B → ∃ B', σ'[b]? = some B' ∧ B'.ver = B.ver ∧ B'.esz = B.esz ∧ B'.row = B.row ∧ (memB (k + b) F = false → B' = B)
  | [], k, σ', h, b, B, hB => by simp at hB
  | B0 :: σ0, k, [], h, b, B, hB => h.elim
  | B0 :: σ0, k, B' :: σ', h, b, B, hB => by
    obtain ⟨h1, h2⟩ := (show (B'.ver = B0.ver ∧ B'.esz = B0.esz ∧ B'.row = B0.row ∧ (memB k F = false → B' = B0)) ∧ varL F σ0 (k + 1) σ' from h)
    cases b with
    | zero => simp at hB; subst hB; exact ⟨B', rfl, h1⟩
    | succ b =>
      obtain ⟨B'', h3, h4⟩ := varL_get h2 b B (by simpa using hB)
      exact ⟨B'', by simpa using h3, by rw [show k + (b + 1) = k + 1 + b by omega]; exact h4⟩
theorem varL_sim {F : List Nat} {σ0 σ' : List Blk} (h : varL F σ0 0 σ') : simB σ0 σ' := fun b B hB => let ⟨B', h1, h2, h3, h4, _⟩ := varL_get h b B hB; ⟨B', h1, h2, h3, h4⟩
theorem varL_refl (F : List Nat) : ∀ (σ0 : List Blk) (k : Nat), varL F σ0 k σ0
  | [], _ => trivial
  | B :: σ0, k => ⟨⟨rfl, rfl, rfl, fun _ => rfl⟩, varL_refl F σ0 (k + 1)⟩
/-- the same, and then R -/
def varC (F : List Nat) (σ0 : List Blk) (R : Prop) : Nat → List Blk → Prop :=
  List.rec (motive := fun _ => Nat → List Blk → Prop) (fun _ _ => R) (fun B _ ih k σ' => match σ' with
    | [] => False
    | B' :: σ'' => match memB k F with
      | true => B'.ver = B.ver ∧ B'.esz = B.esz ∧ B'.row = B.row ∧ ih (k + 1) σ''
      | false => B' = B ∧ ih (k + 1) σ'') σ0
theorem varC_spec {F : List Nat} {R : Prop} : ∀ {σ0 : List Blk} {k : Nat} {σ' : List Blk}, varC F σ0 R k σ' → varL F σ0 k σ' ∧ R
  | [], k, σ', h => ⟨trivial, h⟩
  | B0 :: σ0, k, [], h => h.elim
  | B0 :: σ0, k, B' :: σ', h => by
    have h' : (match memB k F with
      | true => B'.ver = B0.ver ∧ B'.esz = B0.esz ∧ B'.row = B0.row ∧ varC F σ0 R (k + 1) σ'
      | false => B' = B0 ∧ varC F σ0 R (k + 1) σ' : Prop) := h
    show ((B'.ver = B0.ver ∧ B'.esz = B0.esz ∧ B'.row = B0.row ∧ (memB k F = false → B' = B0)) ∧ varL F σ0 (k + 1) σ') ∧ R
    cases hm : memB k F with
    | true =>
      rw [hm] at h'
      obtain ⟨h1, h2, h3, h4⟩ := h'
      obtain ⟨h5, h6⟩ := varC_spec h4
      exact ⟨⟨⟨h1, h2, h3, fun e => by cases e⟩, h5⟩, h6⟩
    | false =>
      rw [hm] at h'
      obtain ⟨h1, h4⟩ := h'
      obtain ⟨h5, h6⟩ := varC_spec h4
      subst h1
      exact ⟨⟨⟨rfl, rfl, rfl, fun _ => rfl⟩, h5⟩, h6⟩
section
variable {P : Program} {W0 : World} {fr fr' : Fr} {σ : List Blk} {K K' : Cont}
def LV (R : List Blk → Cont → Prop) (σ : List Blk) (K : Cont) : Prop := ∃ av, K av σ ∧ ∀ (σ' : List Blk) (K' : Cont), simB σ σ' → K' av σ' → R σ' K'
theorem LP.lv {R : List Blk → Cont → Prop} (h : LP R σ K) : LV R σ K := let ⟨av, h1, h2⟩ := h; ⟨av, h1, fun σ' K' _ hk => h2 σ' K' hk⟩
theorem curv {b ver : Nat} {σ' : List Blk} (hs : simB σ σ') (h : ∃ B, σ[b]? = some B ∧ B.ver = ver) : ∃ B, σ'[b]? = some B ∧ B.ver = ver :=
  let ⟨B, h1, h2⟩ := h; let ⟨B', h3, h4, _⟩ := hs b B h1; ⟨B', h3, h4.trans h2⟩
theorem faddrR_lv {off : Nat} {a : AV} (h : faddrR off a σ K) : LV (fun σ => faddrR off a σ) σ K := by
  unfold faddrR at h
  split at h
  · exact ⟨_, h.2, fun τ K' hs h' => ⟨curv hs h.1, h'⟩⟩
  · exact ⟨_, h, fun τ K' _ h' => h'⟩
  · exact h.elim
theorem iaddrAR_lv {len s : Nat} {a i : AV} (h : iaddrAR len s a i σ K) : LV (fun σ => iaddrAR len s a i σ) σ K := by
  unfold iaddrAR at h
  split at h
  · exact ⟨_, h.2.2.2, fun τ K' hs h' => ⟨curv hs h.1, h.2.1, h.2.2.1, h'⟩⟩
  · exact ⟨_, h.2.2, fun τ K' _ h' => ⟨h.1, h.2.1, h'⟩⟩
  · exact h.elim
theorem iaddrSR_lv {s : Nat} {a i : AV} (h : iaddrSR s a i σ K) : LV (fun σ => iaddrSR s a i σ) σ K := by
  unfold iaddrSR at h
  split at h
  · exact ⟨_, h.2.2.2, fun τ K' hs h' => ⟨curv hs h.1, h.2.1, h.2.2.1, h'⟩⟩
  · exact ⟨_, h.2.2, fun τ K' _ h' => ⟨h.1, h.2.1, h'⟩⟩
  · exact h.elim
theorem lenLR_lv {x : AV} (h : lenLR x σ K) : LV (fun σ => lenLR x σ) σ K := by
  unfold lenLR at h
  split at h
  · exact ⟨_, h, fun τ K' _ h' => h'⟩
  · exact ⟨_, h.2, fun τ K' hs h' => ⟨curv hs h.1, h'⟩⟩
  · exact h.elim
theorem nilSR_lv {neg : Bool} {x : AV} (h : nilSR neg x σ K) : LV (fun σ => nilSR neg x σ) σ K := by
  unfold nilSR at h
  split at h
  · exact ⟨_, h, fun τ K' _ h' => h'⟩
  · exact ⟨_, h.2, fun τ K' hs h' => ⟨curv hs h.1, h'⟩⟩
  · exact h.elim
theorem nilPR_lv {neg : Bool} {x : AV} (h : nilPR neg x σ K) : LV (fun σ => nilPR neg x σ) σ K := by
  unfold nilPR at h
  split at h
  · exact ⟨_, h.2, fun τ K' hs h' => ⟨curv hs h.1, h'⟩⟩
  · exact h.elim
theorem nilckR_lv {x : AV} (h : nilckR x σ K) : LV (fun σ => nilckR x σ) σ K := by
  unfold nilckR at h
  split at h
  · exact ⟨_, h.2, fun τ K' hs h' => ⟨curv hs h.1, h'⟩⟩
  · exact ⟨_, h, fun τ K' _ h' => h'⟩
  · exact ⟨_, h, fun τ K' _ h' => h'⟩
  · exact ⟨_, h, fun τ K' _ h' => h'⟩
  · exact h.elim
theorem sliceR_lv {s : Nat} {x : AV} {lo hi : Int → Option Int} (h : sliceR s x lo hi σ K) : LV (fun σ => sliceR s x lo hi σ) σ K := by
  unfold sliceR at h
  split at h
  · split at h
    · rename_i l hh e1 e2
      obtain ⟨B, b1, b2, b3, a1, a2, a3, hk⟩ := h
      exact ⟨_, hk, fun τ K' hs h' => by
        obtain ⟨B', c1, c2, c3, c4⟩ := hs _ _ b1
        unfold sliceR; dsimp only; rw [e1, e2]; exact ⟨B', c1, c2.trans b2, fun e => c3.trans (b3 (c4 ▸ e)), a1, a2, a3, h'⟩⟩
    · exact h.elim
  · split at h
    · rename_i l hh e1 e2
      obtain ⟨a1, a2, a3, hk⟩ := h
      exact ⟨_, hk, fun τ K' _ h' => by unfold sliceR; dsimp only; rw [e1, e2]; exact ⟨a1, a2, a3, h'⟩⟩
    · exact h.elim
  · split at h
    · rename_i l hh e1 e2
      obtain ⟨a1, a2, hk⟩ := h
      exact ⟨_, hk, fun τ K' _ h' => by unfold sliceR; (try dsimp only); rw [e1, e2]; exact ⟨a1, a2, h'⟩⟩
    · exact h.elim
  · exact h.elim
theorem slicePR_lv {n s : Nat} {x : AV} {lo hi : Int → Option Int} (h : slicePR n s x lo hi σ K) : LV (fun σ => slicePR n s x lo hi σ) σ K := by
  unfold slicePR at h
  split at h
  · split at h
    · rename_i l hh e1 e2
      obtain ⟨B, b1, b2, b3, a0, a1, a2, a3, hk⟩ := h
      exact ⟨_, hk, fun τ K' hs h' => by
        obtain ⟨B', c1, c2, c3, c4⟩ := hs _ _ b1
        unfold slicePR; dsimp only; rw [e1, e2]; exact ⟨B', c1, c2.trans b2, c4.trans b3, a0, a1, a2, a3, h'⟩⟩
    · exact h.elim
  · exact h.elim
def loadsR : ROp → Bool
  | .load _ _ _ | .strL _ => true
  | _ => false
theorem ropW_lv {o : ROp} (hl : looksR o = true) (hn : loadsR o = false) (h : ropW P W0 o fr σ K) : LV (ropW P W0 o fr) σ K := by
  by_cases hp : pureR o = true
  · exact (ropW_lp hp h).lv
  · cases o with
    | slice s x lo hi => exact sliceR_lv (lo := fun d => bndR fr d lo) (hi := fun d => bndR fr d hi) h
    | sliceP n s x lo hi => exact slicePR_lv (lo := fun d => bndR fr d lo) (hi := fun d => bndR fr d hi) h
    | _ => first
      | (simp [looksR] at hl; done)
      | (simp [loadsR] at hn; done)
      | (exact (hp rfl).elim)
      | exact faddrR_lv h
      | exact iaddrAR_lv h
      | exact iaddrSR_lv h
      | exact lenLR_lv h
      | exact nilSR_lv h
      | exact nilPR_lv h
      | exact nilckR_lv h
end
/-! ### one operation -/
section
variable {P : Program} {W0 : World}
/-- it leaves no trace -/
def qRun (P : Program) (W0 : World) (o : ROp) (fr : Fr) (σ : List Blk) (K : AV → Prop) : Prop :=
  match o with
  | .call f args => fL (args.map (RA.ev fr)) fun vs => ∃ r, callW P W0 (f.ev fr) vs σ (fun v σ' => v = r ∧ σ' = σ) ∧ K r
  | o => looksR o = true ∧ ropW P W0 o fr σ fun v _ => K v
/-- it leaves no trace, and gives the same whatever else is done -/
def hRun (P : Program) (W0 : World) (F : List Nat) (σ0 : List Blk) (o : ROp) (fr : Fr) (K : AV → Prop) : Prop :=
  match o with
  | .call f args => fL (args.map (RA.ev fr)) fun vs => ∃ r, (∀ τ, varL F σ0 0 τ → callW P W0 (f.ev fr) vs τ fun v σ' => v = r ∧ σ' = τ) ∧ K r
  | .load s g a => match a.ev fr with
    | .ptr b ver off => memB b F = false ∧ loadR W0 s g (.ptr b ver off) σ0 fun v _ => K v
    | a => loadR W0 s g a σ0 fun v _ => K v
  | .strL _ => False
  | o => looksR o = true ∧ ropW P W0 o fr σ0 fun v _ => K v
def gRun (g : Option (Nat × Bool)) (fr : Fr) (run skip : Prop) : Prop :=
  match g with
  | none => run
  | some (s, b) => match fr s with
    | .lit (.bool t) => (t = b → run) ∧ (t = !b → skip)
    | .lit _ => skip
    | _ => False
/-- one operation, its value handed on -/
def stepG (P : Program) (W0 : World) (V : List Blk → Prop) (tt : Bool) (it : GI) (fr : Fr) (σ : List Blk) (K : Cont) : Prop :=
  gRun it.g fr (match tt with
    | true => ropW P W0 it.o fr σ fun v σ' => V σ' ∧ K v σ'
    | false => qRun P W0 it.o fr σ fun v => K v σ) (K (.lit undef) σ)
def readsG (it : GI) : List Nat := slotsR it.o ++ match it.g with
  | some (s, _) => [s]
  | none => []
theorem gRun_mono {g : Option (Nat × Bool)} {fr : Fr} {r r' s s' : Prop} (h : gRun g fr r s) (hr : r → r') (hs : s → s') : gRun g fr r' s' := by
  unfold gRun at h ⊢
  split
  · exact hr h
  · dsimp only at h
    split at h
    · exact ⟨fun e => hr (h.1 e), fun e => hs (h.2 e)⟩
    · exact hs h
    · exact h.elim
theorem gRun_congr {g : Option (Nat × Bool)} {fr fr' : Fr} {r s : Prop} (h : ∀ x b, g = some (x, b) → fr x = fr' x) : gRun g fr r s = gRun g fr' r s := by
  unfold gRun
  split
  · rfl
  · rename_i x b; rw [h x b rfl]
theorem qRun_congr {o : ROp} {fr fr' : Fr} {σ : List Blk} {K : AV → Prop} (h : ∀ t ∈ slotsR o, fr t = fr' t) : qRun P W0 o fr σ K = qRun P W0 o fr' σ K := by
  unfold qRun
  split
  · rename_i f args
    have e1 := ev_congr (x := f) fun t ht => h t (by simp only [slotsR]; exact List.mem_append_left _ ht)
    have e2 := evs_congr (l := args) fun t ht => h t (by simp only [slotsR]; exact List.mem_append_right _ ht)
    simp only [e1, e2]
  · rw [ropW_congr h]
theorem qRun_inv {o : ROp} {fr : Fr} {σ : List Blk} {K : AV → Prop} (h : qRun P W0 o fr σ K) : ∃ v, K v ∧ ∀ K' : AV → Prop, K' v → qRun P W0 o fr σ K' := by
  unfold qRun at h
  split at h
  · rename_i f args
    rw [fL_eq] at h
    obtain ⟨r, h1, h2⟩ := h
    refine ⟨r, h2, fun K' hk => ?_⟩
    unfold qRun; dsimp only; rw [fL_eq]
    exact ⟨r, h1, hk⟩
  · rename_i hne
    obtain ⟨hl, h⟩ := h
    obtain ⟨v, h1, h2⟩ := ropW_ld hl h
    refine ⟨v, h1, fun K' hk => ?_⟩
    unfold qRun
    split
    · exact (hne _ _ rfl).elim
    · exact ⟨hl, h2 (fun v _ => K' v) hk⟩
theorem qRun_mono {o : ROp} {fr : Fr} {σ : List Blk} {K K' : AV → Prop} (h : qRun P W0 o fr σ K) (hk : ∀ v, K v → K' v) : qRun P W0 o fr σ K' :=
  let ⟨v, h1, h2⟩ := qRun_inv h; h2 K' (hk v h1)
theorem qRun_pure {o : ROp} {fr : Fr} {σ : List Blk} {K : AV → Prop} (hp : pureR o = true) (h : qRun P W0 o fr σ K) : ∃ v, K v ∧ ∀ (σ' : List Blk) (K' : AV → Prop), K' v → qRun P W0 o fr σ' K' := by
  unfold qRun at h
  split at h
  · cases hp
  · rename_i hne
    obtain ⟨hl, h⟩ := h
    obtain ⟨v, h1, h2⟩ := ropW_lp hp h
    refine ⟨v, h1, fun σ' K' hk => ?_⟩
    unfold qRun
    split
    · exact (hne _ _ rfl).elim
    · exact ⟨hl, h2 σ' (fun v _ => K' v) hk⟩
theorem qRun_ropW {o : ROp} {fr : Fr} {σ : List Blk} {K : AV → Prop} (h : qRun P W0 o fr σ K) : ropW P W0 o fr σ fun v σ' => σ' = σ ∧ K v := by
  unfold qRun at h
  split at h
  · rename_i f args
    rw [fL_eq] at h
    obtain ⟨r, h1, h2⟩ := h
    simp only [ropW, fL_eq]
    exact callW_mono h1 fun v σ' ⟨e1, e2⟩ => ⟨e2, e1 ▸ h2⟩
  · obtain ⟨hl, h⟩ := h
    obtain ⟨v, h1, h2⟩ := ropW_ld hl h
    exact h2 _ ⟨rfl, h1⟩
theorem hRun_inv {F : List Nat} {σ0 : List Blk} {o : ROp} {fr : Fr} {K : AV → Prop} (h : hRun P W0 F σ0 o fr K) : ∃ v, K v ∧ ∀ (σ' : List Blk) (K' : AV → Prop), varL F σ0 0 σ' → K' v → qRun P W0 o fr σ' K' := by
  unfold hRun at h
  split at h
  · rename_i f args
    rw [fL_eq] at h
    obtain ⟨r, h1, h2⟩ := h
    refine ⟨r, h2, fun σ' K' hv hk => ?_⟩
    unfold qRun; dsimp only; rw [fL_eq]
    exact ⟨r, h1 σ' hv, hk⟩
  · rename_i s g a
    split at h
    · rename_i b ver off ha
      obtain ⟨hb, h⟩ := h
      obtain ⟨B, h1, h2, h3, hk⟩ := (show ∃ B, σ0[b]? = some B ∧ B.ver = ver ∧ off + s ≤ B.cells.length ∧ K (mkAV g ((B.cells.drop off).take s)) from h)
      refine ⟨_, hk, fun σ' K' hv hk' => ⟨rfl, ?_⟩⟩
      obtain ⟨B', c1, _, _, _, c5⟩ := varL_get hv b B h1
      rw [Nat.zero_add] at c5
      have e := c5 hb
      subst e
      show loadR W0 s g (a.ev fr) σ' fun v _ => K' v
      rw [ha]
      exact ⟨B', c1, h2, h3, hk'⟩
    · rename_i hne
      have h' := h
      unfold loadR at h
      split at h
      · rename_i b ver off ha; exact (hne _ _ _ ha).elim
      · rename_i ad ha
        obtain ⟨cs, h1, h2, h3, hk⟩ := h
        refine ⟨_, hk, fun σ' K' hv hk' => ⟨rfl, ?_⟩⟩
        show loadR W0 s g (a.ev fr) σ' fun v _ => K' v
        rw [ha]
        exact ⟨cs, h1, h2, h3, hk'⟩
      · exact h.elim
  · exact h.elim
  · rename_i hne1 hne2 hne3
    obtain ⟨hl, h⟩ := h
    have hnl : loadsR o = false := by cases o <;> first | rfl | exact (hne2 _ _ _ rfl).elim | exact (hne3 _ rfl).elim
    obtain ⟨v, h1, h2⟩ := ropW_lv hl hnl h
    refine ⟨v, h1, fun σ' K' hv hk => ?_⟩
    unfold qRun
    split
    · exact (hne1 _ _ rfl).elim
    · exact ⟨hl, h2 σ' (fun v _ => K' v) (varL_sim hv) hk⟩
variable {V : List Blk → Prop} {it : GI} {fr fr' : Fr} {σ : List Blk} {K K' : Cont} {tt : Bool}
theorem stepG_mono (h : stepG P W0 V tt it fr σ K) (hk : ∀ v σ', K v σ' → K' v σ') : stepG P W0 V tt it fr σ K' := by
  refine gRun_mono h (fun hr => ?_) (hk _ _)
  cases tt with
  | true => exact ropW_mono hr fun v σ' ⟨h1, h2⟩ => ⟨h1, hk _ _ h2⟩
  | false => exact qRun_mono hr fun v => hk _ _
/-- what is known of the blocks behind it -/
theorem stepG_keeps (h : stepG P W0 V tt it fr σ K) : stepG P W0 V tt it fr σ fun v σ' => (σ' = σ ∨ (tt = true ∧ V σ')) ∧ K v σ' := by
  refine gRun_mono h (fun hr => ?_) fun hs => ⟨.inl rfl, hs⟩
  cases tt with
  | true => exact ropW_mono hr fun v σ' ⟨h1, h2⟩ => ⟨h1, .inr ⟨rfl, h1⟩, h2⟩
  | false => exact qRun_mono hr fun v h => ⟨.inl rfl, h⟩
theorem stepG_congr (h : ∀ t ∈ readsG it, fr t = fr' t) : stepG P W0 V tt it fr σ K = stepG P W0 V tt it fr' σ K := by
  unfold stepG
  have h1 : ∀ t ∈ slotsR it.o, fr t = fr' t := fun t ht => h t (List.mem_append_left _ ht)
  have h2 : ∀ x b, it.g = some (x, b) → fr x = fr' x := fun x b e => h x (List.mem_append_right _ (by rw [e]; simp))
  rw [gRun_congr h2]
  cases tt with
  | true => rw [ropW_congr h1]
  | false => rw [qRun_congr h1]
end
/-! ### every order -/
abbrev GL := List GI
def treeG (P : Program) (W0 : World) (ops : Array Oper) (L : GL) (T : Nat → Bool) (V : Nat → List Blk → Prop) (K : Fr → List Blk → Prop) : Nat → Array Bool → Fr → List Blk → Prop
  | 0, done, fr, σ => Region.ready .any ops done = [] ∧ K fr σ
  | f + 1, done, fr, σ => Region.ready .any ops done ≠ [] ∧ ∀ i ∈ Region.ready .any ops done, ∃ it, L[i]? = some it ∧ stepG P W0 (V i) (T i) it fr σ fun v σ' => treeG P W0 ops L T V K f (done.setIfInBounds i true) (updO fr it.d v) σ'
def apartG (j i : GI) : Bool :=
  (match j.d with
    | some d => !(readsG i).contains d && i.d != some d
    | none => true) &&
  (match i.d with
    | some d => !(readsG j).contains d
    | none => true)
theorem apartG_spec {j i : GI} (h : apartG j i = true) : (∀ d, j.d = some d → d ∉ readsG i) ∧ (∀ d, j.d = some d → i.d ≠ some d) ∧ (∀ d, i.d = some d → d ∉ readsG j) := by
  unfold apartG at h
  simp only [Bool.and_eq_true] at h
  refine ⟨fun d hd => ?_, fun d hd => ?_, fun d hd => ?_⟩
  · have := h.1; rw [hd] at this; simp at this; exact this.1
  · have := h.1; rw [hd] at this; simp at this; exact this.2
  · have := h.2; rw [hd] at this; simp at this; exact this
/-- all that can be done while j is not -/
def closeD (ops : Array Oper) (j : Nat) : Nat → Array Bool → Array Bool
  | 0, D => D
  | f + 1, D => match (Region.ready .any ops D).filter (· != j) with
    | [] => D
    | l => closeD ops j f (l.foldl (fun D i => D.setIfInBounds i true) D)
/-- D is all that can be done before j: nothing but j is ready behind it -/
def okD (ops : Array Oper) (L : GL) (T : Nat → Bool) (done D : Array Bool) (j : Nat) (quiet : Bool) : Bool :=
  (Region.ready .any ops D).all (· == j) && decide (D.size = ops.size) && decide (D.getD j true = false) &&
  (List.range ops.size).all fun i => (!done.getD i false || D.getD i false) && (!D.getD i false || done.getD i true || match L[i]?, L[j]? with
    | some a, some b => apartG b a && (!quiet || !T i)
    | _, _ => false)
theorem updO_off' {fr : Fr} {d : Option Nat} {v : AV} {l : List Nat} (h : ∀ x, d = some x → x ∉ l) : ∀ t ∈ l, updO fr d v t = fr t := fun t ht => by
  cases d with
  | none => rfl
  | some x =>
    have : t ≠ x := fun e => h x rfl (e ▸ ht)
    simp [updO, upd, this]
section
variable {P : Program} {W0 : World} {ops : Array Oper} {L : GL} {T : Nat → Bool} {V : Nat → List Blk → Prop} {K : Fr → List Blk → Prop}
/-- what can be done first, and harms no other, may be done first -/
theorem treeG_take {j : Nat} {it : GI} {v : AV} {D done0 : Array Bool} {V' : List Blk → Prop} (hL : L[j]? = some it) (hT : T j = false)
    (hD1 : ∀ i ∈ Region.ready .any ops D, i = j) (hDs : D.size = ops.size)
    (hap : ∀ i a, D.getD i false = true → done0.getD i true = false → L[i]? = some a → apartG it a = true ∧ (T i = true → ∀ σ, V i σ → V' σ)) :
    ∀ (f : Nat) (done : Array Bool) (fr : Fr) (σ : List Blk), (∀ k, done.getD k true = false → done0.getD k true = false) → (∀ k, done.getD k false = true → D.getD k false = true) → j ∈ Region.ready .any ops done → D.getD j true = false →
      (∀ (fr' : Fr) (σ' : List Blk) (K' : Cont), (∀ t ∈ readsG it, fr' t = fr t) → V' σ' → K' v σ' → stepG P W0 (V j) false it fr' σ' K') → V' σ →
      treeG P W0 ops L T V K f (done.setIfInBounds j true) (updO fr it.d v) σ → treeG P W0 ops L T V K (f + 1) done fr σ := by
  have here : ∀ {f : Nat} {done : Array Bool} {fr : Fr} {σ : List Blk}, (∀ (fr' : Fr) (σ' : List Blk) (K' : Cont), (∀ t ∈ readsG it, fr' t = fr t) → V' σ' → K' v σ' → stepG P W0 (V j) false it fr' σ' K') → V' σ →
      treeG P W0 ops L T V K f (done.setIfInBounds j true) (updO fr it.d v) σ → ∃ it, L[j]? = some it ∧ stepG P W0 (V j) (T j) it fr σ fun v σ' => treeG P W0 ops L T V K f (done.setIfInBounds j true) (updO fr it.d v) σ' := fun hs hV h => by
    refine ⟨it, hL, ?_⟩
    rw [hT]
    exact hs _ _ _ (fun _ _ => rfl) hV h
  intro f
  induction f with
  | zero =>
    intro done fr σ s1 s2 hr hDj hs hV H
    refine ⟨fun h0 => (by rw [h0] at hr; cases hr), fun i hi => ?_⟩
    rcases Nat.decEq i j with hne | rfl
    · have := ready_mono hi hne
      rw [H.1] at this; cases this
    · exact here hs hV H
  | succ f ih =>
    intro done fr σ s1 s2 hr hDj hs hV H
    refine ⟨fun h0 => (by rw [h0] at hr; cases hr), fun i hi => ?_⟩
    rcases Nat.decEq i j with hne | rfl
    · obtain ⟨iti, hLi, hst⟩ := H.2 i (ready_mono hi hne)
      have hiu := (mem_ready.1 hi).1
      obtain ⟨_, oi, hoi, hdeps⟩ := mem_ready.1 hi
      have hisz : i < ops.size := (Array.getElem?_eq_some_iff.1 hoi).1
      have hDi : D.getD i false = true := by
        cases hd : D.getD i true with
        | false => exact (hne (hD1 i (mem_ready.2 ⟨hd, oi, hoi, fun e he hb => s2 _ (hdeps e he hb)⟩))).elim
        | true =>
          have hlt : i < D.size := by omega
          simp [hlt] at hd ⊢; exact hd
      obtain ⟨hapart, hTi⟩ := hap i iti hDi (s1 i hiu) hLi
      obtain ⟨a1, a2, a3⟩ := apartG_spec hapart
      rw [stepG_congr (fr' := fr) (updO_off' a1)] at hst
      refine ⟨iti, hLi, stepG_mono (stepG_keeps hst) fun u σ' ⟨hk, h⟩ => ?_⟩
      rw [Array.setIfInBounds_comm _ _ (Ne.symm hne), updO_comm a2] at h
      have hV' : V' σ' := by
        rcases hk with e | ⟨e, hv⟩
        · rw [e]; exact hV
        · exact hTi e _ hv
      refine ih (done.setIfInBounds i true) (updO fr iti.d u) σ' (fun k hk => ?_) (fun k hk => ?_) (ready_mono hr (Ne.symm hne)) hDj (fun fr' σ'' K' hfr hv hk => hs fr' σ'' K' (fun t ht => (hfr t ht).trans (updO_off' a3 t ht)) hv hk) hV' h
      · rcases Nat.decEq i k with hik | rfl
        · rw [getD_set_ne true hik] at hk; exact s1 k hk
        · exact s1 i hiu
      · rcases Nat.decEq i k with hik | rfl
        · rw [getD_set_ne false hik] at hk; exact s2 k hk
        · exact hDi
    · exact here hs hV H
/-! ### plans -/
/-- how an operation that leaves a trace stands in a plan. Mode 0: no head is asked to hold beside others; 1: heads may; 2: an operation that no head can follow has been done -/
def nodeT (L : GL) (U : Nat → Bool) (m : Nat) (rec : Nat → Nat → Option PT) (i : Nat) : Option PT := match L[i]?, m, U i with
  | some it, 1, true => (rec 2 i).map (.u it)
  | some it, 2, true => (rec 2 i).map (.u it)
  | some _, 2, false => none
  | some it, m, _ => (rec m i).map (.t it)
  | none, _, _ => none
def brs (L : GL) (U : Nat → Bool) (m : Nat) (rec : Nat → Nat → Option PT) : List Nat → Option PT
  | [] => none
  | [i] => nodeT L U m rec i
  | i :: is => match nodeT L U m rec i, brs L U m rec is with
    | some p, some q => some (.both p q)
    | _, _ => none
def mkPlan (ops : Array Oper) (L : GL) (T U : Nat → Bool) : Nat → Nat → Array Bool → Option PT
  | m, 0, done => if (Region.ready .any ops done).isEmpty then some .fin else none
  | m, f + 1, done => match (Region.ready .any ops done).find? (fun j => !T j) with
    | some j => match L[j]? with
      | some it => if okD ops L T done (closeD ops j ops.size done) j true then (mkPlan ops L T U m f (done.setIfInBounds j true)).map (.n it)
        else if pureR it.o && okD ops L T done (closeD ops j ops.size done) j false then (mkPlan ops L T U m f (done.setIfInBounds j true)).map (.n it)
        else if (Nat.beq m 1 && (List.range ops.size).all fun i => !(closeD ops j ops.size done).getD i false || done.getD i true || !U i) && okD ops L T done (closeD ops j ops.size done) j false then (mkPlan ops L T U m f (done.setIfInBounds j true)).map (.h it)
        else none
      | none => none
    | none => brs L U m (fun m i => mkPlan ops L T U m f (done.setIfInBounds i true)) (Region.ready .any ops done)
/-- a guard, its slot set right -/
def gRunF (g : Option (Nat × Bool)) (fr : Fr) (run skip : Fr → Prop) : Prop :=
  match g with
  | none => run fr
  | some (s, b) => match fr s with
    | .lit (.bool t) => (t = b → run (upd fr s (.lit (.bool b)))) ∧ (t = !b → skip (upd fr s (.lit (.bool !b))))
    | .lit _ => skip fr
    | _ => False
theorem gRunF_out {g : Option (Nat × Bool)} {fr : Fr} {run skip : Fr → Prop} (h : gRunF g fr run skip) : gRun g fr (run fr) (skip fr) := by
  unfold gRunF at h
  unfold gRun
  split
  · exact h
  · rename_i s b
    dsimp only at h
    split at h
    · rename_i t ht
      refine ⟨fun e => ?_, fun e => ?_⟩
      · have := h.1 e
        rw [upd_at (by rw [ht, e])] at this
        exact this
      · have := h.2 e
        rw [upd_at (by rw [ht, e])] at this
        exact this
    · exact h
    · exact h.elim
def ptW (P : Program) (W0 : World) (C : List Blk → Prop → Prop) (F : List Nat) (σ0 : List Blk) (p : PT) : Fr → List Blk → (Fr → List Blk → Prop) → Prop :=
  PT.rec (motive := fun _ => Fr → List Blk → (Fr → List Blk → Prop) → Prop) (fun fr σ K => K fr σ)
    (fun it _ ih fr σ K => gRunF it.g fr (fun fr => qRun P W0 it.o fr σ fun v => fv v fun v => ih (updO fr it.d v) σ K) (fun fr => ih (updO fr it.d (.lit undef)) σ K))
    (fun it _ ih fr σ K => gRunF it.g fr (fun fr => hRun P W0 F σ0 it.o fr fun v => fv v fun v => ih (updO fr it.d v) σ K) (fun fr => ih (updO fr it.d (.lit undef)) σ K))
    (fun it _ ih fr σ K => gRunF it.g fr (fun fr => ropW P W0 it.o fr σ fun v σ' => C σ' (fv v fun v => ih (updO fr it.d v) σ' K)) (fun fr => ih (updO fr it.d (.lit undef)) σ K))
    (fun _ _ ia ib fr σ K => ia fr σ K ∧ ib fr σ K)
    (fun it _ ih fr σ K => gRunF it.g fr (fun fr => ropW P W0 it.o fr σ fun v σ' => fv v fun v => ih (updO fr it.d v) σ' K) (fun fr => ih (updO fr it.d (.lit undef)) σ K)) p
theorem gRun_inv {g : Option (Nat × Bool)} {fr : Fr} {R S : (AV → Prop) → Prop} {X : AV → Prop} (hR : R X → ∃ v, X v ∧ ∀ K' : AV → Prop, K' v → S K') (h : gRun g fr (R X) (X (.lit undef))) :
    ∃ v, X v ∧ ∀ K' : AV → Prop, K' v → gRun g fr (S K') (K' (.lit undef)) := by
  unfold gRun at h
  split at h
  · obtain ⟨v, h1, h2⟩ := hR h
    exact ⟨v, h1, h2⟩
  · rename_i s b
    split at h
    · rename_i t ht
      by_cases e : t = b
      · obtain ⟨v, h1, h2⟩ := hR (h.1 e)
        refine ⟨v, h1, fun K' hk => ?_⟩
        unfold gRun; dsimp only; rw [ht]
        exact ⟨fun _ => h2 K' hk, fun e' => by subst e; cases t <;> cases e'⟩
      · have e' : t = !b := by cases t <;> cases b <;> simp_all
        refine ⟨_, h.2 e', fun K' hk => ?_⟩
        unfold gRun; dsimp only; rw [ht]
        exact ⟨fun e2 => (e e2).elim, fun _ => hk⟩
    · rename_i u hu hne
      refine ⟨_, h, fun K' hk => ?_⟩
      unfold gRun; dsimp only; rw [hne]
      cases u <;> first | exact hk | exact (hu _ rfl).elim
    · exact h.elim
theorem gRunF_mono {g : Option (Nat × Bool)} {fr : Fr} {r r' s s' : Fr → Prop} (h : gRunF g fr r s) (hr : ∀ fr, r fr → r' fr) (hs : ∀ fr, s fr → s' fr) : gRunF g fr r' s' := by
  unfold gRunF at h ⊢
  split
  · exact hr _ h
  · dsimp only at h
    split at h
    · exact ⟨fun e => hr _ (h.1 e), fun e => hs _ (h.2 e)⟩
    · exact hs _ h
    · exact h.elim
/-- what a plan says of an operation that leaves a trace -/
def nodeW (P : Program) (W0 : World) (C : List Blk → Prop → Prop) (F : List Nat) (σ0 : List Blk) (V0 : List Blk → Prop) (u : Bool) (m' : Nat) (it : GI) (q : PT) (fr : Fr) (σ : List Blk) (K : Fr → List Blk → Prop) : Prop :=
  gRunF it.g fr (fun fr => ropW P W0 it.o fr σ fun v σ' => ((u = true ∨ V0 σ') ∧ (m' ≠ 2 → V0 σ')) ∧ fv v fun v => ptW P W0 C F σ0 q (updO fr it.d v) σ' K) (fun fr => ptW P W0 C F σ0 q (updO fr it.d (.lit undef)) σ K)
theorem nodeT_sound {V0 : List Blk → Prop} {U : Nat → Bool} {C : List Blk → Prop → Prop} (hC : ∀ σ' R, C σ' R → V0 σ' ∧ R) {F : List Nat} {σ0 : List Blk} {rec : Nat → Nat → Option PT} {fr : Fr} {σ : List Blk} {m i : Nat} {p : PT} (h : nodeT L U m rec i = some p) (hw : ptW P W0 C F σ0 p fr σ K) :
    ∃ it m' q, L[i]? = some it ∧ rec m' i = some q ∧ (m' = m ∨ m' = 2) ∧ nodeW P W0 C F σ0 V0 (U i) m' it q fr σ K := by
  have free : ∀ it q, U i = true → ptW P W0 C F σ0 (.u it q) fr σ K → nodeW P W0 C F σ0 V0 (U i) 2 it q fr σ K := fun it q hU hw => by
    have hw' : gRunF it.g fr (fun fr => ropW P W0 it.o fr σ fun v σ' => fv v fun v => ptW P W0 C F σ0 q (updO fr it.d v) σ' K) (fun fr => ptW P W0 C F σ0 q (updO fr it.d (.lit undef)) σ K) := hw
    exact gRunF_mono hw' (fun fr h => ropW_mono h fun v σ' h => ⟨⟨.inl hU, fun e => (e rfl).elim⟩, h⟩) (fun fr h => h)
  have bound : ∀ it q m', ptW P W0 C F σ0 (.t it q) fr σ K → nodeW P W0 C F σ0 V0 (U i) m' it q fr σ K := fun it q m' hw => by
    have hw' : gRunF it.g fr (fun fr => ropW P W0 it.o fr σ fun v σ' => C σ' (fv v fun v => ptW P W0 C F σ0 q (updO fr it.d v) σ' K)) (fun fr => ptW P W0 C F σ0 q (updO fr it.d (.lit undef)) σ K) := hw
    exact gRunF_mono hw' (fun fr h => ropW_mono h fun v σ' h => ⟨⟨.inr (hC _ _ h).1, fun _ => (hC _ _ h).1⟩, (hC _ _ h).2⟩) (fun fr h => h)
  unfold nodeT at h
  split at h
  · rename_i it hL hU
    obtain ⟨q, hq, rfl⟩ := Option.map_eq_some_iff.1 h
    exact ⟨it, 2, q, hL, hq, .inr rfl, free it q hU hw⟩
  · rename_i it hL hU
    obtain ⟨q, hq, rfl⟩ := Option.map_eq_some_iff.1 h
    exact ⟨it, 2, q, hL, hq, .inr rfl, free it q hU hw⟩
  · cases h
  · rename_i it hL n1 n2 n3
    obtain ⟨q, hq, rfl⟩ := Option.map_eq_some_iff.1 h
    exact ⟨it, _, q, hL, hq, .inl rfl, bound it q _ hw⟩
  · cases h
theorem brs_sound {V0 : List Blk → Prop} {U : Nat → Bool} {C : List Blk → Prop → Prop} (hC : ∀ σ' R, C σ' R → V0 σ' ∧ R) {F : List Nat} {σ0 : List Blk} {rec : Nat → Nat → Option PT} {fr : Fr} {σ : List Blk} {m : Nat} : ∀ {is : List Nat} {p : PT}, brs L U m rec is = some p → ptW P W0 C F σ0 p fr σ K → is ≠ [] ∧ ∀ i ∈ is, ∃ it m' q, L[i]? = some it ∧ rec m' i = some q ∧ (m' = m ∨ m' = 2) ∧ nodeW P W0 C F σ0 V0 (U i) m' it q fr σ K
  | [], p, h, _ => by cases h
  | [i], p, h, hw => by
    refine ⟨by simp, fun k hk => ?_⟩
    rw [List.mem_singleton.1 hk]
    exact nodeT_sound hC h hw
  | i :: i' :: is, p, h, hw => by
    unfold brs at h
    split at h
    · rename_i q q' h2 h3
      cases h
      have hw' : ptW P W0 C F σ0 q fr σ K ∧ ptW P W0 C F σ0 q' fr σ K := hw
      refine ⟨by simp, fun k hk => ?_⟩
      rcases List.mem_cons.1 hk with rfl | hk
      · exact nodeT_sound hC h2 hw'.1
      · exact (brs_sound hC h3 hw'.2).2 k hk
    · cases h
theorem okD_spec {done D : Array Bool} {j : Nat} {quiet : Bool} {it : GI} (h : okD ops L T done D j quiet = true) (hL : L[j]? = some it) :
    (∀ i ∈ Region.ready .any ops D, i = j) ∧ D.size = ops.size ∧ D.getD j true = false ∧ (∀ k, k < ops.size → done.getD k false = true → D.getD k false = true) ∧
    ∀ i a, D.getD i false = true → done.getD i true = false → L[i]? = some a → apartG it a = true ∧ (quiet = true → T i = false) := by
  unfold okD at h
  simp only [Bool.and_eq_true, decide_eq_true_eq] at h
  obtain ⟨⟨⟨h1, h2⟩, h3⟩, h4⟩ := h
  have h4' := List.all_eq_true.1 h4
  refine ⟨fun i hi => by simpa using List.all_eq_true.1 h1 i hi, h2, h3, fun k hk hd => ?_, fun i a hD hd ha => ?_⟩
  · have := h4' k (List.mem_range.2 hk)
    simp only [Bool.and_eq_true, Bool.or_eq_true, Bool.not_eq_true'] at this
    rcases this.1 with e | e
    · rw [hd] at e; cases e
    · exact e
  · have hi : i < ops.size := by
      rcases Nat.lt_or_ge i D.size with h' | h'
      · omega
      · simp [Array.getElem?_eq_none h'] at hD
    have := h4' i (List.mem_range.2 hi)
    rw [hD, hd, ha, hL] at this
    simp only [Bool.not_true, Bool.false_or, Bool.and_eq_true, Bool.or_eq_true, Bool.not_eq_true'] at this
    exact ⟨this.2.1, fun hq => by rcases this.2.2 with e | e <;> simp_all⟩
theorem plan_sound {V0 : List Blk → Prop} {U : Nat → Bool} {C : List Blk → Prop → Prop} (hC : ∀ σ' R, C σ' R → V0 σ' ∧ R) {F : List Nat} {σ0 : List Blk} (hsz : L.length = ops.size) : ∀ (f m : Nat) (hnh : m = 1 → V0 = varL F σ0 0) (done : Array Bool) (p : PT) (fr : Fr) (σ : List Blk), done.size = ops.size → mkPlan ops L T U m f done = some p → (m ≠ 2 → V0 σ) →
    ptW P W0 C F σ0 p fr σ K → treeG P W0 ops L T (fun i σ => U i = true ∨ V0 σ) K f done fr σ
  | 0, m, hnh, done, p, fr, σ, hds, hp, hV, h => by
    unfold mkPlan at hp
    split at hp
    · rename_i he
      cases hp
      exact ⟨by simpa using he, h⟩
    · cases hp
  | f + 1, m, hnh, done, p, fr, σ, hds, hp, hV, h => by
    unfold mkPlan at hp
    split at hp
    · rename_i j hj
      have hjr : j ∈ Region.ready .any ops done := List.mem_of_find?_eq_some hj
      have hTj : T j = false := by simpa using List.find?_some hj
      split at hp
      · rename_i it hL
        split at hp
        · rename_i hok
          obtain ⟨q, hq, rfl⟩ := Option.map_eq_some_iff.1 hp
          obtain ⟨d1, d2, d3, d4, d5⟩ := okD_spec hok hL
          obtain ⟨v, hv, hst⟩ := gRun_inv (R := fun X => qRun P W0 it.o fr σ X) (S := fun X => qRun P W0 it.o fr σ X) (X := fun v => ptW P W0 C F σ0 q (updO fr it.d v) σ K) (fun hr => qRun_inv hr) (gRun_mono (gRunF_out (show gRunF it.g fr (fun fr => qRun P W0 it.o fr σ fun v => fv v fun v => ptW P W0 C F σ0 q (updO fr it.d v) σ K) (fun fr => ptW P W0 C F σ0 q (updO fr it.d (.lit undef)) σ K) from h)) (fun hr => qRun_mono hr fun v hv => fv_out hv) id)
          refine treeG_take (V' := fun σ' => σ' = σ) hL hTj d1 d2 (fun i a hD hd ha => ⟨(d5 i a hD hd ha).1, fun e => by rw [(d5 i a hD hd ha).2 rfl] at e; cases e⟩) f done fr σ (fun _ h => h) (fun k hk => ?_) hjr d3 (fun fr' σ' K' hfr hσ hk => ?_) rfl
            (plan_sound hC hsz f m hnh _ q _ σ (by simpa using hds) hq hV hv)
          · refine d4 k ?_ hk
            rcases Nat.lt_or_ge k done.size with h' | h'
            · omega
            · simp [Array.getElem?_eq_none h'] at hk
          · subst hσ
            rw [stepG_congr hfr]
            exact hst (fun v => K' v σ') hk
        · split at hp
          · rename_i hok
            simp only [Bool.and_eq_true] at hok
            obtain ⟨hpu, hok⟩ := hok
            obtain ⟨q, hq, rfl⟩ := Option.map_eq_some_iff.1 hp
            obtain ⟨d1, d2, d3, d4, d5⟩ := okD_spec hok hL
            obtain ⟨v, hv, hst⟩ := gRun_inv (R := fun X => qRun P W0 it.o fr σ X) (S := fun X => ∀ σ', qRun P W0 it.o fr σ' X) (X := fun v => ptW P W0 C F σ0 q (updO fr it.d v) σ K) (fun hr => let ⟨v, h1, h2⟩ := qRun_pure hpu hr; ⟨v, h1, fun K' hk σ' => h2 σ' K' hk⟩) (gRun_mono (gRunF_out (show gRunF it.g fr (fun fr => qRun P W0 it.o fr σ fun v => fv v fun v => ptW P W0 C F σ0 q (updO fr it.d v) σ K) (fun fr => ptW P W0 C F σ0 q (updO fr it.d (.lit undef)) σ K) from h)) (fun hr => qRun_mono hr fun v hv => fv_out hv) id)
            refine treeG_take (V' := fun _ => True) hL hTj d1 d2 (fun i a hD hd ha => ⟨(d5 i a hD hd ha).1, fun _ _ _ => trivial⟩) f done fr σ (fun _ h => h) (fun k hk => ?_) hjr d3 (fun fr' σ' K' hfr hσ hk => ?_) trivial
              (plan_sound hC hsz f m hnh _ q _ σ (by simpa using hds) hq hV hv)
            · refine d4 k ?_ hk
              rcases Nat.lt_or_ge k done.size with h' | h'
              · omega
              · simp [Array.getElem?_eq_none h'] at hk
            · rw [stepG_congr hfr]
              exact gRun_mono (hst (fun v => K' v σ') hk) (fun hr => hr σ') id
          · split at hp
            · rename_i hok
              simp only [Bool.and_eq_true] at hok
              obtain ⟨⟨hn, hfree⟩, hok⟩ := hok
              have hn1 : m = 1 := Nat.eq_of_beq_eq_true hn
              have hVe := hnh hn1
              have hV0 := hV (by rw [hn1]; decide)
              obtain ⟨q, hq, rfl⟩ := Option.map_eq_some_iff.1 hp
              obtain ⟨d1, d2, d3, d4, d5⟩ := okD_spec hok hL
              obtain ⟨v, hv, hst⟩ := gRun_inv (R := fun X => hRun P W0 F σ0 it.o fr X) (S := fun X => ∀ σ', varL F σ0 0 σ' → qRun P W0 it.o fr σ' X) (X := fun v => fv v fun v => ptW P W0 C F σ0 q (updO fr it.d v) σ K)
                (fun hr => let ⟨v, h1, h2⟩ := hRun_inv hr; ⟨v, h1, fun K' hk σ' hv => h2 σ' K' hv hk⟩) (gRun_mono (gRunF_out (show gRunF it.g fr (fun fr => hRun P W0 F σ0 it.o fr fun v => fv v fun v => ptW P W0 C F σ0 q (updO fr it.d v) σ K) (fun fr => ptW P W0 C F σ0 q (updO fr it.d (.lit undef)) σ K) from h)) id (fun hs => by rw [fv_eq]; exact hs))
              refine treeG_take (V' := V0) hL hTj d1 d2 (fun i a hD hd ha => ⟨(d5 i a hD hd ha).1, fun _ _ h => h.resolve_left (fun hu => by
                  have hi : i < ops.size := by have := getElem?_lt ha; omega
                  have := List.all_eq_true.1 hfree i (List.mem_range.2 hi)
                  rw [hD, hd, hu] at this; cases this)⟩) f done fr σ (fun _ h => h) (fun k hk => ?_) hjr d3 (fun fr' σ' K' hfr hσ hk => ?_) hV0
                (plan_sound hC hsz f m hnh _ q _ σ (by simpa using hds) hq hV (fv_out hv))
              · refine d4 k ?_ hk
                rcases Nat.lt_or_ge k done.size with h' | h'
                · omega
                · simp [Array.getElem?_eq_none h'] at hk
              · rw [stepG_congr hfr]
                rw [hVe] at hσ
                exact gRun_mono (hst (fun v => K' v σ') hk) (fun hr => hr σ' hσ) id
            · cases hp
      · cases hp
    · rename_i hnone
      obtain ⟨h1, h2⟩ := brs_sound hC hp h
      refine ⟨h1, fun i hi => ?_⟩
      obtain ⟨it, m', q, hL, hq, hm, hw⟩ := h2 i hi
      have hT : T i = true := by simpa using List.find?_eq_none.1 hnone i hi
      have hnh' : m' = 1 → V0 = varL F σ0 0 := fun e => by
        rcases hm with e' | e'
        · exact hnh (e' ▸ e)
        · omega
      have hV' : m' ≠ 2 → V0 σ := fun e => by
        rcases hm with e' | e'
        · exact hV (e' ▸ e)
        · exact (e e').elim
      refine ⟨it, hL, ?_⟩
      rw [hT]
      refine gRun_mono (gRunF_out hw) (fun hr => ropW_mono hr fun v σ' hc => ⟨hc.1.1, plan_sound hC hsz f m' hnh' _ q _ σ' (by simpa using hds) hq hc.1.2 (fv_out hc.2)⟩)
        (fun hs => plan_sound hC hsz f m' hnh' _ q _ σ (by simpa using hds) hq hV' hs)
end
/-! ### the program's operations -/
def gslot (ops : Array Oper) : Option (Nat × Bool) → Option (Option (Nat × Bool))
  | none => some none
  | some (j, b) => ((ops[j]?).bind (·.dst)).map fun s => some (s, b)
def compG (P : Program) (n : Nat) (ops : Array Oper) : List Oper → Option GL
  | [] => some []
  | o :: rest => if dOKb n o.dst then match compOp P o.op, gslot ops o.guard, compG P n ops rest with
    | some r, some g, some l => some (⟨g, o.dst, r⟩ :: l)
    | _, _, _ => none
    else none
section
variable {P : Program} {W0 : World} {ι ι0 : Loc} {σ σ0 : List Blk} {n : Nat} {ops : Array Oper}
theorem compG_get : ∀ (l : List Oper) (L : GL), compG P n ops l = some L → L.length = l.length ∧ ∀ (i : Nat) (it : GI), L[i]? = some it → ∃ o, l[i]? = some o ∧ o.dst = it.d ∧ gslot ops o.guard = some it.g ∧ compOp P o.op = some it.o ∧ dOK n o.dst
  | [], L, h => by
    simp only [compG, Option.some.injEq] at h; subst h
    exact ⟨rfl, fun i it h => by simp at h⟩
  | o :: rest, L, h => by
    unfold compG at h
    split at h
    · rename_i hd
      split at h
      · rename_i r g l hr hg hl
        cases h
        obtain ⟨h1, h2⟩ := compG_get rest l hl
        refine ⟨by simp [h1], fun i it hi => ?_⟩
        cases i with
        | zero =>
          simp at hi
          subst hi
          exact ⟨o, rfl, rfl, hg, hr, dOKb_ok hd⟩
        | succ i => simpa using h2 i it (by simpa using hi)
      · cases h
    · cases h
theorem guard_of_gRun {fr : Fr} {g : Option (Nat × Bool)} {g' : Option (Nat × Bool)} {r s : Prop} (hg : gslot ops g = some g') (h : gRun g' fr r s) : guardW ops fr g r s := by
  unfold gslot at hg
  split at hg
  · cases hg; exact h
  · rename_i j b
    obtain ⟨d, hd, rfl⟩ := Option.map_eq_some_iff.1 hg
    unfold guardW
    dsimp only
    rw [hd]
    exact h
theorem wpAny_of_treeG {L : GL} {T : Nat → Bool} {V : Nat → List Blk → Prop} {ds : List Deferred} {K : Fr → List Blk → Prop} {Q : Exit → Act → World → Prop} (hL : compG P n ops ops.toList = some L) (hQ : ∀ a w, Post W0 ι0 σ0 n ds K a w → Q .normal a w) :
    ∀ (f : Nat) (done : Array Bool) (fr : Fr) (σ : List Blk) (ι : Loc) (a : Act) (w : World), treeG P W0 ops L T V K f done fr σ → HRel W0 ι σ w → FRel ι σ n fr a → Ext ι0 σ0 ι σ → a.defers = ds → wpAny P .any ops Q f done a w
  | 0, done, fr, σ, ι, a, w, h, hh, hf, hx, hd => ⟨h.1, hQ _ _ ⟨ι, σ, fr, h.2, hh, hf, hx, hd⟩⟩
  | f + 1, done, fr, σ, ι, a, w, h, hh, hf, hx, hd => by
    refine ⟨fun h0 => (h.1 h0).elim, fun i hi => ?_⟩
    obtain ⟨it, hLi, hst⟩ := h.2 i hi
    obtain ⟨o, ho, hdst, hg, hr, hdo⟩ := (compG_get _ _ hL).2 i it hLi
    have ho' : ops[i]? = some o := by simpa using ho
    rw [← hdst] at hst
    have hgw : guardW ops fr o.guard (opW P W0 o.op (evA fr) σ fun v σ' => treeG P W0 ops L T V K f (done.setIfInBounds i true) (updO fr o.dst v) σ') (treeG P W0 ops L T V K f (done.setIfInBounds i true) (updO fr o.dst (.lit undef)) σ) := by
      refine guard_of_gRun hg (gRun_mono hst (fun hrun => compOp_sound hr ?_) id)
      cases hb : T i with
      | true => rw [hb] at hrun; exact ropW_mono hrun fun v σ' h => h.2
      | false => rw [hb] at hrun; exact ropW_mono (qRun_ropW hrun) fun v σ' ⟨e, h⟩ => e ▸ h
    unfold wpOp
    rw [ho']
    dsimp only
    rcases guardW_sound hgw hf o rfl with ⟨hw, hop⟩ | ⟨hw, hsk⟩
    · rw [if_pos hw]
      refine .inl (opW_sound hop hh hf.eval fun v w' ι' σ' av h2 h3 h4 h5 => ?_)
      exact wpAny_of_treeG hL hQ f _ _ σ' ι' _ w' h2 h3 ((hf.mono h4).put hdo h5) (hx.trans h4) (by rw [put_defers]; exact hd)
    · rw [if_neg (by rw [hw]; exact Bool.false_ne_true)]
      exact wpAny_of_treeG hL hQ f _ _ σ ι _ w hsk hh (hf.put hdo (v := .lit undef) rfl) hx (by rw [put_defers]; exact hd)
/-- the blocks that a plan's stores write -/
noncomputable def stF (p : PT) (fr : Fr) : List Nat :=
  PT.rec (motive := fun _ => List Nat) [] (fun _ _ ih => ih) (fun _ _ ih => ih) (fun it _ ih => match it.o with
    | .store _ (.t a) _ => match fr a with
      | .ptr b _ _ => b :: ih
      | _ => ih
    | _ => ih) (fun _ _ ia _ => ia) (fun _ _ ih => ih) p
/-- a region by its plan -/
def anyR (P : Program) (W0 : World) (nh : Bool) (p : PT) (fr : Fr) (σ : List Blk) (K : Fr → List Blk → Prop) : Prop :=
  match nh with
  | true => ∃ X : List Nat, ptW P W0 (fun σ' R => varC (X ++ stF p fr) σ R 0 σ') (X ++ stF p fr) σ p fr σ K
  | false => ptW P W0 (fun _ R => R) [] [] p fr σ K
theorem wp_region_plan {id : Nat} {L : GL} {T U : Nat → Bool} {nh : Bool} {p : PT} {ds : List Deferred} {K : Fr → List Blk → Prop} {Q : Exit → Act → World → Prop} {fr : Fr} {a : Act} {w : World} (hm : P.follows .mixedOrders = true) (hL : compG P n ops ops.toList = some L)
    (hp : mkPlan ops L T U (cond nh 1 0) ops.size (Array.replicate ops.size false) = some p) (hQ : ∀ a w, Post W0 ι0 σ0 n ds K a w → Q .normal a w)
    (h : anyR P W0 nh p fr σ K) (hh : HRel W0 ι σ w) (hf : FRel ι σ n fr a) (hx : Ext ι0 σ0 ι σ) (hd : a.defers = ds) : (Code.region id ops true).wp P Q a w := by
  have hsz : L.length = ops.size := by have := (compG_get _ _ hL).1; simpa using this
  cases nh with
  | true =>
    obtain ⟨X, h⟩ := (show ∃ X : List Nat, ptW P W0 (fun σ' R => varC (X ++ stF p fr) σ R 0 σ') (X ++ stF p fr) σ p fr σ K from h)
    have ht := plan_sound (P := P) (W0 := W0) (ops := ops) (L := L) (T := T) (U := U) (V0 := varL (X ++ stF p fr) σ 0) (K := K) (fun _ _ h => varC_spec h) hsz ops.size 1 (fun _ => rfl) _ p fr σ (by simp) hp (fun _ => varL_refl _ _ _) h
    exact wp_region_any hm (wpAny_of_treeG hL hQ _ _ _ _ _ _ _ ht hh.drew hf hx hd)
  | false =>
    have ht := plan_sound (P := P) (W0 := W0) (ops := ops) (L := L) (T := T) (U := U) (V0 := fun _ => True) (K := K) (fun _ _ h => ⟨trivial, h⟩) hsz ops.size 0 (fun e => by cases e) _ p fr σ (by simp) hp (fun _ => trivial) h
    exact wp_region_any hm (wpAny_of_treeG hL hQ _ _ _ _ _ _ _ ht hh.drew hf hx hd)
end
end Go.Proofs.Ytbbmlnaekefaaaa.Abs
end
