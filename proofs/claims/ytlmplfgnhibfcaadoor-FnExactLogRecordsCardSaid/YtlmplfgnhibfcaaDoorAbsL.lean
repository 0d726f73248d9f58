/- The abstract logic, part L: code with its types resolved, so that a walk meets numbers alone; it stands for the code. -/
import Derived.Test.YtlmplfgnhibfcaaDoorAbsK
set_option linter.unusedVariables false
set_option linter.unusedSimpArgs false
namespace Go.Proofs.YtlmplfgnhibfcaaDoor.Abs
open Go Go.RowKit

inductive RA where
  | t (n : Nat)
  | v (a : AV)
def RA.ev (fr : Fr) : RA → AV
  | .t n => fr n
  | .v a => a
def cA : Operand → RA
  | .tmp t => .t t
  | .const v => .v (ofV v)
  | .global g => .v (.lit (.pointer (some ⟨g, 0, none⟩)))
  | .func f => .v (.lit (.func (.func f) #[] #[]))
theorem cA_ev (fr : Fr) (x : Operand) : (cA x).ev fr = evA fr x := by cases x <;> rfl

inductive ROp where
  | mv (x : RA)
  | pick (c a b : RA)
  | alloc (e : TypeId) (zc : List AV)
  | box (e : TypeId) (x : RA)
  | build (zc : List AV) (parts : List ((Nat × Nat) × RA))
  | bslice (e esz : Nat) (len : Nat) (zc : List AV) (parts : List (Nat × RA))
  | load (s : Nat) (g : Bool) (a : RA)
  | store (s : Nat) (a v : RA)
  | nilck (x : RA)
  | binI (op : BinOp) (x y : RA)
  | binS (op : BinOp) (x y : RA)
  | binB (neg : Bool) (x y : RA)
  | nilS (neg : Bool) (x : RA)
  | nilI (neg : Bool) (x : RA)
  | nilP (neg : Bool) (x : RA)
  | eqA (neg : Bool) (ks : List CK) (x y : RA)
  | un (op : UnOp) (x : RA)
  | conv (k : IntKind) (x : RA)
  | mkfn (f : Fn) (first caps : List RA)
  | mkslice (e esz by_ : Nat) (zc : List AV) (l c : RA)
  | sliceS (x : RA) (lo hi : Option RA)
  | slice (s : Nat) (x : RA) (lo hi : Option RA)
  | sliceP (n s : Nat) (x : RA) (lo hi : Option RA)
  | faddr (off : Nat) (x : RA)
  | fld (off n : Nat) (g : Bool) (x : RA)
  | iaddrA (len s : Nat) (x i : RA)
  | iaddrS (s : Nat) (x i : RA)
  | idxA (len s : Nat) (g : Bool) (x i : RA)
  | idxS (x i : RA)
  | ext (x : RA) (i : Nat)
  | call (f : RA) (args : List RA)
  | lenS (x : RA)
  | lenL (x : RA)
  | strL (x : RA)
  | append (t e esz by_ : Nat) (s x : RA)

def fillR : List AV → List ((Nat × Nat) × AV) → Option (List AV)
  | cells, [] => some cells
  | cells, ((off, size), v) :: rest => match cellsAV v with
    | some cs => if cs.length = size ∧ off + size ≤ cells.length then fillR (cells.take off ++ cs ++ cells.drop (off + size)) rest else none
    | none => none

def loadR (W0 : World) (s : Nat) (g : Bool) (a : AV) (σ : List Blk) (K : Cont) : Prop :=
  match a with
  | .ptr b ver off => ∃ B, σ[b]? = some B ∧ B.ver = ver ∧ off + s ≤ B.cells.length ∧ K (mkAV g ((B.cells.drop off).take s)) σ
  | .lit (.pointer (some ad)) => ∃ cs : List Value, cs.length = s ∧ (∀ (j : Nat) (v : Value), cs[j]? = some v → W0.cell? (ad.add j) = some v ∧ v.oneCell' = true) ∧ ad.block < W0.heap.size ∧ K (mkAV g (cs.map .lit)) σ
  | _ => False
def storeR (s : Nat) (a v : AV) (σ : List Blk) (K : Cont) : Prop :=
  match a, cellsAV v with
  | .ptr b ver off, some cs => ∃ B, σ[b]? = some B ∧ B.ver = ver ∧ cs.length = s ∧ off + s ≤ B.cells.length ∧ K (.lit undef) (σ.set b { B with cells := B.cells.take off ++ cs ++ B.cells.drop (off + s) })
  | _, _ => False
def faddrR (off : Nat) (a : AV) (σ : List Blk) (K : Cont) : Prop :=
  match a with
  | .ptr b ver o => (∃ B, σ[b]? = some B ∧ B.ver = ver) ∧ K (.ptr b ver (o + off)) σ
  | .lit (.pointer (some ad)) => K (.lit (.pointer (some (ad.add off)))) σ
  | _ => False
def fldR (off n : Nat) (g : Bool) (a : AV) (σ : List Blk) (K : Cont) : Prop :=
  match a with
  | .agg cs => match partA g n off cs with
    | some v => K v σ
    | none => False
  | _ => False
def iaddrAR (len s : Nat) (a i : AV) (σ : List Blk) (K : Cont) : Prop :=
  match a, i with
  | .ptr b ver o, .lit (.int _ i) => (∃ B, σ[b]? = some B ∧ B.ver = ver) ∧ 0 ≤ i ∧ i < (len : Int) ∧ K (.ptr b ver (o + i.toNat * s)) σ
  | .lit (.pointer (some ad)), .lit (.int _ i) => 0 ≤ i ∧ i < (len : Int) ∧ K (.lit (.pointer (some (ad.add (i.toNat * s))))) σ
  | _, _ => False
def iaddrSR (s : Nat) (a i : AV) (σ : List Blk) (K : Cont) : Prop :=
  match a, i with
  | .sl b ver o len _, .lit (.int _ i) => (∃ B, σ[b]? = some B ∧ B.ver = ver) ∧ 0 ≤ i ∧ i < (len : Int) ∧ K (.ptr b ver (o + i.toNat * s)) σ
  | .lit (.slice (some ad) len _), .lit (.int _ i) => 0 ≤ i ∧ i < (len : Int) ∧ K (.lit (.pointer (some (ad.add (i.toNat * s))))) σ
  | _, _ => False
def idxAR (len s : Nat) (g : Bool) (a i : AV) (σ : List Blk) (K : Cont) : Prop :=
  match a, i with
  | .agg cs, .lit (.int _ i) => 0 ≤ i ∧ i < (len : Int) ∧ match partA g s (i.toNat * s) cs with
    | some v => K v σ
    | none => False
  | _, _ => False
def idxSR (a i : AV) (σ : List Blk) (K : Cont) : Prop :=
  match a, i with
  | .lit (.string s), .lit (.int _ i) => 0 ≤ i ∧ i < (s.size : Int) ∧ K (.lit (.int .u8 (s.data[i.toNat]?.getD 0).toNat)) σ
  | _, _ => False
def lenSR (x : AV) (σ : List Blk) (K : Cont) : Prop :=
  match x with
  | .lit (.string s) => K (.lit (.int .i64 s.size)) σ
  | _ => False
def lenLR (x : AV) (σ : List Blk) (K : Cont) : Prop :=
  match x with
  | .lit (.slice _ n _) => K (.lit (.int .i64 n)) σ
  | .sl b ver _ n _ => (∃ B, σ[b]? = some B ∧ B.ver = ver) ∧ K (.lit (.int .i64 n)) σ
  | _ => False
def strLR (x : AV) (σ : List Blk) (K : Cont) : Prop :=
  match x with
  | .sl b ver off n _ => ∃ B xs, σ[b]? = some B ∧ B.ver = ver ∧ off + n ≤ B.cells.length ∧ (B.cells.drop off).take n = xs.map (fun x => AV.lit (.int .u8 x)) ∧ K (.lit (.string (strOfNums xs))) σ
  | _ => False
def intR (op : BinOp) (x y : AV) (σ : List Blk) (K : Cont) : Prop :=
  match x, y with
  | .lit (.int k a), .lit (.int k' b) => match op with
    | .shl => 0 ≤ b ∧ K (.lit (.int k (shL k a b))) σ
    | .shr => 0 ≤ b ∧ K (.lit (.int k (shR k a b))) σ
    | .add => k = k' ∧ K (.lit (.int k (k.wrap (a + b)))) σ
    | .sub => k = k' ∧ K (.lit (.int k (k.wrap (a - b)))) σ
    | .mul => k = k' ∧ K (.lit (.int k (k.wrap (a * b)))) σ
    | .quo => k = k' ∧ b ≠ 0 ∧ K (.lit (.int k (k.wrap (a.tdiv b)))) σ
    | .rem => k = k' ∧ b ≠ 0 ∧ K (.lit (.int k (a.tmod b))) σ
    | .and => k = k' ∧ K (.lit (.int k (bAnd k a b))) σ
    | .or => k = k' ∧ K (.lit (.int k (bOr k a b))) σ
    | .xor => k = k' ∧ K (.lit (.int k (bXor k a b))) σ
    | .andNot => k = k' ∧ K (.lit (.int k (bAndNot k a b))) σ
    | .eql => k = k' ∧ K (.lit (.bool (decide (a = b)))) σ
    | .neq => k = k' ∧ K (.lit (.bool (!decide (a = b)))) σ
    | .lss => k = k' ∧ K (.lit (.bool (decide (a < b)))) σ
    | .leq => k = k' ∧ K (.lit (.bool (decide (a ≤ b)))) σ
    | .gtr => k = k' ∧ K (.lit (.bool (decide (b < a)))) σ
    | .geq => k = k' ∧ K (.lit (.bool (decide (b ≤ a)))) σ
  | _, _ => False
def strR (op : BinOp) (x y : AV) (σ : List Blk) (K : Cont) : Prop :=
  match x, y with
  | .lit (.string a), .lit (.string b) => match op with
    | .add => ((a.size + b.size : Nat) : Int) ≤ 9223372036854775807 ∧ K (.lit (.string (a ++ b))) σ
    | .eql => K (.lit (.bool (a.toList == b.toList))) σ
    | .neq => K (.lit (.bool (!(a.toList == b.toList)))) σ
    | .lss => K (.lit (.bool (Op.bytesLess a.toList b.toList))) σ
    | .geq => K (.lit (.bool (!Op.bytesLess a.toList b.toList))) σ
    | _ => False
  | _, _ => False
def boolR (neg : Bool) (x y : AV) (σ : List Blk) (K : Cont) : Prop :=
  match x, y with
  | .lit (.bool a), .lit (.bool b) => K (.lit (.bool (if neg then !(a == b) else (a == b)))) σ
  | _, _ => False
def nilSR (neg : Bool) (x : AV) (σ : List Blk) (K : Cont) : Prop :=
  match x with
  | .lit (.slice a _ _) => K (.lit (.bool (if neg then !a.isNone else a.isNone))) σ
  | .sl b ver _ _ _ => (∃ B, σ[b]? = some B ∧ B.ver = ver) ∧ K (.lit (.bool neg)) σ
  | _ => False
def nilIR (neg : Bool) (x : AV) (σ : List Blk) (K : Cont) : Prop :=
  match x with
  | .lit .nilIface => K (.lit (.bool (!neg))) σ
  | .lit (.iface _ _) => K (.lit (.bool neg)) σ
  | _ => False
def nilPR (neg : Bool) (x : AV) (σ : List Blk) (K : Cont) : Prop :=
  match x with
  | .ptr b ver _ => (∃ B, σ[b]? = some B ∧ B.ver = ver) ∧ K (.lit (.bool neg)) σ
  | _ => False
def eqAR (neg : Bool) (ks : List CK) (x y : AV) (σ : List Blk) (K : Cont) : Prop :=
  match x, y with
  | .agg xs, .agg ys => match litsA xs, litsA ys with
    | some vs, some us => match eqC ks vs us with
      | some b => K (.lit (.bool (if neg then !b else b))) σ
      | none => False
    | _, _ => False
  | _, _ => False
def bndR (fr : Fr) (d : Int) : Option RA → Option Int
  | none => some d
  | some x => match x.ev fr with
    | .lit (.int _ n) => some n
    | _ => none
def sliceSR (x : AV) (lo hi : Int → Option Int) (σ : List Blk) (K : Cont) : Prop :=
  match x with
  | .lit (.string s) => match lo 0, hi s.size with
    | some l, some h => 0 ≤ l ∧ l ≤ h ∧ h ≤ (s.size : Int) ∧ K (.lit (.string (s.extract l.toNat h.toNat))) σ
    | _, _ => False
  | _ => False
def sliceR (s : Nat) (x : AV) (lo hi : Int → Option Int) (σ : List Blk) (K : Cont) : Prop :=
  match x with
  | .sl b ver o len cap => match lo 0, hi len with
    | some l, some h => ∃ B, σ[b]? = some B ∧ B.ver = ver ∧ (B.row = true → B.esz = s) ∧ 0 ≤ l ∧ l ≤ h ∧ h ≤ (cap : Int) ∧
        K (.sl b ver (if cap = l.toNat then o else o + l.toNat * s) (h.toNat - l.toNat) (cap - l.toNat)) σ
    | _, _ => False
  | .lit (.slice (some ad) len cap) => match lo 0, hi len with
    | some l, some h => 0 ≤ l ∧ l ≤ h ∧ h ≤ (cap : Int) ∧ K (.lit (.slice (some (if cap = l.toNat then ad else ad.add (l.toNat * s))) (h.toNat - l.toNat) (cap - l.toNat))) σ
    | _, _ => False
  | .lit (.slice none 0 0) => match lo 0, hi 0 with
    | some l, some h => l = 0 ∧ h = 0 ∧ K (.lit (.slice none 0 0)) σ
    | _, _ => False
  | _ => False
def slicePR (n s : Nat) (x : AV) (lo hi : Int → Option Int) (σ : List Blk) (K : Cont) : Prop :=
  match x with
  | .ptr b ver o => match lo 0, hi n with
    | some l, some h => ∃ B, σ[b]? = some B ∧ B.ver = ver ∧ B.row = false ∧ n ≤ maxLen ∧ 0 ≤ l ∧ l ≤ h ∧ h ≤ (n : Int) ∧
          K (.sl b ver (if n = l.toNat then o else o + l.toNat * s) (h.toNat - l.toNat) (n - l.toNat)) σ
    | _, _ => False
  | _ => False
def appendR (e esz by_ : Nat) (s : AV) (m : Nat) (news : List AV) (σ : List Blk) (K : Cont) : Prop :=
  match s with
  | .sl b ver off n _ =>
    ∃ B, σ[b]? = some B ∧ B.ver = ver ∧ off = 0 ∧ B.row = true ∧ B.e = e ∧ B.esz = esz ∧ 0 < esz ∧ n * esz = B.cells.length ∧ news.length = m * esz ∧ n + m ≤ maxLen ∧ (n + m) * by_ ≤ 140737488355328 ∧
      ∀ cap, n + m ≤ cap → cap ≤ maxLen → K (.sl b (ver + 1) 0 (n + m) cap) (σ.set b { B with cells := B.cells ++ news, ver := B.ver + 1, room := true })
  | .lit (.slice none 0 0) => 0 < esz ∧ news.length = m * esz ∧ m ≤ maxLen ∧ m * by_ ≤ 140737488355328 ∧ (m = 0 → K (.lit (.slice none 0 0)) σ) ∧
      (0 < m → ∀ cap, m ≤ cap → cap ≤ maxLen → K (.sl σ.length 0 0 m cap) (σ ++ [⟨news, 0, e, esz, true, true⟩]))
  | _ => False
def srcR (W0 : World) (s : Nat) (x : AV) (σ : List Blk) (Q : Nat → List AV → Prop) : Prop :=
  match x with
  | .sl b ver off m _ => ∃ B, σ[b]? = some B ∧ B.ver = ver ∧ off + m * s ≤ B.cells.length ∧ Q m ((B.cells.drop off).take (m * s))
  | .lit (.slice (some ad) m _) => ∃ cs : List Value, cs.length = m * s ∧ (∀ (j : Nat) (v : Value), cs[j]? = some v → W0.cell? (ad.add j) = some v ∧ v.oneCell' = true) ∧ ad.block < W0.heap.size ∧ Q m (cs.map .lit)
  | _ => False
def mksliceR (e esz by_ : Nat) (zc : List AV) (l c : AV) (σ : List Blk) (K : Cont) : Prop :=
  match l, c with
  | .lit (.int _ l), .lit (.int _ c) => 0 ≤ l ∧ l ≤ c ∧ (by_ : Int) * c ≤ 281474976710656 ∧ c ≤ 9223372036854775807 ∧ c.toNat ≤ maxLen ∧
            K (.sl σ.length 0 0 l.toNat c.toNat) (σ ++ [⟨rep c.toNat zc, 0, e, esz, true, true⟩])
  | _, _ => False
def extR (x : AV) (i : Nat) (σ : List Blk) (K : Cont) : Prop :=
  match x with
  | .tup vs => match vs[i]? with
    | some v => K v σ
    | none => False
  | _ => False
def pickR (c a b : AV) (σ : List Blk) (K : Cont) : Prop :=
  match c with
  | .lit (.bool t) => (t = true → K a σ) ∧ (t = false → K b σ)
  | _ => False
def nilckR (x : AV) (σ : List Blk) (K : Cont) : Prop :=
  match x with
  | .ptr b ver off => (∃ B, σ[b]? = some B ∧ B.ver = ver) ∧ K (.ptr b ver off) σ
  | .lit (.pointer (some a)) => K (.lit (.pointer (some a))) σ
  | .fn (.func g) first caps => K (.fn (.func g) first caps) σ
  | .lit (.func (.func g) a b) => K (.lit (.func (.func g) a b)) σ
  | _ => False

/-! ### values are worked out as they are made -/
def fL (l : List AV) : (List AV → Prop) → Prop :=
  List.rec (motive := fun _ => (List AV → Prop) → Prop) (fun K => K []) (fun a _ ih K => ih fun l' => match a with
    | .lit v => K (.lit v :: l')
    | a => K (a :: l')) l
def fv (v : AV) (K : AV → Prop) : Prop :=
  match v with
  | .lit u => K (.lit u)
  | .agg cs => fL cs fun cs => K (.agg cs)
  | .ptr b ver off => K (.ptr b ver off)
  | .sl b ver off n c => K (.sl b ver off n c)
  | .tup vs => K (.tup vs)
  | .fn f a b => K (.fn f a b)
  | .junk => K .junk
theorem fL_eq : ∀ (l : List AV) (K : List AV → Prop), fL l K = K l
  | [], K => rfl
  | a :: l, K => by
    show (fL l fun l' => match a with
      | .lit v => K (.lit v :: l')
      | a => K (a :: l')) = _
    rw [fL_eq l]
    cases a <;> rfl
theorem fv_eq (v : AV) (K : AV → Prop) : fv v K = K v := by
  cases v <;> first | rfl | (unfold fv; exact fL_eq _ _)
/-- the blocks too are worked out where they change -/
def fS (l : List Blk) : (List Blk → Prop) → Prop :=
  List.rec (motive := fun _ => (List Blk → Prop) → Prop) (fun K => K []) (fun B _ ih K => ih fun l' => match B with
    | ⟨cs, v, e, s, r, m⟩ => fL cs fun cs' => K (⟨cs', v, e, s, r, m⟩ :: l')) l
theorem fS_eq : ∀ (l : List Blk) (K : List Blk → Prop), fS l K = K l
  | [], K => rfl
  | B :: l, K => by
    show (fS l fun l' => match B with
      | ⟨cs, v, e, s, r, m⟩ => fL cs fun cs' => K (⟨cs', v, e, s, r, m⟩ :: l')) = _
    rw [fS_eq l]
    obtain ⟨cs, v, e, s, r, m⟩ := B
    exact fL_eq _ _
theorem fv_out {v : AV} {K : AV → Prop} (h : fv v K) : K v := by rw [fv_eq] at h; exact h

def ropW (P : Program) (W0 : World) (o : ROp) (fr : Fr) (σ : List Blk) (K : Cont) : Prop :=
  match o with
  | .mv x => K (x.ev fr) σ
  | .pick c a b => pickR (c.ev fr) (a.ev fr) (b.ev fr) σ K
  | .alloc e zc => fS (σ ++ [⟨zc, 0, e, 0, false, false⟩]) fun σ' => K (.ptr σ.length 0 0) σ'
  | .box e x => boxW e (x.ev fr) σ fun v σ' => fS σ' fun σ' => K v σ'
  | .build zc parts => match fillR zc (parts.map fun p => (p.1, p.2.ev fr)) with
    | some cs => K (.agg cs) σ
    | none => False
  | .bslice e esz len zc parts => match fillR (rep len zc) (parts.map fun p => ((p.1 * esz, esz), p.2.ev fr)) with
    | some cs => fS (σ ++ [⟨cs, 0, e, esz, true, true⟩]) fun σ' => K (.sl σ.length 0 0 len len) σ'
    | none => False
  | .load s g a => loadR W0 s g (a.ev fr) σ K
  | .store s a v => storeR s (a.ev fr) (v.ev fr) σ fun v σ' => fS σ' fun σ' => K v σ'
  | .nilck x => nilckR (x.ev fr) σ K
  | .binI op x y => intR op (x.ev fr) (y.ev fr) σ K
  | .binS op x y => strR op (x.ev fr) (y.ev fr) σ K
  | .binB neg x y => boolR neg (x.ev fr) (y.ev fr) σ K
  | .nilS neg x => nilSR neg (x.ev fr) σ K
  | .nilI neg x => nilIR neg (x.ev fr) σ K
  | .nilP neg x => nilPR neg (x.ev fr) σ K
  | .eqA neg ks x y => eqAR neg ks (x.ev fr) (y.ev fr) σ K
  | .un op x => unW op (x.ev fr) σ K
  | .conv k x => match x.ev fr with
    | .lit (.int _ n) => K (.lit (.int k (k.wrap n))) σ
    | _ => False
  | .mkfn f first caps => (first.map (RA.ev fr)).all atomA = true ∧ (caps.map (RA.ev fr)).all atomA = true ∧ K (.fn f (first.map (RA.ev fr)) (caps.map (RA.ev fr))) σ
  | .mkslice e esz by_ zc l c => mksliceR e esz by_ zc (l.ev fr) (c.ev fr) σ K
  | .sliceS x lo hi => sliceSR (x.ev fr) (fun d => bndR fr d lo) (fun d => bndR fr d hi) σ K
  | .slice s x lo hi => sliceR s (x.ev fr) (fun d => bndR fr d lo) (fun d => bndR fr d hi) σ K
  | .sliceP n s x lo hi => slicePR n s (x.ev fr) (fun d => bndR fr d lo) (fun d => bndR fr d hi) σ K
  | .faddr off x => faddrR off (x.ev fr) σ K
  | .fld off n g x => fldR off n g (x.ev fr) σ K
  | .iaddrA len s x i => iaddrAR len s (x.ev fr) (i.ev fr) σ K
  | .iaddrS s x i => iaddrSR s (x.ev fr) (i.ev fr) σ K
  | .idxA len s g x i => idxAR len s g (x.ev fr) (i.ev fr) σ K
  | .idxS x i => idxSR (x.ev fr) (i.ev fr) σ K
  | .ext x i => extR (x.ev fr) i σ K
  | .call f args => fL (args.map (RA.ev fr)) fun vs => callW P W0 (f.ev fr) vs σ K
  | .lenS x => lenSR (x.ev fr) σ K
  | .lenL x => lenLR (x.ev fr) σ K
  | .strL x => strLR (x.ev fr) σ K
  | .append t e esz by_ s x => srcR W0 esz (x.ev fr) σ fun m news => appendR e esz by_ (s.ev fr) m news σ K

/-- the compilation of one operation -/
def zcP (P : Program) (t : TypeId) : Option (List AV) := (zeroP P t).bind fun z => cellsAV (ofV z)
def negOf : BinOp → Option Bool
  | .eql => some false
  | .neq => some true
  | _ => none
def compBin (P : Program) (op : BinOp) (t : TypeId) (x y : Operand) : Option ROp :=
  match P.underlying t with
  | some (.int _) => some (.binI op (cA x) (cA y))
  | some .string => some (.binS op (cA x) (cA y))
  | some .bool => (negOf op).map fun n => .binB n (cA x) (cA y)
  | some (.slice _) => match y with
    | .const (.slice none 0 0) => if (sliceP P t).isSome then (negOf op).map fun n => .nilS n (cA x) else none
    | _ => none
  | some (.interface _) => match y with
    | .const .nilIface => (negOf op).map fun n => .nilI n (cA x)
    | _ => none
  | some (.pointer e) => match y with
    | .const (.pointer none) => if P.pointee t = e then (negOf op).map fun n => .nilP n (cA x) else none
    | _ => none
  | some (.struct _) | some (.array _ _) => if P.eqGuardType P.depth t = false then match flatP P 8 t with
    | some ks => (negOf op).map fun n => .eqA n ks (cA x) (cA y)
    | none => none
    else none
  | _ => none
def compParts (P : Program) (t : TypeId) : List (Nat × Operand) → Option (List ((Nat × Nat) × RA))
  | [] => some []
  | (i, x) :: rest => match placesP P t i, compParts P t rest with
    | some p, some r => some ((p, cA x) :: r)
    | _, _ => none
def rowParts (parts : List (Nat × Operand)) : List (Nat × RA) := parts.map fun p => (p.1, cA p.2)

def compOp (P : Program) (op : Op) : Option ROp :=
  match op with
  | .move x | .assign x => some (.mv (cA x))
  | .pick c a b => some (.pick (cA c) (cA a) (cA b))
  | .alloc e => (zcP P e).map fun zc => .alloc e zc
  | .box e x => some (.box e (cA x))
  | .build t parts => match zcP P t, (structP P t).isSome || (arrayP P t).isSome, compParts P t parts.toList with
    | some zc, true, some ps => some (.build zc ps)
    | _, _, _ => none
  | .buildSlice t len parts => match sliceP P t with
    | some (e, esz, _) => match zcP P e with
      | some zc => if zc.length = esz ∧ 0 < esz ∧ len * esz ≤ 16777216 ∧ len ≤ 16777216 then some (.bslice e esz len zc (rowParts parts.toList)) else none
      | none => none
    | none => none
  | .load t a => match szP P t, aggP P t with
    | some s, some g => if g = false → s = 1 then some (.load s g (cA a)) else none
    | _, _ => none
  | .store t a v => (szP P t).map fun s => .store s (cA a) (cA v)
  | .nilCheck x => some (.nilck (cA x))
  | .binOp op t x y _ => compBin P op t x y
  | .unOp op _ x => some (.un op (cA x))
  | .convert src dst x => match P.underlying src, P.underlying dst with
    | some _, some (.int k) => some (.conv k (cA x))
    | some (.slice e), some .string => match P.underlying e with
      | some (.int .u8) => some (.strL (cA x))
      | _ => none
    | _, _ => none
  | .makeFunc f first caps => some (.mkfn f (first.toList.map cA) (caps.toList.map cA))
  | .makeSlice t l c => match sliceP P t with
    | some (e, esz, by_) => match zcP P e with
      | some zc => if zc.length = esz then some (.mkslice e esz by_ zc (cA l) (cA c)) else none
      | none => none
    | none => none
  | .slice t x lo hi none => match sliceP P t with
    | some (_, s, _) => some (.slice s (cA x) (lo.map cA) (hi.map cA))
    | none => match arrayP P t with
      | some (n, s) => some (.sliceP n s (cA x) (lo.map cA) (hi.map cA))
      | none => match P.underlying t with
        | some .string => some (.sliceS (cA x) (lo.map cA) (hi.map cA))
        | _ => none
  | .fieldAddr s x f => match fieldP P s f with
    | some (off, n, _) => if n ≠ 0 then some (.faddr off (cA x)) else none
    | none => none
  | .field s x f => match fieldP P s f with
    | some (off, n, g) => some (.fld off n g (cA x))
    | none => none
  | .indexAddr t x i => match arrayP P t with
    | some (len, s) => some (.iaddrA len s (cA x) (cA i))
    | none => match sliceP P t with
      | some (_, s, _) => some (.iaddrS s (cA x) (cA i))
      | none => none
  | .index t x i => match P.underlying t with
    | some .string => some (.idxS (cA x) (cA i))
    | some (.array len e) => match szP P e, aggP P e with
      | some s, some g => some (.idxA len s g (cA x) (cA i))
      | _, _ => none
    | _ => none
  | .extract x i => some (.ext (cA x) i)
  | .call c => match c.callee with
    | .value f => some (.call (cA f) (c.args.toList.map cA))
    | .builtin .len => match c.args.toList, c.argTypes.toList with
      | [x], [t] => if (sliceP P t).isSome = true then some (.lenL (cA x)) else match P.underlying t with
        | some .string => some (.lenS (cA x))
        | _ => none
      | _, _ => none
    | .builtin .append => match c.args.toList, c.argTypes.toList with
      | [s, x], [t, t'] => if t = t' then match sliceP P t with
          | some (e, esz, by_) => match zeroP P e with
            | some z => if z.cells.size = esz then some (.append t e esz by_ (cA s) (cA x)) else none
            | none => none
          | none => none
        else none
      | _, _ => none
    | _ => none
  | _ => none

section
variable {P : Program} {W0 : World} {fr : Fr} {σ : List Blk} {K : Cont}

theorem zcP_inv {t : TypeId} {zc : List AV} (h : zcP P t = some zc) : ∃ z, zeroP P t = some z ∧ cellsAV (ofV z) = some zc := by
  unfold zcP at h
  exact Option.bind_eq_some_iff.1 h
theorem bnd_eq (fr : Fr) (d : Int) (x : Option Operand) : bndR fr d (x.map cA) = bndA (evA fr) d x := by
  cases x with
  | none => rfl
  | some x =>
    simp only [Option.map_some, bndR, bndA, cA_ev] <;> (generalize evA fr x = v; cases v <;> rfl)
theorem map_cA (fr : Fr) (l : List Operand) : (l.map cA).map (RA.ev fr) = l.map (evA fr) := by
  rw [List.map_map]; congr 1; funext x; exact cA_ev fr x

theorem fillR_parts {t : TypeId} : ∀ (parts : List (Nat × Operand)) (ps : List ((Nat × Nat) × RA)) (cells out : List AV), compParts P t parts = some ps → fillR cells (ps.map fun p => (p.1, p.2.ev fr)) = some out →
    fillA (placesP P t) cells (parts.map fun (i, x) => (i, evA fr x)) = some out
  | [], ps, cells, out, h, hf => by
    simp only [compParts, Option.some.injEq] at h; subst h
    exact hf
  | (i, x) :: rest, ps, cells, out, h, hf => by
    simp only [compParts] at h
    split at h
    · rename_i p r hp hr
      cases h
      obtain ⟨off, size⟩ := p
      simp only [List.map_cons, fillR, cA_ev] at hf
      simp only [List.map_cons, fillA, hp]
      cases hc : cellsAV (evA fr x) with
      | none => rw [hc] at hf; cases hf
      | some cs =>
        rw [hc] at hf
        dsimp only at hf ⊢
        split at hf
        · rename_i hcond
          rw [if_pos hcond]
          exact fillR_parts rest r _ out hr hf
        · cases hf
    · cases h
theorem fillR_row {esz : Nat} : ∀ (parts : List (Nat × Operand)) (cells out : List AV), fillR cells ((rowParts parts).map fun p => ((p.1 * esz, esz), p.2.ev fr)) = some out →
    fillA (fun i => some (i * esz, esz)) cells (parts.map fun (i, x) => (i, evA fr x)) = some out
  | [], cells, out, hf => hf
  | (i, x) :: rest, cells, out, hf => by
    simp only [rowParts, List.map_cons, fillR, cA_ev] at hf
    simp only [List.map_cons, fillA]
    cases hc : cellsAV (evA fr x) with
    | none => rw [hc] at hf; cases hf
    | some cs =>
      rw [hc] at hf
      dsimp only at hf ⊢
      split at hf
      · rename_i hcond
        rw [if_pos hcond]
        exact fillR_row rest _ out hf
      · cases hf

theorem compBin_sound {op : BinOp} {t : TypeId} {x y : Operand} {r : ROp} (h : compBin P op t x y = some r) (hr : ropW P W0 r fr σ K) : binW P op t y (evA fr x) (evA fr y) σ K := by
  have hneg : ∀ {n : Bool}, negOf op = some n → (op = .eql ∧ n = false) ∨ (op = .neq ∧ n = true) := by
    intro n hn; cases op <;> simp [negOf] at hn <;> simp [hn]
  unfold compBin at h
  split at h
  · cases h
    simp only [ropW, cA_ev] at hr
    unfold intR at hr
    split at hr
    · rename_i k a k' b h1 h2
      rw [h1, h2]
      refine And.intro (fun hn => by cases hn) ?_
      cases op <;> exact hr
    · exact hr.elim
  · cases h
    simp only [ropW, cA_ev] at hr
    unfold strR at hr
    split at hr
    · rename_i a b h1 h2
      rw [h1, h2]
      refine And.intro (fun hn => by cases hn) ?_
      cases op <;> first | exact hr | exact hr.elim
    · exact hr.elim
  · rename_i hu
    obtain ⟨n, hn, rfl⟩ := Option.map_eq_some_iff.1 h
    simp only [ropW, cA_ev] at hr
    unfold boolR at hr
    split at hr
    · rename_i a b h1 h2
      rw [h1, h2]
      refine And.intro (fun hn => by cases hn) ?_
      rcases hneg hn with ⟨rfl, rfl⟩ | ⟨rfl, rfl⟩
      · exact ⟨hu, hr⟩
      · exact ⟨hu, hr⟩
    · exact hr.elim
  · rename_i e hu
    split at h
    · split at h
      · rename_i hs
        obtain ⟨n, hn, rfl⟩ := Option.map_eq_some_iff.1 h
        simp only [ropW, cA_ev] at hr
        unfold nilSR at hr
        split at hr
        · rename_i a _ _ h1
          rw [h1]
          refine And.intro (fun hn => by cases hn) ?_
          rcases hneg hn with ⟨rfl, rfl⟩ | ⟨rfl, rfl⟩
          · exact ⟨hs, hr⟩
          · exact ⟨hs, hr⟩
        · rename_i b ver _ _ _ h1
          rw [h1]
          rcases hneg hn with ⟨rfl, rfl⟩ | ⟨rfl, rfl⟩
          · exact ⟨hr.1, hs, hr.2⟩
          · exact ⟨hr.1, hs, hr.2⟩
        · exact hr.elim
      · cases h
    · cases h
  · rename_i ms hu
    split at h
    · obtain ⟨n, hn, rfl⟩ := Option.map_eq_some_iff.1 h
      simp only [ropW, cA_ev] at hr
      unfold nilIR at hr
      split at hr
      · rename_i h1
        rw [h1]
        refine ⟨fun _ _ => ⟨_, rfl⟩, ?_⟩
        rcases hneg hn with ⟨rfl, rfl⟩ | ⟨rfl, rfl⟩
        · exact ⟨⟨_, hu⟩, hr⟩
        · exact ⟨⟨_, hu⟩, hr⟩
      · rename_i a b h1
        rw [h1]
        refine And.intro (fun hn => by cases hn) ?_
        rcases hneg hn with ⟨rfl, rfl⟩ | ⟨rfl, rfl⟩
        · exact ⟨⟨_, hu⟩, hr⟩
        · exact ⟨⟨_, hu⟩, hr⟩
      · exact hr.elim
    · cases h
  · rename_i e hu
    split at h
    · split at h
      · rename_i he
        obtain ⟨n, hn, rfl⟩ := Option.map_eq_some_iff.1 h
        simp only [ropW, cA_ev] at hr
        unfold nilPR at hr
        split at hr
        · rename_i b ver _ h1
          rw [h1]
          rcases hneg hn with ⟨rfl, rfl⟩ | ⟨rfl, rfl⟩
          · exact ⟨hr.1, by rw [he]; exact hu, hr.2⟩
          · exact ⟨hr.1, by rw [he]; exact hu, hr.2⟩
        · exact hr.elim
      · cases h
    · cases h
  all_goals first
    | (rename_i hu
       split at h
       · rename_i hg
         split at h
         · rename_i ks hks
           obtain ⟨n, hn, rfl⟩ := Option.map_eq_some_iff.1 h
           simp only [ropW, cA_ev] at hr
           unfold eqAR at hr
           split at hr
           · rename_i xs ys h1 h2
             rw [h1, h2]
             split at hr
             · rename_i vs us hvs hus
               split at hr
               · rename_i b hb
                 refine ⟨by simp [aggP, hu, isAggD], hg, ?_⟩
                 simp only [hks, hvs, hus, hb]
                 rcases hneg hn with ⟨rfl, rfl⟩ | ⟨rfl, rfl⟩
                 · exact hr
                 · exact hr
               · exact hr.elim
             · exact hr.elim
           · exact hr.elim
         · cases h
       · cases h)
    | cases h

theorem compOp_sound {op : Op} {r : ROp} (h : compOp P op = some r) (hr : ropW P W0 r fr σ K) : opW P W0 op (evA fr) σ K := by
  unfold compOp at h
  split at h
  · cases h; simpa only [ropW, opW, cA_ev] using hr
  · cases h; simpa only [ropW, opW, cA_ev] using hr
  · rename_i c a b
    cases h
    simp only [ropW, cA_ev] at hr
    unfold pickR at hr
    unfold opW
    split at hr
    · rename_i t ht
      dsimp only
      rw [ht]
      split
      · rename_i t' x y e1 e2 e3
        cases e1
        rw [e2, e3] at hr
        cases t with
        | true => exact hr.1 rfl
        | false => exact hr.2 rfl
      · rename_i t' e1 hn
        cases e1
        exact hr
      · rename_i h1 h2 h3
        first | exact (h2 _ rfl).elim | exact (h1 _ rfl).elim | exact (h3 _ rfl).elim
    · exact hr.elim
  · obtain ⟨zc, hz, rfl⟩ := Option.map_eq_some_iff.1 h
    obtain ⟨z, h1, h2⟩ := zcP_inv hz
    simp only [opW, allocW, h1, boxW, h2]
    simp only [ropW, fS_eq] at hr
    exact hr
  · cases h; simpa only [ropW, opW, cA_ev, fS_eq] using hr
  · split at h
    · rename_i zc ps hz hs hp
      cases h
      obtain ⟨z, h1, h2⟩ := zcP_inv hz
      simp only [ropW] at hr
      split at hr
      · rename_i cs hc
        simp only [opW, buildW, h1, h2, partsA]
        rw [fillR_parts _ _ _ _ hp hc]
        exact ⟨hs, hr⟩
      · exact hr.elim
    · cases h
  · split at h
    · rename_i e esz by_ hs
      split at h
      · rename_i zc hz
        split at h
        · rename_i hcond
          cases h
          obtain ⟨z, h1, h2⟩ := zcP_inv hz
          simp only [ropW] at hr
          split at hr
          · rename_i cs hc
            rw [fS_eq] at hr
            simp only [opW, buildSliceW, hs, h1, h2, partsA]
            rw [fillR_row _ _ _ hc]
            exact ⟨hcond.1, hcond.2.1, hcond.2.2.1, hcond.2.2.2, hr⟩
          · exact hr.elim
        · cases h
      · cases h
    · cases h
  · split at h
    · rename_i s g hs hg
      split at h
      · rename_i h1
        cases h
        simp only [ropW, cA_ev] at hr
        simp only [opW, loadW, hs, hg]
        unfold loadR at hr
        split at hr
        · rename_i he
          obtain ⟨B, a1, a2, a3, a4⟩ := hr
          rw [he]
          exact ⟨B, a1, a2, a3, h1, a4⟩
        · rename_i he
          obtain ⟨cs, a1, a2, a3, a4⟩ := hr
          rw [he]
          exact ⟨cs, a1, h1, a2, a3, a4⟩
        · exact hr.elim
      · cases h
    · cases h
  · obtain ⟨s, hs, rfl⟩ := Option.map_eq_some_iff.1 h
    simp only [ropW, cA_ev, fS_eq] at hr
    unfold storeR at hr
    split at hr
    · rename_i he hc
      simp only [opW, storeW, hs, he, hc]
      exact hr
    · exact hr.elim
  · cases h
    simp only [ropW, cA_ev] at hr
    exact hr
  · exact compBin_sound h hr
  · cases h; simpa only [ropW, opW, cA_ev] using hr
  · split at h
    · rename_i hs hd
      cases h
      simp only [ropW, cA_ev] at hr
      split at hr
      · rename_i he
        simp only [opW, convW, hs, hd, he]
        exact hr
      · exact hr.elim
    · rename_i e hs hd
      split at h
      · rename_i hu
        cases h
        simp only [ropW, cA_ev] at hr
        unfold strLR at hr
        split at hr
        · rename_i he
          simp only [opW, convW, hs, hd, he]
          exact ⟨hu, hr⟩
        · exact hr.elim
      · cases h
    · cases h
  · cases h
    simp only [ropW, map_cA] at hr
    exact hr
  · split at h
    · rename_i e esz by_ hs
      split at h
      · rename_i zc hz
        split at h
        · rename_i hl
          cases h
          obtain ⟨z, h1, h2⟩ := zcP_inv hz
          simp only [ropW, cA_ev] at hr
          unfold mksliceR at hr
          split at hr
          · rename_i e1 e2
            simp only [opW, makeSliceW, e1, e2, hs, h1, h2]
            exact ⟨hl, hr⟩
          · exact hr.elim
        · cases h
      · cases h
    · cases h
  · split at h
    · rename_i hs
      cases h
      simp only [ropW, cA_ev, bnd_eq] at hr
      unfold sliceR at hr
      split at hr
      · rename_i he
        split at hr
        · rename_i hl hhi
          simp only [opW, sliceW, he, hl, hhi, hs]
          exact hr
        · exact hr.elim
      · rename_i he
        split at hr
        · rename_i hl hhi
          simp only [opW, sliceW, he, hl, hhi, hs]
          exact hr
        · exact hr.elim
      · rename_i he
        split at hr
        · rename_i hl hhi
          simp only [opW, sliceW, he, hl, hhi, hs]
          exact hr
        · exact hr.elim
      · exact hr.elim
    · split at h
      · rename_i ha
        cases h
        simp only [ropW, cA_ev, bnd_eq] at hr
        unfold slicePR at hr
        split at hr
        · rename_i he
          split at hr
          · rename_i hl hhi
            simp only [opW, sliceW, he, hl, hhi, ha]
            exact hr
          · exact hr.elim
        · exact hr.elim
      · split at h
        · rename_i hu
          cases h
          simp only [ropW, cA_ev, bnd_eq] at hr
          unfold sliceSR at hr
          split at hr
          · rename_i s he
            split at hr
            · rename_i l hh hl hhi
              simp only [opW, sliceW, he, hl, hhi]
              exact ⟨hu, hr⟩
            · exact hr.elim
          · exact hr.elim
        · cases h
  · split at h
    · rename_i off n g hf
      split at h
      · rename_i hn
        cases h
        simp only [ropW, cA_ev] at hr
        unfold faddrR at hr
        split at hr
        · rename_i he
          simp only [opW, fieldAddrW, hf, he]
          exact ⟨hr.1, hn, hr.2⟩
        · rename_i he
          simp only [opW, fieldAddrW, hf, he]
          exact ⟨hn, hr⟩
        · exact hr.elim
      · cases h
    · cases h
  · split at h
    · rename_i off n g hf
      cases h
      simp only [ropW, cA_ev] at hr
      unfold fldR at hr
      split at hr
      · rename_i he
        simp only [opW, fieldW, hf, he]
        exact hr
      · exact hr.elim
    · cases h
  · split at h
    · rename_i len s ha
      cases h
      simp only [ropW, cA_ev] at hr
      unfold iaddrAR at hr
      split at hr
      · rename_i e1 e2
        simp only [opW, indexAddrW, e1, e2, ha]
        exact hr
      · rename_i e1 e2
        simp only [opW, indexAddrW, e1, e2, ha]
        exact hr
      · exact hr.elim
    · split at h
      · rename_i hs
        cases h
        simp only [ropW, cA_ev] at hr
        unfold iaddrSR at hr
        split at hr
        · rename_i e1 e2
          simp only [opW, indexAddrW, e1, e2, hs]
          exact hr
        · rename_i e1 e2
          simp only [opW, indexAddrW, e1, e2, hs]
          exact hr
        · exact hr.elim
      · cases h
  · split at h
    · rename_i hu
      cases h
      simp only [ropW, cA_ev] at hr
      unfold idxSR at hr
      split at hr
      · rename_i e1 e2
        simp only [opW, indexW, e1, e2]
        exact ⟨hu, hr⟩
      · exact hr.elim
    · rename_i len e hu
      split at h
      · rename_i s g hs hg
        cases h
        simp only [ropW, cA_ev] at hr
        unfold idxAR at hr
        split at hr
        · rename_i e1 e2
          simp only [opW, indexW, e1, e2, hu, hs, hg]
          exact hr
        · exact hr.elim
      · cases h
    · cases h
  · cases h
    simp only [ropW, cA_ev] at hr
    exact hr
  · rename_i c
    obtain ⟨callee, args, argTypes⟩ := c
    dsimp only at h
    split at h
    · cases h
      simp only [ropW, cA_ev, map_cA, fL_eq] at hr
      exact hr
    · split at h
      · rename_i x t hx ht
        split at h
        · rename_i hs
          cases h
          simp only [ropW, cA_ev] at hr
          simp only [opW, callOpW, hx, ht]
          unfold lenW
          unfold lenLR at hr
          split at hr
          · rename_i he
            rw [he]
            exact ⟨hs, hr⟩
          · rename_i he
            rw [he]
            exact ⟨hs, hr⟩
          · exact hr.elim
        · split at h
          · rename_i hu
            cases h
            simp only [ropW, cA_ev] at hr
            simp only [opW, callOpW, hx, ht]
            unfold lenW
            unfold lenSR at hr
            split at hr
            · rename_i he
              rw [he]
              exact ⟨hu, hr⟩
            · exact hr.elim
          · cases h
      · cases h
    · split at h
      · rename_i s x t t' hx ht
        split at h
        · rename_i htt
          split at h
          · rename_i e esz by_ hs
            split at h
            · rename_i z hz
              split at h
              · rename_i hzs
                cases h
                simp only [ropW, cA_ev] at hr
                simp only [opW, callOpW, hx, ht]
                refine ⟨htt, ⟨e, esz, by_, z, hs, hz, hzs⟩, ?_⟩
                have happ : ∀ m news, appendR e esz by_ (evA fr s) m news σ K → appendW P t (evA fr s) m news σ K := by
                  intro m news h
                  unfold appendR at h
                  unfold appendW
                  rw [hs]
                  split at h
                  · rename_i he; rw [he]; exact h
                  · rename_i he; rw [he]; exact h
                  · exact h.elim
                unfold srcR at hr
                unfold srcW
                rw [hs]
                split at hr
                · rename_i he
                  rw [he]
                  obtain ⟨B, a1, a2, a3, a4⟩ := hr
                  exact ⟨B, a1, a2, a3, happ _ _ a4⟩
                · rename_i he
                  rw [he]
                  obtain ⟨cs, a1, a2, a3, a4⟩ := hr
                  exact ⟨cs, a1, a2, a3, happ _ _ a4⟩
                · exact hr.elim
              · cases h
            · cases h
          · cases h
        · cases h
      · cases h
    · cases h
  · cases h
end

end Go.Proofs.YtlmplfgnhibfcaaDoor.Abs
