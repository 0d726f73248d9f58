/- The abstract logic, part O: a region that draws its order, with a new block or a plain computation that may come up early. -/
import Derived.Test.YtlmplfgnhibfcaaDoorAbsM
set_option linter.unusedVariables false
set_option linter.unusedSimpArgs false
namespace Go.Proofs.YtlmplfgnhibfcaaDoor.Abs
open Go Go.RowKit

section
variable {P : Program} {W0 : World} {fr fr' : Fr} {σ : List Blk} {K K' : Cont}

/-- one value, whatever the blocks are / whatever blocks are added -/
def LP (R : List Blk → Cont → Prop) (σ : List Blk) (K : Cont) : Prop := ∃ av, K av σ ∧ ∀ (τ : List Blk) (K' : Cont), K' av τ → R τ K'
def LX (R : List Blk → Cont → Prop) (σ : List Blk) (K : Cont) : Prop := ∃ av, K av σ ∧ ∀ (τ : List Blk) (K' : Cont), K' av (σ ++ τ) → R (σ ++ τ) K'
theorem LP.lx {R : List Blk → Cont → Prop} (h : LP R σ K) : LX R σ K := let ⟨av, h1, h2⟩ := h; ⟨av, h1, fun τ K' hk => h2 _ K' hk⟩
theorem getx {b : Nat} {B : Blk} {τ : List Blk} (h : σ[b]? = some B) : (σ ++ τ)[b]? = some B := by
  rw [List.getElem?_append_left (getElem?_lt h)]; exact h
theorem curx {b ver : Nat} {τ : List Blk} (h : ∃ B, σ[b]? = some B ∧ B.ver = ver) : ∃ B, (σ ++ τ)[b]? = some B ∧ B.ver = ver :=
  let ⟨B, h1, h2⟩ := h; ⟨B, getx h1, h2⟩
theorem pickR_lp {c a b : AV} (h : pickR c a b σ K) : LP (fun σ => pickR c a b σ) σ K := by
  unfold pickR at h
  split at h
  · rename_i t
    cases t with
    | true => exact ⟨_, h.1 rfl, fun τ K' h' => ⟨fun _ => h', fun e => by cases e⟩⟩
    | false => exact ⟨_, h.2 rfl, fun τ K' h' => ⟨fun e => (by cases e), fun _ => h'⟩⟩
  · exact h.elim
theorem loadR_lx {s : Nat} {g : Bool} {a : AV} (h : loadR W0 s g a σ K) : LX (fun σ => loadR W0 s g a σ) σ K := by
  unfold loadR at h
  split at h
  · obtain ⟨B, h1, h2, h3, hk⟩ := h; exact ⟨_, hk, fun τ K' h' => ⟨B, getx h1, h2, h3, h'⟩⟩
  · obtain ⟨B, h1, h2, h3, hk⟩ := h; exact ⟨_, hk, fun τ K' h' => ⟨B, h1, h2, h3, h'⟩⟩
  · exact h.elim
theorem faddrR_lx {off : Nat} {a : AV} (h : faddrR off a σ K) : LX (fun σ => faddrR off a σ) σ K := by
  unfold faddrR at h
  split at h
  · exact ⟨_, h.2, fun τ K' h' => ⟨curx h.1, h'⟩⟩
  · exact ⟨_, h, fun τ K' h' => h'⟩
  · exact h.elim
theorem fldR_lp {off n : Nat} {g : Bool} {a : AV} (h : fldR off n g a σ K) : LP (fun σ => fldR off n g a σ) σ K := by
  unfold fldR at h
  split at h
  · split at h
    · rename_i v hv
      exact ⟨_, h, fun τ K' h' => by unfold fldR; dsimp only; rw [hv]; exact h'⟩
    · exact h.elim
  · exact h.elim
theorem iaddrAR_lx {len s : Nat} {a i : AV} (h : iaddrAR len s a i σ K) : LX (fun σ => iaddrAR len s a i σ) σ K := by
  unfold iaddrAR at h
  split at h
  · exact ⟨_, h.2.2.2, fun τ K' h' => ⟨curx h.1, h.2.1, h.2.2.1, h'⟩⟩
  · exact ⟨_, h.2.2, fun τ K' h' => ⟨h.1, h.2.1, h'⟩⟩
  · exact h.elim
theorem iaddrSR_lx {s : Nat} {a i : AV} (h : iaddrSR s a i σ K) : LX (fun σ => iaddrSR s a i σ) σ K := by
  unfold iaddrSR at h
  split at h
  · exact ⟨_, h.2.2.2, fun τ K' h' => ⟨curx h.1, h.2.1, h.2.2.1, h'⟩⟩
  · exact ⟨_, h.2.2, fun τ K' h' => ⟨h.1, h.2.1, h'⟩⟩
  · exact h.elim
theorem idxAR_lp {len s : Nat} {g : Bool} {a i : AV} (h : idxAR len s g a i σ K) : LP (fun σ => idxAR len s g a i σ) σ K := by
  unfold idxAR at h
  split at h
  · obtain ⟨h1, h2, h⟩ := h
    split at h
    · rename_i v hv
      exact ⟨_, h, fun τ K' h' => by unfold idxAR; dsimp only; rw [hv]; exact ⟨h1, h2, h'⟩⟩
    · exact h.elim
  · exact h.elim
theorem idxSR_lp {a i : AV} (h : idxSR a i σ K) : LP (fun σ => idxSR a i σ) σ K := by
  unfold idxSR at h
  split at h
  · exact ⟨_, h.2.2, fun τ K' h' => ⟨h.1, h.2.1, h'⟩⟩
  · exact h.elim
theorem lenSR_lp {x : AV} (h : lenSR x σ K) : LP (fun σ => lenSR x σ) σ K := by
  unfold lenSR at h
  split at h
  · exact ⟨_, h, fun τ K' h' => h'⟩
  · exact h.elim
theorem lenLR_lx {x : AV} (h : lenLR x σ K) : LX (fun σ => lenLR x σ) σ K := by
  unfold lenLR at h
  split at h
  · exact ⟨_, h, fun τ K' h' => h'⟩
  · exact ⟨_, h.2, fun τ K' h' => ⟨curx h.1, h'⟩⟩
  · exact h.elim
theorem strLR_lx {x : AV} (h : strLR x σ K) : LX (fun σ => strLR x σ) σ K := by
  unfold strLR at h
  split at h
  · obtain ⟨B, xs, h1, h2, h3, h4, hk⟩ := h
    exact ⟨_, hk, fun τ K' h' => ⟨B, xs, getx h1, h2, h3, h4, h'⟩⟩
  · exact h.elim
theorem intR_lp {op : BinOp} {x y : AV} (h : intR op x y σ K) : LP (fun σ => intR op x y σ) σ K := by
  unfold intR at h
  split at h
  · cases op <;> first
      | exact ⟨_, h.2.2, fun τ K' h' => ⟨h.1, h.2.1, h'⟩⟩
      | exact ⟨_, h.2, fun τ K' h' => ⟨h.1, h'⟩⟩
  · exact h.elim
theorem strR_lp {op : BinOp} {x y : AV} (h : strR op x y σ K) : LP (fun σ => strR op x y σ) σ K := by
  unfold strR at h
  split at h
  · cases op <;> first
      | exact h.elim
      | exact ⟨_, h, fun τ K' h' => h'⟩
      | exact ⟨_, h.2, fun τ K' h' => ⟨h.1, h'⟩⟩
  · exact h.elim
theorem boolR_lp {neg : Bool} {x y : AV} (h : boolR neg x y σ K) : LP (fun σ => boolR neg x y σ) σ K := by
  unfold boolR at h
  split at h
  · exact ⟨_, h, fun τ K' h' => h'⟩
  · exact h.elim
theorem nilSR_lx {neg : Bool} {x : AV} (h : nilSR neg x σ K) : LX (fun σ => nilSR neg x σ) σ K := by
  unfold nilSR at h
  split at h
  · exact ⟨_, h, fun τ K' h' => h'⟩
  · exact ⟨_, h.2, fun τ K' h' => ⟨curx h.1, h'⟩⟩
  · exact h.elim
theorem nilIR_lp {neg : Bool} {x : AV} (h : nilIR neg x σ K) : LP (fun σ => nilIR neg x σ) σ K := by
  unfold nilIR at h
  split at h
  · exact ⟨_, h, fun τ K' h' => h'⟩
  · exact ⟨_, h, fun τ K' h' => h'⟩
  · exact h.elim
theorem nilPR_lx {neg : Bool} {x : AV} (h : nilPR neg x σ K) : LX (fun σ => nilPR neg x σ) σ K := by
  unfold nilPR at h
  split at h
  · exact ⟨_, h.2, fun τ K' h' => ⟨curx h.1, h'⟩⟩
  · exact h.elim
theorem eqAR_lp {neg : Bool} {ks : List CK} {x y : AV} (h : eqAR neg ks x y σ K) : LP (fun σ => eqAR neg ks x y σ) σ K := by
  unfold eqAR at h
  split at h
  · split at h
    · rename_i vs us e1 e2
      split at h
      · rename_i b hb
        exact ⟨_, h, fun τ K' h' => by unfold eqAR; dsimp only; rw [e1, e2]; dsimp only; rw [hb]; exact h'⟩
      · exact h.elim
    · exact h.elim
  · exact h.elim
theorem extR_lp {x : AV} {i : Nat} (h : extR x i σ K) : LP (fun σ => extR x i σ) σ K := by
  unfold extR at h
  split at h
  · split at h
    · rename_i v hv
      exact ⟨_, h, fun τ K' h' => by unfold extR; dsimp only; rw [hv]; exact h'⟩
    · exact h.elim
  · exact h.elim
theorem nilckR_lx {x : AV} (h : nilckR x σ K) : LX (fun σ => nilckR x σ) σ K := by
  unfold nilckR at h
  split at h
  · exact ⟨_, h.2, fun τ K' h' => ⟨curx h.1, h'⟩⟩
  · exact ⟨_, h, fun τ K' h' => h'⟩
  · exact ⟨_, h, fun τ K' h' => h'⟩
  · exact ⟨_, h, fun τ K' h' => h'⟩
  · exact h.elim
theorem sliceSR_lp {x : AV} {lo hi : Int → Option Int} (h : sliceSR x lo hi σ K) : LP (fun σ => sliceSR x lo hi σ) σ K := by
  unfold sliceSR at h
  split at h
  · split at h
    · rename_i l hh e1 e2
      obtain ⟨a1, a2, a3, hk⟩ := h
      exact ⟨_, hk, fun τ K' h' => by unfold sliceSR; dsimp only; rw [e1, e2]; exact ⟨a1, a2, a3, h'⟩⟩
    · exact h.elim
  · exact h.elim
theorem sliceR_lx {s : Nat} {x : AV} {lo hi : Int → Option Int} (h : sliceR s x lo hi σ K) : LX (fun σ => sliceR s x lo hi σ) σ K := by
  unfold sliceR at h
  split at h
  · split at h
    · rename_i l hh e1 e2
      obtain ⟨B, b1, b2, b3, a1, a2, a3, hk⟩ := h
      exact ⟨_, hk, fun τ K' h' => by unfold sliceR; dsimp only; rw [e1, e2]; exact ⟨B, getx b1, b2, b3, a1, a2, a3, h'⟩⟩
    · exact h.elim
  · split at h
    · rename_i l hh e1 e2
      obtain ⟨a1, a2, a3, hk⟩ := h
      exact ⟨_, hk, fun τ K' h' => by unfold sliceR; dsimp only; rw [e1, e2]; exact ⟨a1, a2, a3, h'⟩⟩
    · exact h.elim
  · split at h
    · rename_i l hh e1 e2
      obtain ⟨a1, a2, hk⟩ := h
      exact ⟨_, hk, fun τ K' h' => by unfold sliceR; (try dsimp only); rw [e1, e2]; exact ⟨a1, a2, h'⟩⟩
    · exact h.elim
  · exact h.elim
theorem slicePR_lx {n s : Nat} {x : AV} {lo hi : Int → Option Int} (h : slicePR n s x lo hi σ K) : LX (fun σ => slicePR n s x lo hi σ) σ K := by
  unfold slicePR at h
  split at h
  · split at h
    · rename_i l hh e1 e2
      obtain ⟨B, b1, b2, b3, a0, a1, a2, a3, hk⟩ := h
      exact ⟨_, hk, fun τ K' h' => by unfold slicePR; dsimp only; rw [e1, e2]; exact ⟨B, getx b1, b2, b3, a0, a1, a2, a3, h'⟩⟩
    · exact h.elim
  · exact h.elim
theorem unW_lp {op : UnOp} {x : AV} (h : unW op x σ K) : LP (fun σ => unW op x σ) σ K := by
  unfold unW at h
  split at h
  · exact ⟨_, h, fun τ K' h' => h'⟩
  · exact ⟨_, h, fun τ K' h' => h'⟩
  · exact ⟨_, h, fun τ K' h' => h'⟩
  · exact h.elim


def pureR : ROp → Bool
  | .mv _ | .pick _ _ _ | .build _ _ | .binI _ _ _ | .binS _ _ _ | .binB _ _ _ | .nilI _ _ | .eqA _ _ _ _ | .un _ _ | .conv _ _ | .mkfn _ _ _ | .fld _ _ _ _ | .idxA _ _ _ _ _ | .idxS _ _ | .ext _ _ | .lenS _ | .sliceS _ _ _ => true
  | _ => false
theorem ropW_lp {o : ROp} (hp : pureR o = true) (h : ropW P W0 o fr σ K) : LP (ropW P W0 o fr) σ K := by
  cases o with
  | build zc parts =>
    simp only [ropW] at h
    split at h
    · rename_i he
      exact ⟨_, h, fun τ K' h' => by (simp only [ropW]; rw [he]; exact h')⟩
    · exact h.elim
  | conv k x =>
    simp only [ropW] at h
    split at h
    · rename_i he
      exact ⟨_, h, fun τ K' h' => by (simp only [ropW]; rw [he]; exact h')⟩
    · exact h.elim
  | sliceS x lo hi => exact sliceSR_lp (lo := fun d => bndR fr d lo) (hi := fun d => bndR fr d hi) h
  | _ => first
    | (simp [pureR] at hp; done)
    | exact ⟨_, h, fun τ K' h' => h'⟩
    | exact pickR_lp h
    | exact fldR_lp h
    | exact idxAR_lp h
    | exact idxSR_lp h
    | exact lenSR_lp h
    | exact intR_lp h
    | exact strR_lp h
    | exact boolR_lp h
    | exact nilIR_lp h
    | exact eqAR_lp h
    | exact extR_lp h
    | exact unW_lp h
    | (obtain ⟨a1, a2, hk⟩ := h
       exact ⟨_, hk, fun τ K' h' => ⟨a1, a2, h'⟩⟩)
theorem ropW_lx {o : ROp} (hl : looksR o = true) (h : ropW P W0 o fr σ K) : LX (ropW P W0 o fr) σ K := by
  by_cases hp : pureR o = true
  · exact (ropW_lp hp h).lx
  · cases o with
    | slice s x lo hi => exact sliceR_lx (lo := fun d => bndR fr d lo) (hi := fun d => bndR fr d hi) h
    | sliceP n s x lo hi => exact slicePR_lx (lo := fun d => bndR fr d lo) (hi := fun d => bndR fr d hi) h
    | _ => first
      | (simp [looksR] at hl; done)
      | (exact (hp rfl).elim)
      | exact loadR_lx h
      | exact faddrR_lx h
      | exact iaddrAR_lx h
      | exact iaddrSR_lx h
      | exact lenLR_lx h
      | exact strLR_lx h
      | exact nilSR_lx h
      | exact nilPR_lx h
      | exact nilckR_lx h

/-! ### the slots that an operation looks at -/
def sl1 : RA → List Nat
  | .t n => [n]
  | .v _ => []
def slO : Option RA → List Nat
  | none => []
  | some x => sl1 x
def slotsR : ROp → List Nat
  | .mv x => sl1 x
  | .pick c a b => sl1 c ++ sl1 a ++ sl1 b
  | .alloc e zc => []
  | .box e x => sl1 x
  | .load s g a => sl1 a
  | .store s a v => sl1 a ++ sl1 v
  | .nilck x => sl1 x
  | .binI op x y => sl1 x ++ sl1 y
  | .binS op x y => sl1 x ++ sl1 y
  | .binB neg x y => sl1 x ++ sl1 y
  | .nilS neg x => sl1 x
  | .nilI neg x => sl1 x
  | .nilP neg x => sl1 x
  | .eqA neg ks x y => sl1 x ++ sl1 y
  | .un op x => sl1 x
  | .conv k x => sl1 x
  | .mkslice e esz by_ zc l c => sl1 l ++ sl1 c
  | .faddr off x => sl1 x
  | .fld off n g x => sl1 x
  | .iaddrA len s x i => sl1 x ++ sl1 i
  | .iaddrS s x i => sl1 x ++ sl1 i
  | .idxA len s g x i => sl1 x ++ sl1 i
  | .idxS x i => sl1 x ++ sl1 i
  | .ext x i => sl1 x
  | .lenS x => sl1 x
  | .lenL x => sl1 x
  | .strL x => sl1 x
  | .append t e esz by_ s x => sl1 s ++ sl1 x
  | .build zc parts => parts.flatMap fun p => sl1 p.2
  | .bslice e esz len zc parts => parts.flatMap fun p => sl1 p.2
  | .mkfn f first caps => first.flatMap sl1 ++ caps.flatMap sl1
  | .sliceS x lo hi => sl1 x ++ slO lo ++ slO hi
  | .slice s x lo hi => sl1 x ++ slO lo ++ slO hi
  | .sliceP n s x lo hi => sl1 x ++ slO lo ++ slO hi
  | .call f args => sl1 f ++ args.flatMap sl1
theorem ev_congr {x : RA} (h : ∀ t ∈ sl1 x, fr t = fr' t) : x.ev fr = x.ev fr' := by
  cases x with
  | t n => exact h n (by simp [sl1])
  | v a => rfl
theorem evs_congr {l : List RA} (h : ∀ t ∈ l.flatMap sl1, fr t = fr' t) : l.map (RA.ev fr) = l.map (RA.ev fr') :=
  List.map_congr_left fun x hx => ev_congr fun t ht => h t (List.mem_flatMap.2 ⟨x, hx, ht⟩)
theorem bnd_congr {x : Option RA} (h : ∀ t ∈ slO x, fr t = fr' t) : (fun d => bndR fr d x) = fun d => bndR fr' d x := by
  cases x with
  | none => rfl
  | some x => funext d; simp only [bndR, ev_congr (x := x) h]
theorem ropW_congr {o : ROp} (h : ∀ t ∈ slotsR o, fr t = fr' t) : ropW P W0 o fr σ K = ropW P W0 o fr' σ K := by
  cases o with
  | mv x =>
    have e_x := ev_congr (x := x) fun t ht => h t (by simp [slotsR, ht])
    simp only [ropW, e_x]
  | pick c a b =>
    have e_c := ev_congr (x := c) fun t ht => h t (by simp [slotsR, ht])
    have e_a := ev_congr (x := a) fun t ht => h t (by simp [slotsR, ht])
    have e_b := ev_congr (x := b) fun t ht => h t (by simp [slotsR, ht])
    simp only [ropW, e_c, e_a, e_b]
  | alloc e zc =>
    simp only [ropW]
  | box e x =>
    have e_x := ev_congr (x := x) fun t ht => h t (by simp [slotsR, ht])
    simp only [ropW, e_x]
  | load s g a =>
    have e_a := ev_congr (x := a) fun t ht => h t (by simp [slotsR, ht])
    simp only [ropW, e_a]
  | store s a v =>
    have e_a := ev_congr (x := a) fun t ht => h t (by simp [slotsR, ht])
    have e_v := ev_congr (x := v) fun t ht => h t (by simp [slotsR, ht])
    simp only [ropW, e_a, e_v]
  | nilck x =>
    have e_x := ev_congr (x := x) fun t ht => h t (by simp [slotsR, ht])
    simp only [ropW, e_x]
  | binI op x y =>
    have e_x := ev_congr (x := x) fun t ht => h t (by simp [slotsR, ht])
    have e_y := ev_congr (x := y) fun t ht => h t (by simp [slotsR, ht])
    simp only [ropW, e_x, e_y]
  | binS op x y =>
    have e_x := ev_congr (x := x) fun t ht => h t (by simp [slotsR, ht])
    have e_y := ev_congr (x := y) fun t ht => h t (by simp [slotsR, ht])
    simp only [ropW, e_x, e_y]
  | binB neg x y =>
    have e_x := ev_congr (x := x) fun t ht => h t (by simp [slotsR, ht])
    have e_y := ev_congr (x := y) fun t ht => h t (by simp [slotsR, ht])
    simp only [ropW, e_x, e_y]
  | nilS neg x =>
    have e_x := ev_congr (x := x) fun t ht => h t (by simp [slotsR, ht])
    simp only [ropW, e_x]
  | nilI neg x =>
    have e_x := ev_congr (x := x) fun t ht => h t (by simp [slotsR, ht])
    simp only [ropW, e_x]
  | nilP neg x =>
    have e_x := ev_congr (x := x) fun t ht => h t (by simp [slotsR, ht])
    simp only [ropW, e_x]
  | eqA neg ks x y =>
    have e_x := ev_congr (x := x) fun t ht => h t (by simp [slotsR, ht])
    have e_y := ev_congr (x := y) fun t ht => h t (by simp [slotsR, ht])
    simp only [ropW, e_x, e_y]
  | un op x =>
    have e_x := ev_congr (x := x) fun t ht => h t (by simp [slotsR, ht])
    simp only [ropW, e_x]
  | conv k x =>
    have e_x := ev_congr (x := x) fun t ht => h t (by simp [slotsR, ht])
    simp only [ropW, e_x]
  | mkslice e esz by_ zc l c =>
    have e_l := ev_congr (x := l) fun t ht => h t (by simp [slotsR, ht])
    have e_c := ev_congr (x := c) fun t ht => h t (by simp [slotsR, ht])
    simp only [ropW, e_l, e_c]
  | faddr off x =>
    have e_x := ev_congr (x := x) fun t ht => h t (by simp [slotsR, ht])
    simp only [ropW, e_x]
  | fld off n g x =>
    have e_x := ev_congr (x := x) fun t ht => h t (by simp [slotsR, ht])
    simp only [ropW, e_x]
  | iaddrA len s x i =>
    have e_x := ev_congr (x := x) fun t ht => h t (by simp [slotsR, ht])
    have e_i := ev_congr (x := i) fun t ht => h t (by simp [slotsR, ht])
    simp only [ropW, e_x, e_i]
  | iaddrS s x i =>
    have e_x := ev_congr (x := x) fun t ht => h t (by simp [slotsR, ht])
    have e_i := ev_congr (x := i) fun t ht => h t (by simp [slotsR, ht])
    simp only [ropW, e_x, e_i]
  | idxA len s g x i =>
    have e_x := ev_congr (x := x) fun t ht => h t (by simp [slotsR, ht])
    have e_i := ev_congr (x := i) fun t ht => h t (by simp [slotsR, ht])
    simp only [ropW, e_x, e_i]
  | idxS x i =>
    have e_x := ev_congr (x := x) fun t ht => h t (by simp [slotsR, ht])
    have e_i := ev_congr (x := i) fun t ht => h t (by simp [slotsR, ht])
    simp only [ropW, e_x, e_i]
  | ext x i =>
    have e_x := ev_congr (x := x) fun t ht => h t (by simp [slotsR, ht])
    simp only [ropW, e_x]
  | lenS x =>
    have e_x := ev_congr (x := x) fun t ht => h t (by simp [slotsR, ht])
    simp only [ropW, e_x]
  | lenL x =>
    have e_x := ev_congr (x := x) fun t ht => h t (by simp [slotsR, ht])
    simp only [ropW, e_x]
  | strL x =>
    have e_x := ev_congr (x := x) fun t ht => h t (by simp [slotsR, ht])
    simp only [ropW, e_x]
  | append t e esz by_ s x =>
    have e_s := ev_congr (x := s) fun t ht => h t (by simp [slotsR, ht])
    have e_x := ev_congr (x := x) fun t ht => h t (by simp [slotsR, ht])
    simp only [ropW, e_s, e_x]
  | build zc parts =>
    have e : (parts.map fun p => (p.1, p.2.ev fr)) = parts.map fun p => (p.1, p.2.ev fr') := List.map_congr_left fun p hp => by rw [ev_congr fun t ht => h t (by simp only [slotsR]; exact List.mem_flatMap.2 ⟨p, hp, ht⟩)]
    simp only [ropW, e]
  | bslice e esz len zc parts =>
    have e : (parts.map fun p => ((p.1 * esz, esz), p.2.ev fr)) = parts.map fun p => ((p.1 * esz, esz), p.2.ev fr') := List.map_congr_left fun p hp => by rw [ev_congr fun t ht => h t (by simp only [slotsR]; exact List.mem_flatMap.2 ⟨p, hp, ht⟩)]
    simp only [ropW, e]
  | mkfn f first caps =>
    have e1 := evs_congr (l := first) fun t ht => h t (by simp only [slotsR]; exact List.mem_append_left _ ht)
    have e2 := evs_congr (l := caps) fun t ht => h t (by simp only [slotsR]; exact List.mem_append_right _ ht)
    simp only [ropW, e1, e2]
  | sliceS x lo hi =>
    have e1 := ev_congr (x := x) fun t ht => h t (by simp [slotsR, ht])
    have e2 := bnd_congr (x := lo) fun t ht => h t (by simp [slotsR, ht])
    have e3 := bnd_congr (x := hi) fun t ht => h t (by simp [slotsR, ht])
    simp only [ropW, e1, e2, e3]
  | slice s x lo hi =>
    have e1 := ev_congr (x := x) fun t ht => h t (by simp [slotsR, ht])
    have e2 := bnd_congr (x := lo) fun t ht => h t (by simp [slotsR, ht])
    have e3 := bnd_congr (x := hi) fun t ht => h t (by simp [slotsR, ht])
    simp only [ropW, e1, e2, e3]
  | sliceP n s x lo hi =>
    have e1 := ev_congr (x := x) fun t ht => h t (by simp [slotsR, ht])
    have e2 := bnd_congr (x := lo) fun t ht => h t (by simp [slotsR, ht])
    have e3 := bnd_congr (x := hi) fun t ht => h t (by simp [slotsR, ht])
    simp only [ropW, e1, e2, e3]
  | call f args =>
    have e1 := ev_congr (x := f) fun t ht => h t (by simp only [slotsR]; exact List.mem_append_left _ ht)
    have e2 := evs_congr (l := args) fun t ht => h t (by simp only [slotsR]; exact List.mem_append_right _ ht)
    simp only [ropW, e1, e2]
end
end Go.Proofs.YtlmplfgnhibfcaaDoor.Abs
