/- The abstract logic, part M: resolved operations, regions and statements; they stand for the program's own. -/
import Derived.Test.YtlmplfgnhibfcaaDoorAbsL
set_option linter.unusedVariables false
set_option linter.unusedSimpArgs false
namespace Go.Proofs.YtlmplfgnhibfcaaDoor.Abs
open Go Go.RowKit

section
variable {P : Program} {W0 : World} {fr : Fr} {σ : List Blk} {K K' : Cont}

/-- a computation that only looks has one value -/
def LD (σ : List Blk) (R : Cont → Prop) (K : Cont) : Prop := ∃ av, K av σ ∧ ∀ K' : Cont, K' av σ → R K'

theorem pickR_ld {c a b : AV} (h : pickR c a b σ K) : LD σ (pickR c a b σ) K := by
  unfold pickR at h
  split at h
  · rename_i t
    cases t with
    | true => exact ⟨_, h.1 rfl, fun K' h' => ⟨fun _ => h', fun e => by cases e⟩⟩
    | false => exact ⟨_, h.2 rfl, fun K' h' => ⟨fun e => (by cases e), fun _ => h'⟩⟩
  · exact h.elim
theorem loadR_ld {s : Nat} {g : Bool} {a : AV} (h : loadR W0 s g a σ K) : LD σ (loadR W0 s g a σ) K := by
  unfold loadR at h
  split at h
  · obtain ⟨B, h1, h2, h3, hk⟩ := h; exact ⟨_, hk, fun K' h' => ⟨B, h1, h2, h3, h'⟩⟩
  · obtain ⟨B, h1, h2, h3, hk⟩ := h; exact ⟨_, hk, fun K' h' => ⟨B, h1, h2, h3, h'⟩⟩
  · exact h.elim
theorem faddrR_ld {off : Nat} {a : AV} (h : faddrR off a σ K) : LD σ (faddrR off a σ) K := by
  unfold faddrR at h
  split at h
  · exact ⟨_, h.2, fun K' h' => ⟨h.1, h'⟩⟩
  · exact ⟨_, h, fun K' h' => h'⟩
  · exact h.elim
theorem fldR_ld {off n : Nat} {g : Bool} {a : AV} (h : fldR off n g a σ K) : LD σ (fldR off n g a σ) K := by
  unfold fldR at h
  split at h
  · split at h
    · rename_i v hv
      exact ⟨_, h, fun K' h' => by unfold fldR; dsimp only; rw [hv]; exact h'⟩
    · exact h.elim
  · exact h.elim
theorem iaddrAR_ld {len s : Nat} {a i : AV} (h : iaddrAR len s a i σ K) : LD σ (iaddrAR len s a i σ) K := by
  unfold iaddrAR at h
  split at h
  · exact ⟨_, h.2.2.2, fun K' h' => ⟨h.1, h.2.1, h.2.2.1, h'⟩⟩
  · exact ⟨_, h.2.2, fun K' h' => ⟨h.1, h.2.1, h'⟩⟩
  · exact h.elim
theorem iaddrSR_ld {s : Nat} {a i : AV} (h : iaddrSR s a i σ K) : LD σ (iaddrSR s a i σ) K := by
  unfold iaddrSR at h
  split at h
  · exact ⟨_, h.2.2.2, fun K' h' => ⟨h.1, h.2.1, h.2.2.1, h'⟩⟩
  · exact ⟨_, h.2.2, fun K' h' => ⟨h.1, h.2.1, h'⟩⟩
  · exact h.elim
theorem idxAR_ld {len s : Nat} {g : Bool} {a i : AV} (h : idxAR len s g a i σ K) : LD σ (idxAR len s g a i σ) K := by
  unfold idxAR at h
  split at h
  · obtain ⟨h1, h2, h⟩ := h
    split at h
    · rename_i v hv
      exact ⟨_, h, fun K' h' => by unfold idxAR; dsimp only; rw [hv]; exact ⟨h1, h2, h'⟩⟩
    · exact h.elim
  · exact h.elim
theorem idxSR_ld {a i : AV} (h : idxSR a i σ K) : LD σ (idxSR a i σ) K := by
  unfold idxSR at h
  split at h
  · exact ⟨_, h.2.2, fun K' h' => ⟨h.1, h.2.1, h'⟩⟩
  · exact h.elim
theorem lenSR_ld {x : AV} (h : lenSR x σ K) : LD σ (lenSR x σ) K := by
  unfold lenSR at h
  split at h
  · exact ⟨_, h, fun K' h' => h'⟩
  · exact h.elim
theorem lenLR_ld {x : AV} (h : lenLR x σ K) : LD σ (lenLR x σ) K := by
  unfold lenLR at h
  split at h
  · exact ⟨_, h, fun K' h' => h'⟩
  · exact ⟨_, h.2, fun K' h' => ⟨h.1, h'⟩⟩
  · exact h.elim
theorem strLR_ld {x : AV} (h : strLR x σ K) : LD σ (strLR x σ) K := by
  unfold strLR at h
  split at h
  · obtain ⟨B, xs, h1, h2, h3, h4, hk⟩ := h
    exact ⟨_, hk, fun K' h' => ⟨B, xs, h1, h2, h3, h4, h'⟩⟩
  · exact h.elim
theorem intR_ld {op : BinOp} {x y : AV} (h : intR op x y σ K) : LD σ (intR op x y σ) K := by
  unfold intR at h
  split at h
  · cases op <;> first
      | exact ⟨_, h.2.2, fun K' h' => ⟨h.1, h.2.1, h'⟩⟩
      | exact ⟨_, h.2, fun K' h' => ⟨h.1, h'⟩⟩
  · exact h.elim
theorem strR_ld {op : BinOp} {x y : AV} (h : strR op x y σ K) : LD σ (strR op x y σ) K := by
  unfold strR at h
  split at h
  · cases op <;> first
      | exact h.elim
      | exact ⟨_, h, fun K' h' => h'⟩
      | exact ⟨_, h.2, fun K' h' => ⟨h.1, h'⟩⟩
  · exact h.elim
theorem boolR_ld {neg : Bool} {x y : AV} (h : boolR neg x y σ K) : LD σ (boolR neg x y σ) K := by
  unfold boolR at h
  split at h
  · exact ⟨_, h, fun K' h' => h'⟩
  · exact h.elim
theorem nilSR_ld {neg : Bool} {x : AV} (h : nilSR neg x σ K) : LD σ (nilSR neg x σ) K := by
  unfold nilSR at h
  split at h
  · exact ⟨_, h, fun K' h' => h'⟩
  · exact ⟨_, h.2, fun K' h' => ⟨h.1, h'⟩⟩
  · exact h.elim
theorem nilIR_ld {neg : Bool} {x : AV} (h : nilIR neg x σ K) : LD σ (nilIR neg x σ) K := by
  unfold nilIR at h
  split at h
  · exact ⟨_, h, fun K' h' => h'⟩
  · exact ⟨_, h, fun K' h' => h'⟩
  · exact h.elim
theorem nilPR_ld {neg : Bool} {x : AV} (h : nilPR neg x σ K) : LD σ (nilPR neg x σ) K := by
  unfold nilPR at h
  split at h
  · exact ⟨_, h.2, fun K' h' => ⟨h.1, h'⟩⟩
  · exact h.elim
theorem eqAR_ld {neg : Bool} {ks : List CK} {x y : AV} (h : eqAR neg ks x y σ K) : LD σ (eqAR neg ks x y σ) K := by
  unfold eqAR at h
  split at h
  · split at h
    · rename_i vs us e1 e2
      split at h
      · rename_i b hb
        exact ⟨_, h, fun K' h' => by unfold eqAR; dsimp only; rw [e1, e2]; dsimp only; rw [hb]; exact h'⟩
      · exact h.elim
    · exact h.elim
  · exact h.elim
theorem extR_ld {x : AV} {i : Nat} (h : extR x i σ K) : LD σ (extR x i σ) K := by
  unfold extR at h
  split at h
  · split at h
    · rename_i v hv
      exact ⟨_, h, fun K' h' => by unfold extR; dsimp only; rw [hv]; exact h'⟩
    · exact h.elim
  · exact h.elim
theorem nilckR_ld {x : AV} (h : nilckR x σ K) : LD σ (nilckR x σ) K := by
  unfold nilckR at h
  split at h
  · exact ⟨_, h.2, fun K' h' => ⟨h.1, h'⟩⟩
  · exact ⟨_, h, fun K' h' => h'⟩
  · exact ⟨_, h, fun K' h' => h'⟩
  · exact ⟨_, h, fun K' h' => h'⟩
  · exact h.elim
theorem sliceSR_ld {x : AV} {lo hi : Int → Option Int} (h : sliceSR x lo hi σ K) : LD σ (sliceSR x lo hi σ) K := by
  unfold sliceSR at h
  split at h
  · split at h
    · rename_i l hh e1 e2
      obtain ⟨a1, a2, a3, hk⟩ := h
      exact ⟨_, hk, fun K' h' => by unfold sliceSR; dsimp only; rw [e1, e2]; exact ⟨a1, a2, a3, h'⟩⟩
    · exact h.elim
  · exact h.elim
theorem sliceR_ld {s : Nat} {x : AV} {lo hi : Int → Option Int} (h : sliceR s x lo hi σ K) : LD σ (sliceR s x lo hi σ) K := by
  unfold sliceR at h
  split at h
  · split at h
    · rename_i l hh e1 e2
      obtain ⟨B, b1, b2, b3, a1, a2, a3, hk⟩ := h
      exact ⟨_, hk, fun K' h' => by unfold sliceR; dsimp only; rw [e1, e2]; exact ⟨B, b1, b2, b3, a1, a2, a3, h'⟩⟩
    · exact h.elim
  · split at h
    · rename_i l hh e1 e2
      obtain ⟨a1, a2, a3, hk⟩ := h
      exact ⟨_, hk, fun K' h' => by unfold sliceR; dsimp only; rw [e1, e2]; exact ⟨a1, a2, a3, h'⟩⟩
    · exact h.elim
  · split at h
    · rename_i l hh e1 e2
      obtain ⟨a1, a2, hk⟩ := h
      exact ⟨_, hk, fun K' h' => by unfold sliceR; (try dsimp only); rw [e1, e2]; exact ⟨a1, a2, h'⟩⟩
    · exact h.elim
  · exact h.elim
theorem slicePR_ld {n s : Nat} {x : AV} {lo hi : Int → Option Int} (h : slicePR n s x lo hi σ K) : LD σ (slicePR n s x lo hi σ) K := by
  unfold slicePR at h
  split at h
  · split at h
    · rename_i l hh e1 e2
      obtain ⟨B, b1, b2, b3, a0, a1, a2, a3, hk⟩ := h
      exact ⟨_, hk, fun K' h' => by unfold slicePR; dsimp only; rw [e1, e2]; exact ⟨B, b1, b2, b3, a0, a1, a2, a3, h'⟩⟩
    · exact h.elim
  · exact h.elim
theorem unW_ld {op : UnOp} {x : AV} (h : unW op x σ K) : LD σ (unW op x σ) K := by
  unfold unW at h
  split at h
  · exact ⟨_, h, fun K' h' => h'⟩
  · exact ⟨_, h, fun K' h' => h'⟩
  · exact ⟨_, h, fun K' h' => h'⟩
  · exact h.elim

def looksR : ROp → Bool
  | .alloc _ _ | .box _ _ | .bslice _ _ _ _ _ | .store _ _ _ | .mkslice _ _ _ _ _ _ | .call _ _ | .append _ _ _ _ _ _ => false
  | _ => true

theorem ropW_ld {o : ROp} (hl : looksR o = true) (h : ropW P W0 o fr σ K) : LD σ (ropW P W0 o fr σ) K := by
  cases o with
  | build zc parts =>
    simp only [ropW] at h
    split at h
    · rename_i he
      exact ⟨_, h, fun K' h' => by (simp only [ropW]; rw [he]; exact h')⟩
    · exact h.elim
  | conv k x =>
    simp only [ropW] at h
    split at h
    · rename_i he
      exact ⟨_, h, fun K' h' => by (simp only [ropW]; rw [he]; exact h')⟩
    · exact h.elim
  | sliceS x lo hi => exact sliceSR_ld (lo := fun d => bndR fr d lo) (hi := fun d => bndR fr d hi) h
  | slice s x lo hi => exact sliceR_ld (lo := fun d => bndR fr d lo) (hi := fun d => bndR fr d hi) h
  | sliceP n s x lo hi => exact slicePR_ld (lo := fun d => bndR fr d lo) (hi := fun d => bndR fr d hi) h
  | _ => first
    | (simp [looksR] at hl; done)
    | exact ⟨_, h, fun K' h' => h'⟩
    | exact pickR_ld h
    | exact loadR_ld h
    | exact faddrR_ld h
    | exact fldR_ld h
    | exact iaddrAR_ld h
    | exact iaddrSR_ld h
    | exact idxAR_ld h
    | exact idxSR_ld h
    | exact lenSR_ld h
    | exact lenLR_ld h
    | exact strLR_ld h
    | exact intR_ld h
    | exact strR_ld h
    | exact boolR_ld h
    | exact nilSR_ld h
    | exact nilIR_ld h
    | exact nilPR_ld h
    | exact eqAR_ld h
    | exact extR_ld h
    | exact nilckR_ld h
    | exact unW_ld h
    | (obtain ⟨a1, a2, hk⟩ := h
       exact ⟨_, hk, fun K' h' => ⟨a1, a2, h'⟩⟩)

theorem callW_mono {f : AV} {args : List AV} (h : callW P W0 f args σ K) (hk : ∀ v σ', K v σ' → K' v σ') : callW P W0 f args σ K' := by
  unfold callW at h ⊢
  split at h
  · exact ⟨h.1, h.2.1, h.2.2.mono hk⟩
  · exact h.mono hk
  · exact h.elim
theorem appendR_mono {e esz by_ : Nat} {s : AV} {m : Nat} {news : List AV} (h : appendR e esz by_ s m news σ K) (hk : ∀ v σ', K v σ' → K' v σ') : appendR e esz by_ s m news σ K' := by
  unfold appendR at h
  split at h
  · obtain ⟨B, a1, a2, a3, a4, a5, a6, a7, a8, a9, a10, a11, h⟩ := h
    exact ⟨B, a1, a2, a3, a4, a5, a6, a7, a8, a9, a10, a11, fun c h1 h2 => hk _ _ (h c h1 h2)⟩
  · obtain ⟨a1, a2, a3, a4, h, h'⟩ := h
    exact ⟨a1, a2, a3, a4, fun e => hk _ _ (h e), fun e c h1 h2 => hk _ _ (h' e c h1 h2)⟩
  · exact h.elim

theorem ropW_mono {o : ROp} (h : ropW P W0 o fr σ K) (hk : ∀ v σ', K v σ' → K' v σ') : ropW P W0 o fr σ K' := by
  by_cases hl : looksR o = true
  · obtain ⟨av, h1, h2⟩ := ropW_ld hl h
    exact h2 _ (hk _ _ h1)
  · cases o <;> first | (exact (hl rfl).elim) | skip
    · unfold ropW at h ⊢
      simp only [fS_eq] at h ⊢
      exact hk _ _ h
    · unfold ropW boxW at h ⊢
      simp only [fS_eq] at h ⊢
      split at h
      · exact hk _ _ h
      · exact h.elim
    · unfold ropW at h ⊢
      simp only [fS_eq] at h ⊢
      split at h
      · exact hk _ _ h
      · exact h.elim
    · unfold ropW storeR at h ⊢
      simp only [fS_eq] at h ⊢
      split at h
      · obtain ⟨B, a1, a2, a3, a4, h⟩ := h
        exact ⟨B, a1, a2, a3, a4, hk _ _ h⟩
      · exact h.elim
    · unfold ropW mksliceR at h ⊢
      dsimp only at h ⊢
      split at h
      · obtain ⟨a1, a2, a3, a4, a5, h⟩ := h
        exact ⟨a1, a2, a3, a4, a5, hk _ _ h⟩
      · exact h.elim
    · unfold ropW at h ⊢
      simp only [fL_eq] at h ⊢
      exact callW_mono h hk
    · unfold ropW srcR at h ⊢
      dsimp only at h ⊢
      split at h
      · obtain ⟨B, a1, a2, a3, h⟩ := h
        exact ⟨B, a1, a2, a3, appendR_mono h hk⟩
      · obtain ⟨B, a1, a2, a3, h⟩ := h
        exact ⟨B, a1, a2, a3, appendR_mono h hk⟩
      · exact h.elim
end

/-! ### regions -/
inductive RI where
  | op (d : Option Nat) (o : ROp)
  | grp (g : Nat) (b : Bool) (body : List (Option Nat × ROp))
  | app (d : Option Nat) (d0 e esz by_ : Nat) (s : RA) (len : Nat) (zc : List AV) (parts : List (Nat × RA))

def runB (P : Program) (W0 : World) (l : List (Option Nat × ROp)) : Fr → List Blk → (Fr → List Blk → Prop) → Prop :=
  List.rec (motive := fun _ => Fr → List Blk → (Fr → List Blk → Prop) → Prop) (fun fr σ K => K fr σ)
    (fun o _ ih fr σ K => ropW P W0 o.2 fr σ fun av σ' => fv av fun av => ih (updO fr o.1 av) σ' K) l
def skipB : List (Option Nat × ROp) → Fr → Fr
  | [], fr => fr
  | (d, _) :: rest, fr => skipB rest (updO fr d (.lit undef))
def riW (P : Program) (W0 : World) (l : List RI) : Fr → List Blk → (Fr → List Blk → Prop) → Prop :=
  List.rec (motive := fun _ => Fr → List Blk → (Fr → List Blk → Prop) → Prop) (fun fr σ K => K fr σ)
    (fun i _ ih fr σ K => match i with
      | .op d o => ropW P W0 o fr σ fun av σ' => fv av fun av => ih (updO fr d av) σ' K
      | .grp g b body => match fr g with
        | .lit (.bool t) => (t = b → runB P W0 body (upd fr g (.lit (.bool b))) σ fun fr σ => ih fr σ K) ∧ (t = !b → ih (skipB body (upd fr g (.lit (.bool (!b))))) σ K)
        | .lit _ => ih (skipB body fr) σ K
        | _ => False
      | .app d d0 e esz by_ s len zc parts => match fillR (rep len zc) (parts.map fun p => ((p.1 * esz, esz), p.2.ev fr)) with
        | some cs => appendR e esz by_ (s.ev (upd fr d0 .junk)) len cs σ fun av σ' => ih (updO (upd fr d0 .junk) d av) σ' K
        | none => False) l
section
variable {P : Program} {W0 : World} {rest : List RI} {fr : Fr} {σ : List Blk} {K : Fr → List Blk → Prop}
theorem riW_op {d : Option Nat} {o : ROp} : riW P W0 (.op d o :: rest) fr σ K = ropW P W0 o fr σ fun av σ' => fv av fun av => riW P W0 rest (updO fr d av) σ' K := rfl
theorem riW_grp {g : Nat} {b : Bool} {body : List (Option Nat × ROp)} : riW P W0 (.grp g b body :: rest) fr σ K = match fr g with
    | .lit (.bool t) => (t = b → runB P W0 body (upd fr g (.lit (.bool b))) σ fun fr σ => riW P W0 rest fr σ K) ∧ (t = !b → riW P W0 rest (skipB body (upd fr g (.lit (.bool (!b))))) σ K)
    | .lit _ => riW P W0 rest (skipB body fr) σ K
    | _ => False := rfl
theorem runB_cons {d : Option Nat} {o : ROp} {body : List (Option Nat × ROp)} : runB P W0 ((d, o) :: body) fr σ K = ropW P W0 o fr σ fun av σ' => fv av fun av => runB P W0 body (updO fr d av) σ' K := rfl
theorem runB_nil : runB P W0 [] fr σ K = K fr σ := rfl
theorem riW_app {d : Option Nat} {d0 e esz by_ : Nat} {s : RA} {len : Nat} {zc : List AV} {parts : List (Nat × RA)} : riW P W0 (.app d d0 e esz by_ s len zc parts :: rest) fr σ K = match fillR (rep len zc) (parts.map fun p => ((p.1 * esz, esz), p.2.ev fr)) with
    | some cs => appendR e esz by_ (s.ev (upd fr d0 .junk)) len cs σ fun av σ' => riW P W0 rest (updO (upd fr d0 .junk) d av) σ' K
    | none => False := rfl
end

def qOne (P : Program) (W0 : World) (o : ROp) (fr : Fr) (σ : List Blk) (K : AV → Prop) : Prop :=
  match o with
  | .call f args => ∃ av, callW P W0 (f.ev fr) (args.map (RA.ev fr)) σ (fun v σ' => v = av ∧ σ' = σ) ∧ det3 σ av ∧ K av
  | o => looksR o = true ∧ ropW P W0 o fr σ fun v σ' => σ' = σ ∧ det3 σ v ∧ K v
def qB (P : Program) (W0 : World) (l : List (Option Nat × ROp)) : Fr → List Blk → (Fr → Prop) → Prop :=
  List.rec (motive := fun _ => Fr → List Blk → (Fr → Prop) → Prop) (fun fr σ K => K fr)
    (fun o _ ih fr σ K => qOne P W0 o.2 fr σ fun av => fv av fun av => ih (updO fr o.1 av) σ K) l
def qR (P : Program) (W0 : World) (l : List RI) : Fr → List Blk → (Fr → Prop) → Prop :=
  List.rec (motive := fun _ => Fr → List Blk → (Fr → Prop) → Prop) (fun fr σ K => K fr)
    (fun i _ ih fr σ K => match i with
      | .op d o => qOne P W0 o fr σ fun av => fv av fun av => ih (updO fr d av) σ K
      | .grp g b body => match fr g with
        | .lit (.bool t) => (t = b → qB P W0 body (upd fr g (.lit (.bool b))) σ fun fr => ih fr σ K) ∧ (t = !b → ih (skipB body (upd fr g (.lit (.bool (!b))))) σ K)
        | .lit _ => ih (skipB body fr) σ K
        | _ => False
      | .app _ _ _ _ _ _ _ _ _ => False) l
theorem qR_grp {P : Program} {W0 : World} {rest : List RI} {fr : Fr} {σ : List Blk} {K : Fr → Prop} {g : Nat} {b : Bool} {body : List (Option Nat × ROp)} : qR P W0 (.grp g b body :: rest) fr σ K = match fr g with
    | .lit (.bool t) => (t = b → qB P W0 body (upd fr g (.lit (.bool b))) σ fun fr => qR P W0 rest fr σ K) ∧ (t = !b → qR P W0 rest (skipB body (upd fr g (.lit (.bool (!b))))) σ K)
    | .lit _ => qR P W0 rest (skipB body fr) σ K
    | _ => False := rfl

def dOKb (n : Nat) : Option Nat → Bool
  | some d => decide (d < n)
  | none => true
theorem dOKb_ok {n : Nat} {d : Option Nat} (h : dOKb n d = true) : dOK n d := by
  cases d with
  | none => trivial
  | some d => simpa [dOKb, dOK] using h

def addG (g : Nat) (b : Bool) (d : Option Nat) (r : ROp) : List RI → List RI
  | .grp g' b' body :: l => if g' = g ∧ b' = b ∧ d ≠ some g then .grp g b ((d, r) :: body) :: l else .grp g b [(d, r)] :: .grp g' b' body :: l
  | l => .grp g b [(d, r)] :: l

/-- whether an operation makes a row that the next one appends -/
def feeder (o : Oper) (rest : List Oper) : Bool :=
  match o.op, o.dst with
  | .buildSlice _ _ _, some d => feeds d rest && o.guard.isNone
  | _, _ => false

def appOf (P : Program) (o o2 : Oper) : Option RI :=
  match o.op, o.dst, o2.op with
  | .buildSlice t len parts, some d, .call c => match c.callee, c.args.toList, c.argTypes.toList with
    | .builtin .append, [s, .tmp d'], [t1, t2] => if d' = d ∧ t1 = t ∧ t2 = t ∧ o2.guard = none then
        match sliceP P t with
        | some (e, esz, by_) => match zcP P e with
          | some zc => if zc.length = esz ∧ len * esz ≤ 16777216 then some (.app o2.dst d e esz by_ (cA s) len zc (rowParts parts.toList)) else none
          | none => none
        | none => none
      else none
    | _, _, _ => none
  | _, _, _ => none

def compOps (P : Program) (n : Nat) (ops : Array Oper) : List Oper → Option (List RI)
  | [] => some []
  | o :: rest => if dOKb n o.dst then
      if feeder o rest then match rest with
        | [] => none
        | o2 :: rest2 => if dOKb n o2.dst then match appOf P o o2, compOps P n ops rest2 with
          | some it, some l => some (it :: l)
          | _, _ => none
          else none
      else match compOp P o.op, compOps P n ops rest with
        | some r, some l => match o.guard with
          | none => some (.op o.dst r :: l)
          | some (j, b) => match (ops[j]?).bind (·.dst) with
            | some g => some (addG g b o.dst r l)
            | none => none
        | _, _ => none
    else none

section
variable {P : Program} {W0 : World} {n : Nat} {ops : Array Oper}

theorem updO_ne {fr : Fr} {d : Option Nat} {v : AV} {g : Nat} (h : d ≠ some g) : updO fr d v g = fr g := by
  cases d with
  | none => rfl
  | some d =>
    simp only [updO, upd]
    rw [if_neg (fun e => h (by rw [e]))]

theorem upd_at {fr : Fr} {g : Nat} {v : AV} (h : fr g = v) : upd fr g v = fr := by
  funext t
  unfold upd
  split
  · rename_i e; rw [e, h]
  · rfl
theorem grp_in {fr : Fr} {g : Nat} {b t : Bool} {A : Fr → Prop} {B : Fr → Prop} (ht : fr g = .lit (.bool t)) (h : (t = b → A (upd fr g (.lit (.bool b)))) ∧ (t = !b → B (upd fr g (.lit (.bool (!b)))))) : (t = b → A fr) ∧ (t = !b → B fr) :=
  ⟨fun e => by (have h1 := h.1 e; rw [← e, upd_at ht] at h1; exact h1), fun e => by (have h1 := h.2 e; rw [← e, upd_at ht] at h1; exact h1)⟩
theorem grp_out {fr : Fr} {g : Nat} {b t : Bool} {A : Fr → Prop} {B : Fr → Prop} (ht : fr g = .lit (.bool t)) (h : (t = b → A fr) ∧ (t = !b → B fr)) : (t = b → A (upd fr g (.lit (.bool b)))) ∧ (t = !b → B (upd fr g (.lit (.bool (!b))))) :=
  ⟨fun e => by (have h1 := h.1 e; rw [← e, upd_at ht]; exact h1), fun e => by (have h1 := h.2 e; rw [← e, upd_at ht]; exact h1)⟩

theorem opsW_step {o : Oper} {rest : List Oper} {fr : Fr} {σ : List Blk} {K : Fr → List Blk → Prop} (hd : dOK n o.dst) (hf : feeder o rest = false)
    (h : guardW ops fr o.guard (opW P W0 o.op (evA fr) σ fun av σ' => opsW P W0 n ops none rest (updO fr o.dst av) σ' K) (opsW P W0 n ops none rest (updO fr o.dst (.lit undef)) σ K)) :
    opsW P W0 n ops none (o :: rest) fr σ K := by
  unfold opsW
  refine ⟨hd, ?_⟩
  split
  · rename_i t len parts d h1 h2 h3
    exfalso
    unfold feeder at hf
    rw [h1, h2] at hf
    dsimp only at hf
    rw [h2] at h3
    simp only [Option.getD_some] at h3
    rw [h3] at hf
    cases hf
  · exact h

theorem compOps_sound {K : Fr → List Blk → Prop} : ∀ (m : Nat) (l : List Oper) (is : List RI) (fr : Fr) (σ : List Blk), l.length ≤ m → compOps P n ops l = some is → riW P W0 is fr σ K → opsW P W0 n ops none l fr σ K
  | m, [], is, fr, σ, hm, hc, h => by
    simp only [compOps, Option.some.injEq] at hc; subst hc
    exact h
  | 0, o :: rest, is, fr, σ, hm, hc, h => by simp at hm
  | m + 1, o :: rest, is, fr, σ, hm, hc, h => by
    have hm' : rest.length ≤ m := by simpa using hm
    unfold compOps at hc
    split at hc
    · rename_i hd
      have hd := dOKb_ok hd
      split at hc
      · rename_i hfe
        split at hc
        · cases hc
        · rename_i o2 rest2
          split at hc
          · rename_i hd2
            have hd2 := dOKb_ok hd2
            split at hc
            · rename_i it l hit hl
              cases hc
              unfold appOf at hit
              split at hit
              · rename_i t len parts d c hop hdst hop2
                split at hit
                · rename_i s d' t1 t2 hcal hargs hts
                  split at hit
                  · rename_i hcond
                    obtain ⟨rfl, rfl, rfl, hg2⟩ := hcond
                    split at hit
                    · rename_i e esz by_ hs
                      split at hit
                      · rename_i zc hz
                        split at hit
                        · rename_i hlen
                          cases hit
                          obtain ⟨z, h1, h2⟩ := zcP_inv hz
                          rw [riW_app] at h
                          split at h
                          · rename_i cs hcs
                            unfold opsW
                            refine ⟨hd, ?_⟩
                            have hfe' : (feeds (o.dst.getD 0) (o2 :: rest2) && o.guard.isNone) = true := by
                              unfold feeder at hfe
                              rw [hop, hdst] at hfe
                              rw [hdst]
                              exact hfe
                            rw [hfe', hop, hdst]
                            dsimp only
                            unfold litRowW
                            rw [hs]
                            dsimp only
                            rw [h1]
                            dsimp only
                            rw [h2]
                            dsimp only
                            refine ⟨hlen.1, hlen.2, ?_⟩
                            unfold partsA
                            rw [fillR_row _ _ _ hcs]
                            dsimp only
                            unfold opsW
                            refine ⟨hd2, hg2, ?_⟩
                            rw [hop2]
                            dsimp only
                            rw [hcal, hargs, hts]
                            dsimp only
                            refine ⟨rfl, rfl, rfl, ?_⟩
                            have h' := appendR_mono h (K' := fun av σ' => opsW P W0 n ops none rest2 (updO (upd fr d' .junk) o2.dst av) σ' K) fun v σ' hk => compOps_sound m rest2 l _ _ (by simp at hm'; omega) hl hk
                            rw [cA_ev] at h'
                            unfold appendR at h'
                            unfold appendW
                            rw [hs]
                            split at h'
                            · rename_i he; rw [he]; exact h'
                            · rename_i he; rw [he]; exact h'
                            · exact h'.elim
                          · exact h.elim
                        · cases hit
                      · cases hit
                    · cases hit
                  · cases hit
                · cases hit
              · cases hit
            · cases hc
          · cases hc
      · rename_i hfe
        have hfe : feeder o rest = false := by simpa using hfe
        split at hc
        · rename_i r l hr hl
          refine opsW_step hd hfe ?_
          have rest_ok : ∀ fr σ, riW P W0 l fr σ K → opsW P W0 n ops none rest fr σ K := fun fr σ h => compOps_sound m rest l fr σ hm' hl h
          split at hc
          · rename_i hg
            cases hc
            rw [hg]
            rw [riW_op] at h
            exact compOp_sound hr (ropW_mono h fun v σ' hk => rest_ok _ _ (fv_out hk))
          · rename_i j b hg
            split at hc
            · rename_i g hj
              cases hc
              rw [hg]
              unfold guardW
              dsimp only
              rw [hj]
              dsimp only
              have single : riW P W0 (.grp g b [(o.dst, r)] :: l) fr σ K → match fr g with
                  | .lit (.bool t) => (t = b → opW P W0 o.op (evA fr) σ fun av σ' => opsW P W0 n ops none rest (updO fr o.dst av) σ' K) ∧ (t = !b → opsW P W0 n ops none rest (updO fr o.dst (.lit undef)) σ K)
                  | .lit _ => opsW P W0 n ops none rest (updO fr o.dst (.lit undef)) σ K
                  | _ => False := by
                intro h
                rw [riW_grp] at h
                split at h
                · rename_i t ht
                  have h := grp_in (A := fun fr => runB P W0 _ fr σ fun fr σ => riW P W0 l fr σ K) (B := fun fr => riW P W0 l (skipB _ fr) σ K) ht h
                  refine ⟨fun e => ?_, fun e => rest_ok _ _ (h.2 e)⟩
                  have h1 := h.1 e
                  simp only [runB_cons, runB_nil] at h1
                  exact compOp_sound hr (ropW_mono h1 fun v σ' hk => rest_ok _ _ (fv_out hk))
                · rename_i v hne ht
                  exact rest_ok _ _ h
                · exact h.elim
              unfold addG at h
              split at h
              · rename_i g' b' body l'
                split at h
                · rename_i hcond
                  obtain ⟨rfl, rfl, hne⟩ := hcond
                  rw [riW_grp] at h
                  split at h
                  · rename_i t ht
                    rw [ht]
                    have h := grp_in (A := fun fr => runB P W0 _ fr σ fun fr σ => riW P W0 l' fr σ K) (B := fun fr => riW P W0 l' (skipB _ fr) σ K) ht h
                    refine ⟨fun e => compOp_sound hr (ropW_mono (runB_cons (K := fun fr σ => riW P W0 l' fr σ K) ▸ h.1 e) fun v σ' hk => rest_ok _ _ ?_), fun e => rest_ok _ _ ?_⟩
                    · have e2 : updO fr o.dst v g' = .lit (.bool t) := by rw [updO_ne hne, ht]
                      simp only [riW_grp, e2]
                      refine grp_out (A := fun fr => runB P W0 body fr σ' fun fr σ => riW P W0 l' fr σ K) (B := fun fr => riW P W0 l' (skipB body fr) σ' K) e2 ?_
                      exact ⟨fun _ => fv_out hk, fun e' => by (subst e; cases t <;> cases e')⟩
                    · have e2 : updO fr o.dst (.lit undef) g' = .lit (.bool t) := by rw [updO_ne hne, ht]
                      simp only [riW_grp, e2]
                      refine grp_out (A := fun fr => runB P W0 body fr σ fun fr σ => riW P W0 l' fr σ K) (B := fun fr => riW P W0 l' (skipB body fr) σ K) e2 ?_
                      exact ⟨fun e' => by (subst e'; cases t <;> cases e), fun _ => h.2 e⟩
                  · rename_i v hnb ht
                    rw [ht]
                    have hrest : opsW P W0 n ops none rest (updO fr o.dst (.lit undef)) σ K := by
                      refine rest_ok _ _ ?_
                      rw [riW_grp]
                      rw [updO_ne hne, ht]
                      cases v <;> first | exact h | exact (hnb _ rfl).elim
                    cases v <;> first | exact hrest | exact (hnb _ rfl).elim
                  · exact h.elim
                · exact single h
              · exact single h
            · cases hc
        · cases hc
    · cases hc

theorem qOne_sound {o : Oper} {r : ROp} {fr : Fr} {σ : List Blk} {K : AV → Prop} (hc : compOp P o.op = some r) (h : qOne P W0 r fr σ K) : ∃ av, det3 σ av ∧ quietOp P W0 o fr σ av ∧ K av := by
  have look : ∀ (hl : looks o.op = true) (hlr : looksR r = true), ropW P W0 r fr σ (fun v σ' => σ' = σ ∧ det3 σ v ∧ K v) → ∃ av, det3 σ av ∧ quietOp P W0 o fr σ av ∧ K av := by
    intro hl hlr h
    obtain ⟨av, ⟨_, h1, h2⟩, h3⟩ := ropW_ld hlr h
    refine ⟨av, h1, ?_, h2⟩
    unfold quietOp
    rw [hl]
    exact compOp_sound hc (h3 (fun v σ' => v = av ∧ σ' = σ) ⟨rfl, rfl⟩)
  by_cases hl : looks o.op = true
  · have hlr : looksR r = true ∨ looksR r = false := by cases looksR r <;> simp
    rcases hlr with hlr | hlr
    · refine look hl hlr ?_
      cases r <;> first | exact h.2 | (simp [looksR] at hlr)
    · cases r <;> first | (simp [looksR] at hlr; done) | (have := h.1; rw [hlr] at this; cases this; done) | skip
      exfalso
      cases ho : o.op with
      | call c =>
        rw [ho] at hl hc
        obtain ⟨callee, args, argTypes⟩ := c
        cases callee with
        | value f => simp [looks] at hl
        | builtin b =>
          cases b <;> first | (simp [looks] at hl; done) | skip
          unfold compOp at hc
          dsimp only at hc
          split at hc
          · split at hc
            · cases hc
            · split at hc <;> cases hc
          · cases hc
        | _ => simp [looks] at hl
      | slice t x lo hi max =>
        rw [ho] at hl hc
        cases max with
        | some m => simp [looks] at hl
        | none =>
          unfold compOp at hc
          dsimp only at hc
          split at hc
          · cases hc
          · split at hc
            · cases hc
            · split at hc <;> cases hc
      | binOp op t x y ty =>
        rw [ho] at hc
        simp only [compOp, compBin] at hc
        repeat' (split at hc)
        all_goals first
          | (cases hc; done)
          | (obtain ⟨n, hn, e⟩ := Option.map_eq_some_iff.1 hc; cases e; done)
      | _ =>
        rw [ho] at hl hc
        first
          | (simp [looks] at hl; done)
          | (simp only [compOp] at hc
             repeat' (split at hc)
             all_goals (cases hc; done))
          | (simp only [compOp] at hc; cases hc; done)
  · cases ho : o.op with
    | call c =>
      rw [ho] at hl hc
      obtain ⟨callee, args, argTypes⟩ := c
      cases callee with
      | value f =>
        simp only [compOp] at hc
        cases hc
        obtain ⟨av, h1, h2, h3⟩ := h
        refine ⟨av, h2, ?_, h3⟩
        unfold quietOp
        rw [ho]
        simp only [looks]
        simpa only [cA_ev, map_cA] using h1
      | builtin b =>
        exfalso
        cases b <;> first
          | (simp [looks] at hl; done)
          | (simp [compOp] at hc; done)
          | skip
        unfold compOp at hc
        dsimp only at hc
        repeat' (split at hc)
        all_goals first
          | (cases hc; done)
          | (cases hc; exact absurd h.1 (by simp [looksR]))
      | _ => simp [compOp] at hc
    | _ =>
      exfalso
      rw [ho] at hl hc
      first
        | (simp [looks] at hl; done)
        | (simp [compOp] at hc; done)
        | (simp only [compOp] at hc
           repeat' (split at hc)
           all_goals first
             | (cases hc; done)
             | (cases hc; exact absurd h.1 (by simp [looksR])))
        | (simp only [compOp] at hc
           obtain ⟨n, hn, e⟩ := Option.map_eq_some_iff.1 hc
           cases e
           exact absurd h.1 (by simp [looksR]))
        | (simp only [compOp] at hc
           cases hc
           exact absurd h.1 (by simp [looksR]))
        | (rename_i max
           cases max with
           | none => simp [looks] at hl
           | some m => simp [compOp] at hc)

theorem qW_step {o : Oper} {rest : List Oper} {fr : Fr} {σ : List Blk} {K : Fr → Prop} (hd : dOK n o.dst)
    (h : guardW ops fr o.guard (∃ av, det3 σ av ∧ quietOp P W0 o fr σ av ∧ qW P W0 n ops rest (updO fr o.dst av) σ K) (qW P W0 n ops rest (updO fr o.dst (.lit undef)) σ K)) :
    qW P W0 n ops (o :: rest) fr σ K := by
  unfold qW
  exact ⟨hd, h⟩

theorem compOps_q {σ : List Blk} {K : Fr → Prop} : ∀ (l : List Oper) (is : List RI) (fr : Fr), compOps P n ops l = some is → qR P W0 is fr σ K → qW P W0 n ops l fr σ K
  | [], is, fr, hc, h => by
    simp only [compOps, Option.some.injEq] at hc; subst hc
    exact h
  | o :: rest, is, fr, hc, h => by
    unfold compOps at hc
    split at hc
    · rename_i hd
      have hd := dOKb_ok hd
      split at hc
      · exfalso
        split at hc
        · cases hc
        · split at hc
          · split at hc
            · rename_i it l hit hl
              cases hc
              unfold appOf at hit
              repeat' (split at hit)
              all_goals first
                | (cases hit; done)
                | (cases hit; exact h.elim)
            · cases hc
          · cases hc
      · split at hc
        · rename_i r l hr hl
          refine qW_step hd ?_
          have rest_ok : ∀ fr, qR P W0 l fr σ K → qW P W0 n ops rest fr σ K := fun fr h => compOps_q rest l fr hl h
          have one : ∀ (fr : Fr) (K' : AV → Prop), qOne P W0 r fr σ K' → (∀ av, K' av → qW P W0 n ops rest (updO fr o.dst av) σ K) → ∃ av, det3 σ av ∧ quietOp P W0 o fr σ av ∧ qW P W0 n ops rest (updO fr o.dst av) σ K :=
            fun fr K' h hk => let ⟨av, h1, h2, h3⟩ := qOne_sound hr h; ⟨av, h1, h2, hk av h3⟩
          split at hc
          · rename_i hg
            cases hc
            rw [hg]
            exact one _ _ h fun av hk => rest_ok _ (fv_out hk)
          · rename_i j b hg
            split at hc
            · rename_i g hj
              cases hc
              rw [hg]
              unfold guardW
              dsimp only
              rw [hj]
              dsimp only
              have single : qR P W0 (.grp g b [(o.dst, r)] :: l) fr σ K → match fr g with
                  | .lit (.bool t) => (t = b → ∃ av, det3 σ av ∧ quietOp P W0 o fr σ av ∧ qW P W0 n ops rest (updO fr o.dst av) σ K) ∧ (t = !b → qW P W0 n ops rest (updO fr o.dst (.lit undef)) σ K)
                  | .lit _ => qW P W0 n ops rest (updO fr o.dst (.lit undef)) σ K
                  | _ => False := by
                intro h
                rw [qR_grp] at h
                split at h
                · rename_i t ht
                  have h := grp_in (A := fun fr => qB P W0 _ fr σ fun fr => qR P W0 l fr σ K) (B := fun fr => qR P W0 l (skipB _ fr) σ K) ht h
                  exact ⟨fun e => one _ _ (h.1 e) fun av hk => rest_ok _ (fv_out hk), fun e => rest_ok _ (h.2 e)⟩
                · exact rest_ok _ h
                · exact h.elim
              unfold addG at h
              split at h
              · rename_i g' b' body l'
                split at h
                · rename_i hcond
                  obtain ⟨rfl, rfl, hne⟩ := hcond
                  rw [qR_grp] at h
                  split at h
                  · rename_i t ht
                    rw [ht]
                    have h := grp_in (A := fun fr => qB P W0 _ fr σ fun fr => qR P W0 l' fr σ K) (B := fun fr => qR P W0 l' (skipB _ fr) σ K) ht h
                    refine ⟨fun e => one _ _ (h.1 e) fun av hk => rest_ok _ ?_, fun e => rest_ok _ ?_⟩
                    · have e2 : updO fr o.dst av g' = .lit (.bool t) := by rw [updO_ne hne, ht]
                      simp only [qR_grp, e2]
                      refine grp_out (A := fun fr => qB P W0 body fr σ fun fr => qR P W0 l' fr σ K) (B := fun fr => qR P W0 l' (skipB body fr) σ K) e2 ?_
                      exact ⟨fun _ => fv_out hk, fun e' => by (subst e; cases t <;> cases e')⟩
                    · have e2 : updO fr o.dst (.lit undef) g' = .lit (.bool t) := by rw [updO_ne hne, ht]
                      simp only [qR_grp, e2]
                      refine grp_out (A := fun fr => qB P W0 body fr σ fun fr => qR P W0 l' fr σ K) (B := fun fr => qR P W0 l' (skipB body fr) σ K) e2 ?_
                      exact ⟨fun e' => by (subst e'; cases t <;> cases e), fun _ => h.2 e⟩
                  · rename_i v hnb ht
                    rw [ht]
                    have hrest : qW P W0 n ops rest (updO fr o.dst (.lit undef)) σ K := by
                      refine rest_ok _ ?_
                      rw [qR_grp]
                      rw [updO_ne hne, ht]
                      cases v <;> first | exact h | exact (hnb _ rfl).elim
                    cases v <;> first | exact hrest | exact (hnb _ rfl).elim
                  · exact h.elim
                · exact single h
              · exact single h
            · cases hc
        · cases hc
    · cases hc
end
end Go.Proofs.YtlmplfgnhibfcaaDoor.Abs
