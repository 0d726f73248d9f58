import Derived.LoopN
import Derived.Test.YtcclhjohpicleaaRows
import Derived.WalkKit
import Derived.ProofKit
import Derived.OpenShut
import Derived.ShutString
import Derived.ChangeOld
import Derived.Below
import Derived.Test.YtcclhjohpicleaaProg
import Derived.Test.YtcclhjohpicleaaX2
section
/- The abstract logic, part S: a region that draws its order: what leaves no trace is taken in the order of the text, what does is tried in every order that is open; guards. -/
set_option linter.unusedVariables false
set_option linter.unusedSimpArgs false
namespace Go.Proofs.Ytcclhjohpicleaa.Abs
open Go Go.RowKit
/-- guard (its slot), destination, operation -/
structure GI where
  g : Option (Nat × Bool)
  d : Option Nat
  o : ROp
/-- a plan for a region: 'n': nothing that leaves a trace can come before; 'h': it can, and does no harm; 't': it leaves a trace -/
inductive PT
  | fin
  | n (it : GI) (r : PT)
  | h (it : GI) (r : PT)
  | t (it : GI) (r : PT)
  | both (a b : PT)
  | u (it : GI) (r : PT)
noncomputable def memB (k : Nat) (l : List Nat) : Bool := List.rec (motive := fun _ => Bool) false (fun x _ ih => cond (Nat.beq k x) true ih) l
/-- blocks may be added, those of F may be written -/
def varL (F : List Nat) (σ0 : List Blk) : Nat → List Blk → Prop :=
  List.rec (motive := fun _ => Nat → List Blk → Prop) (fun _ _ => True) (fun B _ ih k σ' => match σ' with
    | [] => False
    | B' :: σ'' => (B'.ver = B.ver ∧ B'.esz = B.esz ∧ B'.row = B.row ∧ (memB k F = false → B' = B)) ∧ ih (k + 1) σ'') σ0
def simB (σ σ' : List Blk) : Prop := ∀ (b : Nat) (B : Blk), σ[b]? = some B → ∃ B', σ'[b]? = some B' ∧ B'.ver = B.ver ∧ B'.esz = B.esz ∧ B'.row = B.row
theorem varL_get {F : List Nat} : ∀ {σ0 : List Blk} {k : Nat} {σ' : List Blk}, varL F σ0 k σ' → ∀ (b : Nat) (B : Blk), σ0[b]? = some B → ∃ B', σ'[b]? = some B' ∧ B'.ver = B.ver ∧ B'.esz = B.esz ∧ B'.row = B.row ∧ (memB (k + b) F = false → B' = B)
  | [], k, σ', h, b, B, hB => by simp at hB
  | B0 :: σ0, k, [], h, b, B, hB => h.elim
  | B0 :: σ0, k, B' :: σ', h, b, B, hB => by
    obtain ⟨h1, h2⟩ := (show (B'.ver = B0.ver ∧ B'.esz = B0.esz ∧ B'.row = B0.row ∧ (memB k F = false → B' = B0)) ∧ varL F σ0 (k + 1) σ' from h)
    cases b with
    | zero => simp at hB; subst hB; exact ⟨B', rfl, h1⟩
    | succ b =>
      obtain ⟨B'', h3, h4⟩ := varL_get h2 b B (by simpa using hB)
      exact ⟨B'', by simpa using h3, by rw [show k + (b + 1) = k + 1 + b by omega]; exact h4⟩
theorem varL_sim {F : List Nat} {σ0 σ' : List Blk} (h : varL F σ0 0 σ') : simB σ0 σ' := fun b B hB => let ⟨B', h1, h2, h3, h4, _⟩ := varL_get h b B hB; ⟨B', h1, h2, h3, h4⟩
theorem varL_refl (F : List Nat) : ∀ (σ0 : List Blk) (k : Nat), varL F σ0 k σ0
  | [], _ => trivial
  | B :: σ0, k => ⟨⟨rfl, rfl, rfl, fun _ => rfl⟩, varL_refl F σ0 (k + 1)⟩
/-- the same, and then R -/
def varC (F : List Nat) (σ0 : List Blk) (R : Prop) : Nat → List Blk → Prop :=
  List.rec (motive := fun _ => Nat → List Blk → Prop) (fun _ _ => R) (fun B _ ih k σ' => match σ' with
    | [] => False
    | B' :: σ'' => match memB k F with
      | true => B'.ver = B.ver ∧ B'.esz = B.esz ∧ B'.row = B.row ∧ ih (k + 1) σ''
      | false => B' = B ∧ ih (k + 1) σ'') σ0
theorem varC_spec {F : List Nat} {R : Prop} : ∀ {σ0 : List Blk} {k : Nat} {σ' : List Blk}, varC F σ0 R k σ' → varL F σ0 k σ' ∧ R
  | [], k, σ', h => ⟨trivial, h⟩
  | B0 :: σ0, k, [], h => h.elim
  | B0 :: σ0, k, B' :: σ', h => by
    have h' : (match memB k F with
      | true => B'.ver = B0.ver ∧ B'.esz = B0.esz ∧ B'.row = B0.row ∧ varC F σ0 R (k + 1) σ'
      | false => B' = B0 ∧ varC F σ0 R (k + 1) σ' : Prop) := h
    show ((B'.ver = B0.ver ∧ B'.esz = B0.esz ∧ B'.row = B0.row ∧ (memB k F = false → B' = B0)) ∧ varL F σ0 (k + 1) σ') ∧ R
    cases hm : memB k F with
    | true =>
      rw [hm] at h'
      obtain ⟨h1, h2, h3, h4⟩ := h'
      obtain ⟨h5, h6⟩ := varC_spec h4
      exact ⟨⟨⟨h1, h2, h3, fun e => by cases e⟩, h5⟩, h6⟩
    | false =>
      rw [hm] at h'
      obtain ⟨h1, h4⟩ := h'
      obtain ⟨h5, h6⟩ := varC_spec h4
      subst h1
      exact ⟨⟨⟨rfl, rfl, rfl, fun _ => rfl⟩, h5⟩, h6⟩
section
variable {P : Program} {W0 : World} {fr fr' : Fr} {σ : List Blk} {K K' : Cont}
def LV (R : List Blk → Cont → Prop) (σ : List Blk) (K : Cont) : Prop := ∃ av, K av σ ∧ ∀ (σ' : List Blk) (K' : Cont), simB σ σ' → K' av σ' → R σ' K'
theorem LP.lv {R : List Blk → Cont → Prop} (h : LP R σ K) : LV R σ K := let ⟨av, h1, h2⟩ := h; ⟨av, h1, fun σ' K' _ hk => h2 σ' K' hk⟩
theorem curv {b ver : Nat} {σ' : List Blk} (hs : simB σ σ') (h : ∃ B, σ[b]? = some B ∧ B.ver = ver) : ∃ B, σ'[b]? = some B ∧ B.ver = ver :=
  let ⟨B, h1, h2⟩ := h; let ⟨B', h3, h4, _⟩ := hs b B h1; ⟨B', h3, h4.trans h2⟩
theorem faddrR_lv {off : Nat} {a : AV} (h : faddrR off a σ K) : LV (fun σ => faddrR off a σ) σ K := by
  unfold faddrR at h
  split at h
  · exact ⟨_, h.2, fun τ K' hs h' => ⟨curv hs h.1, h'⟩⟩
  · exact ⟨_, h, fun τ K' _ h' => h'⟩
  · exact h.elim
theorem iaddrAR_lv {len s : Nat} {a i : AV} (h : iaddrAR len s a i σ K) : LV (fun σ => iaddrAR len s a i σ) σ K := by
  unfold iaddrAR at h
  split at h
  · exact ⟨_, h.2.2.2, fun τ K' hs h' => ⟨curv hs h.1, h.2.1, h.2.2.1, h'⟩⟩
  · exact ⟨_, h.2.2, fun τ K' _ h' => ⟨h.1, h.2.1, h'⟩⟩
  · exact h.elim
theorem iaddrSR_lv {s : Nat} {a i : AV} (h : iaddrSR s a i σ K) : LV (fun σ => iaddrSR s a i σ) σ K := by
  unfold iaddrSR at h
  split at h
  · exact ⟨_, h.2.2.2, fun τ K' hs h' => ⟨curv hs h.1, h.2.1, h.2.2.1, h'⟩⟩
  · exact ⟨_, h.2.2, fun τ K' _ h' => ⟨h.1, h.2.1, h'⟩⟩
  · exact h.elim
theorem lenLR_lv {x : AV} (h : lenLR x σ K) : LV (fun σ => lenLR x σ) σ K := by
  unfold lenLR at h
  split at h
  · exact ⟨_, h, fun τ K' _ h' => h'⟩
  · exact ⟨_, h.2, fun τ K' hs h' => ⟨curv hs h.1, h'⟩⟩
  · exact h.elim
theorem nilSR_lv {neg : Bool} {x : AV} (h : nilSR neg x σ K) : LV (fun σ => nilSR neg x σ) σ K := by
  unfold nilSR at h
  split at h
  · exact ⟨_, h, fun τ K' _ h' => h'⟩
  · exact ⟨_, h.2, fun τ K' hs h' => ⟨curv hs h.1, h'⟩⟩
  · exact h.elim
theorem nilPR_lv {neg : Bool} {x : AV} (h : nilPR neg x σ K) : LV (fun σ => nilPR neg x σ) σ K := by
  unfold nilPR at h
  split at h
  · exact ⟨_, h.2, fun τ K' hs h' => ⟨curv hs h.1, h'⟩⟩
  · exact h.elim
theorem nilckR_lv {x : AV} (h : nilckR x σ K) : LV (fun σ => nilckR x σ) σ K := by
  unfold nilckR at h
  split at h
  · exact ⟨_, h.2, fun τ K' hs h' => ⟨curv hs h.1, h'⟩⟩
  · exact ⟨_, h, fun τ K' _ h' => h'⟩
  · exact ⟨_, h, fun τ K' _ h' => h'⟩
  · exact ⟨_, h, fun τ K' _ h' => h'⟩
  · exact h.elim
theorem sliceR_lv {s : Nat} {x : AV} {lo hi : Int → Option Int} (h : sliceR s x lo hi σ K) : LV (fun σ => sliceR s x lo hi σ) σ K := by
  unfold sliceR at h
  split at h
  · split at h
    · rename_i l hh e1 e2
      obtain ⟨B, b1, b2, b3, a1, a2, a3, hk⟩ := h
      exact ⟨_, hk, fun τ K' hs h' => by
        obtain ⟨B', c1, c2, c3, c4⟩ := hs _ _ b1
        unfold sliceR; dsimp only; rw [e1, e2]; exact ⟨B', c1, c2.trans b2, fun e => c3.trans (b3 (c4 ▸ e)), a1, a2, a3, h'⟩⟩
    · exact h.elim
  · split at h
    · rename_i l hh e1 e2
      obtain ⟨a1, a2, a3, hk⟩ := h
      exact ⟨_, hk, fun τ K' _ h' => by unfold sliceR; dsimp only; rw [e1, e2]; exact ⟨a1, a2, a3, h'⟩⟩
    · exact h.elim
  · split at h
    · rename_i l hh e1 e2
      obtain ⟨a1, a2, hk⟩ := h
      exact ⟨_, hk, fun τ K' _ h' => by unfold sliceR; (try dsimp only); rw [e1, e2]; exact ⟨a1, a2, h'⟩⟩
    · exact h.elim
  · exact h.elim
theorem slicePR_lv {n s : Nat} {x : AV} {lo hi : Int → Option Int} (h : slicePR n s x lo hi σ K) : LV (fun σ => slicePR n s x lo hi σ) σ K := by
  unfold slicePR at h
  split at h
  · split at h
    · rename_i l hh e1 e2
      obtain ⟨B, b1, b2, b3, a0, a1, a2, a3, hk⟩ := h
      exact ⟨_, hk, fun τ K' hs h' => by
        obtain ⟨B', c1, c2, c3, c4⟩ := hs _ _ b1
        unfold slicePR; dsimp only; rw [e1, e2]; exact ⟨B', c1, c2.trans b2, c4.trans b3, a0, a1, a2, a3, h'⟩⟩
    · exact h.elim
  · exact h.elim
def loadsR : ROp → Bool
  | .load _ _ _ | .strL _ | .mget _ _ _ _ _ => true
  | _ => false
theorem ropW_lv {o : ROp} (hl : looksR o = true) (hn : loadsR o = false) (h : ropW P W0 o fr σ K) : LV (ropW P W0 o fr) σ K := by
  by_cases hp : pureR o = true
  · exact (ropW_lp hp h).lv
  · cases o with
    | slice s x lo hi => exact sliceR_lv (lo := fun d => bndR fr d lo) (hi := fun d => bndR fr d hi) h
    | sliceP n s x lo hi => exact slicePR_lv (lo := fun d => bndR fr d lo) (hi := fun d => bndR fr d hi) h
    | _ => first
      | (simp [looksR] at hl; done)
      | (simp [loadsR] at hn; done)
      | (exact (hp rfl).elim)
      | exact faddrR_lv h
      | exact iaddrAR_lv h
      | exact iaddrSR_lv h
      | exact lenLR_lv h
      | exact nilSR_lv h
      | exact nilPR_lv h
      | exact nilckR_lv h
end
/-! ### one operation -/
section
variable {P : Program} {W0 : World}
/-- it leaves no trace -/
def qRun (P : Program) (W0 : World) (o : ROp) (fr : Fr) (σ : List Blk) (K : AV → Prop) : Prop :=
  match o with
  | .call f args => fL (args.map (RA.ev fr)) fun vs => ∃ r, callW P W0 (f.ev fr) vs σ (fun v σ' => v = r ∧ σ' = σ) ∧ K r
  | o => looksR o = true ∧ ropW P W0 o fr σ fun v _ => K v
/-- it leaves no trace, and gives the same whatever else is done -/
def hRun (P : Program) (W0 : World) (F : List Nat) (σ0 : List Blk) (o : ROp) (fr : Fr) (K : AV → Prop) : Prop :=
  match o with
  | .call f args => fL (args.map (RA.ev fr)) fun vs => ∃ r, (∀ τ, varL F σ0 0 τ → callW P W0 (f.ev fr) vs τ fun v σ' => v = r ∧ σ' = τ) ∧ K r
  | .load s g a => match a.ev fr with
    | .ptr b ver off => memB b F = false ∧ loadR W0 s g (.ptr b ver off) σ0 fun v _ => K v
    | a => loadR W0 s g a σ0 fun v _ => K v
  | .strL _ => False
  | .mget _ _ _ _ _ => False
  | o => looksR o = true ∧ ropW P W0 o fr σ0 fun v _ => K v
def gRun (g : Option (Nat × Bool)) (fr : Fr) (run skip : Prop) : Prop :=
  match g with
  | none => run
  | some (s, b) => match fr s with
    | .lit (.bool t) => (t = b → run) ∧ (t = !b → skip)
    | .lit _ => skip
    | _ => False
/-- one operation, its value handed on -/
def stepG (P : Program) (W0 : World) (V : List Blk → Prop) (tt : Bool) (it : GI) (fr : Fr) (σ : List Blk) (K : Cont) : Prop :=
  gRun it.g fr (match tt with
    | true => ropW P W0 it.o fr σ fun v σ' => V σ' ∧ K v σ'
    | false => qRun P W0 it.o fr σ fun v => K v σ) (K (.lit undef) σ)
def readsG (it : GI) : List Nat := slotsR it.o ++ match it.g with
  | some (s, _) => [s]
  | none => []
theorem gRun_mono {g : Option (Nat × Bool)} {fr : Fr} {r r' s s' : Prop} (h : gRun g fr r s) (hr : r → r') (hs : s → s') : gRun g fr r' s' := by
  unfold gRun at h ⊢
  split
  · exact hr h
  · dsimp only at h
    split at h
    · exact ⟨fun e => hr (h.1 e), fun e => hs (h.2 e)⟩
    · exact hs h
    · exact h.elim
theorem gRun_congr {g : Option (Nat × Bool)} {fr fr' : Fr} {r s : Prop} (h : ∀ x b, g = some (x, b) → fr x = fr' x) : gRun g fr r s = gRun g fr' r s := by
  unfold gRun
  split
  · rfl
  · rename_i x b; rw [h x b rfl]
theorem qRun_congr {o : ROp} {fr fr' : Fr} {σ : List Blk} {K : AV → Prop} (h : ∀ t ∈ slotsR o, fr t = fr' t) : qRun P W0 o fr σ K = qRun P W0 o fr' σ K := by
  unfold qRun
  split
  · rename_i f args
    have e1 := ev_congr (x := f) fun t ht => h t (by simp only [slotsR]; exact List.mem_append_left _ ht)
    have e2 := evs_congr (l := args) fun t ht => h t (by simp only [slotsR]; exact List.mem_append_right _ ht)
    simp only [e1, e2]
  · rw [ropW_congr h]
theorem qRun_inv {o : ROp} {fr : Fr} {σ : List Blk} {K : AV → Prop} (h : qRun P W0 o fr σ K) : ∃ v, K v ∧ ∀ K' : AV → Prop, K' v → qRun P W0 o fr σ K' := by
  unfold qRun at h
  split at h
  · rename_i f args
    rw [fL_eq] at h
    obtain ⟨r, h1, h2⟩ := h
    refine ⟨r, h2, fun K' hk => ?_⟩
    unfold qRun; dsimp only; rw [fL_eq]
    exact ⟨r, h1, hk⟩
  · rename_i hne
    obtain ⟨hl, h⟩ := h
    obtain ⟨v, h1, h2⟩ := ropW_ld hl h
    refine ⟨v, h1, fun K' hk => ?_⟩
    unfold qRun
    split
    · exact (hne _ _ rfl).elim
    · exact ⟨hl, h2 (fun v _ => K' v) hk⟩
theorem qRun_mono {o : ROp} {fr : Fr} {σ : List Blk} {K K' : AV → Prop} (h : qRun P W0 o fr σ K) (hk : ∀ v, K v → K' v) : qRun P W0 o fr σ K' :=
  let ⟨v, h1, h2⟩ := qRun_inv h; h2 K' (hk v h1)
theorem qRun_pure {o : ROp} {fr : Fr} {σ : List Blk} {K : AV → Prop} (hp : pureR o = true) (h : qRun P W0 o fr σ K) : ∃ v, K v ∧ ∀ (σ' : List Blk) (K' : AV → Prop), K' v → qRun P W0 o fr σ' K' := by
  unfold qRun at h
  split at h
  · cases hp
  · rename_i hne
    obtain ⟨hl, h⟩ := h
    obtain ⟨v, h1, h2⟩ := ropW_lp hp h
    refine ⟨v, h1, fun σ' K' hk => ?_⟩
    unfold qRun
    split
    · exact (hne _ _ rfl).elim
    · exact ⟨hl, h2 σ' (fun v _ => K' v) hk⟩
theorem qRun_ropW {o : ROp} {fr : Fr} {σ : List Blk} {K : AV → Prop} (h : qRun P W0 o fr σ K) : ropW P W0 o fr σ fun v σ' => σ' = σ ∧ K v := by
  unfold qRun at h
  split at h
  · rename_i f args
    rw [fL_eq] at h
    obtain ⟨r, h1, h2⟩ := h
    simp only [ropW, fL_eq]
    exact callW_mono h1 fun v σ' ⟨e1, e2⟩ => ⟨e2, e1 ▸ h2⟩
  · obtain ⟨hl, h⟩ := h
    obtain ⟨v, h1, h2⟩ := ropW_ld hl h
    exact h2 _ ⟨rfl, h1⟩
theorem hRun_inv {F : List Nat} {σ0 : List Blk} {o : ROp} {fr : Fr} {K : AV → Prop} (h : hRun P W0 F σ0 o fr K) : ∃ v, K v ∧ ∀ (σ' : List Blk) (K' : AV → Prop), varL F σ0 0 σ' → K' v → qRun P W0 o fr σ' K' := by
  unfold hRun at h
  split at h
  · rename_i f args
    rw [fL_eq] at h
    obtain ⟨r, h1, h2⟩ := h
    refine ⟨r, h2, fun σ' K' hv hk => ?_⟩
    unfold qRun; dsimp only; rw [fL_eq]
    exact ⟨r, h1 σ' hv, hk⟩
  · rename_i s g a
    split at h
    · rename_i b ver off ha
      obtain ⟨hb, h⟩ := h
      obtain ⟨B, h1, h2, h3, hk⟩ := (show ∃ B, σ0[b]? = some B ∧ B.ver = ver ∧ off + s ≤ B.cells.length ∧ K (mkAV g ((B.cells.drop off).take s)) from h)
      refine ⟨_, hk, fun σ' K' hv hk' => ⟨rfl, ?_⟩⟩
      obtain ⟨B', c1, _, _, _, c5⟩ := varL_get hv b B h1
      rw [Nat.zero_add] at c5
      have e := c5 hb
      subst e
      show loadR W0 s g (a.ev fr) σ' fun v _ => K' v
      rw [ha]
      exact ⟨B', c1, h2, h3, hk'⟩
    · rename_i hne
      have h' := h
      unfold loadR at h
      split at h
      · rename_i b ver off ha; exact (hne _ _ _ ha).elim
      · rename_i ad ha
        obtain ⟨cs, h1, h2, h3, hk⟩ := h
        refine ⟨_, hk, fun σ' K' hv hk' => ⟨rfl, ?_⟩⟩
        show loadR W0 s g (a.ev fr) σ' fun v _ => K' v
        rw [ha]
        exact ⟨cs, h1, h2, h3, hk'⟩
      · exact h.elim
  · exact h.elim
  · exact h.elim
  · rename_i hne1 hne2 hne3 hne4
    obtain ⟨hl, h⟩ := h
    have hnl : loadsR o = false := by cases o <;> first | rfl | exact (hne2 _ _ _ rfl).elim | exact (hne3 _ rfl).elim | exact (hne4 _ _ _ _ _ rfl).elim
    obtain ⟨v, h1, h2⟩ := ropW_lv hl hnl h
    refine ⟨v, h1, fun σ' K' hv hk => ?_⟩
    unfold qRun
    split
    · exact (hne1 _ _ rfl).elim
    · exact ⟨hl, h2 σ' (fun v _ => K' v) (varL_sim hv) hk⟩
variable {V : List Blk → Prop} {it : GI} {fr fr' : Fr} {σ : List Blk} {K K' : Cont} {tt : Bool}
theorem stepG_mono (h : stepG P W0 V tt it fr σ K) (hk : ∀ v σ', K v σ' → K' v σ') : stepG P W0 V tt it fr σ K' := by
  refine gRun_mono h (fun hr => ?_) (hk _ _)
  cases tt with
  | true => exact ropW_mono hr fun v σ' ⟨h1, h2⟩ => ⟨h1, hk _ _ h2⟩
  | false => exact qRun_mono hr fun v => hk _ _
/-- what is known of the blocks behind it -/
theorem stepG_keeps (h : stepG P W0 V tt it fr σ K) : stepG P W0 V tt it fr σ fun v σ' => (σ' = σ ∨ (tt = true ∧ V σ')) ∧ K v σ' := by
  refine gRun_mono h (fun hr => ?_) fun hs => ⟨.inl rfl, hs⟩
  cases tt with
  | true => exact ropW_mono hr fun v σ' ⟨h1, h2⟩ => ⟨h1, .inr ⟨rfl, h1⟩, h2⟩
  | false => exact qRun_mono hr fun v h => ⟨.inl rfl, h⟩
theorem stepG_congr (h : ∀ t ∈ readsG it, fr t = fr' t) : stepG P W0 V tt it fr σ K = stepG P W0 V tt it fr' σ K := by
  unfold stepG
  have h1 : ∀ t ∈ slotsR it.o, fr t = fr' t := fun t ht => h t (List.mem_append_left _ ht)
  have h2 : ∀ x b, it.g = some (x, b) → fr x = fr' x := fun x b e => h x (List.mem_append_right _ (by rw [e]; simp))
  rw [gRun_congr h2]
  cases tt with
  | true => rw [ropW_congr h1]
  | false => rw [qRun_congr h1]
end
/-! ### every order -/
abbrev GL := List GI
def treeG (P : Program) (W0 : World) (ops : Array Oper) (L : GL) (T : Nat → Bool) (V : Nat → List Blk → Prop) (K : Fr → List Blk → Prop) : Nat → Array Bool → Fr → List Blk → Prop
  | 0, done, fr, σ => Region.ready .any ops done = [] ∧ K fr σ
  | f + 1, done, fr, σ => Region.ready .any ops done ≠ [] ∧ ∀ i ∈ Region.ready .any ops done, ∃ it, L[i]? = some it ∧ stepG P W0 (V i) (T i) it fr σ fun v σ' => treeG P W0 ops L T V K f (done.setIfInBounds i true) (updO fr it.d v) σ'
def apartG (j i : GI) : Bool :=
  (match j.d with
    | some d => !(readsG i).contains d && i.d != some d
    | none => true) &&
  (match i.d with
    | some d => !(readsG j).contains d
    | none => true)
theorem apartG_spec {j i : GI} (h : apartG j i = true) : (∀ d, j.d = some d → d ∉ readsG i) ∧ (∀ d, j.d = some d → i.d ≠ some d) ∧ (∀ d, i.d = some d → d ∉ readsG j) := by
  unfold apartG at h
  simp only [Bool.and_eq_true] at h
  refine ⟨fun d hd => ?_, fun d hd => ?_, fun d hd => ?_⟩
  · have := h.1; rw [hd] at this; simp at this; exact this.1
  · have := h.1; rw [hd] at this; simp at this; exact this.2
  · have := h.2; rw [hd] at this; simp at this; exact this
/-- all that can be done while j is not -/
def closeD (ops : Array Oper) (j : Nat) : Nat → Array Bool → Array Bool
  | 0, D => D
  | f + 1, D => match (Region.ready .any ops D).filter (· != j) with
    | [] => D
    | l => closeD ops j f (l.foldl (fun D i => D.setIfInBounds i true) D)
/-- D is all that can be done before j: nothing but j is ready behind it -/
def okD (ops : Array Oper) (L : GL) (T : Nat → Bool) (done D : Array Bool) (j : Nat) (quiet : Bool) : Bool :=
  (Region.ready .any ops D).all (· == j) && decide (D.size = ops.size) && decide (D.getD j true = false) &&
  (List.range ops.size).all fun i => (!done.getD i false || D.getD i false) && (!D.getD i false || done.getD i true || match L[i]?, L[j]? with
    | some a, some b => apartG b a && (!quiet || !T i)
    | _, _ => false)
theorem updO_off' {fr : Fr} {d : Option Nat} {v : AV} {l : List Nat} (h : ∀ x, d = some x → x ∉ l) : ∀ t ∈ l, updO fr d v t = fr t := fun t ht => by
  cases d with
  | none => rfl
  | some x =>
    have : t ≠ x := fun e => h x rfl (e ▸ ht)
    simp [updO, upd, this]
section
variable {P : Program} {W0 : World} {ops : Array Oper} {L : GL} {T : Nat → Bool} {V : Nat → List Blk → Prop} {K : Fr → List Blk → Prop}
/-- what can be done first, and harms no other, may be done first -/
theorem treeG_take {j : Nat} {it : GI} {v : AV} {D done0 : Array Bool} {V' : List Blk → Prop} (hL : L[j]? = some it) (hT : T j = false)
    (hD1 : ∀ i ∈ Region.ready .any ops D, i = j) (hDs : D.size = ops.size)
    (hap : ∀ i a, D.getD i false = true → done0.getD i true = false → L[i]? = some a → apartG it a = true ∧ (T i = true → ∀ σ, V i σ → V' σ)) :
    ∀ (f : Nat) (done : Array Bool) (fr : Fr) (σ : List Blk), (∀ k, done.getD k true = false → done0.getD k true = false) → (∀ k, done.getD k false = true → D.getD k false = true) → j ∈ Region.ready .any ops done → D.getD j true = false →
      (∀ (fr' : Fr) (σ' : List Blk) (K' : Cont), (∀ t ∈ readsG it, fr' t = fr t) → V' σ' → K' v σ' → stepG P W0 (V j) false it fr' σ' K') → V' σ →
      treeG P W0 ops L T V K f (done.setIfInBounds j true) (updO fr it.d v) σ → treeG P W0 ops L T V K (f + 1) done fr σ := by
  have here : ∀ {f : Nat} {done : Array Bool} {fr : Fr} {σ : List Blk}, (∀ (fr' : Fr) (σ' : List Blk) (K' : Cont), (∀ t ∈ readsG it, fr' t = fr t) → V' σ' → K' v σ' → stepG P W0 (V j) false it fr' σ' K') → V' σ →
      treeG P W0 ops L T V K f (done.setIfInBounds j true) (updO fr it.d v) σ → ∃ it, L[j]? = some it ∧ stepG P W0 (V j) (T j) it fr σ fun v σ' => treeG P W0 ops L T V K f (done.setIfInBounds j true) (updO fr it.d v) σ' := fun hs hV h => by
    refine ⟨it, hL, ?_⟩
    rw [hT]
    exact hs _ _ _ (fun _ _ => rfl) hV h
  intro f
  induction f with
  | zero =>
    intro done fr σ s1 s2 hr hDj hs hV H
    refine ⟨fun h0 => (by rw [h0] at hr; cases hr), fun i hi => ?_⟩
    rcases Nat.decEq i j with hne | rfl
    · have := ready_mono hi hne
      rw [H.1] at this; cases this
    · exact here hs hV H
  | succ f ih =>
    intro done fr σ s1 s2 hr hDj hs hV H
    refine ⟨fun h0 => (by rw [h0] at hr; cases hr), fun i hi => ?_⟩
    rcases Nat.decEq i j with hne | rfl
    · obtain ⟨iti, hLi, hst⟩ := H.2 i (ready_mono hi hne)
      have hiu := (mem_ready.1 hi).1
      obtain ⟨_, oi, hoi, hdeps⟩ := mem_ready.1 hi
      have hisz : i < ops.size := (Array.getElem?_eq_some_iff.1 hoi).1
      have hDi : D.getD i false = true := by
        cases hd : D.getD i true with
        | false => exact (hne (hD1 i (mem_ready.2 ⟨hd, oi, hoi, fun e he hb => s2 _ (hdeps e he hb)⟩))).elim
        | true =>
          have hlt : i < D.size := by omega
          simp [hlt] at hd ⊢; exact hd
      obtain ⟨hapart, hTi⟩ := hap i iti hDi (s1 i hiu) hLi
      obtain ⟨a1, a2, a3⟩ := apartG_spec hapart
      rw [stepG_congr (fr' := fr) (updO_off' a1)] at hst
      refine ⟨iti, hLi, stepG_mono (stepG_keeps hst) fun u σ' ⟨hk, h⟩ => ?_⟩
      rw [Array.setIfInBounds_comm _ _ (Ne.symm hne), updO_comm a2] at h
      have hV' : V' σ' := by
        rcases hk with e | ⟨e, hv⟩
        · rw [e]; exact hV
        · exact hTi e _ hv
      refine ih (done.setIfInBounds i true) (updO fr iti.d u) σ' (fun k hk => ?_) (fun k hk => ?_) (ready_mono hr (Ne.symm hne)) hDj (fun fr' σ'' K' hfr hv hk => hs fr' σ'' K' (fun t ht => (hfr t ht).trans (updO_off' a3 t ht)) hv hk) hV' h
      · rcases Nat.decEq i k with hik | rfl
        · rw [getD_set_ne true hik] at hk; exact s1 k hk
        · exact s1 i hiu
      · rcases Nat.decEq i k with hik | rfl
        · rw [getD_set_ne false hik] at hk; exact s2 k hk
        · exact hDi
    · exact here hs hV H
/-! ### plans -/
/-- how an operation that leaves a trace stands in a plan. Mode 0: no head is asked to hold beside others; 1: heads may; 2: an operation that no head can follow has been done -/
def nodeT (L : GL) (U : Nat → Bool) (m : Nat) (rec : Nat → Nat → Option PT) (i : Nat) : Option PT := match L[i]?, m, U i with
  | some it, 1, true => (rec 2 i).map (.u it)
  | some it, 2, true => (rec 2 i).map (.u it)
  | some _, 2, false => none
  | some it, m, _ => (rec m i).map (.t it)
  | none, _, _ => none
def brs (L : GL) (U : Nat → Bool) (m : Nat) (rec : Nat → Nat → Option PT) : List Nat → Option PT
  | [] => none
  | [i] => nodeT L U m rec i
  | i :: is => match nodeT L U m rec i, brs L U m rec is with
    | some p, some q => some (.both p q)
    | _, _ => none
def mkPlan (ops : Array Oper) (L : GL) (T U : Nat → Bool) : Nat → Nat → Array Bool → Option PT
  | m, 0, done => if (Region.ready .any ops done).isEmpty then some .fin else none
  | m, f + 1, done => match (Region.ready .any ops done).find? (fun j => !T j) with
    | some j => match L[j]? with
      | some it => if okD ops L T done (closeD ops j ops.size done) j true then (mkPlan ops L T U m f (done.setIfInBounds j true)).map (.n it)
        else if pureR it.o && okD ops L T done (closeD ops j ops.size done) j false then (mkPlan ops L T U m f (done.setIfInBounds j true)).map (.n it)
        else if (Nat.beq m 1 && (List.range ops.size).all fun i => !(closeD ops j ops.size done).getD i false || done.getD i true || !U i) && okD ops L T done (closeD ops j ops.size done) j false then (mkPlan ops L T U m f (done.setIfInBounds j true)).map (.h it)
        else none
      | none => none
    | none => brs L U m (fun m i => mkPlan ops L T U m f (done.setIfInBounds i true)) (Region.ready .any ops done)
/-- a guard, its slot set right -/
def gRunF (g : Option (Nat × Bool)) (fr : Fr) (run skip : Fr → Prop) : Prop :=
  match g with
  | none => run fr
  | some (s, b) => match fr s with
    | .lit (.bool t) => (t = b → run (upd fr s (.lit (.bool b)))) ∧ (t = !b → skip (upd fr s (.lit (.bool !b))))
    | .lit _ => skip fr
    | _ => False
theorem gRunF_out {g : Option (Nat × Bool)} {fr : Fr} {run skip : Fr → Prop} (h : gRunF g fr run skip) : gRun g fr (run fr) (skip fr) := by
  unfold gRunF at h
  unfold gRun
  split
  · exact h
  · rename_i s b
    dsimp only at h
    split at h
    · rename_i t ht
      refine ⟨fun e => ?_, fun e => ?_⟩
      · have := h.1 e
        rw [upd_at (by rw [ht, e])] at this
        exact this
      · have := h.2 e
        rw [upd_at (by rw [ht, e])] at this
        exact this
    · exact h
    · exact h.elim
def ptW (P : Program) (W0 : World) (C : List Blk → Prop → Prop) (F : List Nat) (σ0 : List Blk) (p : PT) : Fr → List Blk → (Fr → List Blk → Prop) → Prop :=
  PT.rec (motive := fun _ => Fr → List Blk → (Fr → List Blk → Prop) → Prop) (fun fr σ K => K fr σ)
    (fun it _ ih fr σ K => gRunF it.g fr (fun fr => qRun P W0 it.o fr σ fun v => fv v fun v => ih (updO fr it.d v) σ K) (fun fr => ih (updO fr it.d (.lit undef)) σ K))
    (fun it _ ih fr σ K => gRunF it.g fr (fun fr => hRun P W0 F σ0 it.o fr fun v => fv v fun v => ih (updO fr it.d v) σ K) (fun fr => ih (updO fr it.d (.lit undef)) σ K))
    (fun it _ ih fr σ K => gRunF it.g fr (fun fr => ropW P W0 it.o fr σ fun v σ' => C σ' (fv v fun v => ih (updO fr it.d v) σ' K)) (fun fr => ih (updO fr it.d (.lit undef)) σ K))
    (fun _ _ ia ib fr σ K => ia fr σ K ∧ ib fr σ K)
    (fun it _ ih fr σ K => gRunF it.g fr (fun fr => ropW P W0 it.o fr σ fun v σ' => fv v fun v => ih (updO fr it.d v) σ' K) (fun fr => ih (updO fr it.d (.lit undef)) σ K)) p
theorem gRun_inv {g : Option (Nat × Bool)} {fr : Fr} {R S : (AV → Prop) → Prop} {X : AV → Prop} (hR : R X → ∃ v, X v ∧ ∀ K' : AV → Prop, K' v → S K') (h : gRun g fr (R X) (X (.lit undef))) :
    ∃ v, X v ∧ ∀ K' : AV → Prop, K' v → gRun g fr (S K') (K' (.lit undef)) := by
  unfold gRun at h
  split at h
  · obtain ⟨v, h1, h2⟩ := hR h
    exact ⟨v, h1, h2⟩
  · rename_i s b
    split at h
    · rename_i t ht
      by_cases e : t = b
      · obtain ⟨v, h1, h2⟩ := hR (h.1 e)
        refine ⟨v, h1, fun K' hk => ?_⟩
        unfold gRun; dsimp only; rw [ht]
        exact ⟨fun _ => h2 K' hk, fun e' => by subst e; cases t <;> cases e'⟩
      · have e' : t = !b := by cases t <;> cases b <;> simp_all
        refine ⟨_, h.2 e', fun K' hk => ?_⟩
        unfold gRun; dsimp only; rw [ht]
        exact ⟨fun e2 => (e e2).elim, fun _ => hk⟩
    · rename_i u hu hne
      refine ⟨_, h, fun K' hk => ?_⟩
      unfold gRun; dsimp only; rw [hne]
      cases u <;> first | exact hk | exact (hu _ rfl).elim
    · exact h.elim
theorem gRunF_mono {g : Option (Nat × Bool)} {fr : Fr} {r r' s s' : Fr → Prop} (h : gRunF g fr r s) (hr : ∀ fr, r fr → r' fr) (hs : ∀ fr, s fr → s' fr) : gRunF g fr r' s' := by
  unfold gRunF at h ⊢
  split
  · exact hr _ h
  · dsimp only at h
    split at h
    · exact ⟨fun e => hr _ (h.1 e), fun e => hs _ (h.2 e)⟩
    · exact hs _ h
    · exact h.elim
/-- what a plan says of an operation that leaves a trace -/
def nodeW (P : Program) (W0 : World) (C : List Blk → Prop → Prop) (F : List Nat) (σ0 : List Blk) (V0 : List Blk → Prop) (u : Bool) (m' : Nat) (it : GI) (q : PT) (fr : Fr) (σ : List Blk) (K : Fr → List Blk → Prop) : Prop :=
  gRunF it.g fr (fun fr => ropW P W0 it.o fr σ fun v σ' => ((u = true ∨ V0 σ') ∧ (m' ≠ 2 → V0 σ')) ∧ fv v fun v => ptW P W0 C F σ0 q (updO fr it.d v) σ' K) (fun fr => ptW P W0 C F σ0 q (updO fr it.d (.lit undef)) σ K)
theorem nodeT_sound {V0 : List Blk → Prop} {U : Nat → Bool} {C : List Blk → Prop → Prop} (hC : ∀ σ' R, C σ' R → V0 σ' ∧ R) {F : List Nat} {σ0 : List Blk} {rec : Nat → Nat → Option PT} {fr : Fr} {σ : List Blk} {m i : Nat} {p : PT} (h : nodeT L U m rec i = some p) (hw : ptW P W0 C F σ0 p fr σ K) :
    ∃ it m' q, L[i]? = some it ∧ rec m' i = some q ∧ (m' = m ∨ m' = 2) ∧ nodeW P W0 C F σ0 V0 (U i) m' it q fr σ K := by
  have free : ∀ it q, U i = true → ptW P W0 C F σ0 (.u it q) fr σ K → nodeW P W0 C F σ0 V0 (U i) 2 it q fr σ K := fun it q hU hw => by
    have hw' : gRunF it.g fr (fun fr => ropW P W0 it.o fr σ fun v σ' => fv v fun v => ptW P W0 C F σ0 q (updO fr it.d v) σ' K) (fun fr => ptW P W0 C F σ0 q (updO fr it.d (.lit undef)) σ K) := hw
    exact gRunF_mono hw' (fun fr h => ropW_mono h fun v σ' h => ⟨⟨.inl hU, fun e => (e rfl).elim⟩, h⟩) (fun fr h => h)
  have bound : ∀ it q m', ptW P W0 C F σ0 (.t it q) fr σ K → nodeW P W0 C F σ0 V0 (U i) m' it q fr σ K := fun it q m' hw => by
    have hw' : gRunF it.g fr (fun fr => ropW P W0 it.o fr σ fun v σ' => C σ' (fv v fun v => ptW P W0 C F σ0 q (updO fr it.d v) σ' K)) (fun fr => ptW P W0 C F σ0 q (updO fr it.d (.lit undef)) σ K) := hw
    exact gRunF_mono hw' (fun fr h => ropW_mono h fun v σ' h => ⟨⟨.inr (hC _ _ h).1, fun _ => (hC _ _ h).1⟩, (hC _ _ h).2⟩) (fun fr h => h)
  unfold nodeT at h
  split at h
  · rename_i it hL hU
    obtain ⟨q, hq, rfl⟩ := Option.map_eq_some_iff.1 h
    exact ⟨it, 2, q, hL, hq, .inr rfl, free it q hU hw⟩
  · rename_i it hL hU
    obtain ⟨q, hq, rfl⟩ := Option.map_eq_some_iff.1 h
    exact ⟨it, 2, q, hL, hq, .inr rfl, free it q hU hw⟩
  · cases h
  · rename_i it hL n1 n2 n3
    obtain ⟨q, hq, rfl⟩ := Option.map_eq_some_iff.1 h
    exact ⟨it, _, q, hL, hq, .inl rfl, bound it q _ hw⟩
  · cases h
theorem brs_sound {V0 : List Blk → Prop} {U : Nat → Bool} {C : List Blk → Prop → Prop} (hC : ∀ σ' R, C σ' R → V0 σ' ∧ R) {F : List Nat} {σ0 : List Blk} {rec : Nat → Nat → Option PT} {fr : Fr} {σ : List Blk} {m : Nat} : ∀ {is : List Nat} {p : PT}, brs L U m rec is = some p → ptW P W0 C F σ0 p fr σ K → is ≠ [] ∧ ∀ i ∈ is, ∃ it m' q, L[i]? = some it ∧ rec m' i = some q ∧ (m' = m ∨ m' = 2) ∧ nodeW P W0 C F σ0 V0 (U i) m' it q fr σ K
  | [], p, h, _ => by cases h
  | [i], p, h, hw => by
    refine ⟨by simp, fun k hk => ?_⟩
    rw [List.mem_singleton.1 hk]
    exact nodeT_sound hC h hw
  | i :: i' :: is, p, h, hw => by
    unfold brs at h
    split at h
    · rename_i q q' h2 h3
      cases h
      have hw' : ptW P W0 C F σ0 q fr σ K ∧ ptW P W0 C F σ0 q' fr σ K := hw
      refine ⟨by simp, fun k hk => ?_⟩
      rcases List.mem_cons.1 hk with rfl | hk
      · exact nodeT_sound hC h2 hw'.1
      · exact (brs_sound hC h3 hw'.2).2 k hk
    · cases h
theorem okD_spec {done D : Array Bool} {j : Nat} {quiet : Bool} {it : GI} (h : okD ops L T done D j quiet = true) (hL : L[j]? = some it) :
    (∀ i ∈ Region.ready .any ops D, i = j) ∧ D.size = ops.size ∧ D.getD j true = false ∧ (∀ k, k < ops.size → done.getD k false = true → D.getD k false = true) ∧
    ∀ i a, D.getD i false = true → done.getD i true = false → L[i]? = some a → apartG it a = true ∧ (quiet = true → T i = false) := by
  unfold okD at h
  simp only [Bool.and_eq_true, decide_eq_true_eq] at h
  obtain ⟨⟨⟨h1, h2⟩, h3⟩, h4⟩ := h
  have h4' := List.all_eq_true.1 h4
  refine ⟨fun i hi => by simpa using List.all_eq_true.1 h1 i hi, h2, h3, fun k hk hd => ?_, fun i a hD hd ha => ?_⟩
  · have := h4' k (List.mem_range.2 hk)
    simp only [Bool.and_eq_true, Bool.or_eq_true, Bool.not_eq_true'] at this
    rcases this.1 with e | e
    · rw [hd] at e; cases e
    · exact e
  · have hi : i < ops.size := by
      rcases Nat.lt_or_ge i D.size with h' | h'
      · omega
      · simp [Array.getElem?_eq_none h'] at hD
    have := h4' i (List.mem_range.2 hi)
    rw [hD, hd, ha, hL] at this
    simp only [Bool.not_true, Bool.false_or, Bool.and_eq_true, Bool.or_eq_true, Bool.not_eq_true'] at this
    exact ⟨this.2.1, fun hq => by rcases this.2.2 with e | e <;> simp_all⟩
theorem plan_sound {V0 : List Blk → Prop} {U : Nat → Bool} {C : List Blk → Prop → Prop} (hC : ∀ σ' R, C σ' R → V0 σ' ∧ R) {F : List Nat} {σ0 : List Blk} (hsz : L.length = ops.size) : ∀ (f m : Nat) (hnh : m = 1 → V0 = varL F σ0 0) (done : Array Bool) (p : PT) (fr : Fr) (σ : List Blk), done.size = ops.size → mkPlan ops L T U m f done = some p → (m ≠ 2 → V0 σ) →
    ptW P W0 C F σ0 p fr σ K → treeG P W0 ops L T (fun i σ => U i = true ∨ V0 σ) K f done fr σ
  | 0, m, hnh, done, p, fr, σ, hds, hp, hV, h => by
    unfold mkPlan at hp
    split at hp
    · rename_i he
      cases hp
      exact ⟨by simpa using he, h⟩
    · cases hp
  | f + 1, m, hnh, done, p, fr, σ, hds, hp, hV, h => by
    unfold mkPlan at hp
    split at hp
    · rename_i j hj
      have hjr : j ∈ Region.ready .any ops done := List.mem_of_find?_eq_some hj
      have hTj : T j = false := by simpa using List.find?_some hj
      split at hp
      · rename_i it hL
        split at hp
        · rename_i hok
          obtain ⟨q, hq, rfl⟩ := Option.map_eq_some_iff.1 hp
          obtain ⟨d1, d2, d3, d4, d5⟩ := okD_spec hok hL
          obtain ⟨v, hv, hst⟩ := gRun_inv (R := fun X => qRun P W0 it.o fr σ X) (S := fun X => qRun P W0 it.o fr σ X) (X := fun v => ptW P W0 C F σ0 q (updO fr it.d v) σ K) (fun hr => qRun_inv hr) (gRun_mono (gRunF_out (show gRunF it.g fr (fun fr => qRun P W0 it.o fr σ fun v => fv v fun v => ptW P W0 C F σ0 q (updO fr it.d v) σ K) (fun fr => ptW P W0 C F σ0 q (updO fr it.d (.lit undef)) σ K) from h)) (fun hr => qRun_mono hr fun v hv => fv_out hv) id)
          refine treeG_take (V' := fun σ' => σ' = σ) hL hTj d1 d2 (fun i a hD hd ha => ⟨(d5 i a hD hd ha).1, fun e => by rw [(d5 i a hD hd ha).2 rfl] at e; cases e⟩) f done fr σ (fun _ h => h) (fun k hk => ?_) hjr d3 (fun fr' σ' K' hfr hσ hk => ?_) rfl
            (plan_sound hC hsz f m hnh _ q _ σ (by simpa using hds) hq hV hv)
          · refine d4 k ?_ hk
            rcases Nat.lt_or_ge k done.size with h' | h'
            · omega
            · simp [Array.getElem?_eq_none h'] at hk
          · subst hσ
            rw [stepG_congr hfr]
            exact hst (fun v => K' v σ') hk
        · split at hp
          · rename_i hok
            simp only [Bool.and_eq_true] at hok
            obtain ⟨hpu, hok⟩ := hok
            obtain ⟨q, hq, rfl⟩ := Option.map_eq_some_iff.1 hp
            obtain ⟨d1, d2, d3, d4, d5⟩ := okD_spec hok hL
            obtain ⟨v, hv, hst⟩ := gRun_inv (R := fun X => qRun P W0 it.o fr σ X) (S := fun X => ∀ σ', qRun P W0 it.o fr σ' X) (X := fun v => ptW P W0 C F σ0 q (updO fr it.d v) σ K) (fun hr => let ⟨v, h1, h2⟩ := qRun_pure hpu hr; ⟨v, h1, fun K' hk σ' => h2 σ' K' hk⟩) (gRun_mono (gRunF_out (show gRunF it.g fr (fun fr => qRun P W0 it.o fr σ fun v => fv v fun v => ptW P W0 C F σ0 q (updO fr it.d v) σ K) (fun fr => ptW P W0 C F σ0 q (updO fr it.d (.lit undef)) σ K) from h)) (fun hr => qRun_mono hr fun v hv => fv_out hv) id)
            refine treeG_take (V' := fun _ => True) hL hTj d1 d2 (fun i a hD hd ha => ⟨(d5 i a hD hd ha).1, fun _ _ _ => trivial⟩) f done fr σ (fun _ h => h) (fun k hk => ?_) hjr d3 (fun fr' σ' K' hfr hσ hk => ?_) trivial
              (plan_sound hC hsz f m hnh _ q _ σ (by simpa using hds) hq hV hv)
            · refine d4 k ?_ hk
              rcases Nat.lt_or_ge k done.size with h' | h'
              · omega
              · simp [Array.getElem?_eq_none h'] at hk
            · rw [stepG_congr hfr]
              exact gRun_mono (hst (fun v => K' v σ') hk) (fun hr => hr σ') id
          · split at hp
            · rename_i hok
              simp only [Bool.and_eq_true] at hok
              obtain ⟨⟨hn, hfree⟩, hok⟩ := hok
              have hn1 : m = 1 := Nat.eq_of_beq_eq_true hn
              have hVe := hnh hn1
              have hV0 := hV (by rw [hn1]; decide)
              obtain ⟨q, hq, rfl⟩ := Option.map_eq_some_iff.1 hp
              obtain ⟨d1, d2, d3, d4, d5⟩ := okD_spec hok hL
              obtain ⟨v, hv, hst⟩ := gRun_inv (R := fun X => hRun P W0 F σ0 it.o fr X) (S := fun X => ∀ σ', varL F σ0 0 σ' → qRun P W0 it.o fr σ' X) (X := fun v => fv v fun v => ptW P W0 C F σ0 q (updO fr it.d v) σ K)
                (fun hr => let ⟨v, h1, h2⟩ := hRun_inv hr; ⟨v, h1, fun K' hk σ' hv => h2 σ' K' hv hk⟩) (gRun_mono (gRunF_out (show gRunF it.g fr (fun fr => hRun P W0 F σ0 it.o fr fun v => fv v fun v => ptW P W0 C F σ0 q (updO fr it.d v) σ K) (fun fr => ptW P W0 C F σ0 q (updO fr it.d (.lit undef)) σ K) from h)) id (fun hs => by rw [fv_eq]; exact hs))
              refine treeG_take (V' := V0) hL hTj d1 d2 (fun i a hD hd ha => ⟨(d5 i a hD hd ha).1, fun _ _ h => h.resolve_left (fun hu => by
                  have hi : i < ops.size := by have := getElem?_lt ha; omega
                  have := List.all_eq_true.1 hfree i (List.mem_range.2 hi)
                  rw [hD, hd, hu] at this; cases this)⟩) f done fr σ (fun _ h => h) (fun k hk => ?_) hjr d3 (fun fr' σ' K' hfr hσ hk => ?_) hV0
                (plan_sound hC hsz f m hnh _ q _ σ (by simpa using hds) hq hV (fv_out hv))
              · refine d4 k ?_ hk
                rcases Nat.lt_or_ge k done.size with h' | h'
                · omega
                · simp [Array.getElem?_eq_none h'] at hk
              · rw [stepG_congr hfr]
                rw [hVe] at hσ
                exact gRun_mono (hst (fun v => K' v σ') hk) (fun hr => hr σ' hσ) id
            · cases hp
      · cases hp
    · rename_i hnone
      obtain ⟨h1, h2⟩ := brs_sound hC hp h
      refine ⟨h1, fun i hi => ?_⟩
      obtain ⟨it, m', q, hL, hq, hm, hw⟩ := h2 i hi
      have hT : T i = true := by simpa using List.find?_eq_none.1 hnone i hi
      have hnh' : m' = 1 → V0 = varL F σ0 0 := fun e => by
        rcases hm with e' | e'
        · exact hnh (e' ▸ e)
        · omega
      have hV' : m' ≠ 2 → V0 σ := fun e => by
        rcases hm with e' | e'
        · exact hV (e' ▸ e)
        · exact (e e').elim
      refine ⟨it, hL, ?_⟩
      rw [hT]
      refine gRun_mono (gRunF_out hw) (fun hr => ropW_mono hr fun v σ' hc => ⟨hc.1.1, plan_sound hC hsz f m' hnh' _ q _ σ' (by simpa using hds) hq hc.1.2 (fv_out hc.2)⟩)
        (fun hs => plan_sound hC hsz f m' hnh' _ q _ σ (by simpa using hds) hq hV' hs)
end
/-! ### the program's operations -/
def gslot (ops : Array Oper) : Option (Nat × Bool) → Option (Option (Nat × Bool))
  | none => some none
  | some (j, b) => ((ops[j]?).bind (·.dst)).map fun s => some (s, b)
def compG (P : Program) (n : Nat) (ops : Array Oper) : List Oper → Option GL
  | [] => some []
  | o :: rest => if dOKb n o.dst then match compOp P o.op, gslot ops o.guard, compG P n ops rest with
    | some r, some g, some l => some (⟨g, o.dst, r⟩ :: l)
    | _, _, _ => none
    else none
section
variable {P : Program} {W0 : World} {ι ι0 : Loc} {σ σ0 : List Blk} {n : Nat} {ops : Array Oper}
theorem compG_get : ∀ (l : List Oper) (L : GL), compG P n ops l = some L → L.length = l.length ∧ ∀ (i : Nat) (it : GI), L[i]? = some it → ∃ o, l[i]? = some o ∧ o.dst = it.d ∧ gslot ops o.guard = some it.g ∧ compOp P o.op = some it.o ∧ dOK n o.dst
  | [], L, h => by
    simp only [compG, Option.some.injEq] at h; subst h
    exact ⟨rfl, fun i it h => by simp at h⟩
  | o :: rest, L, h => by
    unfold compG at h
    split at h
    · rename_i hd
      split at h
      · rename_i r g l hr hg hl
        cases h
        obtain ⟨h1, h2⟩ := compG_get rest l hl
        refine ⟨by simp [h1], fun i it hi => ?_⟩
        cases i with
        | zero =>
          simp at hi
          subst hi
          exact ⟨o, rfl, rfl, hg, hr, dOKb_ok hd⟩
        | succ i => simpa using h2 i it (by simpa using hi)
      · cases h
    · cases h
theorem guard_of_gRun {fr : Fr} {g : Option (Nat × Bool)} {g' : Option (Nat × Bool)} {r s : Prop} (hg : gslot ops g = some g') (h : gRun g' fr r s) : guardW ops fr g r s := by
  unfold gslot at hg
  split at hg
  · cases hg; exact h
  · rename_i j b
    obtain ⟨d, hd, rfl⟩ := Option.map_eq_some_iff.1 hg
    unfold guardW
    dsimp only
    rw [hd]
    exact h
theorem wpAny_of_treeG {L : GL} {T : Nat → Bool} {V : Nat → List Blk → Prop} {ds : List Deferred} {K : Fr → List Blk → Prop} {Q : Exit → Act → World → Prop} (hL : compG P n ops ops.toList = some L) (hQ : ∀ a w, Post W0 ι0 σ0 n ds K a w → Q .normal a w) :
    ∀ (f : Nat) (done : Array Bool) (fr : Fr) (σ : List Blk) (ι : Loc) (a : Act) (w : World), treeG P W0 ops L T V K f done fr σ → HRel W0 ι σ w → FRel ι σ n fr a → Ext ι0 σ0 ι σ → a.defers = ds → wpAny P .any ops Q f done a w
  | 0, done, fr, σ, ι, a, w, h, hh, hf, hx, hd => ⟨h.1, hQ _ _ ⟨ι, σ, fr, h.2, hh, hf, hx, hd⟩⟩
  | f + 1, done, fr, σ, ι, a, w, h, hh, hf, hx, hd => by
    refine ⟨fun h0 => (h.1 h0).elim, fun i hi => ?_⟩
    obtain ⟨it, hLi, hst⟩ := h.2 i hi
    obtain ⟨o, ho, hdst, hg, hr, hdo⟩ := (compG_get _ _ hL).2 i it hLi
    have ho' : ops[i]? = some o := by simpa using ho
    rw [← hdst] at hst
    have hgw : guardW ops fr o.guard (opW P W0 o.op (evA fr) σ fun v σ' => treeG P W0 ops L T V K f (done.setIfInBounds i true) (updO fr o.dst v) σ') (treeG P W0 ops L T V K f (done.setIfInBounds i true) (updO fr o.dst (.lit undef)) σ) := by
      refine guard_of_gRun hg (gRun_mono hst (fun hrun => compOp_sound hr ?_) id)
      cases hb : T i with
      | true => rw [hb] at hrun; exact ropW_mono hrun fun v σ' h => h.2
      | false => rw [hb] at hrun; exact ropW_mono (qRun_ropW hrun) fun v σ' ⟨e, h⟩ => e ▸ h
    unfold wpOp
    rw [ho']
    dsimp only
    rcases guardW_sound hgw hf o rfl with ⟨hw, hop⟩ | ⟨hw, hsk⟩
    · rw [if_pos hw]
      refine .inl (opW_sound hop hh hf.eval fun v w' ι' σ' av h2 h3 h4 h5 => ?_)
      exact wpAny_of_treeG hL hQ f _ _ σ' ι' _ w' h2 h3 ((hf.mono h4).put hdo h5) (hx.trans h4) (by rw [put_defers]; exact hd)
    · rw [if_neg (by rw [hw]; exact Bool.false_ne_true)]
      exact wpAny_of_treeG hL hQ f _ _ σ ι _ w hsk hh (hf.put hdo (v := .lit undef) rfl) hx (by rw [put_defers]; exact hd)
/-- the blocks that a plan's stores write -/
noncomputable def stF (p : PT) (fr : Fr) : List Nat :=
  PT.rec (motive := fun _ => List Nat) [] (fun _ _ ih => ih) (fun _ _ ih => ih) (fun it _ ih => match it.o with
    | .store _ (.t a) _ => match fr a with
      | .ptr b _ _ => b :: ih
      | _ => ih
    | _ => ih) (fun _ _ ia _ => ia) (fun _ _ ih => ih) p
/-- a region by its plan -/
def anyR (P : Program) (W0 : World) (nh : Bool) (p : PT) (fr : Fr) (σ : List Blk) (K : Fr → List Blk → Prop) : Prop :=
  match nh with
  | true => ∃ X : List Nat, ptW P W0 (fun σ' R => varC (X ++ stF p fr) σ R 0 σ') (X ++ stF p fr) σ p fr σ K
  | false => ptW P W0 (fun _ R => R) [] [] p fr σ K
theorem wp_region_plan {id : Nat} {L : GL} {T U : Nat → Bool} {nh : Bool} {p : PT} {ds : List Deferred} {K : Fr → List Blk → Prop} {Q : Exit → Act → World → Prop} {fr : Fr} {a : Act} {w : World} (hm : P.follows .mixedOrders = true) (hL : compG P n ops ops.toList = some L)
    (hp : mkPlan ops L T U (cond nh 1 0) ops.size (Array.replicate ops.size false) = some p) (hQ : ∀ a w, Post W0 ι0 σ0 n ds K a w → Q .normal a w)
    (h : anyR P W0 nh p fr σ K) (hh : HRel W0 ι σ w) (hf : FRel ι σ n fr a) (hx : Ext ι0 σ0 ι σ) (hd : a.defers = ds) : (Code.region id ops true).wp P Q a w := by
  have hsz : L.length = ops.size := by have := (compG_get _ _ hL).1; simpa using this
  cases nh with
  | true =>
    obtain ⟨X, h⟩ := (show ∃ X : List Nat, ptW P W0 (fun σ' R => varC (X ++ stF p fr) σ R 0 σ') (X ++ stF p fr) σ p fr σ K from h)
    have ht := plan_sound (P := P) (W0 := W0) (ops := ops) (L := L) (T := T) (U := U) (V0 := varL (X ++ stF p fr) σ 0) (K := K) (fun _ _ h => varC_spec h) hsz ops.size 1 (fun _ => rfl) _ p fr σ (by simp) hp (fun _ => varL_refl _ _ _) h
    exact wp_region_any hm (wpAny_of_treeG hL hQ _ _ _ _ _ _ _ ht hh.drew hf hx hd)
  | false =>
    have ht := plan_sound (P := P) (W0 := W0) (ops := ops) (L := L) (T := T) (U := U) (V0 := fun _ => True) (K := K) (fun _ _ h => ⟨trivial, h⟩) hsz ops.size 0 (fun e => by cases e) _ p fr σ (by simp) hp (fun _ => trivial) h
    exact wp_region_any hm (wpAny_of_treeG hL hQ _ _ _ _ _ _ _ ht hh.drew hf hx hd)
end
end Go.Proofs.Ytcclhjohpicleaa.Abs
end

section
/- The abstract logic, part N: a function's resolved code; rounds of a loop; a function by its resolved code. -/
set_option linter.unusedVariables false
set_option linter.unusedSimpArgs false
namespace Go.Proofs.Ytcclhjohpicleaa.Abs
open Go Go.RowKit
inductive RC where
  | skip
  | seq (a b : RC)
  | cond (c : RA) (a b : RC)
  | block (id : Nat) (c : RC)
  | exit (id : Nat)
  | loop (c : RC)
  | ret
  | scope (c : RC)
  | reg (is : List RI)
  | quiet (head tail : List RI)
  | draw (head tail : DL)
  | any (nh : Bool) (p : PT)
  | dead
def roundsR (body : Fr → List Blk → CPost → Prop) (k : Nat) : Fr → List Blk → CPost → Prop :=
  Nat.rec (motive := fun _ => Fr → List Blk → CPost → Prop) (fun _ _ _ => False) (fun _ ih fr σ Q => body fr σ fun e fr' σ' => match e with
    | .normal => ih fr' σ' Q
    | e => Q e fr' σ') k
/-- A loop: so and so many rounds at most, or by what holds at each round's head. -/
inductive LoopR (b0 : Nat) (body : Fr → List Blk → CPost → Prop) (fr : Fr) (σ : List Blk) (Q : CPost) : Prop
  | unroll (k : Nat) (h : roundsR body k fr σ Q)
  | inv (h : LoopW b0 body fr σ Q)
def rW (P : Program) (W0 : World) (b0 : Nat) (r : RC) : Fr → List Blk → CPost → Prop :=
  RC.rec (motive := fun _ => Fr → List Blk → CPost → Prop)
    (fun fr σ Q => Q .normal fr σ)
    (fun _ _ ia ib fr σ Q => ia fr σ fun e fr σ => match e with
      | .normal => ib fr σ Q
      | e => Q e fr σ)
    (fun c _ _ ia ib fr σ Q => match c.ev fr with
      | .lit (.bool t) => (t = true → ia fr σ Q) ∧ (t = false → ib fr σ Q)
      | _ => False)
    (fun id _ ic fr σ Q => ic fr σ fun e fr σ => match e with
      | .exit i => if i = id then Q .normal fr σ else Q (.exit i) fr σ
      | e => Q e fr σ)
    (fun id fr σ Q => Q (.exit id) fr σ)
    (fun _ ic fr σ Q => LoopR b0 ic fr σ Q)
    (fun fr σ Q => Q .ret fr σ)
    (fun _ ic fr σ Q => ic fr σ fun e fr σ => match e with
      | .goto _ => False
      | e => Q e fr σ)
    (fun is fr σ Q => riW P W0 is fr σ (Q .normal))
    (fun head tail fr σ Q => qR P W0 head fr σ fun fr => riW P W0 tail fr σ (Q .normal))
    (fun head tail fr σ Q => hR P W0 head fr σ fun fr => runB P W0 tail fr σ (Q .normal))
    (fun nh p fr σ Q => anyR P W0 nh p fr σ (Q .normal))
    (fun _ _ _ => False) r
theorem rW_cond {P : Program} {W0 : World} {b0 : Nat} {c : RA} {a b : RC} {fr : Fr} {σ : List Blk} {Q : CPost} : rW P W0 b0 (.cond c a b) fr σ Q = match c.ev fr with
    | .lit (.bool t) => (t = true → rW P W0 b0 a fr σ Q) ∧ (t = false → rW P W0 b0 b fr σ Q)
    | _ => False := rfl
theorem rW_loop {P : Program} {W0 : World} {b0 : Nat} {c : RC} {fr : Fr} {σ : List Blk} {Q : CPost} : rW P W0 b0 (.loop c) fr σ Q = LoopR b0 (fun fr σ Q => rW P W0 b0 c fr σ Q) fr σ Q := rfl
/-- what is not served must not be reached -/
def orDead : Option RC → Option RC
  | none => some .dead
  | some r => some r
theorem orDead_inv {x : Option RC} {r : RC} (h : orDead x = some r) : r = .dead ∨ x = some r := by
  cases x with
  | none => exact .inl (by cases h; rfl)
  | some y => exact .inr h
def comp (P : Program) (n : Nat) (cuts : Nat → Nat) : Code → Option RC
  | .skip | .label _ => some .skip
  | .region id ops draw => orDead (match draw with
    | false => (compOps P n ops ops.toList).map .reg
    | true => if 1000000 ≤ cuts id then match compG P n ops ops.toList with
        | some L => (mkPlan ops L (fun i => ((cuts id - 1000000) / 2).testBit i) (fun i => ((cuts id - 1000000) / 2).testBit (i + 64)) (cond ((cuts id - 1000000) % 2 == 1) 1 0) ops.size (Array.replicate ops.size false)).map (.any ((cuts id - 1000000) % 2 == 1))
        | none => none
      else if cuts id % 2 = 1 then match compD P n ops.toList with
        | some L => if cuts id / 2 ≤ L.length ∧ lexD ops L (cuts id / 2) (L.length - (cuts id / 2)) (cuts id / 2) 0 (Array.replicate ops.size false) = true then some (.draw (L.take (cuts id / 2)) (L.drop (cuts id / 2))) else none
        | none => none
      else if cuts id / 2 = 0 then (if Region.lexB .any ops = true then (compOps P n ops ops.toList).map fun h => .quiet h [] else none)
      else if Region.lexTailB .any ops (cuts id / 2) = true then match compOps P n ops (ops.toList.take (cuts id / 2)), compOps P n ops (ops.toList.drop (cuts id / 2)) with
        | some h, some t => some (.quiet h t)
        | _, _ => none
      else none)
  | .seq a b => match comp P n cuts a, comp P n cuts b with
    | some x, some y => some (.seq x y)
    | _, _ => none
  | .cond c a b => match comp P n cuts a, comp P n cuts b with
    | some x, some y => some (.cond (cA c) x y)
    | _, _ => none
  | .block id c => (comp P n cuts c).map (.block id)
  | .exit id => some (.exit id)
  | .loop c => (comp P n cuts c).map .loop
  | .ret => some .ret
  | .scope c => (comp P n cuts c).map .scope
  | _ => some .dead
section
variable {P : Program} {W0 : World} {ι0 : Loc} {σ0 : List Blk} {n : Nat} {cuts : Nat → Nat}
theorem comp_sound (hm : P.follows .mixedOrders = true) (hl0 : ι0.length = σ0.length) : ∀ (c : Code) (r : RC) (Q : CPost) (fr : Fr) (σ : List Blk) (ι : Loc) (a : Act) (w : World) (ds : List Deferred), comp P n cuts c = some r → rW P W0 σ0.length r fr σ Q →
    HRel W0 ι σ w → FRel ι σ n fr a → Ext ι0 σ0 ι σ → a.defers = ds → c.wp P (Lift W0 ι0 σ0 n ds Q) a w
  | .skip, r, Q, fr, σ, ι, a, w, ds, hc, h, hh, hf, hx, hd => by
    cases hc
    exact wp_skip ⟨ι, σ, fr, h, hh, hf, hx, hd⟩
  | .label _, r, Q, fr, σ, ι, a, w, ds, hc, h, hh, hf, hx, hd => by
    cases hc
    exact wp_label ⟨ι, σ, fr, h, hh, hf, hx, hd⟩
  | .exit id, r, Q, fr, σ, ι, a, w, ds, hc, h, hh, hf, hx, hd => by
    cases hc
    exact wp_exit ⟨ι, σ, fr, h, hh, hf, hx, hd⟩
  | .goto l, r, Q, fr, σ, ι, a, w, ds, hc, h, hh, hf, hx, hd => by cases hc; exact False.elim h
  | .ret, r, Q, fr, σ, ι, a, w, ds, hc, h, hh, hf, hx, hd => by
    cases hc
    exact wp_ret ⟨ι, σ, fr, h, hh, hf, hx, hd⟩
  | .refuse _, r, Q, fr, σ, ι, a, w, ds, hc, h, hh, hf, hx, hd => by cases hc; exact False.elim h
  | .rangeFunc _ _ _ _, r, Q, fr, σ, ι, a, w, ds, hc, h, hh, hf, hx, hd => by cases hc; exact False.elim h
  | .region id ops draw, r, Q, fr, σ, ι, a, w, ds, hc, h, hh, hf, hx, hd => by
    unfold comp at hc
    rcases orDead_inv hc with rfl | hc
    · exact False.elim h
    cases draw with
    | false =>
      dsimp only at hc
      obtain ⟨is, his, rfl⟩ := Option.map_eq_some_iff.1 hc
      exact wp_region_list (opsW_sound (fun _ _ hp => hp) _ none fr σ ι a w (compOps_sound _ _ _ fr σ (Nat.le_refl _) his h) hh hf hx hd (fun q hq => by cases hq))
    | true =>
      dsimp only at hc
      split at hc
      · split at hc
        · rename_i L hL
          revert hc
          generalize ((cuts id - 1000000) % 2 == 1) = nh
          generalize (fun i => ((cuts id - 1000000) / 2).testBit i) = T
          generalize (fun i => ((cuts id - 1000000) / 2).testBit (i + 64)) = U
          intro hc
          obtain ⟨p, hp, rfl⟩ := Option.map_eq_some_iff.1 hc
          exact wp_region_plan hm hL hp (fun _ _ hp => hp) h hh hf hx hd
        · cases hc
      split at hc
      · split at hc
        · rename_i L hL
          split at hc
          · rename_i hcond
            cases hc
            exact wp_region_lexD hm hL hcond.1 hcond.2 (fun _ _ hp => hp) h hh hf hx hd
          · cases hc
        · cases hc
      split at hc
      · split at hc
        · rename_i hB
          obtain ⟨is, his, rfl⟩ := Option.map_eq_some_iff.1 hc
          refine wp_region_quiet (C := HRel W0 ι σ) hm hB hh.drew ?_
          exact qW_sound (fun fr' a' hk hf' hd' w' hw' => ⟨ι, σ, fr', hk, hw', hf', hx, hd'⟩) hh _ _ _ (compOps_q _ _ _ his h) hf hd
        · cases hc
      · split at hc
        · rename_i hB
          split at hc
          · rename_i hd' tl h1 h2
            cases hc
            have hops : ops = ops.toList.toArray := by simp
            rw [hops]
            refine wp_region_head_tail (C := HRel W0 ι σ) (cuts id / 2) hm (by rw [← hops]; exact hB) hh.drew ?_
            rw [← hops]
            exact qW_sound (fun fr' a' hk hf' hd' w' hw' => opsW_sound (fun _ _ hp => hp) _ none fr' σ ι a' w' (compOps_sound _ _ _ fr' σ (Nat.le_refl _) h2 hk) hw' hf' hx hd' (fun q hq => by cases hq)) hh _ _ _ (compOps_q _ _ _ h1 h) hf hd
          · cases hc
        · cases hc
  | .seq x y, r, Q, fr, σ, ι, a, w, ds, hc, h, hh, hf, hx, hd => by
    unfold comp at hc
    split at hc
    · rename_i rx ry h1 h2
      cases hc
      refine wp_seq (wp_mono (comp_sound hm hl0 x rx _ fr σ ι a w ds h1 h hh hf hx hd) fun e a' w' hq => ?_)
      cases e with
      | normal =>
        obtain ⟨ι', σ', fr', hk, hh', hf', hx', hd'⟩ := hq
        exact comp_sound hm hl0 y ry Q fr' σ' ι' a' w' ds h2 hk hh' hf' hx' hd'
      | _ => exact hq
    · cases hc
  | .cond c x y, r, Q, fr, σ, ι, a, w, ds, hc, h, hh, hf, hx, hd => by
    unfold comp at hc
    split at hc
    · rename_i rx ry h1 h2
      cases hc
      rw [rW_cond] at h
      split at h
      · rename_i t ht
        rw [cA_ev] at ht
        have h1' := hf.eval c
        rw [ht] at h1'
        have e1 : a.eval c = .bool t := h1'
        exact wp_cond_split e1 (fun e => comp_sound hm hl0 x rx Q fr σ ι a w ds h1 (h.1 e) hh hf hx hd) (fun e => comp_sound hm hl0 y ry Q fr σ ι a w ds h2 (h.2 e) hh hf hx hd)
      · exact h.elim
    · cases hc
  | .block id c, r, Q, fr, σ, ι, a, w, ds, hc, h, hh, hf, hx, hd => by
    unfold comp at hc
    obtain ⟨rc, hrc, rfl⟩ := Option.map_eq_some_iff.1 hc
    refine wp_block (wp_mono (comp_sound hm hl0 c rc _ fr σ ι a w ds hrc h hh hf hx hd) fun e a' w' hq => ?_)
    cases e with
    | exit i =>
      obtain ⟨ι', σ', fr', hk, hrest⟩ := hq
      simp only [Exit.inBlock]
      by_cases hi : i = id
      · simp only [hi, if_true] at hk ⊢; exact ⟨ι', σ', fr', hk, hrest⟩
      · simp only [hi, if_false] at hk ⊢; exact ⟨ι', σ', fr', hk, hrest⟩
    | _ => exact hq
  | .scope c, r, Q, fr, σ, ι, a, w, ds, hc, h, hh, hf, hx, hd => by
    unfold comp at hc
    obtain ⟨rc, hrc, rfl⟩ := Option.map_eq_some_iff.1 hc
    refine wp_scope_straight (wp_mono (comp_sound hm hl0 c rc _ fr σ ι a w ds hrc h hh hf hx hd) fun e a' w' hq => ?_)
    cases e with
    | goto l => obtain ⟨ι', σ', fr', hk, hrest⟩ := hq; exact hk.elim
    | _ => exact hq
  | .loop c, r, Q, fr, σ, ι, a, w, ds, hc, h, hh, hf, hx, hd => by
    unfold comp at hc
    obtain ⟨rc, hrc, rfl⟩ := Option.map_eq_some_iff.1 hc
    rw [rW_loop] at h
    rcases h with ⟨k, h⟩ | ⟨⟨I, m, fr0, σ1, hfo, hI, round⟩⟩
    · refine wp_loop_rounds k ?_
      have key : ∀ k fr σ ι a w, roundsR (fun fr σ Q => rW P W0 σ0.length rc fr σ Q) k fr σ Q → HRel W0 ι σ w → FRel ι σ n fr a → Ext ι0 σ0 ι σ → a.defers = ds → Code.rounds P c (Lift W0 ι0 σ0 n ds Q) k a w := by
        intro k
        induction k with
        | zero => intro fr σ ι a w h _ _ _ _; exact h.elim
        | succ k ih =>
          intro fr σ ι a w h hh hf hx hd
          refine wp_mono (comp_sound hm hl0 c rc _ fr σ ι a w ds hrc h hh hf hx hd) fun e a' w' hq => ?_
          cases e with
          | normal =>
            obtain ⟨ι', σ', fr', hk, hh', hf', hx', hd'⟩ := hq
            exact ih fr' σ' ι' a' w' hk hh' hf' hx' hd'
          | _ => exact hq
      exact key k fr σ ι a w h hh hf hx hd
    · obtain ⟨ι1, hh1, hf1, hx1⟩ := hf.forget hfo hh hx hl0
      refine wp_loop_least (fun m a w => ∃ ι σ fr, I m fr σ ∧ HRel W0 ι σ w ∧ FRel ι σ n fr a ∧ Ext ι0 σ0 ι σ ∧ a.defers = ds) ⟨m, ι1, σ1, fr0, hI, hh1, hf1, hx1, hd⟩ fun m a w ⟨ι, σ, fr, hI, hh, hf, hx, hd⟩ => ?_
      refine wp_mono (comp_sound hm hl0 c rc _ fr σ ι a w ds hrc (round m fr σ hI) hh hf hx hd) fun e a' w' hq => ?_
      cases e with
      | normal =>
        obtain ⟨ι', σ', fr', ⟨m', fr'', σ'', hlt, hfo', hI'⟩, hh', hf', hx', hd'⟩ := hq
        obtain ⟨ι2, hh2, hf2, hx2⟩ := hf'.forget hfo' hh' hx' hl0
        exact ⟨m', hlt, ι2, σ'', fr'', hI', hh2, hf2, hx2, hd'⟩
      | _ => exact hq
end
/-! ### results -/
inductive RR where
  | tmp (t : Nat)
  | cell (a s : Nat) (g : Bool)
def compRes (P : Program) : List ResultVar → Option (List RR)
  | [] => some []
  | .tmp t :: rs => (compRes P rs).map (.tmp t :: ·)
  | .cell a t :: rs => match compOp P (.load t (.tmp a)), compRes P rs with
    | some (.load s g (.t a')), some l => if a' = a then some (.cell a s g :: l) else none
    | _, _ => none
def resR (W0 : World) (fr : Fr) (σ : List Blk) (l : List RR) : (List AV → Prop) → Prop :=
  List.rec (motive := fun _ => (List AV → Prop) → Prop) (fun K => K []) (fun r _ ih K => match r with
    | .tmp t => ih fun vs => fv (fr t) fun v => K (v :: vs)
    | .cell a s g => loadR W0 s g (fr a) σ fun v _ => ih fun vs => fv v fun v => K (v :: vs)) l
section
variable {W0 : World} {fr : Fr} {σ : List Blk} {rs : List RR} {K : List AV → Prop}
theorem resR_tmp {t : Nat} : resR W0 fr σ (.tmp t :: rs) K = resR W0 fr σ rs fun vs => fv (fr t) fun v => K (v :: vs) := rfl
theorem resR_cell {a s : Nat} {g : Bool} : resR W0 fr σ (.cell a s g :: rs) K = loadR W0 s g (fr a) σ fun v _ => resR W0 fr σ rs fun vs => fv v fun v => K (v :: vs) := rfl
end
theorem resR_sound {P : Program} {W0 : World} {fr : Fr} {σ : List Blk} : ∀ (rs : List ResultVar) (l : List RR) (K : List AV → Prop), compRes P rs = some l → resR W0 fr σ l K → resW P W0 fr σ rs K
  | [], l, K, hc, h => by
    simp only [compRes, Option.some.injEq] at hc; subst hc
    exact h
  | .tmp t :: rs, l, K, hc, h => by
    simp only [compRes] at hc
    obtain ⟨l', hl, rfl⟩ := Option.map_eq_some_iff.1 hc
    simp only [resR_tmp, fv_eq] at h
    exact resR_sound rs l' (fun vs => K (fr t :: vs)) hl h
  | .cell a t :: rs, l, K, hc, h => by
    simp only [compRes] at hc
    split at hc
    · rename_i s g a' l' h1 h2
      split at hc
      · rename_i ha
        subst ha
        cases hc
        simp only [resR_cell, fv_eq] at h
        obtain ⟨av, hk, h3⟩ := loadR_ld h
        have h4 : ropW P W0 (.load s g (.t a')) fr σ (fun v _ => resW P W0 fr σ rs fun vs => K (v :: vs)) := h3 (fun v _ => resW P W0 fr σ rs fun vs => K (v :: vs)) (resR_sound rs l' (fun vs => K (av :: vs)) h2 hk)
        exact compOp_sound h1 h4
      · cases hc
    · cases hc
/-- Behind a function: blocks that nothing leads to any more may be dropped. -/
inductive FinR (b0 : Nat) (K : Cont) (v : AV) (σ : List Blk) : Prop
  | keep (h : K v σ)
  | drop (k : Nat) (hk : b0 ≤ k) (hc : Closed k (σ.take k)) (hb : bel3 k v = true) (h : K v (σ.take k))
def tupR (vs : List AV) (K : AV → Prop) : Prop :=
  match vs with
  | [v] => K v
  | vs => match vs.all one2 with
    | true => K (.tup vs)
    | false => False
def finP (W0 : World) (rs : List RR) (b0 : Nat) (K : Cont) : CPost := fun e fr σ => match e with
  | .normal => resR W0 fr σ rs fun vs => tupR vs fun v => FinR b0 K v σ
  | .ret => resR W0 fr σ rs fun vs => tupR vs fun v => FinR b0 K v σ
  | _ => False
section
variable {P : Program} {W0 : World} {σ : List Blk}
theorem tupR_sound {vs : List AV} {K : AV → Prop} (h : tupR vs K) : ∃ v, tupA vs = some v ∧ K v := by
  unfold tupR at h
  unfold tupA
  split at h
  · exact ⟨_, rfl, h⟩
  · rename_i hne
    split at h
    · rename_i hall
      split
      · exact (hne _ rfl).elim
      · rw [if_pos hall]; exact ⟨_, rfl, h⟩
    · exact h.elim
theorem rel_initFr {ι : Loc} {fn : Func} {args : List AV} {vs : List Value} (hr : Rels (rel3 ι σ) args vs) (hn : args.length ≤ fn.ntmps) :
    FRel ι σ fn.ntmps (initFr args) ({ tmps := vs.toArray ++ Array.replicate (fn.ntmps - vs.toArray.size) undef, defers := [] } : Act) := by
  have hvl : vs.length = args.length := hr.1.symm
  refine ⟨by simp; omega, fun t => ?_⟩
  unfold initFr
  rcases Nat.lt_or_ge t args.length with ht | ht
  · have ha := List.getElem?_eq_getElem ht
    obtain ⟨b, hb', hab⟩ := hr.get ha
    have htl : t < vs.length := by omega
    have h1 : args.getD t .junk = args[t] := by simp [ht]
    have h2 : (vs.toArray ++ Array.replicate (fn.ntmps - vs.toArray.size) undef).getD t undef = b := by
      rw [Array.getD_eq_getD_getElem?, Array.getElem?_append_left (by simpa using htl)]
      simp [hb']
    show rel3 ι σ (args.getD t .junk) ((vs.toArray ++ Array.replicate (fn.ntmps - vs.toArray.size) undef).getD t undef)
    rw [h1, h2]; exact hab
  · have h1 : args.getD t .junk = .junk := by simp [ht]
    rw [h1]; exact trivial
/-- **A function by its resolved code.** -/
theorem ACall.introR {g : FuncId} {fn : Func} {r : RC} {rs : List RR} {args : List AV} {K : Cont} {cuts : Nat → Nat} (hm : P.follows .mixedOrders = true) (hf : P.funcs[g]? = some fn) (hname : (fn.name == "runtime.NumGoroutine") = false)
    (hc : (fn.body.bind fun c => comp P fn.ntmps cuts c) = some r) (hrs : compRes P fn.results.toList = some rs) (hn : args.length ≤ fn.ntmps)
    (h : rW P W0 σ.length r (initFr args) σ (finP W0 rs σ.length K)) : ACall P W0 g args σ K := by
  obtain ⟨c, hb, hc⟩ := Option.bind_eq_some_iff.1 hc
  refine ⟨by simp [callOK, hf, hname, hb], fun ι w vs hh hr => ?_⟩
  refine calls_of_wp hf hb (wp_mono (comp_sound (ι0 := ι) (σ0 := σ) hm hh.len c r _ (initFr args) σ ι _ w [] hc h hh (rel_initFr hr hn) (Ext.refl _ _) rfl) fun e a' w' hq => ?_)
  obtain ⟨ι', σ', fr', hfin, hh', hf', hx', hd'⟩ := hq
  have key : resR W0 fr' σ' rs (fun vs => tupR vs fun v => FinR σ.length K v σ') → bodyPost P fn (fun e w' => ∃ v ι' σ' av, e = .returned v ∧ K av σ' ∧ HRel W0 ι' σ' w' ∧ Ext ι σ ι' σ' ∧ rel3 ι' σ' av v) .normal a' w' := by
    intro hres
    have hres' := resR_sound _ _ _ hrs hres
    obtain ⟨vs', xs, hv, hrr, hrun⟩ := run_resList hf' hh' _ _ hres'
    obtain ⟨v, hv1, hv2⟩ := tupR_sound hv
    have hmm : (fn.results.mapM (resOne a'.tmps)).run P w' = .ok xs.toArray w' := by
      rw [Array.mapM_eq_mapM_toList]
      simp only [Sem.run_map, hrun, Result.andThen_ok]
    have h0 : (results fn a'.tmps).run P w' = .ok (if h : xs.toArray.size = 1 then xs.toArray[0] else .tuple xs.toArray) w' := by
      rw [results_eq]
      simp only [Sem.run_bind, Sem.run_pure, hmm, Result.andThen_ok]
    have hx : ∃ x, (results fn a'.tmps).run P w' = .ok x w' ∧ rel3 ι' σ' v x := by
      unfold tupA at hv1
      split at hv1
      · rename_i u
        cases hv1
        obtain ⟨b, m, rfl, h1, h2⟩ := hrr.uncons
        obtain rfl := h2.nil_inv
        exact ⟨b, by rw [h0]; rfl, h1⟩
      · rename_i hne
        split at hv1
        · rename_i hall
          cases hv1
          have hl : xs.toArray.size ≠ 1 := by
            have := hrr.1
            intro h1
            simp at h1
            rw [h1] at this
            match vs', this with
            | [u], _ => exact hne u rfl
          rw [dif_neg hl] at h0
          exact ⟨_, h0, xs, rfl, hrr.mono' fun a ha b hab => rel2_of_rel3 (List.all_eq_true.1 hall a ha) hab⟩
        · cases hv1
    obtain ⟨x, hrun', hrel⟩ := hx
    refine ⟨hd', x, hrun', ?_⟩
    cases hv2 with
    | keep hk => exact ⟨x, ι', σ', v, rfl, hk, hh', hx', hrel⟩
    | drop k hbk hcl hbel hk => exact ⟨x, ι'.take k, σ'.take k, v, rfl, hk, hh'.take hcl, hx'.take hh.len hbk, hrel.take hbel⟩
  cases e with
  | normal => exact key hfin
  | ret => exact key hfin
  | _ => exact hfin.elim
end
/-! ### a call among other blocks -/
def sh0 (k : Nat) : AV → AV
  | .ptr b ver off => .ptr (k + b) ver off
  | v => v
def sh1 (k : Nat) : AV → AV
  | .ptr b ver off => .ptr (k + b) ver off
  | .sl b ver off n c => .sl (k + b) ver off n c
  | .fn f first caps => .fn f (first.map (sh0 k)) (caps.map (sh0 k))
  | v => v
def sh2 (k : Nat) : AV → AV
  | .agg cs => .agg (cs.map (sh1 k))
  | v => sh1 k v
def sh3 (k : Nat) : AV → AV
  | .tup vs => .tup (vs.map (sh2 k))
  | v => sh2 k v
def shB (k : Nat) (σ : List Blk) : List Blk := σ.map fun B => { B with cells := B.cells.map (sh1 k) }
section
variable {P : Program} {W0 : World} {ι ι' : Loc} {σ σ' : List Blk} {w : World}
theorem get_sh {b : Nat} {B : Blk} (h : σ'[b]? = some B) : (σ ++ shB σ.length σ')[σ.length + b]? = some { B with cells := B.cells.map (sh1 σ.length) } := by
  rw [List.getElem?_append_right (by omega)]
  simp [shB, h]
theorem get_shI {b : Nat} {q : Nat × Nat} (hl : ι.length = σ.length) (h : ι'[b]? = some q) : (ι ++ ι')[σ.length + b]? = some q := by
  rw [List.getElem?_append_right (by omega), hl]
  simpa using h
theorem ptrRel.sh {b ver off : Nat} {x : Value} (hl : ι.length = σ.length) (h : ptrRel ι' σ' b ver off x) : ptrRel (ι ++ ι') (σ ++ shB σ.length σ') (σ.length + b) ver off x := by
  obtain ⟨B, hB, hv, h1, hc, hm⟩ := h
  refine ⟨_, get_sh hB, hv, h1, fun e => ?_, fun e1 e2 => ?_⟩
  · obtain ⟨c, t, hi, he⟩ := hc e
    exact ⟨c, t, get_shI hl hi, he⟩
  · obtain ⟨c, t, hi, he⟩ := hm e1 e2
    exact ⟨c, t, get_shI hl hi, he⟩
theorem slRel.sh {b ver off len cap : Nat} {x : Value} (hl : ι.length = σ.length) (h : slRel ι' σ' b ver off len cap x) : slRel (ι ++ ι') (σ ++ shB σ.length σ') (σ.length + b) ver off len cap x := by
  obtain ⟨B, hB, hv, h1, hc, hm⟩ := h
  refine ⟨_, get_sh hB, hv, h1, fun e => ?_, hm⟩
  obtain ⟨c, t, hi, he⟩ := hc e
  exact ⟨c, t, get_shI hl hi, he⟩
theorem Rels.mapL {α β γ : Type} {R : α → β → Prop} {R' : γ → β → Prop} {f : α → γ} {l : List α} {m : List β} (h : Rels R l m) (hr : ∀ a b, R a b → R' (f a) b) : Rels R' (l.map f) m :=
  ⟨by simp [h.1], fun i a b ha hb => by
    rw [List.getElem?_map] at ha
    obtain ⟨a', ha', rfl⟩ := Option.map_eq_some_iff.1 ha
    exact hr _ _ (h.2 i a' b ha' hb)⟩
theorem rel0.sh (hl : ι.length = σ.length) {v : AV} {x : Value} (h : rel0 ι' σ' v x) : rel0 (ι ++ ι') (σ ++ shB σ.length σ') (sh0 σ.length v) x := by
  cases v <;> first | exact h | exact ptrRel.sh hl h
theorem rel1.sh (hl : ι.length = σ.length) {v : AV} {x : Value} (h : rel1 ι' σ' v x) : rel1 (ι ++ ι') (σ ++ shB σ.length σ') (sh1 σ.length v) x := by
  cases v with
  | ptr b ver off => exact ptrRel.sh hl h
  | sl b ver off len cap => exact slRel.sh hl h
  | fn f first caps =>
    obtain ⟨l1, l2, e, h1, h2⟩ := h
    exact ⟨l1, l2, e, h1.mapL fun _ _ => rel0.sh hl, h2.mapL fun _ _ => rel0.sh hl⟩
  | _ => exact h
theorem crel.sh (hl : ι.length = σ.length) {v : AV} {x : Value} (h : crel ι' σ' v x) : crel (ι ++ ι') (σ ++ shB σ.length σ') (sh1 σ.length v) x := ⟨rel1.sh hl h.1, h.2⟩
theorem rel2.sh (hl : ι.length = σ.length) {v : AV} {x : Value} (h : rel2 ι' σ' v x) : rel2 (ι ++ ι') (σ ++ shB σ.length σ') (sh2 σ.length v) x := by
  cases v with
  | agg cs => obtain ⟨l, e, h1⟩ := h; exact ⟨l, e, h1.mapL fun _ _ => crel.sh hl⟩
  | ptr b ver off => exact ptrRel.sh hl h
  | sl b ver off len cap => exact slRel.sh hl h
  | fn f first caps => exact rel1.sh (v := .fn f first caps) hl h
  | _ => exact h
theorem rel3.sh (hl : ι.length = σ.length) {v : AV} {x : Value} (h : rel3 ι' σ' v x) : rel3 (ι ++ ι') (σ ++ shB σ.length σ') (sh3 σ.length v) x := by
  cases v with
  | tup vs => obtain ⟨l, e, h1⟩ := h; exact ⟨l, e, h1.mapL fun _ _ => rel2.sh hl⟩
  | agg cs => exact rel2.sh (v := .agg cs) hl h
  | ptr b ver off => exact ptrRel.sh hl h
  | sl b ver off len cap => exact slRel.sh hl h
  | fn f first caps => exact rel1.sh (v := .fn f first caps) hl h
  | _ => exact h
/-- an argument that leads to no own block -/
def pure1 : AV → Bool
  | .lit _ | .junk => true
  | .fn _ first caps => first.all (fun v => match v with | .lit _ => true | _ => false) && caps.all (fun v => match v with | .lit _ => true | _ => false)
  | _ => false
def pure3 : AV → Bool
  | .agg cs => cs.all (fun v => match v with | .lit _ => true | _ => false)
  | v => pure1 v
theorem rel3_pure {v : AV} {x : Value} (hp : pure3 v = true) (h : rel3 ι σ v x) : rel3 [] [] v x := by
  have l0 : ∀ {l : List AV} {m : List Value}, (l.all (fun v => match v with | .lit _ => true | _ => false)) = true → Rels (rel0 ι σ) l m → Rels (rel0 [] []) l m := fun ha hr => hr.mono' fun a hm b hab => by
    have := List.all_eq_true.1 ha a hm
    cases a <;> first | exact hab | (simp at this)
  cases v with
  | lit v => exact h
  | junk => exact trivial
  | fn f first caps =>
    simp only [pure3, pure1, Bool.and_eq_true] at hp
    obtain ⟨l1, l2, e, h1, h2⟩ := h
    exact ⟨l1, l2, e, l0 hp.1 h1, l0 hp.2 h2⟩
  | agg cs =>
    simp only [pure3] at hp
    obtain ⟨l, e, h1⟩ := h
    exact ⟨l, e, h1.mono' fun a hm b hab => by
      have := List.all_eq_true.1 hp a hm
      cases a <;> first | exact hab | (simp at this)⟩
  | ptr b ver off => simp [pure3, pure1] at hp
  | sl b ver off len cap => simp [pure3, pure1] at hp
  | tup vs => simp [pure3, pure1] at hp
theorem HRel.nil (w : World) : HRel w [] [] w :=
  ⟨Below.refl _ _, rfl, fun i j c t t' h => by simp at h, fun i c t h => by simp at h, fun i B c t h => by simp at h, fun i B c t h => by simp at h, Nat.le_refl _⟩
/-- new blocks beside those that were there -/
theorem HRel.beside {w' : World} (h : HRel W0 ι σ w) (h' : HRel w ι' σ' w') : HRel W0 (ι ++ ι') (σ ++ shB σ.length σ') w' ∧ Ext ι σ (ι ++ ι') (σ ++ shB σ.length σ') := by
  have hsz : w.heap.size ≤ w'.heap.size := h'.below.size
  have hW : W0.heap.size ≤ w.heap.size := h.below.size
  have hx : Ext ι σ (ι ++ ι') (σ ++ shB σ.length σ') := by
    refine ⟨by simp, fun i B B' hB hB' => ?_, fun i B B' hB hB' _ => ?_⟩
    · rw [List.getElem?_append_left (getElem?_lt hB), hB] at hB'
      cases hB'
      exact ⟨Nat.le_refl _, rfl, rfl⟩
    · exact List.getElem?_append_left (by rw [h.len]; exact getElem?_lt hB)
  refine ⟨⟨(h.below.trans (h'.below.mono hW)), by simp [h.len, h'.len, shB], ?_, ?_, ?_, ?_, Nat.le_trans h.drw h'.drw⟩, hx⟩
  · intro i j c t t' hi hj
    rw [List.getElem?_append] at hi hj
    split at hi <;> split at hj
    · exact h.inj i j c t t' hi hj
    · have := (h.dom i c t hi).2; have := (h'.dom _ c t' hj).1; omega
    · have := (h.dom j c t' hj).2; have := (h'.dom _ c t hi).1; omega
    · have := h'.inj _ _ c t t' hi hj; omega
  · intro i c t hi
    rw [List.getElem?_append] at hi
    split at hi
    · have := h.dom i c t hi; omega
    · have := h'.dom _ c t hi; omega
  · intro i B c t hB hi hm
    rw [List.getElem?_append] at hB hi
    rw [h.len] at hi
    split at hB
    · rename_i hlt
      rw [if_pos hlt] at hi
      obtain ⟨es, clk, h1, h2⟩ := h.mp i B c t hB hi hm
      exact ⟨es, clk, by rw [h'.below.block c (h.dom i c t hi).2]; exact h1, h2.mono fun _ _ => crel.mono hx⟩
    · rename_i hge
      rw [if_neg hge] at hi
      unfold shB at hB
      rw [List.getElem?_map] at hB
      obtain ⟨B', hB', rfl⟩ := Option.map_eq_some_iff.1 hB
      obtain ⟨es, clk, h1, h2⟩ := h'.mp _ B' c t hB' hi hm
      exact ⟨es, clk, h1, h2.mapL fun _ _ => crel.sh h.len⟩
  · intro i B c t hB hi hm
    rw [List.getElem?_append] at hB hi
    rw [h.len] at hi
    split at hB
    · rename_i hlt
      rw [if_pos hlt] at hi
      obtain ⟨vs, rest, h1, h2, h3, h4⟩ := h.blk i B c t hB hi hm
      refine ⟨vs, rest, ?_, h2, h3.mono fun _ _ => crel.mono hx, h4⟩
      rw [h'.below.block c (h.dom i c t hi).2]; exact h1
    · rename_i hge
      rw [if_neg hge] at hi
      unfold shB at hB
      rw [List.getElem?_map] at hB
      obtain ⟨B', hB', rfl⟩ := Option.map_eq_some_iff.1 hB
      obtain ⟨vs, rest, h1, h2, h3, h4⟩ := h'.blk _ B' c t hB' hi hm
      exact ⟨vs, rest, h1, h2, h3.mapL fun _ _ => crel.sh h.len, h4⟩
/-- **A contract that knows no blocks holds beside any.** -/
theorem ACall.frame {g : FuncId} {args : List AV} {K0 K : Cont} (hp : args.all pure3 = true) (h : ∀ W1, Below W0.heap.size W0 W1 → ACall P W1 g args [] K0) (hk : ∀ v σ', K0 v σ' → K (sh3 σ.length v) (σ ++ shB σ.length σ')) :
    ACall P W0 g args σ K := by
  refine ⟨(h W0 (Below.refl _ _)).ok, fun ι w vs hh hr => ?_⟩
  have hr0 : Rels (rel3 [] []) args vs := hr.mono' fun a ha b hab => rel3_pure (List.all_eq_true.1 hp a ha) hab
  refine ((h w hh.below).run [] w vs (HRel.nil w) hr0).mono fun e w' ⟨v, ι', σ', av, he, hk0, h3, h4, h5⟩ => ?_
  obtain ⟨h6, h7⟩ := hh.beside h3
  exact ⟨v, _, _, _, he, hk _ _ hk0, h6, h7, rel3.sh hh.len h5⟩
/-- a contract whose result leads to no block -/
theorem ACall.lift {g : FuncId} {args : List AV} {r : AV} {K : Cont} (hp : args.all pure3 = true) (hs : ∀ k, sh3 k r = r) (h : ∀ (W1 : World) (K : Cont), Below W0.heap.size W0 W1 → K r [] → ACall P W1 g args [] K) (hk : K r σ) :
    ACall P W0 g args σ K :=
  ACall.frame (K0 := fun v σ' => v = r ∧ σ' = []) hp (fun W1 hb => h W1 _ hb ⟨rfl, rfl⟩) fun v σ' ⟨h1, h2⟩ => by
    subst h1; subst h2
    rw [hs]
    simpa [shB] using hk
theorem Closed.zero (σ : List Blk) : Closed 0 (σ.take 0) := by simp [Closed]
end
end Go.Proofs.Ytcclhjohpicleaa.Abs
end

section
/- From a contract to the statement: what came in, and what a law's call leaves. -/
set_option linter.unusedVariables false
set_option linter.unusedSimpArgs false
namespace Go.Proofs.Ytcclhjohpicleaa
open Go Go.RowKit Go.Proofs.Ytcclhjohpicleaa.Abs
theorem own : ownKnob Try.prog.godebug = none := by kernel_rfl
theorem laidOut : laidOutB Try.prog = true := by kernel_rfl
/-- what a law's call leaves -/
theorem law_calls {P : Program} {w : World} {g : FuncId} {avs : List AV} {vs : List Value} (h : ∀ K : Cont, K (.lit (.bool true)) [] → ACall P w g avs [] K) (hr : Rels (rel3 [] []) avs vs) :
    Calls P g vs.toArray w fun e w' => e = .returned (.bool true) ∧ Below w.heap.size w w' := by
  refine ((h (fun v σ' => v = .lit (.bool true)) rfl).run [] w vs (HRel.nil w) hr).mono fun e w' ⟨v, ι', σ', av, he, hk, hh, _, hrel⟩ => ?_
  subst hk
  have e1 : v = .bool true := hrel
  subst e1
  exact ⟨he, hh.below⟩
end Go.Proofs.Ytcclhjohpicleaa
end

section
/- The abstract logic, part R: a loop by the slots that live; contracts over 'Calls' as abstract calls; memory that came in. -/
set_option linter.unusedVariables false
set_option linter.unusedSimpArgs false
namespace Go.Proofs.Ytcclhjohpicleaa.Abs
open Go Go.RowKit
theorem mk_size (a : Array UInt8) : (ByteArray.mk a).size = a.size := rfl
/-- the bytes of a string -/
def tl (s : ByteArray) : List UInt8 := s.data.toList
theorem ba_get (s : ByteArray) (i : Nat) : s.data[i]?.getD 0 = (tl s).getD i 0 := by simp [List.getD, tl]
theorem ba_empty (s : ByteArray) : (s.toList == (⟨#[]⟩ : ByteArray).toList) = !decide ((1 : Int) ≤ (s.size : Nat)) := by
  rw [ByteArray.toList_eq, ByteArray.toList_eq]
  have h : s.size = s.data.toList.length := by show s.data.size = _; simp
  rw [h]
  cases s.data.toList <;> simp
  omega
theorem wrap64_eq (n : Int) : IntKind.i64.wrap n = (n + 9223372036854775808) % 18446744073709551616 - 9223372036854775808 := by
  unfold IntKind.wrap
  have e1 : IntKind.i64.bits = 64 := by decide
  have e2 : IntKind.i64.signed = true := by decide
  rw [e1, e2]
  have e3 : (2 : Int) ^ 64 = 18446744073709551616 := by decide
  have e4 : (2 : Int) ^ (64 - 1) = 9223372036854775808 := by decide
  simp only [e3, e4, Bool.true_and]
  split <;> (rename_i h; simp only [decide_eq_true_eq] at h; omega)
/-- a frame by the slots that are known -/
noncomputable def frL (l : List (Nat × AV)) : Fr := fun t => List.rec (motive := fun _ => AV) .junk (fun p _ ih => cond (Nat.beq t p.1) p.2 ih) l
def agr (l : List (Nat × AV)) (fr : Fr) : Prop := List.rec (motive := fun _ => Prop) True (fun p _ ih => fr p.1 = p.2 ∧ ih) l
theorem frL_cons {p : Nat × AV} {l : List (Nat × AV)} {t : Nat} : frL (p :: l) t = cond (Nat.beq t p.1) p.2 (frL l t) := rfl
theorem agr_cons {p : Nat × AV} {l : List (Nat × AV)} {fr : Fr} : agr (p :: l) fr = (fr p.1 = p.2 ∧ agr l fr) := rfl
theorem frL_agr {fr : Fr} : ∀ {l : List (Nat × AV)}, agr l fr → ∀ t, frL l t = .junk ∨ (frL l t = fr t ∧ ∃ p ∈ l, fr t = p.2)
  | [], _, t => .inl rfl
  | p :: l, h, t => by
    rw [agr_cons] at h
    rw [frL_cons]
    cases hb : Nat.beq t p.1 with
    | true =>
      have e : t = p.1 := Nat.eq_of_beq_eq_true hb
      right
      refine ⟨?_, p, List.mem_cons_self, ?_⟩ <;> rw [e, h.1]
      rfl
    | false =>
      rcases frL_agr h.2 t with h' | ⟨h', q, hq, hq'⟩
      · exact .inl h'
      · exact .inr ⟨h', q, List.mem_cons_of_mem _ hq, hq'⟩
/-- what becomes of the blocks at a loop's head: they stay, or those behind k are dropped -/
inductive Fgt (b0 : Nat) (l : List (Nat × AV)) (σ σ' : List Blk) : Prop
  | keep (h : σ' = σ)
  | drop (k : Nat) (hk : b0 ≤ k) (e : σ' = σ.take k) (hc : Closed k σ') (hb : l.all (fun p => bel3 k p.2) = true)
theorem Fgt.forget {b0 : Nat} {l : List (Nat × AV)} {σ σ' : List Blk} {fr : Fr} (h : Fgt b0 l σ σ') (ha : agr l fr) : Forget b0 fr σ (frL l) σ' := by
  cases h with
  | keep e => exact .inl ⟨e, fun t => (frL_agr ha t).imp id (·.1)⟩
  | drop k hk e hc hb =>
    refine .inr ⟨k, hk, e, hc, fun t => (frL_agr ha t).imp id fun ⟨h1, p, hp, h2⟩ => ⟨h1, ?_⟩⟩
    rw [h2]
    exact List.all_eq_true.1 hb p hp
/-- at the end of a round: the next round's head -/
structure Again {X : Type} (b0 : Nat) (sh : X → List (Nat × AV)) (st : X → List Blk) (inv : X → Prop) (m : X → Nat) (n : Nat) (fr : Fr) (σ : List Blk) : Prop where
  ex : ∃ m' fr'' σ'', m' < n ∧ Forget b0 fr σ fr'' σ'' ∧ ∃ y, fr'' = frL (sh y) ∧ σ'' = st y ∧ inv y ∧ m' = m y
theorem Again.go {X : Type} {b0 : Nat} {sh : X → List (Nat × AV)} {st : X → List Blk} {inv : X → Prop} {m : X → Nat} {n : Nat} {fr : Fr} {σ : List Blk} (x : X) (ha : agr (sh x) fr) (hg : Fgt b0 (sh x) σ (st x)) (hi : inv x) (hm : m x < n) :
    Again b0 sh st inv m n fr σ := ⟨m x, _, _, hm, hg.forget ha, x, rfl, rfl, hi, rfl⟩
/-- **A loop by the slots that live.** -/
theorem LoopR.live {X : Type} {b0 : Nat} {body : Fr → List Blk → CPost → Prop} {fr : Fr} {σ : List Blk} {Q : CPost} (sh : X → List (Nat × AV)) (st : X → List Blk) (inv : X → Prop) (m : X → Nat) (x0 : X)
    (hf : agr (sh x0) fr) (hσ : Fgt b0 (sh x0) σ (st x0)) (h0 : inv x0)
    (hb : ∀ x, inv x → body (frL (sh x)) (st x) fun e fr' σ' => match e with
      | .normal => Again b0 sh st inv m (m x) fr' σ'
      | e => Q e fr' σ') : LoopR b0 body fr σ Q := by
  refine LoopR.inv ⟨fun n fr' σ' => ∃ x, fr' = frL (sh x) ∧ σ' = st x ∧ inv x ∧ n = m x, m x0, frL (sh x0), st x0, hσ.forget hf, ⟨x0, rfl, rfl, h0, rfl⟩, ?_⟩
  rintro n fr' σ' ⟨x, rfl, rfl, hx, rfl⟩
  have h := hb x hx
  have e : (fun (e : Exit) (fr' : Fr) (σ' : List Blk) => (match e with | .normal => ∃ m' fr'' σ'', m' < m x ∧ Forget b0 fr' σ' fr'' σ'' ∧ (∃ y, fr'' = frL (sh y) ∧ σ'' = st y ∧ inv y ∧ m' = m y) | e => Q e fr' σ' : Prop))
      = (fun (e : Exit) (fr' : Fr) (σ' : List Blk) => (match e with | .normal => Again b0 sh st inv m (m x) fr' σ' | e => Q e fr' σ' : Prop)) := by
    funext e fr' σ'
    cases e with
    | normal => exact propext ⟨fun h => ⟨h⟩, fun h => h.ex⟩
    | _ => rfl
  exact Eq.mp (congrArg (fun k => body (frL (sh x)) (st x) k) e.symm) h
section
variable {P : Program} {W0 : World} {σ : List Blk} {K : Cont}
theorem HRel.after {ι : Loc} {w w' : World} (h : HRel W0 ι σ w) (hb : Below w.heap.size w w') (hd : w.drawn ≤ w'.drawn) : HRel W0 ι σ w' := by
  have h0 : HRel w [] [] w' := ⟨hb, rfl, fun i j c t t' h => by simp at h, fun i c t h => by simp at h, fun i B c t h => by simp at h, fun i B c t h => by simp at h, hd⟩
  have h1 := (h.beside h0).1
  simpa [shB] using h1
end
/-- a slice whose elements are told by a list: it came in (or is nil), or it is the call's own -/
inductive Sli {α : Type} (W0 : World) (σ : List Blk) (s : Nat) (enc : α → List Value) : AV → List α → Prop
  | nil : Sli W0 σ s enc (.lit (.slice none 0 0)) []
  | inn (ad : Addr) (n cap : Nat) (xs : List α) (hn : n = xs.length) (hc : n ≤ cap) (hm : cap ≤ maxLen) (hb : ad.block < W0.heap.size)
      (hx : ∀ i x, xs[i]? = some x → ∀ j v, (enc x)[j]? = some v → W0.cell? ((ad.add (i * s)).add j) = some v ∧ v.oneCell' = true) : Sli W0 σ s enc (.lit (.slice (some ad) n cap)) xs
  | own (b ver off n cap : Nat) (B : Blk) (xs : List α) (hB : σ[b]? = some B) (hv : B.ver = ver) (hn : n = xs.length)
      (hx : ∀ i x, xs[i]? = some x → ∀ j v, (enc x)[j]? = some v → B.cells[off + i * s + j]? = some (.lit v)) : Sli W0 σ s enc (.sl b ver off n cap) xs
section
variable {P : Program} {W0 : World} {σ : List Blk} {K : Cont} {α : Type} {s : Nat} {enc : α → List Value}
/-- the arguments as the callee sees them -/
inductive Sees (W1 : World) (ι : Loc) (σ : List Blk) : List AV → List AV → Prop
  | nil : Sees W1 ι σ [] []
  | cons {a a' : AV} {l l' : List AV} (h : ∀ x, rel3 ι σ a x → rel3 [] [] a' x) (t : Sees W1 ι σ l l') : Sees W1 ι σ (a :: l) (a' :: l')
end
end Go.Proofs.Ytcclhjohpicleaa.Abs
end

section
/- From a contract to the statement: arguments of several kinds of cells. -/
set_option linter.unusedVariables false
set_option linter.unusedSimpArgs false
namespace Go.Proofs.Ytcclhjohpicleaa
open Go Go.RowKit Go.Proofs.Ytcclhjohpicleaa.Abs
def kOf : Option TypeDesc → Nat
  | some (.int .i64) => 0
  | some .string => 1
  | some .bool => 2
  | _ => 9
def okK (k : Nat) (x : Value) : Prop := match k with
  | 0 => ∃ m, x = .int .i64 m ∧ IntKind.i64.has m
  | 1 => ∃ s : ByteArray, x = .string s ∧ s.size ≤ 9223372036854775807
  | 2 => ∃ b, x = .bool b
  | _ => True
theorem okK_of_cell {P : Program} {w : World} {base : Nat} {u : TypeId} {v : Value} (hok : Cell.okWide P w .any base u v) : okK (kOf (P.underlying u)) v := by
  unfold Cell.okWide at hok
  cases hu : P.underlying u with
  | none => exact trivial
  | some d =>
    rw [hu] at hok
    cases d with
    | int k =>
      cases k with
      | i64 =>
        unfold Cell.ok at hok
        rw [hu] at hok
        cases v <;> simp at hok
        exact ⟨_, by rw [hok.1], hok.2⟩
      | _ => exact trivial
    | string =>
      unfold Cell.ok at hok
      rw [hu] at hok
      cases v with
      | string s =>
        have h1 : (s.size : Int) ≤ IntKind.i64.max := hok
        have h2 : IntKind.i64.max = 9223372036854775807 := by decide
        exact ⟨s, rfl, by omega⟩
      | _ => simp at hok
    | bool =>
      unfold Cell.ok at hok
      rw [hu] at hok
      cases v with
      | bool b => exact ⟨b, rfl⟩
      | _ => simp at hok
    | _ => exact trivial
theorem flat_of_okWide {P : Program} {w : World} {base n : Nat} {t : TypeId} {v : Value} {ks : List Nat} (ha : aggP P t = some true) (hs : P.cellsOf t = n)
    (hk : ((P.cellTypes P.depth t).map fun ts => ts.map fun u => kOf (P.underlying u)) = some ks) (hn : ks.length = n)
    (h : Value.okWide P w .any base t v) : ∃ l : List Value, l.length = n ∧ v = .agg l.toArray ∧ ∀ (i : Nat) (x : Value) (k : Nat), l[i]? = some x → ks[i]? = some k → okK k x := by
  obtain ⟨ts, hc, hks⟩ := Option.map_eq_some_iff.1 hk
  have hd : ∃ cs, v = .agg cs ∧ cs.size = P.cellsOf t ∧ Row.okWide P w .any base t cs := by
    unfold aggP at ha
    obtain ⟨d, hd, hg⟩ := Option.map_eq_some_iff.1 ha
    unfold Value.okWide at h
    rw [hd] at h
    cases d <;> first | exact h | (simp [isAggD] at hg)
  obtain ⟨cs, rfl, hsz, ts', hts, hn', hall⟩ := hd
  rw [hc] at hts; cases hts
  have hlen : ts.length = n := by rw [← hn, ← hks]; simp
  refine ⟨cs.toList, by simp [hsz, hs], by simp, fun i x k hx hk' => ?_⟩
  obtain ⟨u, hu, hok⟩ := hall i x (by simpa using hx)
  have hi : i < n := by
    have := (List.getElem?_eq_some_iff.1 hk').1
    omega
  rw [hlen, Nat.mod_eq_of_lt hi] at hu
  rw [← hks, List.getElem?_map, hu] at hk'
  cases hk'
  exact okK_of_cell hok
theorem cons_of_len {α : Type} {l : List α} {n : Nat} (h : l.length = n + 1) : ∃ a l', l = a :: l' ∧ l'.length = n := by
  cases l with
  | nil => simp at h
  | cons a l' => exact ⟨a, l', rfl, by simpa using h⟩
theorem nil_of_len {α : Type} {l : List α} (h : l.length = 0) : l = [] := List.length_eq_zero_iff.1 h
theorem rel_agg (l : List Value) (h : l.all (·.oneCell') = true) : rel3 [] [] (.agg (l.map AV.lit)) (.agg l.toArray) :=
  ⟨l, rfl, by simp, fun i a b ha hb => by
    rw [List.getElem?_map, hb] at ha
    cases ha
    exact ⟨rfl, List.all_eq_true.1 h b (List.mem_of_getElem? hb)⟩⟩
end Go.Proofs.Ytcclhjohpicleaa
end

section
/- The resolved code of the functions that are reached, and that it stands for the program's own. -/
set_option linter.unusedVariables false
namespace Go.Proofs.Ytcclhjohpicleaa
open Go Go.RowKit Go.Proofs.Ytcclhjohpicleaa.Abs
theorem mixed : Try.prog.follows .mixedOrders = true := by kernel_rfl
def r3 : RC := (.seq (.reg [.op (some 2) (.box 24 (.t 0)),
  .op (some 3) (.box 24 (.t 1)),
  .op (some 4) (.mv (.v (.lit (.bool false))))])
 (.seq (.draw [((some 10), (.load 6 true (.t 2))), ((some 11), (.call (.v (.lit (.func (.func 11) #[] #[]))) [(.t 10)])), ((some 12), (.load 6 true (.t 3))), ((some 13), (.call (.v (.lit (.func (.func 11) #[] #[]))) [(.t 12)])), ((some 14), (.call (.v (.lit (.func (.func 10) #[] #[]))) [(.t 11), (.t 13)])), ((some 9), (.mv (.t 14))), ((some 15), (.ext (.t 9) 0)), ((some 16), (.ext (.t 9) 1)), ((some 5), (.mv (.t 15))), ((some 6), (.mv (.t 16)))] [])
 (.seq (.draw [((some 18), (.load 6 true (.t 2))), ((some 19), (.call (.v (.lit (.func (.func 11) #[] #[]))) [(.t 18)])), ((some 20), (.load 6 true (.t 3))), ((some 21), (.call (.v (.lit (.func (.func 11) #[] #[]))) [(.t 20)])), ((some 22), (.call (.v (.lit (.func (.func 12) #[] #[]))) [(.t 19), (.t 21)])), ((some 17), (.mv (.t 22))), ((some 23), (.ext (.t 17) 0)), ((some 24), (.ext (.t 17) 1)), ((some 7), (.mv (.t 23))), ((some 8), (.mv (.t 24)))] [])
 (.seq (.seq (.reg [.op (some 25) (.mv (.t 7)),
  .op (some 26) (.mv (.t 5)),
  .op (some 27) (.binB true (.t 25) (.t 26)),
  .op (some 28) (.mv (.t 27)),
  .grp 28 false [((some 29), (.mv (.t 8))), ((some 30), (.mv (.t 6))), ((some 31), (.binB true (.t 29) (.t 30)))],
  .op (some 32) (.pick (.t 28) (.v (.lit (.bool true))) (.t 31))])
 (.cond (.t 32)
 (.seq (.reg [.op (some 4) (.mv (.v (.lit (.bool false))))])
 .ret)
 .skip))
 (.seq (.reg [.op (some 4) (.mv (.v (.lit (.bool true))))])
 .ret)))))
def rs3 : List RR := [.tmp 4]
def cut3 : Nat → Nat := fun id => if id = 1 then 21 else if id = 2 then 21 else 0
theorem k3 : (Try.f3.body.bind fun c => comp Try.prog Try.f3.ntmps cut3 c) = some r3 := by kernel_rfl
theorem by3 {W0 : World} {σ : List Blk} {args : List AV} {K : Cont} (hn : args.length ≤ 33) (h : rW Try.prog W0 σ.length r3 (initFr args) σ (finP W0 rs3 σ.length K)) : ACall Try.prog W0 3 args σ K :=
  ACall.introR mixed Try.func3 (by kernel_rfl) k3 (by kernel_rfl) hn h
def r4 : RC := (.seq (.reg [.op (some 2) (.box 24 (.t 0)),
  .op (some 3) (.box 24 (.t 1)),
  .op (some 4) (.mv (.v (.lit (.bool false))))])
 (.seq (.draw [((some 10), (.load 6 true (.t 2))), ((some 11), (.call (.v (.lit (.func (.func 11) #[] #[]))) [(.t 10)])), ((some 12), (.load 6 true (.t 3))), ((some 13), (.call (.v (.lit (.func (.func 11) #[] #[]))) [(.t 12)])), ((some 14), (.call (.v (.lit (.func (.func 13) #[] #[]))) [(.t 11), (.t 13)])), ((some 9), (.mv (.t 14))), ((some 15), (.ext (.t 9) 0)), ((some 16), (.ext (.t 9) 1)), ((some 5), (.mv (.t 15))), ((some 6), (.mv (.t 16)))] [])
 (.seq (.draw [((some 18), (.load 6 true (.t 2))), ((some 19), (.call (.v (.lit (.func (.func 11) #[] #[]))) [(.t 18)])), ((some 20), (.load 6 true (.t 3))), ((some 21), (.call (.v (.lit (.func (.func 11) #[] #[]))) [(.t 20)])), ((some 22), (.call (.v (.lit (.func (.func 14) #[] #[]))) [(.t 19), (.t 21)])), ((some 17), (.mv (.t 22))), ((some 23), (.ext (.t 17) 0)), ((some 24), (.ext (.t 17) 1)), ((some 7), (.mv (.t 23))), ((some 8), (.mv (.t 24)))] [])
 (.seq (.seq (.reg [.op (some 25) (.mv (.t 7)),
  .op (some 26) (.mv (.t 5)),
  .op (some 27) (.binI .neq (.t 25) (.t 26)),
  .op (some 28) (.mv (.t 27)),
  .grp 28 false [((some 29), (.mv (.t 8))), ((some 30), (.mv (.t 6))), ((some 31), (.binB true (.t 29) (.t 30)))],
  .op (some 32) (.pick (.t 28) (.v (.lit (.bool true))) (.t 31))])
 (.cond (.t 32)
 (.seq (.reg [.op (some 4) (.mv (.v (.lit (.bool false))))])
 .ret)
 .skip))
 (.seq (.reg [.op (some 4) (.mv (.v (.lit (.bool true))))])
 .ret)))))
def cut4 : Nat → Nat := fun id => if id = 1 then 21 else if id = 2 then 21 else 0
theorem k4 : (Try.f4.body.bind fun c => comp Try.prog Try.f4.ntmps cut4 c) = some r4 := by kernel_rfl
def r5 : RC := (.seq (.reg [.op (some 2) (.box 24 (.t 0)),
  .op (some 3) (.box 24 (.t 1)),
  .op (some 4) (.mv (.v (.lit (.bool false))))])
 (.seq (.draw [((some 10), (.load 6 true (.t 2))), ((some 11), (.call (.v (.lit (.func (.func 11) #[] #[]))) [(.t 10)])), ((some 12), (.load 6 true (.t 3))), ((some 13), (.call (.v (.lit (.func (.func 11) #[] #[]))) [(.t 12)])), ((some 14), (.call (.v (.lit (.func (.func 15) #[] #[]))) [(.t 11), (.t 13)])), ((some 9), (.mv (.t 14))), ((some 15), (.ext (.t 9) 0)), ((some 16), (.ext (.t 9) 1)), ((some 5), (.mv (.t 15))), ((some 6), (.mv (.t 16)))] [])
 (.seq (.draw [((some 18), (.load 6 true (.t 2))), ((some 19), (.call (.v (.lit (.func (.func 11) #[] #[]))) [(.t 18)])), ((some 20), (.load 6 true (.t 3))), ((some 21), (.call (.v (.lit (.func (.func 11) #[] #[]))) [(.t 20)])), ((some 22), (.call (.v (.lit (.func (.func 16) #[] #[]))) [(.t 19), (.t 21)])), ((some 17), (.mv (.t 22))), ((some 23), (.ext (.t 17) 0)), ((some 24), (.ext (.t 17) 1)), ((some 7), (.mv (.t 23))), ((some 8), (.mv (.t 24)))] [])
 (.seq (.seq (.reg [.op (some 25) (.mv (.t 7)),
  .op (some 26) (.mv (.t 5)),
  .op (some 27) (.binI .neq (.t 25) (.t 26)),
  .op (some 28) (.mv (.t 27)),
  .grp 28 false [((some 29), (.mv (.t 8))), ((some 30), (.mv (.t 6))), ((some 31), (.binB true (.t 29) (.t 30)))],
  .op (some 32) (.pick (.t 28) (.v (.lit (.bool true))) (.t 31))])
 (.cond (.t 32)
 (.seq (.reg [.op (some 4) (.mv (.v (.lit (.bool false))))])
 .ret)
 .skip))
 (.seq (.reg [.op (some 4) (.mv (.v (.lit (.bool true))))])
 .ret)))))
def r10 : RC := (.seq (.reg [.op (some 2) (.box 27 (.t 0)),
  .op (some 3) (.box 27 (.t 1)),
  .op (some 4) (.mv (.v (.lit (.bool false)))),
  .op (some 5) (.mv (.v (.lit (.bool false))))])
 (.seq (.seq (.reg [.op (some 6) (.load 6 true (.t 2)),
  .op (some 7) (.load 6 true (.t 3)),
  .op (some 8) (.call (.v (.lit (.func (.func 31) #[] #[]))) [(.t 6), (.t 7)]),
  .op (some 9) (.un .not (.t 8))])
 (.cond (.t 9)
 (.seq (.reg [.op (some 4) (.mv (.v (.lit (.bool false)))),
  .op (some 5) (.mv (.v (.lit (.bool false))))])
 .ret)
 .skip))
 (.seq (.reg [.op (some 10) (.load 6 true (.t 2)),
  .op (some 11) (.load 6 true (.t 3)),
  .op (some 12) (.call (.v (.lit (.func (.func 32) #[] #[]))) [(.t 10), (.t 11), (.v (.lit (.bool true)))]),
  .op (some 4) (.mv (.t 12)),
  .op (some 5) (.mv (.v (.lit (.bool true))))])
 .ret)))
def rs10 : List RR := [.tmp 4, .tmp 5]
def cut10 : Nat → Nat := fun id => 0
theorem k10 : (Try.f10.body.bind fun c => comp Try.prog Try.f10.ntmps cut10 c) = some r10 := by kernel_rfl
theorem by10 {W0 : World} {σ : List Blk} {args : List AV} {K : Cont} (hn : args.length ≤ 13) (h : rW Try.prog W0 σ.length r10 (initFr args) σ (finP W0 rs10 σ.length K)) : ACall Try.prog W0 10 args σ K :=
  ACall.introR mixed Try.func10 (by kernel_rfl) k10 (by kernel_rfl) hn h
def r11 : RC := (.seq (.reg [.op (some 1) (.box 24 (.t 0)),
  .op (some 2) (.alloc 27 (List.replicate 6 (.lit (.int .i64 (0)))))])
 (.seq (.reg [.op (some 3) (.alloc 27 (List.replicate 6 (.lit (.int .i64 (0)))))])
 (.seq (.reg [.op (some 4) (.faddr 0 (.t 1)),
  .op (some 5) (.load 6 true (.t 4)),
  .op (some 6) (.call (.v (.lit (.func (.func 33) #[] #[]))) [(.t 5)]),
  .op (some 7) (.faddr 0 (.t 3)),
  .op none (.store 6 (.t 7) (.t 6))])
 (.seq (.reg [.op (some 8) (.load 6 true (.t 3)),
  .op none (.store 6 (.t 2) (.t 8))])
 .ret))))
def rs11 : List RR := [.cell 2 6 true]
def cut11 : Nat → Nat := fun id => 0
theorem k11 : (Try.f11.body.bind fun c => comp Try.prog Try.f11.ntmps cut11 c) = some r11 := by kernel_rfl
theorem by11 {W0 : World} {σ : List Blk} {args : List AV} {K : Cont} (hn : args.length ≤ 9) (h : rW Try.prog W0 σ.length r11 (initFr args) σ (finP W0 rs11 σ.length K)) : ACall Try.prog W0 11 args σ K :=
  ACall.introR mixed Try.func11 (by kernel_rfl) k11 (by kernel_rfl) hn h
def r12 : RC := (.seq (.reg [.op (some 2) (.box 27 (.t 0)),
  .op (some 3) (.box 27 (.t 1)),
  .op (some 4) (.mv (.v (.lit (.bool false)))),
  .op (some 5) (.mv (.v (.lit (.bool false))))])
 (.seq (.reg [.op (some 10) (.load 6 true (.t 2)),
  .op (some 11) (.load 6 true (.t 3)),
  .op (some 12) (.call (.v (.lit (.func (.func 34) #[] #[]))) [(.t 10), (.t 11)]),
  .op (some 9) (.mv (.t 12)),
  .op (some 13) (.ext (.t 9) 0),
  .op (some 14) (.ext (.t 9) 1),
  .op (some 15) (.ext (.t 9) 2),
  .op (some 6) (.mv (.t 13)),
  .op (some 7) (.mv (.t 14)),
  .op (some 8) (.mv (.t 15))])
 (.seq (.reg [.op (some 16) (.mv (.t 8)),
  .op (some 17) (.mv (.t 16)),
  .grp 17 true [((some 18), (.mv (.t 6))), ((some 19), (.mv (.t 7))), ((some 20), (.call (.v (.lit (.func (.func 35) #[] #[]))) [(.t 18), (.t 19)]))],
  .op (some 21) (.pick (.t 17) (.t 20) (.v (.lit (.bool false)))),
  .op (some 22) (.mv (.t 8)),
  .op (some 4) (.mv (.t 21)),
  .op (some 5) (.mv (.t 22))])
 .ret)))
def rs12 : List RR := [.tmp 4, .tmp 5]
def cut12 : Nat → Nat := fun id => 0
theorem k12 : (Try.f12.body.bind fun c => comp Try.prog Try.f12.ntmps cut12 c) = some r12 := by kernel_rfl
theorem by12 {W0 : World} {σ : List Blk} {args : List AV} {K : Cont} (hn : args.length ≤ 23) (h : rW Try.prog W0 σ.length r12 (initFr args) σ (finP W0 rs12 σ.length K)) : ACall Try.prog W0 12 args σ K :=
  ACall.introR mixed Try.func12 (by kernel_rfl) k12 (by kernel_rfl) hn h
def r31 : RC := (.seq (.reg [.op (some 2) (.box 27 (.t 0)),
  .op (some 3) (.box 27 (.t 1)),
  .op (some 4) (.mv (.v (.lit (.bool false))))])
 (.seq (.reg [.op (some 5) (.load 6 true (.t 2)),
  .op (some 6) (.load 6 true (.t 3)),
  .op (some 7) (.call (.v (.lit (.func (.func 41) #[] #[]))) [(.t 5), (.t 6)]),
  .op (some 8) (.mv (.t 7)),
  .grp 8 true [((some 9), (.load 6 true (.t 2))), ((some 10), (.load 6 true (.t 3))), ((some 11), (.call (.v (.lit (.func (.func 42) #[] #[]))) [(.t 9), (.t 10)])), ((some 12), (.lenL (.t 11))), ((some 13), (.binI .leq (.t 12) (.v (.lit (.int .i64 (7))))))],
  .op (some 14) (.pick (.t 8) (.t 13) (.v (.lit (.bool false)))),
  .op (some 4) (.mv (.t 14))])
 .ret))
def rs31 : List RR := [.tmp 4]
def cut31 : Nat → Nat := fun id => 0
theorem k31 : (Try.f31.body.bind fun c => comp Try.prog Try.f31.ntmps cut31 c) = some r31 := by kernel_rfl
theorem by31 {W0 : World} {σ : List Blk} {args : List AV} {K : Cont} (hn : args.length ≤ 15) (h : rW Try.prog W0 σ.length r31 (initFr args) σ (finP W0 rs31 σ.length K)) : ACall Try.prog W0 31 args σ K :=
  ACall.introR mixed Try.func31 (by kernel_rfl) k31 (by kernel_rfl) hn h
def r32 : RC := (.seq (.reg [.op (some 3) (.box 27 (.t 0)),
  .op (some 4) (.box 27 (.t 1)),
  .op (some 6) (.mv (.v (.lit (.bool false))))])
 (.seq (.reg [.op (some 9) (.load 6 true (.t 3)),
  .op (some 10) (.load 6 true (.t 4)),
  .op (some 11) (.call (.v (.lit (.func (.func 42) #[] #[]))) [(.t 9), (.t 10)]),
  .op (some 7) (.mv (.t 11))])
 (.seq (.seq (.reg [.op (some 8) (.mv (.v (.lit (.int .i64 (0)))))])
 (.block 0 (.loop (.seq (.seq (.reg [.op (some 12) (.mv (.t 8)),
  .op (some 13) (.mv (.t 7)),
  .op (some 14) (.lenL (.t 13)),
  .op (some 15) (.binI .lss (.t 12) (.t 14))])
 (.cond (.t 15)
 .skip
 (.exit 0)))
 (.seq (.block 1 (.seq (.draw [((some 18), (.mv (.t 7))), ((some 19), (.mv (.t 8))), ((some 20), (.iaddrS 6 (.t 18) (.t 19))), ((some 21), (.load 6 true (.t 20))), ((some 22), (.load 6 true (.t 4))), ((some 23), (.mv (.t 2))), ((some 24), (.call (.v (.lit (.func (.func 32) #[] #[]))) [(.t 21), (.t 22), (.t 23)])), ((some 25), (.un .not (.t 24)))] [])
 (.cond (.t 25)
 (.seq (.reg [.op (some 6) (.mv (.v (.lit (.bool true))))])
 .ret)
 .skip)))
 (.reg [.op (some 16) (.mv (.t 8)),
  .op (some 17) (.binI .add (.t 16) (.v (.lit (.int .i64 (1))))),
  .op (some 8) (.mv (.t 17))]))))))
 (.seq (.reg [.op (some 26) (.mv (.t 7)),
  .op (some 27) (.lenL (.t 26)),
  .op (some 28) (.binI .eql (.t 27) (.v (.lit (.int .i64 (0))))),
  .op (some 29) (.mv (.t 28)),
  .grp 29 true [((some 30), (.mv (.t 2)))],
  .op (some 31) (.pick (.t 29) (.t 30) (.v (.lit (.bool false)))),
  .op (some 6) (.mv (.t 31))])
 .ret))))
def rs32 : List RR := [.tmp 6]
def cut32 : Nat → Nat := fun id => if id = 5 then 17 else 0
theorem k32 : (Try.f32.body.bind fun c => comp Try.prog Try.f32.ntmps cut32 c) = some r32 := by kernel_rfl
theorem by32 {W0 : World} {σ : List Blk} {args : List AV} {K : Cont} (hn : args.length ≤ 32) (h : rW Try.prog W0 σ.length r32 (initFr args) σ (finP W0 rs32 σ.length K)) : ACall Try.prog W0 32 args σ K :=
  ACall.introR mixed Try.func32 (by kernel_rfl) k32 (by kernel_rfl) hn h
def r33 : RC := (.seq (.reg [.op (some 1) (.box 22 (.t 0)),
  .op (some 2) (.alloc 22 (List.replicate 6 (.lit (.int .i64 (0)))))])
 (.seq (.reg [.op (some 3) (.alloc 22 (List.replicate 6 (.lit (.int .i64 (0)))))])
 (.seq (.seq (.reg [.op (some 4) (.mv (.v (.lit (.int .i64 (0)))))])
 (.block 0 (.loop (.seq (.seq (.reg [.op (some 5) (.mv (.t 4)),
  .op (some 6) (.binI .lss (.t 5) (.v (.lit (.int .i64 (6)))))])
 (.cond (.t 6)
 .skip
 (.exit 0)))
 (.seq (.block 1 (.reg [.op (some 9) (.mv (.t 4)),
  .op (some 10) (.mv (.t 4)),
  .op (some 11) (.iaddrA 6 1 (.t 1) (.t 10)),
  .op (some 12) (.load 1 false (.t 11)),
  .op (some 13) (.iaddrA 6 1 (.t 3) (.t 9)),
  .op none (.store 1 (.t 13) (.t 12))]))
 (.reg [.op (some 7) (.mv (.t 4)),
  .op (some 8) (.binI .add (.t 7) (.v (.lit (.int .i64 (1))))),
  .op (some 4) (.mv (.t 8))]))))))
 (.seq (.reg [.op (some 14) (.load 6 true (.t 3)),
  .op none (.store 6 (.t 2) (.t 14))])
 .ret))))
def rs33 : List RR := [.cell 2 6 true]
def cut33 : Nat → Nat := fun id => 0
theorem k33 : (Try.f33.body.bind fun c => comp Try.prog Try.f33.ntmps cut33 c) = some r33 := by kernel_rfl
theorem by33 {W0 : World} {σ : List Blk} {args : List AV} {K : Cont} (hn : args.length ≤ 15) (h : rW Try.prog W0 σ.length r33 (initFr args) σ (finP W0 rs33 σ.length K)) : ACall Try.prog W0 33 args σ K :=
  ACall.introR mixed Try.func33 (by kernel_rfl) k33 (by kernel_rfl) hn h
def r34 : RC := (.seq (.reg [.op (some 2) (.box 27 (.t 0)),
  .op (some 3) (.box 27 (.t 1)),
  .op (some 4) (.mv (.v (.lit (.pointer none)))),
  .op (some 5) (.mv (.v (.lit (.int .u64 (0))))),
  .op (some 6) (.mv (.v (.lit (.bool false))))])
 (.seq (.reg [.op (some 11) (.load 6 true (.t 2)),
  .op (some 12) (.load 6 true (.t 3)),
  .op (some 13) (.call (.v (.lit (.func (.func 43) #[] #[]))) [(.t 11), (.t 12)]),
  .op (some 10) (.mv (.t 13)),
  .op (some 14) (.ext (.t 10) 0),
  .op (some 15) (.ext (.t 10) 1),
  .op (some 16) (.ext (.t 10) 2),
  .op (some 7) (.mv (.t 14)),
  .op (some 8) (.mv (.t 15)),
  .op (some 9) (.mv (.t 16))])
 (.seq (.reg [.op (some 17) (.mv (.t 8)),
  .op (some 18) .mkmap,
  .op (some 19) .mkmap,
  .op (some 20) (.build [(.lit (.int .u64 (0))), (.lit (.map none)), (.lit (.map none))] [((0, 1), (.t 17)), ((1, 1), (.t 18)), ((2, 1), (.t 19))]),
  .op (some 21) (.box 74 (.t 20)),
  .op (some 22) (.mv (.t 7)),
  .op (some 23) (.mv (.t 9)),
  .op (some 24) (.mv (.t 23)),
  .grp 24 true [((some 25), (.mv (.t 7))), ((some 26), (.mv (.t 8))), ((some 27), (.call (.v (.lit (.func (.func 44) #[] #[]))) [(.t 25), (.t 26)])), ((some 28), (.lenL (.t 27))), ((some 29), (.binI .leq (.t 28) (.v (.lit (.int .i64 (7))))))],
  .op (some 30) (.pick (.t 24) (.t 29) (.v (.lit (.bool false)))),
  .op (some 4) (.mv (.t 21)),
  .op (some 5) (.mv (.t 22)),
  .op (some 6) (.mv (.t 30))])
 .ret)))
def rs34 : List RR := [.tmp 4, .tmp 5, .tmp 6]
def cut34 : Nat → Nat := fun id => 0
theorem k34 : (Try.f34.body.bind fun c => comp Try.prog Try.f34.ntmps cut34 c) = some r34 := by kernel_rfl
theorem by34 {W0 : World} {σ : List Blk} {args : List AV} {K : Cont} (hn : args.length ≤ 31) (h : rW Try.prog W0 σ.length r34 (initFr args) σ (finP W0 rs34 σ.length K)) : ACall Try.prog W0 34 args σ K :=
  ACall.introR mixed Try.func34 (by kernel_rfl) k34 (by kernel_rfl) hn h
def r35 : RC := (.seq (.reg [.op (some 2) (.box 45 (.t 0)),
  .op (some 4) (.mv (.v (.lit (.bool false))))])
 (.seq (.seq (.reg [.op (some 10) (.load 1 false (.t 2)),
  .op (some 11) (.nilck (.t 10)),
  .op (some 12) (.faddr 2 (.t 11)),
  .op (some 13) (.load 1 false (.t 12)),
  .op (some 14) (.mv (.t 1)),
  .op (some 15) (.mget .u64 (.lit (.bool false)) true (.t 13) (.t 14)),
  .op (some 9) (.mv (.t 15)),
  .op (some 16) (.ext (.t 9) 0),
  .op (some 17) (.ext (.t 9) 1),
  .op (some 5) (.mv (.t 16)),
  .op (some 6) (.mv (.t 17))])
 (.seq (.reg [.op (some 18) (.mv (.t 6))])
 (.cond (.t 18)
 (.seq (.reg [.op (some 19) (.mv (.t 5)),
  .op (some 4) (.mv (.t 19))])
 .ret)
 .skip)))
 (.seq (.reg [.op (some 20) (.mv (.t 1)),
  .op (some 21) (.load 1 false (.t 2)),
  .op (some 22) (.nilck (.t 21)),
  .op (some 23) (.faddr 0 (.t 22)),
  .op (some 24) (.load 1 false (.t 23)),
  .op (some 25) (.call (.v (.lit (.func (.func 44) #[] #[]))) [(.t 20), (.t 24)]),
  .op (some 7) (.mv (.t 25))])
 (.seq (.reg [.op (some 26) (.mv (.t 7)),
  .op (some 27) (.lenL (.t 26)),
  .op (some 28) (.binI .eql (.t 27) (.v (.lit (.int .i64 (0))))),
  .op (some 29) (.mv (.t 28)),
  .grp 29 false [((some 30), (.mv (.t 7))), ((some 31), (.mkfn (.func 57) [] [(.t 2)])), ((some 32), (.call (.v (.lit (.func (.func 56) #[] #[]))) [(.t 30), (.t 31)]))],
  .op (some 33) (.pick (.t 29) (.v (.lit (.bool true))) (.t 32)),
  .op (some 8) (.mv (.t 33))])
 (.seq (.reg [.op (some 34) (.load 1 false (.t 2)),
  .op (some 35) (.nilck (.t 34)),
  .op (some 36) (.faddr 2 (.t 35)),
  .op (some 37) (.load 1 false (.t 36)),
  .op (some 38) (.mv (.t 1)),
  .op (some 39) (.mv (.t 8)),
  .op none (.mput .u64 (.t 37) (.t 38) (.t 39))])
 (.seq (.reg [.op (some 40) (.mv (.t 8)),
  .op (some 4) (.mv (.t 40))])
 .ret))))))
def rs35 : List RR := [.tmp 4]
def cut35 : Nat → Nat := fun id => 0
theorem k35 : (Try.f35.body.bind fun c => comp Try.prog Try.f35.ntmps cut35 c) = some r35 := by kernel_rfl
theorem by35 {W0 : World} {σ : List Blk} {args : List AV} {K : Cont} (hn : args.length ≤ 41) (h : rW Try.prog W0 σ.length r35 (initFr args) σ (finP W0 rs35 σ.length K)) : ACall Try.prog W0 35 args σ K :=
  ACall.introR mixed Try.func35 (by kernel_rfl) k35 (by kernel_rfl) hn h
def r41 : RC := (.seq (.reg [.op (some 2) (.box 27 (.t 0)),
  .op (some 3) (.box 27 (.t 1)),
  .op (some 4) (.mv (.v (.lit (.bool false))))])
 (.seq (.reg [.op (some 5) (.load 6 true (.t 2)),
  .op (some 6) (.call (.v (.lit (.func (.func 60) #[] #[]))) [(.t 5)]),
  .op (some 7) (.mv (.t 6)),
  .grp 7 true [((some 8), (.load 6 true (.t 3))), ((some 9), (.call (.v (.lit (.func (.func 60) #[] #[]))) [(.t 8)]))],
  .op (some 10) (.pick (.t 7) (.t 9) (.v (.lit (.bool false)))),
  .op (some 11) (.mv (.t 10)),
  .grp 11 true [((some 12), (.load 6 true (.t 3))), ((some 13), (.call (.v (.lit (.func (.func 61) #[] #[]))) [(.t 12)])), ((some 14), (.binI .gtr (.t 13) (.v (.lit (.int .i64 (0))))))],
  .op (some 15) (.pick (.t 11) (.t 14) (.v (.lit (.bool false)))),
  .op (some 4) (.mv (.t 15))])
 .ret))
def rs41 : List RR := [.tmp 4]
def cut41 : Nat → Nat := fun id => 0
theorem k41 : (Try.f41.body.bind fun c => comp Try.prog Try.f41.ntmps cut41 c) = some r41 := by kernel_rfl
theorem by41 {W0 : World} {σ : List Blk} {args : List AV} {K : Cont} (hn : args.length ≤ 16) (h : rW Try.prog W0 σ.length r41 (initFr args) σ (finP W0 rs41 σ.length K)) : ACall Try.prog W0 41 args σ K :=
  ACall.introR mixed Try.func41 (by kernel_rfl) k41 (by kernel_rfl) hn h
def r42 : RC := (.seq (.reg [.op (some 2) (.box 27 (.t 0)),
  .op (some 3) (.box 27 (.t 1)),
  .op (some 4) (.mv (.v (.lit (.slice none 0 0))))])
 (.seq (.reg [.op (some 10) (.bslice 27 6 0 (List.replicate 6 (.lit (.int .i64 (0)))) []),
  .op (some 11) (.load 6 true (.t 2)),
  .op (some 12) (.load 6 true (.t 3)),
  .op (some 13) (.call (.v (.lit (.func (.func 48) #[] #[]))) [(.t 11), (.t 12)]),
  .op (some 5) (.mv (.t 10)),
  .op (some 6) (.mv (.t 13))])
 (.seq (.seq (.reg [.op (some 7) (.mv (.v (.lit (.int .i64 (0)))))])
 (.block 0 (.loop (.seq (.seq (.reg [.op (some 14) (.mv (.t 7)),
  .op (some 15) (.mv (.t 6)),
  .op (some 16) (.lenL (.t 15)),
  .op (some 17) (.binI .lss (.t 14) (.t 16))])
 (.cond (.t 17)
 .skip
 (.exit 0)))
 (.seq (.block 1 (.seq (.draw [((some 20), (.load 6 true (.t 2))), ((some 21), (.load 6 true (.t 3))), ((some 22), (.mv (.t 6))), ((some 23), (.mv (.t 7))), ((some 24), (.iaddrS 2 (.t 22) (.t 23))), ((some 25), (.load 2 true (.t 24))), ((some 26), (.call (.v (.lit (.func (.func 50) #[] #[]))) [(.t 21), (.t 25)])), ((some 27), (.call (.v (.lit (.func (.func 49) #[] #[]))) [(.t 20), (.t 26)]))] [((some 8), (.alloc 27 (List.replicate 6 (.lit (.int .i64 (0)))))), (none, (.store 6 (.t 8) (.t 27))), ((some 9), (.mv (.v (.lit (.int .i64 (0))))))])
 (.seq (.block 2 (.loop (.seq (.seq (.quiet [.op (some 28) (.mv (.t 9)),
  .op (some 29) (.mv (.t 5)),
  .op (some 30) (.lenL (.t 29)),
  .op (some 31) (.binI .lss (.t 28) (.t 30)),
  .op (some 32) (.mv (.t 31)),
  .grp 32 true [((some 33), (.mv (.t 5))), ((some 34), (.mv (.t 9))), ((some 35), (.iaddrS 6 (.t 33) (.t 34))), ((some 36), (.load 6 true (.t 35))), ((some 37), (.load 6 true (.t 8))), ((some 38), (.call (.v (.lit (.func (.func 62) #[] #[]))) [(.t 36), (.t 37)]))],
  .op (some 39) (.pick (.t 32) (.t 38) (.v (.lit (.bool false))))] [])
 (.cond (.t 39)
 .skip
 (.exit 2)))
 (.block 3 (.reg [.op (some 40) (.mv (.t 9)),
  .op (some 41) (.binI .add (.t 40) (.v (.lit (.int .i64 (1))))),
  .op (some 9) (.mv (.t 41))])))))
 (.seq (.quiet [.op (some 42) (.mv (.t 9)),
  .op (some 43) (.mv (.t 5)),
  .op (some 44) (.lenL (.t 43)),
  .op (some 45) (.binI .eql (.t 42) (.t 44)),
  .op (some 46) (.mv (.t 45)),
  .grp 46 false [((some 47), (.mv (.t 5))), ((some 48), (.mv (.t 9))), ((some 49), (.iaddrS 6 (.t 47) (.t 48))), ((some 50), (.load 6 true (.t 49))), ((some 51), (.load 6 true (.t 8))), ((some 52), (.eqA true [.int, .int, .int, .int, .int, .int] (.t 50) (.t 51)))],
  .op (some 53) (.pick (.t 46) (.v (.lit (.bool true))) (.t 52))] [])
 (.cond (.t 53)
 (.any true (.n ⟨none, (some 55), (.mv (.t 5))⟩
 (.n ⟨none, (some 56), (.mv (.t 9))⟩
 (.h ⟨none, (some 57), (.slice 6 (.t 55) none (some (.t 56)))⟩
 (.h ⟨none, (some 59), (.load 6 true (.t 8))⟩
 (.n ⟨none, (some 62), (.mv (.t 5))⟩
 (.n ⟨none, (some 63), (.mv (.t 9))⟩
 (.h ⟨none, (some 64), (.slice 6 (.t 62) (some (.t 63)) none)⟩
 (.both (.t ⟨none, (some 54), (.bslice 27 6 0 (List.replicate 6 (.lit (.int .i64 (0)))) [])⟩
 (.both (.t ⟨none, (some 58), (.append 32 27 6 48 (.t 54) (.t 57))⟩
 (.t ⟨none, (some 60), (.bslice 27 6 1 (List.replicate 6 (.lit (.int .i64 (0)))) [(0, (.t 59))])⟩
 (.t ⟨none, (some 61), (.append 32 27 6 48 (.t 58) (.t 60))⟩
 (.t ⟨none, (some 65), (.append 32 27 6 48 (.t 61) (.t 64))⟩
 (.n ⟨none, (some 5), (.mv (.t 65))⟩
 .fin)))))
 (.t ⟨none, (some 60), (.bslice 27 6 1 (List.replicate 6 (.lit (.int .i64 (0)))) [(0, (.t 59))])⟩
 (.t ⟨none, (some 58), (.append 32 27 6 48 (.t 54) (.t 57))⟩
 (.t ⟨none, (some 61), (.append 32 27 6 48 (.t 58) (.t 60))⟩
 (.t ⟨none, (some 65), (.append 32 27 6 48 (.t 61) (.t 64))⟩
 (.n ⟨none, (some 5), (.mv (.t 65))⟩
 .fin)))))))
 (.t ⟨none, (some 60), (.bslice 27 6 1 (List.replicate 6 (.lit (.int .i64 (0)))) [(0, (.t 59))])⟩
 (.t ⟨none, (some 54), (.bslice 27 6 0 (List.replicate 6 (.lit (.int .i64 (0)))) [])⟩
 (.t ⟨none, (some 58), (.append 32 27 6 48 (.t 54) (.t 57))⟩
 (.t ⟨none, (some 61), (.append 32 27 6 48 (.t 58) (.t 60))⟩
 (.t ⟨none, (some 65), (.append 32 27 6 48 (.t 61) (.t 64))⟩
 (.n ⟨none, (some 5), (.mv (.t 65))⟩
 .fin)))))))))))))))
 .skip)))))
 (.reg [.op (some 18) (.mv (.t 7)),
  .op (some 19) (.binI .add (.t 18) (.v (.lit (.int .i64 (1))))),
  .op (some 7) (.mv (.t 19))]))))))
 (.seq (.reg [.op (some 66) (.mv (.t 5)),
  .op (some 4) (.mv (.t 66))])
 .ret))))
def rs42 : List RR := [.tmp 4]
def cut42 : Nat → Nat := fun id => if id = 5 then 17 else if id = 9 then 1004515 else 0
theorem k42 : (Try.f42.body.bind fun c => comp Try.prog Try.f42.ntmps cut42 c) = some r42 := by kernel_rfl
theorem by42 {W0 : World} {σ : List Blk} {args : List AV} {K : Cont} (hn : args.length ≤ 67) (h : rW Try.prog W0 σ.length r42 (initFr args) σ (finP W0 rs42 σ.length K)) : ACall Try.prog W0 42 args σ K :=
  ACall.introR mixed Try.func42 (by kernel_rfl) k42 (by kernel_rfl) hn h
def r43 : RC := (.seq (.reg [.op (some 2) (.box 27 (.t 0)),
  .op (some 3) (.box 27 (.t 1)),
  .op (some 4) (.mv (.v (.lit (.int .u64 (0))))),
  .op (some 5) (.mv (.v (.lit (.int .u64 (0))))),
  .op (some 6) (.mv (.v (.lit (.bool false))))])
 (.seq (.reg [.op (some 11) (.load 6 true (.t 2)),
  .op (some 12) (.load 6 true (.t 3)),
  .op (some 13) (.call (.v (.lit (.func (.func 63) #[] #[]))) [(.t 11), (.t 12)]),
  .op (some 10) (.mv (.t 13)),
  .op (some 14) (.ext (.t 10) 0),
  .op (some 15) (.ext (.t 10) 1),
  .op (some 16) (.ext (.t 10) 2),
  .op (some 7) (.mv (.t 14)),
  .op (some 8) (.mv (.t 15)),
  .op (some 9) (.mv (.t 16))])
 (.seq (.reg [.op (some 17) (.mv (.t 7)),
  .op (some 18) (.mv (.t 8)),
  .op (some 19) (.mv (.t 9)),
  .op (some 20) (.mv (.t 19)),
  .grp 20 true [((some 21), (.mv (.t 8))), ((some 22), (.binI .neq (.t 21) (.v (.lit (.int .u64 (0))))))],
  .op (some 23) (.pick (.t 20) (.t 22) (.v (.lit (.bool false)))),
  .op (some 4) (.mv (.t 17)),
  .op (some 5) (.mv (.t 18)),
  .op (some 6) (.mv (.t 23))])
 .ret)))
def rs43 : List RR := [.tmp 4, .tmp 5, .tmp 6]
def cut43 : Nat → Nat := fun id => 0
theorem k43 : (Try.f43.body.bind fun c => comp Try.prog Try.f43.ntmps cut43 c) = some r43 := by kernel_rfl
theorem by43 {W0 : World} {σ : List Blk} {args : List AV} {K : Cont} (hn : args.length ≤ 24) (h : rW Try.prog W0 σ.length r43 (initFr args) σ (finP W0 rs43 σ.length K)) : ACall Try.prog W0 43 args σ K :=
  ACall.introR mixed Try.func43 (by kernel_rfl) k43 (by kernel_rfl) hn h
def r44 : RC := (.seq (.reg [.op (some 4) (.mv (.v (.lit (.slice none 0 0))))])
 (.seq (.reg [.op (some 8) (.bslice 47 1 0 [(.lit (.int .u64 (0)))] []),
  .op (some 5) (.mv (.t 8))])
 (.seq (.seq (.reg [.op (some 9) (.mv (.t 0)),
  .op (some 10) (.mv (.t 1)),
  .op (some 11) (.call (.v (.lit (.func (.func 51) #[] #[]))) [(.t 9), (.t 10)]),
  .op (some 12) (.call (.v (.lit (.func (.func 52) #[] #[]))) [(.t 11)]),
  .op (some 13) (.lenL (.t 12)),
  .op (some 14) (.mv (.v (.lit (.int .i64 (0)))))])
 (.block 0 (.loop (.seq (.reg [.op (some 15) (.binI .lss (.t 14) (.t 13))])
 (.seq (.cond (.t 15)
 .skip
 (.exit 0))
 (.seq (.block 1 (.seq (.reg [.op (some 16) (.iaddrS 1 (.t 12) (.t 14)),
  .op (some 17) (.load 1 false (.t 16)),
  .op (some 7) (.mv (.t 17))])
 (.reg [.op (some 18) (.mv (.t 5)),
  .op (some 19) (.mv (.t 0)),
  .op (some 20) (.mv (.t 1)),
  .op (some 21) (.mv (.t 7)),
  .op (some 22) (.call (.v (.lit (.func (.func 53) #[] #[]))) [(.t 20), (.t 21)]),
  .op (some 23) (.binI .or (.t 19) (.t 22)),
  .app (some 25) 24 47 1 8 (.t 18) 1 [(.lit (.int .u64 (0)))] [(0, (.t 23))],
  .op (some 5) (.mv (.t 25))])))
 (.reg [.op (some 26) (.binI .add (.t 14) (.v (.lit (.int .i64 (1))))),
  .op (some 14) (.mv (.t 26))])))))))
 (.seq (.reg [.op (some 27) (.mv (.t 5)),
  .op (some 28) (.call (.v (.lit (.func (.func 64) #[] #[]))) [(.t 27), (.v (.lit (.func (.func 65) #[] #[])))])])
 (.seq (.reg [.op (some 29) (.mv (.t 5)),
  .op (some 30) (.call (.v (.lit (.func (.func 66) #[] #[]))) [(.t 29)]),
  .op (some 4) (.mv (.t 30))])
 .ret)))))
def rs44 : List RR := [.tmp 4]
def cut44 : Nat → Nat := fun id => 0
theorem k44 : (Try.f44.body.bind fun c => comp Try.prog Try.f44.ntmps cut44 c) = some r44 := by kernel_rfl
theorem by44 {W0 : World} {σ : List Blk} {args : List AV} {K : Cont} (hn : args.length ≤ 31) (h : rW Try.prog W0 σ.length r44 (initFr args) σ (finP W0 rs44 σ.length K)) : ACall Try.prog W0 44 args σ K :=
  ACall.introR mixed Try.func44 (by kernel_rfl) k44 (by kernel_rfl) hn h
def r48 : RC := (.seq (.reg [.op (some 2) (.box 27 (.t 0)),
  .op (some 3) (.box 27 (.t 1)),
  .op (some 4) (.mv (.v (.lit (.slice none 0 0))))])
 (.seq (.reg [.op (some 8) (.bslice 70 2 0 [(.lit (.int .i64 (0))), (.lit (.int .i64 (0)))] []),
  .op (some 5) (.mv (.t 8))])
 (.seq (.seq (.reg [.op (some 6) (.mv (.v (.lit (.int .i64 (0)))))])
 (.block 0 (.loop (.seq (.seq (.reg [.op (some 9) (.mv (.t 6)),
  .op (some 10) (.binI .lss (.t 9) (.v (.lit (.int .i64 (36)))))])
 (.cond (.t 10)
 .skip
 (.exit 0)))
 (.seq (.block 1 (.seq (.reg [.op (some 13) (.mv (.t 6)),
  .op (some 14) (.binI .rem (.t 13) (.v (.lit (.int .i64 (6))))),
  .op (some 15) (.mv (.t 6)),
  .op (some 16) (.binI .quo (.t 15) (.v (.lit (.int .i64 (6))))),
  .op (some 17) (.build [(.lit (.int .i64 (0))), (.lit (.int .i64 (0)))] [((0, 1), (.t 14)), ((1, 1), (.t 16))]),
  .op (some 7) (.alloc 70 [(.lit (.int .i64 (0))), (.lit (.int .i64 (0)))]),
  .op none (.store 2 (.t 7) (.t 17))])
 (.seq (.reg [.op (some 18) (.load 6 true (.t 2)),
  .op (some 19) (.load 6 true (.t 3)),
  .op (some 20) (.load 2 true (.t 7)),
  .op (some 21) (.call (.v (.lit (.func (.func 69) #[] #[]))) [(.t 18), (.t 19), (.t 20)])])
 (.cond (.t 21)
 (.reg [.op (some 22) (.mv (.t 5)),
  .op (some 23) (.load 2 true (.t 7)),
  .app (some 25) 24 70 2 16 (.t 22) 1 [(.lit (.int .i64 (0))), (.lit (.int .i64 (0)))] [(0, (.t 23))],
  .op (some 5) (.mv (.t 25))])
 .skip))))
 (.reg [.op (some 11) (.mv (.t 6)),
  .op (some 12) (.binI .add (.t 11) (.v (.lit (.int .i64 (1))))),
  .op (some 6) (.mv (.t 12))]))))))
 (.seq (.reg [.op (some 26) (.mv (.t 5)),
  .op (some 4) (.mv (.t 26))])
 .ret))))
def rs48 : List RR := [.tmp 4]
def cut48 : Nat → Nat := fun id => 0
theorem k48 : (Try.f48.body.bind fun c => comp Try.prog Try.f48.ntmps cut48 c) = some r48 := by kernel_rfl
theorem by48 {W0 : World} {σ : List Blk} {args : List AV} {K : Cont} (hn : args.length ≤ 27) (h : rW Try.prog W0 σ.length r48 (initFr args) σ (finP W0 rs48 σ.length K)) : ACall Try.prog W0 48 args σ K :=
  ACall.introR mixed Try.func48 (by kernel_rfl) k48 (by kernel_rfl) hn h
def r49 : RC := (.seq (.reg [.op (some 2) (.box 27 (.t 0)),
  .op (some 3) (.box 27 (.t 1)),
  .op (some 4) (.alloc 27 (List.replicate 6 (.lit (.int .i64 (0)))))])
 (.seq (.seq (.reg [.op (some 5) (.mv (.v (.lit (.int .i64 (0)))))])
 (.block 0 (.loop (.seq (.seq (.reg [.op (some 6) (.mv (.t 5)),
  .op (some 7) (.binI .lss (.t 6) (.v (.lit (.int .i64 (6)))))])
 (.cond (.t 7)
 .skip
 (.exit 0)))
 (.seq (.block 1 (.quiet [.op (some 10) (.mv (.t 5)),
  .op (some 11) (.mv (.t 5)),
  .op (some 12) (.faddr 0 (.t 2)),
  .op (some 13) (.iaddrA 6 1 (.t 12) (.t 11)),
  .op (some 14) (.load 1 false (.t 13)),
  .op (some 15) (.mv (.t 5)),
  .op (some 16) (.faddr 0 (.t 3)),
  .op (some 17) (.iaddrA 6 1 (.t 16) (.t 15)),
  .op (some 18) (.load 1 false (.t 17)),
  .op (some 19) (.binI .or (.t 14) (.t 18)),
  .op (some 20) (.faddr 0 (.t 2)),
  .op (some 21) (.iaddrA 6 1 (.t 20) (.t 10))] [.op none (.store 1 (.t 21) (.t 19))]))
 (.reg [.op (some 8) (.mv (.t 5)),
  .op (some 9) (.binI .add (.t 8) (.v (.lit (.int .i64 (1))))),
  .op (some 5) (.mv (.t 9))]))))))
 (.seq (.reg [.op (some 22) (.load 6 true (.t 2)),
  .op none (.store 6 (.t 4) (.t 22))])
 .ret)))
def rs49 : List RR := [.cell 4 6 true]
def cut49 : Nat → Nat := fun id => if id = 4 then 24 else 0
theorem k49 : (Try.f49.body.bind fun c => comp Try.prog Try.f49.ntmps cut49 c) = some r49 := by kernel_rfl
theorem by49 {W0 : World} {σ : List Blk} {args : List AV} {K : Cont} (hn : args.length ≤ 23) (h : rW Try.prog W0 σ.length r49 (initFr args) σ (finP W0 rs49 σ.length K)) : ACall Try.prog W0 49 args σ K :=
  ACall.introR mixed Try.func49 (by kernel_rfl) k49 (by kernel_rfl) hn h
def r50 : RC := (.seq (.reg [.op (some 2) (.box 27 (.t 0)),
  .op (some 3) (.box 70 (.t 1)),
  .op (some 4) (.alloc 27 (List.replicate 6 (.lit (.int .i64 (0)))))])
 (.seq (.reg [.op (some 5) (.load 6 true (.t 2)),
  .op (some 6) (.iaddrA 2 1 (.t 3) (.v (.lit (.int .i64 (0))))),
  .op (some 7) (.load 1 false (.t 6)),
  .op (some 8) (.iaddrA 2 1 (.t 3) (.v (.lit (.int .i64 (1))))),
  .op (some 9) (.load 1 false (.t 8)),
  .op (some 10) (.call (.v (.lit (.func (.func 70) #[] #[]))) [(.t 5), (.t 7), (.t 9)]),
  .op none (.store 6 (.t 4) (.t 10))])
 .ret))
def rs50 : List RR := [.cell 4 6 true]
def cut50 : Nat → Nat := fun id => 0
theorem k50 : (Try.f50.body.bind fun c => comp Try.prog Try.f50.ntmps cut50 c) = some r50 := by kernel_rfl
theorem by50 {W0 : World} {σ : List Blk} {args : List AV} {K : Cont} (hn : args.length ≤ 11) (h : rW Try.prog W0 σ.length r50 (initFr args) σ (finP W0 rs50 σ.length K)) : ACall Try.prog W0 50 args σ K :=
  ACall.introR mixed Try.func50 (by kernel_rfl) k50 (by kernel_rfl) hn h
def r51 : RC := (.seq (.reg [.op (some 2) (.box 47 (.t 0)),
  .op (some 3) (.box 47 (.t 1)),
  .op (some 4) (.mv (.v (.lit (.int .u64 (0)))))])
 (.seq (.reg [.op (some 5) (.mkfn (.func 72) [] [(.t 3), (.t 2)]),
  .op (some 6) (.call (.v (.lit (.func (.func 71) #[] #[]))) [(.t 5)]),
  .op (some 4) (.mv (.t 6))])
 .ret))
def rs51 : List RR := [.tmp 4]
def cut51 : Nat → Nat := fun id => 0
theorem k51 : (Try.f51.body.bind fun c => comp Try.prog Try.f51.ntmps cut51 c) = some r51 := by kernel_rfl
theorem by51 {W0 : World} {σ : List Blk} {args : List AV} {K : Cont} (hn : args.length ≤ 7) (h : rW Try.prog W0 σ.length r51 (initFr args) σ (finP W0 rs51 σ.length K)) : ACall Try.prog W0 51 args σ K :=
  ACall.introR mixed Try.func51 (by kernel_rfl) k51 (by kernel_rfl) hn h
def r52 : RC := (.seq (.reg [.op (some 2) (.mv (.v (.lit (.slice none 0 0))))])
 (.seq (.reg [.op (some 5) (.bslice 3 1 0 [(.lit (.int .i64 (0)))] []),
  .op (some 3) (.mv (.t 5))])
 (.seq (.seq (.reg [.op (some 6) (.mv (.v (.lit (.int .i64 (0)))))])
 (.block 0 (.loop (.seq (.reg [.op (some 7) (.binI .lss (.t 6) (.v (.lit (.int .i64 (36)))))])
 (.seq (.cond (.t 7)
 .skip
 (.exit 0))
 (.seq (.block 1 (.seq (.reg [.op (some 8) (.mv (.t 6)),
  .op (some 4) (.mv (.t 8))])
 (.seq (.reg [.op (some 9) (.mv (.t 0)),
  .op (some 10) (.mv (.t 4)),
  .op (some 11) (.call (.v (.lit (.func (.func 73) #[] #[]))) [(.t 9), (.t 10)])])
 (.cond (.t 11)
 (.reg [.op (some 12) (.mv (.t 3)),
  .op (some 13) (.mv (.t 4)),
  .app (some 15) 14 3 1 8 (.t 12) 1 [(.lit (.int .i64 (0)))] [(0, (.t 13))],
  .op (some 3) (.mv (.t 15))])
 .skip))))
 (.reg [.op (some 16) (.binI .add (.t 6) (.v (.lit (.int .i64 (1))))),
  .op (some 6) (.mv (.t 16))])))))))
 (.seq (.reg [.op (some 17) (.mv (.t 3)),
  .op (some 2) (.mv (.t 17))])
 .ret))))
def rs52 : List RR := [.tmp 2]
def cut52 : Nat → Nat := fun id => 0
theorem k52 : (Try.f52.body.bind fun c => comp Try.prog Try.f52.ntmps cut52 c) = some r52 := by kernel_rfl
theorem by52 {W0 : World} {σ : List Blk} {args : List AV} {K : Cont} (hn : args.length ≤ 18) (h : rW Try.prog W0 σ.length r52 (initFr args) σ (finP W0 rs52 σ.length K)) : ACall Try.prog W0 52 args σ K :=
  ACall.introR mixed Try.func52 (by kernel_rfl) k52 (by kernel_rfl) hn h
def r53 : RC := (.seq (.reg [.op (some 4) (.mv (.v (.lit (.int .u64 (0)))))])
 (.seq (.reg [.op (some 5) (.mv (.t 0)),
  .op (some 6) (.mv (.t 1)),
  .op (some 7) (.binI .rem (.t 6) (.v (.lit (.int .i64 (6))))),
  .op (some 8) (.mv (.t 1)),
  .op (some 9) (.binI .quo (.t 8) (.v (.lit (.int .i64 (6))))),
  .op (some 10) (.call (.v (.lit (.func (.func 74) #[] #[]))) [(.t 5), (.t 7), (.t 9)]),
  .op (some 4) (.mv (.t 10))])
 .ret))
def rs53 : List RR := [.tmp 4]
def cut53 : Nat → Nat := fun id => 0
theorem k53 : (Try.f53.body.bind fun c => comp Try.prog Try.f53.ntmps cut53 c) = some r53 := by kernel_rfl
theorem by53 {W0 : World} {σ : List Blk} {args : List AV} {K : Cont} (hn : args.length ≤ 11) (h : rW Try.prog W0 σ.length r53 (initFr args) σ (finP W0 rs53 σ.length K)) : ACall Try.prog W0 53 args σ K :=
  ACall.introR mixed Try.func53 (by kernel_rfl) k53 (by kernel_rfl) hn h
def r56 : RC := (.seq (.reg [.op (some 4) (.mv (.v (.lit (.bool false))))])
 (.seq (.reg [.op (some 5) (.mv (.t 0)),
  .op (some 6) (.mv (.t 1)),
  .op (some 7) (.call (.v (.lit (.func (.func 76) #[] #[]))) [(.t 5), (.t 6)]),
  .op (some 8) (.binI .geq (.t 7) (.v (.lit (.int .i64 (0))))),
  .op (some 4) (.mv (.t 8))])
 .ret))
def rs56 : List RR := [.tmp 4]
def cut56 : Nat → Nat := fun id => 0
theorem k56 : (Try.f56.body.bind fun c => comp Try.prog Try.f56.ntmps cut56 c) = some r56 := by kernel_rfl
theorem by56 {W0 : World} {σ : List Blk} {args : List AV} {K : Cont} (hn : args.length ≤ 9) (h : rW Try.prog W0 σ.length r56 (initFr args) σ (finP W0 rs56 σ.length K)) : ACall Try.prog W0 56 args σ K :=
  ACall.introR mixed Try.func56 (by kernel_rfl) k56 (by kernel_rfl) hn h
def r57 : RC := (.seq (.reg [.op (some 3) (.mv (.v (.lit (.bool false))))])
 (.seq (.reg [.op (some 4) (.load 1 false (.t 1)),
  .op (some 5) (.mv (.t 0)),
  .op (some 6) (.call (.v (.lit (.func (.func 35) #[] #[]))) [(.t 4), (.t 5)]),
  .op (some 7) (.un .not (.t 6)),
  .op (some 3) (.mv (.t 7))])
 .ret))
def rs57 : List RR := [.tmp 3]
def cut57 : Nat → Nat := fun id => 0
theorem k57 : (Try.f57.body.bind fun c => comp Try.prog Try.f57.ntmps cut57 c) = some r57 := by kernel_rfl
theorem by57 {W0 : World} {σ : List Blk} {args : List AV} {K : Cont} (hn : args.length ≤ 8) (h : rW Try.prog W0 σ.length r57 (initFr args) σ (finP W0 rs57 σ.length K)) : ACall Try.prog W0 57 args σ K :=
  ACall.introR mixed Try.func57 (by kernel_rfl) k57 (by kernel_rfl) hn h
def r60 : RC := (.seq (.reg [.op (some 1) (.box 27 (.t 0)),
  .op (some 2) (.mv (.v (.lit (.bool false))))])
 (.seq (.seq (.reg [.op (some 3) (.mv (.v (.lit (.int .i64 (0)))))])
 (.block 0 (.loop (.seq (.seq (.reg [.op (some 4) (.mv (.t 3)),
  .op (some 5) (.binI .lss (.t 4) (.v (.lit (.int .i64 (6)))))])
 (.cond (.t 5)
 .skip
 (.exit 0)))
 (.seq (.block 1 (.seq (.reg [.op (some 8) (.mv (.t 3)),
  .op (some 9) (.faddr 0 (.t 1)),
  .op (some 10) (.iaddrA 6 1 (.t 9) (.t 8)),
  .op (some 11) (.load 1 false (.t 10)),
  .op (some 12) (.call (.v (.lit (.func (.func 78) #[] #[]))) [(.t 11), (.v (.lit (.int .i64 (0)))), (.v (.lit (.int .i64 (63))))]),
  .op (some 13) (.un .not (.t 12))])
 (.cond (.t 13)
 (.seq (.reg [.op (some 2) (.mv (.v (.lit (.bool false))))])
 .ret)
 .skip)))
 (.reg [.op (some 6) (.mv (.t 3)),
  .op (some 7) (.binI .add (.t 6) (.v (.lit (.int .i64 (1))))),
  .op (some 3) (.mv (.t 7))]))))))
 (.seq (.reg [.op (some 2) (.mv (.v (.lit (.bool true))))])
 .ret)))
def rs60 : List RR := [.tmp 2]
def cut60 : Nat → Nat := fun id => 0
theorem k60 : (Try.f60.body.bind fun c => comp Try.prog Try.f60.ntmps cut60 c) = some r60 := by kernel_rfl
theorem by60 {W0 : World} {σ : List Blk} {args : List AV} {K : Cont} (hn : args.length ≤ 14) (h : rW Try.prog W0 σ.length r60 (initFr args) σ (finP W0 rs60 σ.length K)) : ACall Try.prog W0 60 args σ K :=
  ACall.introR mixed Try.func60 (by kernel_rfl) k60 (by kernel_rfl) hn h
def r61 : RC := (.seq (.reg [.op (some 1) (.box 27 (.t 0)),
  .op (some 2) (.mv (.v (.lit (.int .i64 (0)))))])
 (.seq (.reg [.op (some 3) (.mv (.v (.lit (.int .i64 (0)))))])
 (.seq (.seq (.reg [.op (some 4) (.mv (.v (.lit (.int .i64 (0)))))])
 (.block 0 (.loop (.seq (.seq (.reg [.op (some 6) (.mv (.t 4)),
  .op (some 7) (.binI .lss (.t 6) (.v (.lit (.int .i64 (6)))))])
 (.cond (.t 7)
 .skip
 (.exit 0)))
 (.seq (.block 1 (.seq (.reg [.op (some 10) (.mv (.t 4)),
  .op (some 11) (.faddr 0 (.t 1)),
  .op (some 12) (.iaddrA 6 1 (.t 11) (.t 10)),
  .op (some 13) (.load 1 false (.t 12)),
  .op (some 5) (.mv (.t 13))])
 (.block 2 (.loop (.seq (.seq (.reg [.op (some 14) (.mv (.t 5)),
  .op (some 15) (.binI .gtr (.t 14) (.v (.lit (.int .i64 (0)))))])
 (.cond (.t 15)
 .skip
 (.exit 2)))
 (.seq (.block 3 (.reg [.op (some 18) (.mv (.t 3)),
  .op (some 19) (.mv (.t 5)),
  .op (some 20) (.binI .rem (.t 19) (.v (.lit (.int .i64 (2))))),
  .op (some 21) (.binI .add (.t 18) (.t 20)),
  .op (some 3) (.mv (.t 21))]))
 (.reg [.op (some 16) (.mv (.t 5)),
  .op (some 17) (.binI .quo (.t 16) (.v (.lit (.int .i64 (2))))),
  .op (some 5) (.mv (.t 17))])))))))
 (.reg [.op (some 8) (.mv (.t 4)),
  .op (some 9) (.binI .add (.t 8) (.v (.lit (.int .i64 (1))))),
  .op (some 4) (.mv (.t 9))]))))))
 (.seq (.reg [.op (some 22) (.mv (.t 3)),
  .op (some 2) (.mv (.t 22))])
 .ret))))
def rs61 : List RR := [.tmp 2]
def cut61 : Nat → Nat := fun id => 0
theorem k61 : (Try.f61.body.bind fun c => comp Try.prog Try.f61.ntmps cut61 c) = some r61 := by kernel_rfl
theorem by61 {W0 : World} {σ : List Blk} {args : List AV} {K : Cont} (hn : args.length ≤ 23) (h : rW Try.prog W0 σ.length r61 (initFr args) σ (finP W0 rs61 σ.length K)) : ACall Try.prog W0 61 args σ K :=
  ACall.introR mixed Try.func61 (by kernel_rfl) k61 (by kernel_rfl) hn h
def r62 : RC := (.seq (.reg [.op (some 2) (.box 27 (.t 0)),
  .op (some 3) (.box 27 (.t 1)),
  .op (some 4) (.mv (.v (.lit (.bool false))))])
 (.seq (.seq (.reg [.op (some 5) (.mv (.v (.lit (.int .i64 (0)))))])
 (.block 0 (.loop (.seq (.seq (.reg [.op (some 6) (.mv (.t 5)),
  .op (some 7) (.binI .lss (.t 6) (.v (.lit (.int .i64 (6)))))])
 (.cond (.t 7)
 .skip
 (.exit 0)))
 (.seq (.block 1 (.seq (.draw [((some 10), (.mv (.t 5))), ((some 11), (.faddr 0 (.t 2))), ((some 12), (.iaddrA 6 1 (.t 11) (.t 10))), ((some 13), (.load 1 false (.t 12))), ((some 14), (.mv (.t 5))), ((some 15), (.faddr 0 (.t 3))), ((some 16), (.iaddrA 6 1 (.t 15) (.t 14))), ((some 17), (.load 1 false (.t 16))), ((some 18), (.binI .neq (.t 13) (.t 17)))] [])
 (.cond (.t 18)
 (.seq (.draw [((some 19), (.mv (.t 5))), ((some 20), (.faddr 0 (.t 2))), ((some 21), (.iaddrA 6 1 (.t 20) (.t 19))), ((some 22), (.load 1 false (.t 21))), ((some 23), (.mv (.t 5))), ((some 24), (.faddr 0 (.t 3))), ((some 25), (.iaddrA 6 1 (.t 24) (.t 23))), ((some 26), (.load 1 false (.t 25))), ((some 27), (.binI .lss (.t 22) (.t 26))), ((some 4), (.mv (.t 27)))] [])
 .ret)
 .skip)))
 (.reg [.op (some 8) (.mv (.t 5)),
  .op (some 9) (.binI .add (.t 8) (.v (.lit (.int .i64 (1))))),
  .op (some 5) (.mv (.t 9))]))))))
 (.seq (.reg [.op (some 4) (.mv (.v (.lit (.bool false))))])
 .ret)))
def rs62 : List RR := [.tmp 4]
def cut62 : Nat → Nat := fun id => if id = 4 then 19 else if id = 5 then 21 else 0
theorem k62 : (Try.f62.body.bind fun c => comp Try.prog Try.f62.ntmps cut62 c) = some r62 := by kernel_rfl
theorem by62 {W0 : World} {σ : List Blk} {args : List AV} {K : Cont} (hn : args.length ≤ 28) (h : rW Try.prog W0 σ.length r62 (initFr args) σ (finP W0 rs62 σ.length K)) : ACall Try.prog W0 62 args σ K :=
  ACall.introR mixed Try.func62 (by kernel_rfl) k62 (by kernel_rfl) hn h
def r63 : RC := (.seq (.reg [.op (some 2) (.box 27 (.t 0)),
  .op (some 3) (.box 27 (.t 1)),
  .op (some 4) (.mv (.v (.lit (.int .u64 (0))))),
  .op (some 5) (.mv (.v (.lit (.int .u64 (0))))),
  .op (some 6) (.mv (.v (.lit (.bool false))))])
 (.seq (.reg [.op (some 12) (.load 6 true (.t 2)),
  .op (some 13) (.call (.v (.lit (.func (.func 79) #[] #[]))) [(.t 12)]),
  .op (some 11) (.mv (.t 13)),
  .op (some 14) (.ext (.t 11) 0),
  .op (some 15) (.ext (.t 11) 1),
  .op (some 7) (.mv (.t 14)),
  .op (some 8) (.mv (.t 15))])
 (.seq (.reg [.op (some 17) (.load 6 true (.t 3)),
  .op (some 18) (.call (.v (.lit (.func (.func 79) #[] #[]))) [(.t 17)]),
  .op (some 16) (.mv (.t 18)),
  .op (some 19) (.ext (.t 16) 0),
  .op (some 20) (.ext (.t 16) 1),
  .op (some 9) (.mv (.t 19)),
  .op (some 10) (.mv (.t 20))])
 (.seq (.reg [.op (some 21) (.mv (.t 7)),
  .op (some 22) (.mv (.t 9)),
  .op (some 23) (.mv (.t 8)),
  .op (some 24) (.mv (.t 23)),
  .grp 24 true [((some 25), (.mv (.t 10)))],
  .op (some 26) (.pick (.t 24) (.t 25) (.v (.lit (.bool false)))),
  .op (some 4) (.mv (.t 21)),
  .op (some 5) (.mv (.t 22)),
  .op (some 6) (.mv (.t 26))])
 .ret))))
def rs63 : List RR := [.tmp 4, .tmp 5, .tmp 6]
def cut63 : Nat → Nat := fun id => 0
theorem k63 : (Try.f63.body.bind fun c => comp Try.prog Try.f63.ntmps cut63 c) = some r63 := by kernel_rfl
theorem by63 {W0 : World} {σ : List Blk} {args : List AV} {K : Cont} (hn : args.length ≤ 27) (h : rW Try.prog W0 σ.length r63 (initFr args) σ (finP W0 rs63 σ.length K)) : ACall Try.prog W0 63 args σ K :=
  ACall.introR mixed Try.func63 (by kernel_rfl) k63 (by kernel_rfl) hn h
def r65 : RC := (.seq (.reg [.op (some 4) (.mv (.v (.lit (.int .i64 (0)))))])
 (.seq (.seq (.reg [.op (some 7) (.mv (.v (.lit (.int .i64 (0)))))])
 (.block 0 (.loop (.seq (.reg [.op (some 8) (.binI .lss (.t 7) (.v (.lit (.int .i64 (6)))))])
 (.seq (.cond (.t 8)
 .skip
 (.exit 0))
 (.seq (.block 1 (.seq (.reg [.op (some 9) (.mv (.t 7)),
  .op (some 5) (.mv (.t 9))])
 (.seq (.draw [((some 10), (.mv (.t 0))), ((some 11), (.mv (.t 5))), ((some 12), (.binI .mul (.t 11) (.v (.lit (.int .i64 (6)))))), ((some 13), (.binI .shr (.t 10) (.t 12))), ((some 14), (.binI .and (.t 13) (.v (.lit (.int .u64 (63)))))), ((some 15), (.mv (.t 1))), ((some 16), (.mv (.t 5))), ((some 17), (.binI .mul (.t 16) (.v (.lit (.int .i64 (6)))))), ((some 18), (.binI .shr (.t 15) (.t 17))), ((some 19), (.binI .and (.t 18) (.v (.lit (.int .u64 (63)))))), ((some 20), (.call (.v (.lit (.func (.func 82) #[] #[]))) [(.t 14), (.t 19)])), ((some 6), (.mv (.t 20)))] [])
 (.seq (.reg [.op (some 21) (.mv (.t 6)),
  .op (some 22) (.binI .neq (.t 21) (.v (.lit (.int .i64 (0)))))])
 (.cond (.t 22)
 (.seq (.reg [.op (some 23) (.mv (.t 6)),
  .op (some 4) (.mv (.t 23))])
 .ret)
 .skip)))))
 (.reg [.op (some 24) (.binI .add (.t 7) (.v (.lit (.int .i64 (1))))),
  .op (some 7) (.mv (.t 24))])))))))
 (.seq (.reg [.op (some 4) (.mv (.v (.lit (.int .i64 (0)))))])
 .ret)))
def rs65 : List RR := [.tmp 4]
def cut65 : Nat → Nat := fun id => if id = 4 then 25 else 0
theorem k65 : (Try.f65.body.bind fun c => comp Try.prog Try.f65.ntmps cut65 c) = some r65 := by kernel_rfl
theorem by65 {W0 : World} {σ : List Blk} {args : List AV} {K : Cont} (hn : args.length ≤ 25) (h : rW Try.prog W0 σ.length r65 (initFr args) σ (finP W0 rs65 σ.length K)) : ACall Try.prog W0 65 args σ K :=
  ACall.introR mixed Try.func65 (by kernel_rfl) k65 (by kernel_rfl) hn h
def r66 : RC := (.seq (.reg [.op (some 2) (.mv (.v (.lit (.slice none 0 0))))])
 (.seq (.seq (.reg [.op (some 6) (.mv (.t 0)),
  .op (some 7) (.lenL (.t 6)),
  .op (some 8) (.binI .lss (.t 7) (.v (.lit (.int .i64 (2)))))])
 (.cond (.t 8)
 (.seq (.reg [.op (some 9) (.mv (.t 0)),
  .op (some 2) (.mv (.t 9))])
 .ret)
 .skip))
 (.seq (.seq (.reg [.op (some 3) (.mv (.v (.lit (.int .i64 (1)))))])
 (.block 0 (.loop (.seq (.seq (.reg [.op (some 10) (.mv (.t 3)),
  .op (some 11) (.mv (.t 0)),
  .op (some 12) (.lenL (.t 11)),
  .op (some 13) (.binI .lss (.t 10) (.t 12))])
 (.cond (.t 13)
 .skip
 (.exit 0)))
 (.seq (.block 1 (.seq (.draw [((some 16), (.mv (.t 0))), ((some 17), (.mv (.t 3))), ((some 18), (.iaddrS 1 (.t 16) (.t 17))), ((some 19), (.load 1 false (.t 18))), ((some 20), (.mv (.t 0))), ((some 21), (.mv (.t 3))), ((some 22), (.binI .sub (.t 21) (.v (.lit (.int .i64 (1)))))), ((some 23), (.iaddrS 1 (.t 20) (.t 22))), ((some 24), (.load 1 false (.t 23))), ((some 25), (.binI .eql (.t 19) (.t 24)))] [])
 (.cond (.t 25)
 (.seq (.reg [.op (some 26) (.mv (.t 0)),
  .op (some 27) (.mv (.t 3)),
  .op (some 28) (.slice 1 (.t 26) (some (.t 27)) none),
  .op (some 4) (.mv (.t 28))])
 (.seq (.seq (.reg [.op (some 5) (.mv (.v (.lit (.int .i64 (1)))))])
 (.block 2 (.loop (.seq (.seq (.reg [.op (some 29) (.mv (.t 5)),
  .op (some 30) (.mv (.t 4)),
  .op (some 31) (.lenL (.t 30)),
  .op (some 32) (.binI .lss (.t 29) (.t 31))])
 (.cond (.t 32)
 .skip
 (.exit 2)))
 (.seq (.block 3 (.seq (.draw [((some 35), (.mv (.t 4))), ((some 36), (.mv (.t 5))), ((some 37), (.iaddrS 1 (.t 35) (.t 36))), ((some 38), (.load 1 false (.t 37))), ((some 39), (.mv (.t 4))), ((some 40), (.mv (.t 5))), ((some 41), (.binI .sub (.t 40) (.v (.lit (.int .i64 (1)))))), ((some 42), (.iaddrS 1 (.t 39) (.t 41))), ((some 43), (.load 1 false (.t 42))), ((some 44), (.binI .neq (.t 38) (.t 43)))] [])
 (.cond (.t 44)
 (.seq (.reg [.op (some 45) (.mv (.t 0)),
  .op (some 46) (.mv (.t 3)),
  .op (some 47) (.mv (.t 4)),
  .op (some 48) (.mv (.t 5)),
  .op (some 49) (.iaddrS 1 (.t 47) (.t 48)),
  .op (some 50) (.load 1 false (.t 49)),
  .op (some 51) (.iaddrS 1 (.t 45) (.t 46)),
  .op none (.store 1 (.t 51) (.t 50))])
 (.reg [.op (some 52) (.mv (.t 3)),
  .op (some 53) (.binI .add (.t 52) (.v (.lit (.int .i64 (1))))),
  .op (some 3) (.mv (.t 53))]))
 .skip)))
 (.reg [.op (some 33) (.mv (.t 5)),
  .op (some 34) (.binI .add (.t 33) (.v (.lit (.int .i64 (1))))),
  .op (some 5) (.mv (.t 34))]))))))
 (.seq (.reg [.op (some 54) (.mv (.t 0)),
  .op (some 55) (.mv (.t 3)),
  .op (some 56) (.slice 1 (.t 54) (some (.t 55)) none),
  .op none (.clr 1 [(.lit (.int .u64 (0)))] (.t 56))])
 (.seq (.reg [.op (some 57) (.mv (.t 0)),
  .op (some 58) (.mv (.t 3)),
  .op (some 59) (.slice 1 (.t 57) none (some (.t 58))),
  .op (some 2) (.mv (.t 59))])
 .ret))))
 .skip)))
 (.reg [.op (some 14) (.mv (.t 3)),
  .op (some 15) (.binI .add (.t 14) (.v (.lit (.int .i64 (1))))),
  .op (some 3) (.mv (.t 15))]))))))
 (.seq (.reg [.op (some 60) (.mv (.t 0)),
  .op (some 2) (.mv (.t 60))])
 .ret))))
def rs66 : List RR := [.tmp 2]
def cut66 : Nat → Nat := fun id => if id = 6 then 21 else if id = 11 then 21 else 0
theorem k66 : (Try.f66.body.bind fun c => comp Try.prog Try.f66.ntmps cut66 c) = some r66 := by kernel_rfl
theorem by66 {W0 : World} {σ : List Blk} {args : List AV} {K : Cont} (hn : args.length ≤ 61) (h : rW Try.prog W0 σ.length r66 (initFr args) σ (finP W0 rs66 σ.length K)) : ACall Try.prog W0 66 args σ K :=
  ACall.introR mixed Try.func66 (by kernel_rfl) k66 (by kernel_rfl) hn h
def r69 : RC := (.seq (.reg [.op (some 3) (.box 27 (.t 0)),
  .op (some 4) (.box 27 (.t 1)),
  .op (some 5) (.box 70 (.t 2)),
  .op (some 6) (.mv (.v (.lit (.bool false))))])
 (.seq (.draw [((some 7), (.load 6 true (.t 3))), ((some 8), (.load 6 true (.t 4))), ((some 9), (.load 2 true (.t 5))), ((some 10), (.call (.v (.lit (.func (.func 50) #[] #[]))) [(.t 8), (.t 9)])), ((some 11), (.call (.v (.lit (.func (.func 83) #[] #[]))) [(.t 7), (.t 10)])), ((some 12), (.build (List.replicate 6 (.lit (.int .i64 (0)))) [])), ((some 13), (.eqA false [.int, .int, .int, .int, .int, .int] (.t 11) (.t 12))), ((some 6), (.mv (.t 13)))] [])
 .ret))
def rs69 : List RR := [.tmp 6]
def cut69 : Nat → Nat := fun id => if id = 1 then 17 else 0
theorem k69 : (Try.f69.body.bind fun c => comp Try.prog Try.f69.ntmps cut69 c) = some r69 := by kernel_rfl
theorem by69 {W0 : World} {σ : List Blk} {args : List AV} {K : Cont} (hn : args.length ≤ 14) (h : rW Try.prog W0 σ.length r69 (initFr args) σ (finP W0 rs69 σ.length K)) : ACall Try.prog W0 69 args σ K :=
  ACall.introR mixed Try.func69 (by kernel_rfl) k69 (by kernel_rfl) hn h
def r70 : RC := (.seq (.reg [.op (some 3) (.box 27 (.t 0)),
  .op (some 6) (.alloc 27 (List.replicate 6 (.lit (.int .i64 (0)))))])
 (.seq (.reg [.op (some 12) (.build (List.replicate 6 (.lit (.int .i64 (0)))) []),
  .op (some 13) (.mv (.t 1)),
  .op (some 14) (.call (.v (.lit (.func (.func 84) #[] #[]))) [(.t 13)]),
  .op (some 15) (.mv (.t 2)),
  .op (some 16) (.call (.v (.lit (.func (.func 84) #[] #[]))) [(.t 15)]),
  .op (some 7) (.alloc 27 (List.replicate 6 (.lit (.int .i64 (0))))),
  .op none (.store 6 (.t 7) (.t 12)),
  .op (some 8) (.mv (.t 14)),
  .op (some 9) (.mv (.t 16))])
 (.seq (.seq (.reg [.op (some 10) (.mv (.v (.lit (.int .i64 (0)))))])
 (.block 0 (.loop (.seq (.seq (.reg [.op (some 17) (.mv (.t 10)),
  .op (some 18) (.binI .lss (.t 17) (.v (.lit (.int .i64 (6)))))])
 (.cond (.t 18)
 .skip
 (.exit 0)))
 (.seq (.block 1 (.seq (.reg [.op (some 21) (.mv (.t 10)),
  .op (some 22) (.faddr 0 (.t 3)),
  .op (some 23) (.iaddrA 6 1 (.t 22) (.t 21)),
  .op (some 24) (.load 1 false (.t 23)),
  .op (some 11) (.mv (.t 24))])
 (.draw [((some 25), (.mv (.t 10))), ((some 26), (.mv (.t 9))), ((some 27), (.binI .add (.t 25) (.t 26))), ((some 28), (.binI .rem (.t 27) (.v (.lit (.int .i64 (6)))))), ((some 29), (.mv (.t 11))), ((some 30), (.mv (.t 8))), ((some 31), (.binI .shl (.t 29) (.t 30))), ((some 32), (.binI .and (.t 31) (.v (.lit (.int .i64 (63)))))), ((some 33), (.mv (.t 11))), ((some 34), (.mv (.t 8))), ((some 35), (.binI .sub (.v (.lit (.int .i64 (6)))) (.t 34))), ((some 36), (.binI .shr (.t 33) (.t 35))), ((some 37), (.binI .or (.t 32) (.t 36)))] [((some 38), (.faddr 0 (.t 7))), ((some 39), (.iaddrA 6 1 (.t 38) (.t 28))), (none, (.store 1 (.t 39) (.t 37)))])))
 (.reg [.op (some 19) (.mv (.t 10)),
  .op (some 20) (.binI .add (.t 19) (.v (.lit (.int .i64 (1))))),
  .op (some 10) (.mv (.t 20))]))))))
 (.seq (.reg [.op (some 40) (.load 6 true (.t 7)),
  .op none (.store 6 (.t 6) (.t 40))])
 .ret))))
def rs70 : List RR := [.cell 6 6 true]
def cut70 : Nat → Nat := fun id => if id = 6 then 27 else 0
theorem k70 : (Try.f70.body.bind fun c => comp Try.prog Try.f70.ntmps cut70 c) = some r70 := by kernel_rfl
theorem by70 {W0 : World} {σ : List Blk} {args : List AV} {K : Cont} (hn : args.length ≤ 41) (h : rW Try.prog W0 σ.length r70 (initFr args) σ (finP W0 rs70 σ.length K)) : ACall Try.prog W0 70 args σ K :=
  ACall.introR mixed Try.func70 (by kernel_rfl) k70 (by kernel_rfl) hn h
def r71 : RC := (.seq (.reg [.op (some 2) (.mv (.v (.lit (.int .u64 (0)))))])
 (.seq (.reg [.op (some 3) (.mv (.v (.lit (.int .u64 (0)))))])
 (.seq (.seq (.reg [.op (some 5) (.mv (.v (.lit (.int .i64 (0)))))])
 (.block 0 (.loop (.seq (.reg [.op (some 6) (.binI .lss (.t 5) (.v (.lit (.int .i64 (36)))))])
 (.seq (.cond (.t 6)
 .skip
 (.exit 0))
 (.seq (.block 1 (.seq (.reg [.op (some 7) (.mv (.t 5)),
  .op (some 4) (.mv (.t 7))])
 (.seq (.reg [.op (some 8) (.mv (.t 0)),
  .op (some 9) (.mv (.t 4)),
  .op (some 10) (.call (.t 8) [(.t 9)])])
 (.cond (.t 10)
 (.reg [.op (some 11) (.mv (.t 3)),
  .op (some 12) (.mv (.t 4)),
  .op (some 13) (.binI .shl (.v (.lit (.int .u64 (1)))) (.t 12)),
  .op (some 14) (.binI .or (.t 11) (.t 13)),
  .op (some 3) (.mv (.t 14))])
 .skip))))
 (.reg [.op (some 15) (.binI .add (.t 5) (.v (.lit (.int .i64 (1))))),
  .op (some 5) (.mv (.t 15))])))))))
 (.seq (.reg [.op (some 16) (.mv (.t 3)),
  .op (some 2) (.mv (.t 16))])
 .ret))))
def rs71 : List RR := [.tmp 2]
def cut71 : Nat → Nat := fun id => 0
theorem k71 : (Try.f71.body.bind fun c => comp Try.prog Try.f71.ntmps cut71 c) = some r71 := by kernel_rfl
theorem by71 {W0 : World} {σ : List Blk} {args : List AV} {K : Cont} (hn : args.length ≤ 17) (h : rW Try.prog W0 σ.length r71 (initFr args) σ (finP W0 rs71 σ.length K)) : ACall Try.prog W0 71 args σ K :=
  ACall.introR mixed Try.func71 (by kernel_rfl) k71 (by kernel_rfl) hn h
def r72 : RC := (.seq (.reg [.op (some 4) (.mv (.v (.lit (.bool false))))])
 (.seq (.draw [((some 5), (.load 1 false (.t 1))), ((some 6), (.mv (.t 0))), ((some 7), (.call (.v (.lit (.func (.func 53) #[] #[]))) [(.t 5), (.t 6)])), ((some 8), (.load 1 false (.t 2))), ((some 9), (.binI .and (.t 7) (.t 8))), ((some 10), (.binI .eql (.t 9) (.v (.lit (.int .u64 (0)))))), ((some 4), (.mv (.t 10)))] [])
 .ret))
def rs72 : List RR := [.tmp 4]
def cut72 : Nat → Nat := fun id => if id = 1 then 15 else 0
theorem k72 : (Try.f72.body.bind fun c => comp Try.prog Try.f72.ntmps cut72 c) = some r72 := by kernel_rfl
theorem by72 {W0 : World} {σ : List Blk} {args : List AV} {K : Cont} (hn : args.length ≤ 11) (h : rW Try.prog W0 σ.length r72 (initFr args) σ (finP W0 rs72 σ.length K)) : ACall Try.prog W0 72 args σ K :=
  ACall.introR mixed Try.func72 (by kernel_rfl) k72 (by kernel_rfl) hn h
def r73 : RC := (.seq (.reg [.op (some 4) (.mv (.v (.lit (.bool false))))])
 (.seq (.reg [.op (some 5) (.mv (.t 0)),
  .op (some 6) (.mv (.t 1)),
  .op (some 7) (.binI .shr (.t 5) (.t 6)),
  .op (some 8) (.binI .and (.t 7) (.v (.lit (.int .u64 (1))))),
  .op (some 9) (.binI .eql (.t 8) (.v (.lit (.int .u64 (1))))),
  .op (some 4) (.mv (.t 9))])
 .ret))
def rs73 : List RR := [.tmp 4]
def cut73 : Nat → Nat := fun id => 0
theorem k73 : (Try.f73.body.bind fun c => comp Try.prog Try.f73.ntmps cut73 c) = some r73 := by kernel_rfl
theorem by73 {W0 : World} {σ : List Blk} {args : List AV} {K : Cont} (hn : args.length ≤ 10) (h : rW Try.prog W0 σ.length r73 (initFr args) σ (finP W0 rs73 σ.length K)) : ACall Try.prog W0 73 args σ K :=
  ACall.introR mixed Try.func73 (by kernel_rfl) k73 (by kernel_rfl) hn h
def r74 : RC := (.seq (.reg [.op (some 4) (.box 3 (.t 1)),
  .op (some 5) (.box 3 (.t 2)),
  .op (some 6) (.mv (.v (.lit (.int .u64 (0)))))])
 (.seq (.quiet [.op (some 7) (.load 1 false (.t 4)),
  .op (some 8) (.call (.v (.lit (.func (.func 85) #[] #[]))) [(.t 7)]),
  .op (some 9) (.load 1 false (.t 5)),
  .op (some 10) (.call (.v (.lit (.func (.func 85) #[] #[]))) [(.t 9)])] [.op none (.store 1 (.t 4) (.t 8)),
  .op none (.store 1 (.t 5) (.t 10))])
 (.seq (.reg [.op (some 11) (.mv (.t 0)),
  .op (some 12) (.mkfn (.func 87) [] [(.t 4), (.t 5)]),
  .op (some 13) (.call (.v (.lit (.func (.func 86) #[] #[]))) [(.t 11), (.t 12)]),
  .op (some 6) (.mv (.t 13))])
 .ret)))
def rs74 : List RR := [.tmp 6]
def cut74 : Nat → Nat := fun id => if id = 1 then 8 else 0
theorem k74 : (Try.f74.body.bind fun c => comp Try.prog Try.f74.ntmps cut74 c) = some r74 := by kernel_rfl
theorem by74 {W0 : World} {σ : List Blk} {args : List AV} {K : Cont} (hn : args.length ≤ 14) (h : rW Try.prog W0 σ.length r74 (initFr args) σ (finP W0 rs74 σ.length K)) : ACall Try.prog W0 74 args σ K :=
  ACall.introR mixed Try.func74 (by kernel_rfl) k74 (by kernel_rfl) hn h
def r76 : RC := (.seq (.reg [.op (some 4) (.mv (.v (.lit (.int .i64 (0)))))])
 (.seq (.seq (.reg [.op (some 6) (.mv (.t 0)),
  .op (some 7) (.lenL (.t 6)),
  .op (some 8) (.mv (.v (.lit (.int .i64 (0)))))])
 (.block 0 (.loop (.seq (.reg [.op (some 9) (.binI .lss (.t 8) (.t 7))])
 (.seq (.cond (.t 9)
 .skip
 (.exit 0))
 (.seq (.block 1 (.seq (.reg [.op (some 10) (.mv (.t 8)),
  .op (some 5) (.mv (.t 10))])
 (.seq (.reg [.op (some 11) (.mv (.t 1)),
  .op (some 12) (.mv (.t 0)),
  .op (some 13) (.mv (.t 5)),
  .op (some 14) (.iaddrS 1 (.t 12) (.t 13)),
  .op (some 15) (.load 1 false (.t 14)),
  .op (some 16) (.call (.t 11) [(.t 15)])])
 (.cond (.t 16)
 (.seq (.reg [.op (some 17) (.mv (.t 5)),
  .op (some 4) (.mv (.t 17))])
 .ret)
 .skip))))
 (.reg [.op (some 18) (.binI .add (.t 8) (.v (.lit (.int .i64 (1))))),
  .op (some 8) (.mv (.t 18))])))))))
 (.seq (.reg [.op (some 4) (.mv (.v (.lit (.int .i64 (-1)))))])
 .ret)))
def rs76 : List RR := [.tmp 4]
def cut76 : Nat → Nat := fun id => 0
theorem k76 : (Try.f76.body.bind fun c => comp Try.prog Try.f76.ntmps cut76 c) = some r76 := by kernel_rfl
theorem by76 {W0 : World} {σ : List Blk} {args : List AV} {K : Cont} (hn : args.length ≤ 19) (h : rW Try.prog W0 σ.length r76 (initFr args) σ (finP W0 rs76 σ.length K)) : ACall Try.prog W0 76 args σ K :=
  ACall.introR mixed Try.func76 (by kernel_rfl) k76 (by kernel_rfl) hn h
def r78 : RC := (.seq (.reg [.op (some 6) (.mv (.v (.lit (.bool false))))])
 (.seq (.reg [.op (some 7) (.mv (.t 0)),
  .op (some 8) (.mv (.t 1)),
  .op (some 9) (.binI .geq (.t 7) (.t 8)),
  .op (some 10) (.mv (.t 9)),
  .grp 10 true [((some 11), (.mv (.t 0))), ((some 12), (.mv (.t 2))), ((some 13), (.binI .leq (.t 11) (.t 12)))],
  .op (some 14) (.pick (.t 10) (.t 13) (.v (.lit (.bool false)))),
  .op (some 6) (.mv (.t 14))])
 .ret))
def rs78 : List RR := [.tmp 6]
def cut78 : Nat → Nat := fun id => 0
theorem k78 : (Try.f78.body.bind fun c => comp Try.prog Try.f78.ntmps cut78 c) = some r78 := by kernel_rfl
theorem by78 {W0 : World} {σ : List Blk} {args : List AV} {K : Cont} (hn : args.length ≤ 15) (h : rW Try.prog W0 σ.length r78 (initFr args) σ (finP W0 rs78 σ.length K)) : ACall Try.prog W0 78 args σ K :=
  ACall.introR mixed Try.func78 (by kernel_rfl) k78 (by kernel_rfl) hn h
def r79 : RC := (.seq (.reg [.op (some 1) (.box 27 (.t 0)),
  .op (some 2) (.mv (.v (.lit (.int .u64 (0))))),
  .op (some 3) (.mv (.v (.lit (.bool false))))])
 (.seq (.reg [.op (some 4) (.mv (.v (.lit (.int .u64 (0)))))])
 (.seq (.seq (.reg [.op (some 7) (.faddr 0 (.t 1)),
  .op (some 8) (.load 6 true (.t 7)),
  .op (some 9) (.mv (.v (.lit (.int .i64 (0)))))])
 (.block 0 (.loop (.seq (.reg [.op (some 10) (.binI .lss (.t 9) (.v (.lit (.int .i64 (6)))))])
 (.seq (.cond (.t 10)
 .skip
 (.exit 0))
 (.seq (.block 1 (.seq (.reg [.op (some 11) (.mv (.t 9)),
  .op (some 12) (.idxA 6 1 false (.t 8) (.t 9)),
  .op (some 5) (.mv (.t 11)),
  .op (some 6) (.mv (.t 12))])
 (.seq (.seq (.reg [.op (some 13) (.mv (.t 6)),
  .op (some 14) (.binI .lss (.t 13) (.v (.lit (.int .i64 (0))))),
  .op (some 15) (.mv (.t 14)),
  .grp 15 false [((some 16), (.mv (.t 6))), ((some 17), (.binI .gtr (.t 16) (.v (.lit (.int .i64 (63))))))],
  .op (some 18) (.pick (.t 15) (.v (.lit (.bool true))) (.t 17))])
 (.cond (.t 18)
 (.seq (.reg [.op (some 2) (.mv (.v (.lit (.int .u64 (0))))),
  .op (some 3) (.mv (.v (.lit (.bool false))))])
 .ret)
 .skip))
 (.reg [.op (some 19) (.mv (.t 4)),
  .op (some 20) (.mv (.t 6)),
  .op (some 21) (.conv .u64 (.t 20)),
  .op (some 22) (.mv (.t 5)),
  .op (some 23) (.binI .mul (.t 22) (.v (.lit (.int .i64 (6))))),
  .op (some 24) (.binI .shl (.t 21) (.t 23)),
  .op (some 25) (.binI .or (.t 19) (.t 24)),
  .op (some 4) (.mv (.t 25))]))))
 (.reg [.op (some 26) (.binI .add (.t 9) (.v (.lit (.int .i64 (1))))),
  .op (some 9) (.mv (.t 26))])))))))
 (.seq (.reg [.op (some 27) (.mv (.t 4)),
  .op (some 2) (.mv (.t 27)),
  .op (some 3) (.mv (.v (.lit (.bool true))))])
 .ret))))
def rs79 : List RR := [.tmp 2, .tmp 3]
def cut79 : Nat → Nat := fun id => 0
theorem k79 : (Try.f79.body.bind fun c => comp Try.prog Try.f79.ntmps cut79 c) = some r79 := by kernel_rfl
theorem by79 {W0 : World} {σ : List Blk} {args : List AV} {K : Cont} (hn : args.length ≤ 28) (h : rW Try.prog W0 σ.length r79 (initFr args) σ (finP W0 rs79 σ.length K)) : ACall Try.prog W0 79 args σ K :=
  ACall.introR mixed Try.func79 (by kernel_rfl) k79 (by kernel_rfl) hn h
def r82 : RC := (.seq (.reg [.op (some 4) (.mv (.v (.lit (.int .i64 (0)))))])
 (.seq (.reg [.op (some 7) (.mv (.t 0)),
  .op (some 8) (.call (.v (.lit (.func (.func 98) #[] #[]))) [(.t 7)]),
  .op (some 5) (.mv (.t 8))])
 (.seq (.reg [.op (some 9) (.mv (.t 1)),
  .op (some 10) (.call (.v (.lit (.func (.func 98) #[] #[]))) [(.t 9)]),
  .op (some 6) (.mv (.t 10))])
 (.seq (.seq (.reg [.op (some 11) (.mv (.t 5))])
 (.cond (.t 11)
 (.seq (.seq (.reg [.op (some 12) (.mv (.t 6))])
 (.cond (.t 12)
 (.seq (.reg [.op (some 4) (.mv (.v (.lit (.int .i64 (0)))))])
 .ret)
 .skip))
 (.seq (.reg [.op (some 4) (.mv (.v (.lit (.int .i64 (-1)))))])
 .ret))
 .skip))
 (.seq (.seq (.reg [.op (some 13) (.mv (.t 6))])
 (.cond (.t 13)
 (.seq (.reg [.op (some 4) (.mv (.v (.lit (.int .i64 (1)))))])
 .ret)
 .skip))
 (.seq (.seq (.reg [.op (some 14) (.mv (.t 0)),
  .op (some 15) (.mv (.t 1)),
  .op (some 16) (.binI .lss (.t 14) (.t 15))])
 (.cond (.t 16)
 (.seq (.reg [.op (some 4) (.mv (.v (.lit (.int .i64 (-1)))))])
 .ret)
 .skip))
 (.seq (.seq (.reg [.op (some 17) (.mv (.t 0)),
  .op (some 18) (.mv (.t 1)),
  .op (some 19) (.binI .gtr (.t 17) (.t 18))])
 (.cond (.t 19)
 (.seq (.reg [.op (some 4) (.mv (.v (.lit (.int .i64 (1)))))])
 .ret)
 .skip))
 (.seq (.reg [.op (some 4) (.mv (.v (.lit (.int .i64 (0)))))])
 .ret))))))))
def rs82 : List RR := [.tmp 4]
def cut82 : Nat → Nat := fun id => 0
theorem k82 : (Try.f82.body.bind fun c => comp Try.prog Try.f82.ntmps cut82 c) = some r82 := by kernel_rfl
theorem by82 {W0 : World} {σ : List Blk} {args : List AV} {K : Cont} (hn : args.length ≤ 20) (h : rW Try.prog W0 σ.length r82 (initFr args) σ (finP W0 rs82 σ.length K)) : ACall Try.prog W0 82 args σ K :=
  ACall.introR mixed Try.func82 (by kernel_rfl) k82 (by kernel_rfl) hn h
def r83 : RC := (.seq (.reg [.op (some 2) (.box 27 (.t 0)),
  .op (some 3) (.box 27 (.t 1)),
  .op (some 4) (.alloc 27 (List.replicate 6 (.lit (.int .i64 (0)))))])
 (.seq (.seq (.reg [.op (some 5) (.mv (.v (.lit (.int .i64 (0)))))])
 (.block 0 (.loop (.seq (.seq (.reg [.op (some 6) (.mv (.t 5)),
  .op (some 7) (.binI .lss (.t 6) (.v (.lit (.int .i64 (6)))))])
 (.cond (.t 7)
 .skip
 (.exit 0)))
 (.seq (.block 1 (.quiet [.op (some 10) (.mv (.t 5)),
  .op (some 11) (.mv (.t 5)),
  .op (some 12) (.faddr 0 (.t 2)),
  .op (some 13) (.iaddrA 6 1 (.t 12) (.t 11)),
  .op (some 14) (.load 1 false (.t 13)),
  .op (some 15) (.mv (.t 5)),
  .op (some 16) (.faddr 0 (.t 3)),
  .op (some 17) (.iaddrA 6 1 (.t 16) (.t 15)),
  .op (some 18) (.load 1 false (.t 17)),
  .op (some 19) (.binI .and (.t 14) (.t 18)),
  .op (some 20) (.faddr 0 (.t 2)),
  .op (some 21) (.iaddrA 6 1 (.t 20) (.t 10))] [.op none (.store 1 (.t 21) (.t 19))]))
 (.reg [.op (some 8) (.mv (.t 5)),
  .op (some 9) (.binI .add (.t 8) (.v (.lit (.int .i64 (1))))),
  .op (some 5) (.mv (.t 9))]))))))
 (.seq (.reg [.op (some 22) (.load 6 true (.t 2)),
  .op none (.store 6 (.t 4) (.t 22))])
 .ret)))
def rs83 : List RR := [.cell 4 6 true]
def cut83 : Nat → Nat := fun id => if id = 4 then 24 else 0
theorem k83 : (Try.f83.body.bind fun c => comp Try.prog Try.f83.ntmps cut83 c) = some r83 := by kernel_rfl
theorem by83 {W0 : World} {σ : List Blk} {args : List AV} {K : Cont} (hn : args.length ≤ 23) (h : rW Try.prog W0 σ.length r83 (initFr args) σ (finP W0 rs83 σ.length K)) : ACall Try.prog W0 83 args σ K :=
  ACall.introR mixed Try.func83 (by kernel_rfl) k83 (by kernel_rfl) hn h
def r84 : RC := (.seq (.reg [.op (some 2) (.mv (.v (.lit (.int .i64 (0)))))])
 (.seq (.reg [.op (some 3) (.mv (.t 0)),
  .op (some 4) (.binI .rem (.t 3) (.v (.lit (.int .i64 (6))))),
  .op (some 5) (.binI .add (.t 4) (.v (.lit (.int .i64 (6))))),
  .op (some 6) (.binI .rem (.t 5) (.v (.lit (.int .i64 (6))))),
  .op (some 2) (.mv (.t 6))])
 .ret))
def rs84 : List RR := [.tmp 2]
def cut84 : Nat → Nat := fun id => 0
theorem k84 : (Try.f84.body.bind fun c => comp Try.prog Try.f84.ntmps cut84 c) = some r84 := by kernel_rfl
theorem by84 {W0 : World} {σ : List Blk} {args : List AV} {K : Cont} (hn : args.length ≤ 7) (h : rW Try.prog W0 σ.length r84 (initFr args) σ (finP W0 rs84 σ.length K)) : ACall Try.prog W0 84 args σ K :=
  ACall.introR mixed Try.func84 (by kernel_rfl) k84 (by kernel_rfl) hn h
def r85 : RC := (.seq (.reg [.op (some 2) (.mv (.v (.lit (.int .i64 (0)))))])
 (.seq (.reg [.op (some 3) (.mv (.t 0)),
  .op (some 4) (.binI .rem (.t 3) (.v (.lit (.int .i64 (6))))),
  .op (some 5) (.binI .add (.t 4) (.v (.lit (.int .i64 (6))))),
  .op (some 6) (.binI .rem (.t 5) (.v (.lit (.int .i64 (6))))),
  .op (some 2) (.mv (.t 6))])
 .ret))
def rs85 : List RR := [.tmp 2]
def cut85 : Nat → Nat := fun id => 0
theorem k85 : (Try.f85.body.bind fun c => comp Try.prog Try.f85.ntmps cut85 c) = some r85 := by kernel_rfl
theorem by85 {W0 : World} {σ : List Blk} {args : List AV} {K : Cont} (hn : args.length ≤ 7) (h : rW Try.prog W0 σ.length r85 (initFr args) σ (finP W0 rs85 σ.length K)) : ACall Try.prog W0 85 args σ K :=
  ACall.introR mixed Try.func85 (by kernel_rfl) k85 (by kernel_rfl) hn h
def r86 : RC := (.seq (.reg [.op (some 4) (.mv (.v (.lit (.int .u64 (0)))))])
 (.seq (.reg [.op (some 5) (.mv (.v (.lit (.int .u64 (0)))))])
 (.seq (.seq (.reg [.op (some 9) (.mv (.v (.lit (.int .i64 (0)))))])
 (.block 0 (.loop (.seq (.reg [.op (some 10) (.binI .lss (.t 9) (.v (.lit (.int .i64 (36)))))])
 (.seq (.cond (.t 10)
 .skip
 (.exit 0))
 (.seq (.block 1 (.seq (.reg [.op (some 11) (.mv (.t 9)),
  .op (some 6) (.mv (.t 11))])
 (.seq (.reg [.op (some 12) (.mv (.t 0)),
  .op (some 13) (.mv (.t 6)),
  .op (some 14) (.call (.v (.lit (.func (.func 73) #[] #[]))) [(.t 12), (.t 13)])])
 (.cond (.t 14)
 (.seq (.reg [.op (some 16) (.mv (.t 1)),
  .op (some 17) (.mv (.t 6)),
  .op (some 18) (.binI .rem (.t 17) (.v (.lit (.int .i64 (6))))),
  .op (some 19) (.mv (.t 6)),
  .op (some 20) (.binI .quo (.t 19) (.v (.lit (.int .i64 (6))))),
  .op (some 21) (.call (.t 16) [(.t 18), (.t 20)]),
  .op (some 15) (.mv (.t 21)),
  .op (some 22) (.ext (.t 15) 0),
  .op (some 23) (.ext (.t 15) 1),
  .op (some 7) (.mv (.t 22)),
  .op (some 8) (.mv (.t 23))])
 (.reg [.op (some 24) (.mv (.t 5)),
  .op (some 25) (.mv (.t 8)),
  .op (some 26) (.binI .mul (.t 25) (.v (.lit (.int .i64 (6))))),
  .op (some 27) (.mv (.t 7)),
  .op (some 28) (.binI .add (.t 26) (.t 27)),
  .op (some 29) (.binI .shl (.v (.lit (.int .u64 (1)))) (.t 28)),
  .op (some 30) (.binI .or (.t 24) (.t 29)),
  .op (some 5) (.mv (.t 30))]))
 .skip))))
 (.reg [.op (some 31) (.binI .add (.t 9) (.v (.lit (.int .i64 (1))))),
  .op (some 9) (.mv (.t 31))])))))))
 (.seq (.reg [.op (some 32) (.mv (.t 5)),
  .op (some 4) (.mv (.t 32))])
 .ret))))
def rs86 : List RR := [.tmp 4]
def cut86 : Nat → Nat := fun id => 0
theorem k86 : (Try.f86.body.bind fun c => comp Try.prog Try.f86.ntmps cut86 c) = some r86 := by kernel_rfl
theorem by86 {W0 : World} {σ : List Blk} {args : List AV} {K : Cont} (hn : args.length ≤ 33) (h : rW Try.prog W0 σ.length r86 (initFr args) σ (finP W0 rs86 σ.length K)) : ACall Try.prog W0 86 args σ K :=
  ACall.introR mixed Try.func86 (by kernel_rfl) k86 (by kernel_rfl) hn h
def r87 : RC := (.seq (.reg [.op (some 6) (.mv (.v (.lit (.int .i64 (0))))),
  .op (some 7) (.mv (.v (.lit (.int .i64 (0)))))])
 (.seq (.draw [((some 8), (.mv (.t 0))), ((some 9), (.load 1 false (.t 2))), ((some 10), (.binI .add (.t 8) (.t 9))), ((some 11), (.binI .rem (.t 10) (.v (.lit (.int .i64 (6)))))), ((some 12), (.mv (.t 1))), ((some 13), (.load 1 false (.t 3))), ((some 14), (.binI .add (.t 12) (.t 13))), ((some 15), (.binI .rem (.t 14) (.v (.lit (.int .i64 (6)))))), ((some 6), (.mv (.t 11))), ((some 7), (.mv (.t 15)))] [])
 .ret))
def rs87 : List RR := [.tmp 6, .tmp 7]
def cut87 : Nat → Nat := fun id => if id = 1 then 21 else 0
theorem k87 : (Try.f87.body.bind fun c => comp Try.prog Try.f87.ntmps cut87 c) = some r87 := by kernel_rfl
theorem by87 {W0 : World} {σ : List Blk} {args : List AV} {K : Cont} (hn : args.length ≤ 16) (h : rW Try.prog W0 σ.length r87 (initFr args) σ (finP W0 rs87 σ.length K)) : ACall Try.prog W0 87 args σ K :=
  ACall.introR mixed Try.func87 (by kernel_rfl) k87 (by kernel_rfl) hn h
def r98 : RC := (.seq (.reg [.op (some 2) (.mv (.v (.lit (.bool false))))])
 (.seq (.reg [.op (some 3) (.mv (.t 0)),
  .op (some 4) (.mv (.t 0)),
  .op (some 5) (.binI .neq (.t 3) (.t 4)),
  .op (some 2) (.mv (.t 5))])
 .ret))
def rs98 : List RR := [.tmp 2]
def cut98 : Nat → Nat := fun id => 0
theorem k98 : (Try.f98.body.bind fun c => comp Try.prog Try.f98.ntmps cut98 c) = some r98 := by kernel_rfl
theorem by98 {W0 : World} {σ : List Blk} {args : List AV} {K : Cont} (hn : args.length ≤ 6) (h : rW Try.prog W0 σ.length r98 (initFr args) σ (finP W0 rs98 σ.length K)) : ACall Try.prog W0 98 args σ K :=
  ACall.introR mixed Try.func98 (by kernel_rfl) k98 (by kernel_rfl) hn h
end Go.Proofs.Ytcclhjohpicleaa
end

section
/- Contracts of small functions: what they compute. -/
set_option linter.unusedVariables false
set_option linter.unusedSimpArgs false
namespace Go.Proofs.Ytcclhjohpicleaa
open Go Go.RowKit Go.Proofs.Ytcclhjohpicleaa.Abs
theorem fL_mk {l : List AV} {K : List AV → Prop} (h : K l) : fL l K := by rw [fL_eq]; exact h
def litAll : List AV → Bool
  | [] => true
  | .lit _ :: l => litAll l
  | _ :: _ => false
theorem det3_agg {σ : List Blk} : ∀ {cs : List AV}, litAll cs = true → det3 σ (.agg cs) := by
  intro cs h v hv
  induction cs with
  | nil => cases hv
  | cons a cs ih =>
    cases a with
    | lit x => cases hv with
      | head => exact trivial
      | tail _ hv => exact ih h hv
    | _ => cases h
abbrev I (n : Int) : AV := .lit (.int .i64 n)
abbrev Bo (b : Bool) : AV := .lit (.bool b)
abbrev St (s : ByteArray) : AV := .lit (.string s)
variable {W0 : World} {σ : List Blk}
def inB (x a b : Int) : Bool := decide (a ≤ x) && decide (x ≤ b)
theorem c_l1In (x a b : Int) (K : Cont) (h0 : K (Bo (inB x a b)) []) : ACall Try.prog W0 78 [I x, I a, I b] [] K := by
  refine by78 (Nat.le_of_ble_eq_true rfl) ?_
  repeat' ((conv => whnf); first | (refine Exists.intro ([] : List Nat) ?_) | (refine And.intro rfl ?_) | (refine And.intro (by decide +kernel) ?_) | (refine And.intro trivial ?_) | (refine Exists.intro _ (And.intro rfl (And.intro rfl (And.intro (Nat.le_of_ble_eq_true rfl) ?_)))) | (refine Exists.intro _ (And.intro rfl (And.intro rfl (And.intro rfl (And.intro (Nat.le_of_ble_eq_true rfl) ?_))))) | (refine And.intro (Exists.intro _ (And.intro rfl rfl)) ?_) | (exact fun hW => absurd hW (by decide +kernel)) | (intro hW; (try simp only [Bool.not_true, Bool.not_false, Bool.not_eq_true', Bool.not_eq_false', decide_eq_true_eq, decide_eq_false_iff_not, reduceCtorEq, Bool.true_eq_false, Bool.false_eq_true, mk_size, List.size_toArray, ByteArray.size_append, ByteArray.size_extract, List.length_cons, List.length_nil, ba_get, ba_empty, Int.toNat_natCast] at hW)) | (refine And.intro (?_ : _ → _) (?_ : _ → _)) | (refine FinR.drop 0 (Nat.zero_le _) (Closed.zero _) rfl ?_) | (refine FinR.keep ?_) | (refine And.intro (det3_agg rfl) ?_) | (refine fL_mk ?_) | (refine And.intro (by (try simp only [mk_size, List.size_toArray, ByteArray.size_append, ByteArray.size_extract, List.length_cons, List.length_nil]); omega) ?_) | (refine And.intro (by (try simp only [mk_size, List.size_toArray, ByteArray.size_append, ByteArray.size_extract, List.length_cons, List.length_nil, wrap64_eq]); omega) ?_) | fail)
  all_goals first | exact h0 | (refine Eq.mp (congrArg (fun v => K v []) ?_) h0; clear h0; simp_all [inB] <;> omega)
theorem d_l1In (x a b : Int) (K : Cont) (h0 : K (Bo (inB x a b)) σ) : ACall Try.prog W0 78 [I x, I a, I b] σ K :=
  ACall.lift rfl (fun _ => rfl) (fun W1 K _ h => c_l1In x a b K h) h0
abbrev Sh (a b c d e f : Int) : AV := .agg [I a, I b, I c, I d, I e, I f]
def shB6 (a b c d e f : Int) : Bool := inB a 0 63 && inB b 0 63 && inB c 0 63 && inB d 0 63 && inB e 0 63 && inB f 0 63
theorem c_l2Sheet (a b c d e f : Int) (K : Cont) (h0 : K (Bo (shB6 a b c d e f)) []) : ACall Try.prog W0 60 [Sh a b c d e f] [] K := by
  refine by60 (Nat.le_of_ble_eq_true rfl) ?_
  repeat' ((conv => whnf); first | (refine Exists.intro ([] : List Nat) ?_) | (refine And.intro rfl ?_) | (refine And.intro (by decide +kernel) ?_) | (refine And.intro trivial ?_) | (refine LoopR.unroll 7 ?_) | (refine d_l1In (h0 := ?_) ..) | (refine Exists.intro _ (And.intro (fun τ => callW_fn (d_l1In (h0 := And.intro rfl rfl) ..)) ?_)) | (refine Exists.intro _ (And.intro (callW_fn (d_l1In (h0 := And.intro rfl rfl) ..)) (And.intro trivial ?_))) | (refine Exists.intro _ (And.intro (callW_fn (d_l1In (h0 := And.intro rfl rfl) ..)) ?_)) | (refine Exists.intro _ (And.intro (fun τ _ => callW_fn (d_l1In (h0 := And.intro rfl rfl) ..)) ?_)) | (refine Exists.intro _ (And.intro rfl (And.intro rfl (And.intro (Nat.le_of_ble_eq_true rfl) ?_)))) | (refine Exists.intro _ (And.intro rfl (And.intro rfl (And.intro rfl (And.intro (Nat.le_of_ble_eq_true rfl) ?_))))) | (refine And.intro (Exists.intro _ (And.intro rfl rfl)) ?_) | (exact fun hW => absurd hW (by decide +kernel)) | (intro hW; (try simp only [Bool.not_true, Bool.not_false, Bool.not_eq_true', Bool.not_eq_false', decide_eq_true_eq, decide_eq_false_iff_not, reduceCtorEq, Bool.true_eq_false, Bool.false_eq_true, mk_size, List.size_toArray, ByteArray.size_append, ByteArray.size_extract, List.length_cons, List.length_nil, ba_get, ba_empty, Int.toNat_natCast] at hW)) | (refine And.intro (?_ : _ → _) (?_ : _ → _)) | (refine FinR.drop 0 (Nat.zero_le _) (Closed.zero _) rfl ?_) | (refine FinR.keep ?_) | (refine And.intro (det3_agg rfl) ?_) | (refine fL_mk ?_) | (refine And.intro (by (try simp only [mk_size, List.size_toArray, ByteArray.size_append, ByteArray.size_extract, List.length_cons, List.length_nil]); omega) ?_) | (refine And.intro (by (try simp only [mk_size, List.size_toArray, ByteArray.size_append, ByteArray.size_extract, List.length_cons, List.length_nil, wrap64_eq]); omega) ?_) | fail)
  all_goals first | exact h0 | (refine Eq.mp (congrArg (fun v => K v []) ?_) h0; clear h0; simp_all [shB6] <;> omega)
theorem d_l2Sheet (a b c d e f : Int) (K : Cont) (h0 : K (Bo (shB6 a b c d e f)) σ) : ACall Try.prog W0 60 [Sh a b c d e f] σ K :=
  ACall.lift rfl (fun _ => rfl) (fun W1 K _ h => c_l2Sheet a b c d e f K h) h0
theorem c_toIntA6 (a b c d e f : Int) (K : Cont) (h0 : K (Sh a b c d e f) []) : ACall Try.prog W0 33 [Sh a b c d e f] [] K := by
  refine by33 (Nat.le_of_ble_eq_true rfl) ?_
  repeat' ((conv => whnf); first | (refine Exists.intro ([] : List Nat) ?_) | (refine And.intro rfl ?_) | (refine And.intro (by decide +kernel) ?_) | (refine And.intro trivial ?_) | (refine LoopR.unroll 7 ?_) | (refine Exists.intro _ (And.intro rfl (And.intro rfl (And.intro (Nat.le_of_ble_eq_true rfl) ?_)))) | (refine Exists.intro _ (And.intro rfl (And.intro rfl (And.intro rfl (And.intro (Nat.le_of_ble_eq_true rfl) ?_))))) | (refine And.intro (Exists.intro _ (And.intro rfl rfl)) ?_) | (exact fun hW => absurd hW (by decide +kernel)) | (intro hW; (try simp only [Bool.not_true, Bool.not_false, Bool.not_eq_true', Bool.not_eq_false', decide_eq_true_eq, decide_eq_false_iff_not, reduceCtorEq, Bool.true_eq_false, Bool.false_eq_true, mk_size, List.size_toArray, ByteArray.size_append, ByteArray.size_extract, List.length_cons, List.length_nil, ba_get, ba_empty, Int.toNat_natCast] at hW)) | (refine And.intro (?_ : _ → _) (?_ : _ → _)) | (refine FinR.drop 0 (Nat.zero_le _) (Closed.zero _) rfl ?_) | (refine FinR.keep ?_) | (refine And.intro (det3_agg rfl) ?_) | (refine fL_mk ?_) | (refine And.intro (by (try simp only [mk_size, List.size_toArray, ByteArray.size_append, ByteArray.size_extract, List.length_cons, List.length_nil]); omega) ?_) | (refine And.intro (by (try simp only [mk_size, List.size_toArray, ByteArray.size_append, ByteArray.size_extract, List.length_cons, List.length_nil, wrap64_eq]); omega) ?_) | fail)
  all_goals first | exact h0 | (refine Eq.mp (congrArg (fun v => K v []) ?_) h0; clear h0; simp_all <;> omega)
theorem d_toIntA6 (a b c d e f : Int) (K : Cont) (h0 : K (Sh a b c d e f) σ) : ACall Try.prog W0 33 [Sh a b c d e f] σ K :=
  ACall.lift rfl (fun _ => rfl) (fun W1 K _ h => c_toIntA6 a b c d e f K h) h0
theorem c_toSheet (a b c d e f : Int) (K : Cont) (h0 : K (Sh a b c d e f) []) : ACall Try.prog W0 11 [Sh a b c d e f] [] K := by
  refine by11 (Nat.le_of_ble_eq_true rfl) ?_
  repeat' ((conv => whnf); first | (refine Exists.intro ([] : List Nat) ?_) | (refine And.intro rfl ?_) | (refine And.intro (by decide +kernel) ?_) | (refine And.intro trivial ?_) | (refine d_toIntA6 (h0 := ?_) ..) | (refine Exists.intro _ (And.intro (fun τ => callW_fn (d_toIntA6 (h0 := And.intro rfl rfl) ..)) ?_)) | (refine Exists.intro _ (And.intro (callW_fn (d_toIntA6 (h0 := And.intro rfl rfl) ..)) (And.intro trivial ?_))) | (refine Exists.intro _ (And.intro (callW_fn (d_toIntA6 (h0 := And.intro rfl rfl) ..)) ?_)) | (refine Exists.intro _ (And.intro (fun τ _ => callW_fn (d_toIntA6 (h0 := And.intro rfl rfl) ..)) ?_)) | (refine Exists.intro _ (And.intro rfl (And.intro rfl (And.intro (Nat.le_of_ble_eq_true rfl) ?_)))) | (refine Exists.intro _ (And.intro rfl (And.intro rfl (And.intro rfl (And.intro (Nat.le_of_ble_eq_true rfl) ?_))))) | (refine And.intro (Exists.intro _ (And.intro rfl rfl)) ?_) | (exact fun hW => absurd hW (by decide +kernel)) | (intro hW; (try simp only [Bool.not_true, Bool.not_false, Bool.not_eq_true', Bool.not_eq_false', decide_eq_true_eq, decide_eq_false_iff_not, reduceCtorEq, Bool.true_eq_false, Bool.false_eq_true, mk_size, List.size_toArray, ByteArray.size_append, ByteArray.size_extract, List.length_cons, List.length_nil, ba_get, ba_empty, Int.toNat_natCast] at hW)) | (refine And.intro (?_ : _ → _) (?_ : _ → _)) | (refine FinR.drop 0 (Nat.zero_le _) (Closed.zero _) rfl ?_) | (refine FinR.keep ?_) | (refine And.intro (det3_agg rfl) ?_) | (refine fL_mk ?_) | (refine And.intro (by (try simp only [mk_size, List.size_toArray, ByteArray.size_append, ByteArray.size_extract, List.length_cons, List.length_nil]); omega) ?_) | (refine And.intro (by (try simp only [mk_size, List.size_toArray, ByteArray.size_append, ByteArray.size_extract, List.length_cons, List.length_nil, wrap64_eq]); omega) ?_) | fail)
  all_goals first | exact h0 | (refine Eq.mp (congrArg (fun v => K v []) ?_) h0; clear h0; simp_all <;> omega)
theorem d_toSheet (a b c d e f : Int) (K : Cont) (h0 : K (Sh a b c d e f) σ) : ACall Try.prog W0 11 [Sh a b c d e f] σ K :=
  ACall.lift rfl (fun _ => rfl) (fun W1 K _ h => c_toSheet a b c d e f K h) h0
end Go.Proofs.Ytcclhjohpicleaa
end

section
/- Contracts: sheets and shops. -/
set_option linter.unusedVariables false
set_option linter.unusedSimpArgs false
namespace Go.Proofs.Ytcclhjohpicleaa
open Go Go.RowKit Go.Proofs.Ytcclhjohpicleaa.Abs
variable {W0 : World} {σ : List Blk}
abbrev U (n : Int) : AV := .lit (.int .u64 n)
def setI (a b c d e f : Int) : Int :=
  bOr .u64 (bOr .u64 (bOr .u64 (bOr .u64 (bOr .u64 (bOr .u64 0 (shL .u64 (IntKind.u64.wrap a) 0)) (shL .u64 (IntKind.u64.wrap b) 6)) (shL .u64 (IntKind.u64.wrap c) 12)) (shL .u64 (IntKind.u64.wrap d) 18)) (shL .u64 (IntKind.u64.wrap e) 24)) (shL .u64 (IntKind.u64.wrap f) 30)
def setR (a b c d e f : Int) : AV := .tup [U (if shB6 a b c d e f = true then setI a b c d e f else 0), Bo (shB6 a b c d e f)]
theorem c_setOf (a b c d e f : Int) (K : Cont) (h0 : K (setR a b c d e f) []) : ACall Try.prog W0 79 [Sh a b c d e f] [] K := by
  refine by79 (Nat.le_of_ble_eq_true rfl) ?_
  repeat' ((conv => whnf); first | (refine Exists.intro ([] : List Nat) ?_) | (refine And.intro rfl ?_) | (refine And.intro (by decide +kernel) ?_) | (refine And.intro trivial ?_) | (refine LoopR.unroll 7 ?_) | (refine Exists.intro _ (And.intro rfl (And.intro rfl (And.intro (Nat.le_of_ble_eq_true rfl) ?_)))) | (refine Exists.intro _ (And.intro rfl (And.intro rfl (And.intro rfl (And.intro (Nat.le_of_ble_eq_true rfl) ?_))))) | (refine And.intro (Exists.intro _ (And.intro rfl rfl)) ?_) | (exact fun hW => absurd hW (by decide +kernel)) | (intro hW; (try simp only [Bool.not_true, Bool.not_false, Bool.not_eq_true', Bool.not_eq_false', decide_eq_true_eq, decide_eq_false_iff_not, reduceCtorEq, Bool.true_eq_false, Bool.false_eq_true, mk_size, List.size_toArray, ByteArray.size_append, ByteArray.size_extract, List.length_cons, List.length_nil, ba_get, ba_empty, Int.toNat_natCast] at hW)) | (refine And.intro (?_ : _ → _) (?_ : _ → _)) | (refine FinR.drop 0 (Nat.zero_le _) (Closed.zero _) rfl ?_) | (refine FinR.keep ?_) | (refine And.intro (det3_agg rfl) ?_) | (refine fL_mk ?_) | (refine And.intro (by (try simp only [mk_size, List.size_toArray, ByteArray.size_append, ByteArray.size_extract, List.length_cons, List.length_nil]); omega) ?_) | (refine And.intro (by (try simp only [mk_size, List.size_toArray, ByteArray.size_append, ByteArray.size_extract, List.length_cons, List.length_nil, wrap64_eq]); omega) ?_) | fail)
  all_goals first
    | (have hs : shB6 a b c d e f = false := by (simp_all [shB6, inB] <;> omega)
       rw [setR, hs] at h0
       exact h0)
    | (have hs : shB6 a b c d e f = true := by (simp_all [shB6, inB] <;> omega)
       rw [setR, hs, if_pos rfl] at h0
       exact h0)
theorem d_setOf (a b c d e f : Int) (K : Cont) (h0 : K (setR a b c d e f) σ) : ACall Try.prog W0 79 [Sh a b c d e f] σ K :=
  ACall.lift rfl (fun _ => rfl) (fun W1 K _ h => c_setOf a b c d e f K h) h0
abbrev Sp (a b c d e f a' b' c' d' e' f' p q : Int) : AV := .agg [I a, I b, I c, I d, I e, I f, I a', I b', I c', I d', I e', I f', I p, I q]
end Go.Proofs.Ytcclhjohpicleaa
end

section
/- Contracts: the laws of new shops and of new consoles. -/
set_option linter.unusedVariables false
set_option linter.unusedSimpArgs false
namespace Go.Proofs.Ytcclhjohpicleaa
open Go Go.RowKit Go.Proofs.Ytcclhjohpicleaa.Abs
variable {W0 : World} {σ : List Blk}
abbrev Co (a b c d e f a' b' c' d' e' f' p q : Int) (s t : ByteArray) (n : Int) : AV := .agg [I a, I b, I c, I d, I e, I f, I a', I b', I c', I d', I e', I f', I p, I q, St s, St t, I n]
end Go.Proofs.Ytcclhjohpicleaa
end

section
/- Plain laws: digits of numbers, and that the parallel count of bits counts them. -/
set_option linter.unusedVariables false
set_option linter.unusedSimpArgs false
namespace Go.Proofs.Ytcclhjohpicleaa
open Go Go.Proofs.Ytcclhjohpicleaa.Abs
/-- the number of ones among the lowest n digits to base two -/
def ones : Nat → Nat → Nat
  | 0, _ => 0
  | n + 1, x => x % 2 + ones n (x / 2)
theorem testBit_dig (k d x i : Nat) (hd : d < 2 ^ k) : (d + 2 ^ k * x).testBit i = if i < k then d.testBit i else x.testBit (i - k) := by
  rw [Nat.add_comm, Nat.testBit_two_pow_mul_add x hd i]
theorem lor_dig (k d e x y : Nat) (hd : d < 2 ^ k) (he : e < 2 ^ k) : (d + 2 ^ k * x) ||| (e + 2 ^ k * y) = (d ||| e) + 2 ^ k * (x ||| y) := by
  apply Nat.eq_of_testBit_eq
  intro i
  rw [Nat.testBit_or, testBit_dig k d x i hd, testBit_dig k e y i he, testBit_dig k (d ||| e) _ i (Nat.or_lt_two_pow hd he)]
  split <;> simp [Nat.testBit_or]
/-! ### the parallel count, byte by byte -/
def mk (m : Nat) : Nat → Nat
  | 0 => 0
  | n + 1 => m + 256 * mk m n
def s1 (n x : Nat) : Nat := ((x >>> 1) &&& mk 85 n) + (x &&& mk 85 n)
def s2 (n x : Nat) : Nat := ((x >>> 2) &&& mk 51 n) + (x &&& mk 51 n)
def s3 (n x : Nat) : Nat := ((x >>> 4) + x) &&& mk 15 n
def b1 (d : Nat) : Nat := ((d >>> 1) &&& 85) + (d &&& 85)
def b2 (d : Nat) : Nat := ((d >>> 2) &&& 51) + (d &&& 51)
def b3 (d : Nat) : Nat := ((d >>> 4) + d) &&& 15
theorem ones_add : ∀ (n m x : Nat), ones (n + m) x = ones n x + ones m (x / 2 ^ n)
  | 0, m, x => by simp [ones]
  | n + 1, m, x => by
    rw [show n + 1 + m = (n + m) + 1 by omega]
    simp only [ones]
    rw [ones_add n m, Nat.div_div_eq_div_mul, Nat.pow_succ, Nat.mul_comm 2]
    omega
/-- the last steps add the bytes up -/
theorem div_dig (k d r : Nat) (hd : d < k) : (d + k * r) / k = r := by
  rw [Nat.add_mul_div_left _ _ (by omega), Nat.div_eq_of_lt hd, Nat.zero_add]
end Go.Proofs.Ytcclhjohpicleaa
end

section
/- Plain laws: operations on the machine's unsigned words, as numbers. -/
set_option linter.unusedVariables false
set_option linter.unusedSimpArgs false
namespace Go.Proofs.Ytcclhjohpicleaa
open Go Go.Proofs.Ytcclhjohpicleaa.Abs
theorem wrap_u64 (n : Nat) (h : n < 18446744073709551616) : IntKind.u64.wrap (n : Int) = (n : Int) := by
  simp [IntKind.wrap, IntKind.signed, IntKind.bits]
  omega
theorem wrap_i64 (n : Int) (h0 : -9223372036854775808 ≤ n) (h1 : n ≤ 9223372036854775807) : IntKind.i64.wrap n = n := by
  simp [IntKind.wrap, IntKind.signed, IntKind.bits]
  omega
theorem bAnd_u64 (n m : Nat) (hn : n < 18446744073709551616) (hm : m < 18446744073709551616) : bAnd .u64 n m = ((n &&& m : Nat) : Int) := by
  have h : n &&& m < 18446744073709551616 := Nat.lt_of_le_of_lt Nat.and_le_left hn
  have e : (BitVec.ofInt 64 (n : Int) &&& BitVec.ofInt 64 (m : Int)).toNat = n &&& m := by
    rw [BitVec.toNat_and, BitVec.ofInt_natCast, BitVec.ofInt_natCast, BitVec.toNat_ofNat, BitVec.toNat_ofNat, Nat.mod_eq_of_lt hn, Nat.mod_eq_of_lt hm]
  unfold bAnd
  rw [show IntKind.u64.bits = 64 from rfl, e]
  exact wrap_u64 _ h
theorem bOr_u64 (n m : Nat) (hn : n < 18446744073709551616) (hm : m < 18446744073709551616) : bOr .u64 n m = ((n ||| m : Nat) : Int) := by
  have h : n ||| m < 18446744073709551616 := Nat.or_lt_two_pow (n := 64) hn hm
  have e : (BitVec.ofInt 64 (n : Int) ||| BitVec.ofInt 64 (m : Int)).toNat = n ||| m := by
    rw [BitVec.toNat_or, BitVec.ofInt_natCast, BitVec.ofInt_natCast, BitVec.toNat_ofNat, BitVec.toNat_ofNat, Nat.mod_eq_of_lt hn, Nat.mod_eq_of_lt hm]
  unfold bOr
  rw [show IntKind.u64.bits = 64 from rfl, e]
  exact wrap_u64 _ h
theorem shR_u64 (n s : Nat) (hs : s ≤ 64) : shR .u64 n s = ((n >>> s : Nat) : Int) := by
  unfold shR
  rw [show IntKind.u64.bits = 64 from rfl, Int.toNat_natCast, Nat.min_eq_left hs, Nat.shiftRight_eq_div_pow, Int.fdiv_eq_ediv_of_nonneg _ (Int.le_of_lt (Int.pow_pos (by decide)))]
  simp
theorem shL_u64 (n s : Nat) (hs : s ≤ 64) (h : n * 2 ^ s < 18446744073709551616) : shL .u64 n s = ((n * 2 ^ s : Nat) : Int) := by
  unfold shL
  rw [show IntKind.u64.bits = 64 from rfl, Int.toNat_natCast, Nat.min_eq_left hs]
  have := wrap_u64 (n * 2 ^ s) h
  simpa using this
end Go.Proofs.Ytcclhjohpicleaa
end

section
/- Plain law: what the library's count of ones computes is the number of ones. -/
set_option linter.unusedVariables false
set_option linter.unusedSimpArgs false
namespace Go.Proofs.Ytcclhjohpicleaa
open Go Go.Proofs.Ytcclhjohpicleaa.Abs
def p1 (x : Int) : Int := IntKind.u64.wrap (bAnd .u64 (shR .u64 x 1) 6148914691236517205 + bAnd .u64 x 6148914691236517205)
def p2 (x : Int) : Int := IntKind.u64.wrap (bAnd .u64 (shR .u64 x 2) 3689348814741910323 + bAnd .u64 x 3689348814741910323)
def p3 (x : Int) : Int := bAnd .u64 (IntKind.u64.wrap (shR .u64 x 4 + x)) 1085102592571150095
def p4 (k : Int) (x : Int) : Int := IntKind.u64.wrap (x + shR .u64 x k)
end Go.Proofs.Ytcclhjohpicleaa
end

section
/- Contract: how many cells of a sheet are black. -/
set_option linter.unusedVariables false
set_option linter.unusedSimpArgs false
namespace Go.Proofs.Ytcclhjohpicleaa
open Go Go.RowKit Go.Proofs.Ytcclhjohpicleaa.Abs
variable {W0 : World} {σ : List Blk}
/-- the ones of a row -/
def pcz (r : Int) : Int := (ones 6 r.toNat : Nat)
theorem pcz_step : ∀ r : Nat, r < 64 → ones 6 r = r % 2 + ones 6 (r / 2) ∧ ones 6 r ≤ 6 := by decide +kernel
def frC (fr : Fr) (r acc : Int) : Fr := fun t => if t = 3 then I acc else if t = 5 then I r else if Nat.ble 14 t && Nat.ble t 21 then .junk else fr t
theorem tmod2 (r : Int) (h : 0 ≤ r) : r.tmod 2 = r % 2 := Int.tmod_eq_emod_of_nonneg h
theorem tdiv2 (r : Int) (h : 0 ≤ r) : r.tdiv 2 = r / 2 := Int.tdiv_eq_ediv_of_nonneg h
def innerC : RC := .seq (.seq (.reg [.op (some 14) (.mv (.t 5)), .op (some 15) (.binI .gtr (.t 14) (.v (.lit (.int .i64 (0)))))]) (.cond (.t 15) .skip (.exit 2)))
  (.seq (.block 3 (.reg [.op (some 18) (.mv (.t 3)), .op (some 19) (.mv (.t 5)), .op (some 20) (.binI .rem (.t 19) (.v (.lit (.int .i64 (2))))), .op (some 21) (.binI .add (.t 18) (.t 20)), .op (some 3) (.mv (.t 21))]))
    (.reg [.op (some 16) (.mv (.t 5)), .op (some 17) (.binI .quo (.t 16) (.v (.lit (.int .i64 (2))))), .op (some 5) (.mv (.t 17))]))
theorem body_l2Count {b0 : Nat} {fr : Fr} {σ : List Blk} (r acc : Int) (Q : CPost) (hr0 : 0 ≤ r) (hr : r < 64) (ha0 : 0 ≤ acc) (ha : acc ≤ 1006) (h1 : r = 0 → Q (.exit 2) (upd (upd (frC fr 0 acc) 14 (I 0)) 15 (Bo false)) σ)
    (h2 : 0 < r → ∀ fr', (∀ t, frC fr (r / 2) (acc + r % 2) t = .junk ∨ frC fr (r / 2) (acc + r % 2) t = fr' t) → Q .normal fr' σ) : rW Try.prog W0 b0 innerC (frC fr r acc) σ Q := by
  have e1 : IntKind.i64.wrap (acc + r.tmod 2) = acc + r % 2 := by rw [tmod2 r hr0]; exact wrap_i64 _ (by omega) (by omega)
  have e2 : IntKind.i64.wrap (r.tdiv 2) = r / 2 := by rw [tdiv2 r hr0]; exact wrap_i64 _ (by omega) (by omega)
  by_cases h : r = 0
  · subst h
    repeat' ((conv => whnf); first | (refine Exists.intro ([] : List Nat) ?_) | (refine And.intro rfl ?_) | (refine And.intro (by decide +kernel) ?_) | (refine And.intro trivial ?_) | (refine Exists.intro _ (And.intro rfl (And.intro rfl (And.intro (Nat.le_of_ble_eq_true rfl) ?_)))) | (refine Exists.intro _ (And.intro rfl (And.intro rfl (And.intro rfl (And.intro (Nat.le_of_ble_eq_true rfl) ?_))))) | (refine And.intro (Exists.intro _ (And.intro rfl rfl)) ?_) | (exact fun hW => absurd hW (by decide +kernel)) | (intro hW; (try simp only [Bool.not_true, Bool.not_false, Bool.not_eq_true', Bool.not_eq_false', decide_eq_true_eq, decide_eq_false_iff_not, reduceCtorEq, Bool.true_eq_false, Bool.false_eq_true, mk_size, List.size_toArray, ByteArray.size_append, ByteArray.size_extract, List.length_cons, List.length_nil, ba_get, ba_empty, Int.toNat_natCast] at hW)) | (refine And.intro (?_ : _ → _) (?_ : _ → _)) | (refine FinR.drop 0 (Nat.zero_le _) (Closed.zero _) rfl ?_) | (refine FinR.keep ?_) | (refine And.intro (det3_agg rfl) ?_) | (refine fL_mk ?_) | (refine And.intro (by (try simp only [mk_size, List.size_toArray, ByteArray.size_append, ByteArray.size_extract, List.length_cons, List.length_nil]); omega) ?_) | (refine And.intro (by (try simp only [mk_size, List.size_toArray, ByteArray.size_append, ByteArray.size_extract, List.length_cons, List.length_nil, wrap64_eq]); omega) ?_) | fail)
    exact h1 rfl
  · skip
    repeat' ((conv => whnf); first | (refine Exists.intro ([] : List Nat) ?_) | (refine And.intro rfl ?_) | (refine And.intro (by decide +kernel) ?_) | (refine And.intro trivial ?_) | (refine Exists.intro _ (And.intro rfl (And.intro rfl (And.intro (Nat.le_of_ble_eq_true rfl) ?_)))) | (refine Exists.intro _ (And.intro rfl (And.intro rfl (And.intro rfl (And.intro (Nat.le_of_ble_eq_true rfl) ?_))))) | (refine And.intro (Exists.intro _ (And.intro rfl rfl)) ?_) | (exact fun hW => absurd hW (by decide +kernel)) | (intro hW; (try simp only [Bool.not_true, Bool.not_false, Bool.not_eq_true', Bool.not_eq_false', decide_eq_true_eq, decide_eq_false_iff_not, reduceCtorEq, Bool.true_eq_false, Bool.false_eq_true, mk_size, List.size_toArray, ByteArray.size_append, ByteArray.size_extract, List.length_cons, List.length_nil, ba_get, ba_empty, Int.toNat_natCast] at hW)) | (refine And.intro (?_ : _ → _) (?_ : _ → _)) | (refine FinR.drop 0 (Nat.zero_le _) (Closed.zero _) rfl ?_) | (refine FinR.keep ?_) | (refine And.intro (det3_agg rfl) ?_) | (refine fL_mk ?_) | (refine And.intro (by (try simp only [mk_size, List.size_toArray, ByteArray.size_append, ByteArray.size_extract, List.length_cons, List.length_nil]); omega) ?_) | (refine And.intro (by (try simp only [mk_size, List.size_toArray, ByteArray.size_append, ByteArray.size_extract, List.length_cons, List.length_nil, wrap64_eq]); omega) ?_) | fail)
    · refine h2 (by omega) _ fun t => ?_
      rw [← e1, ← e2]
      simp only [frC, updO, upd]
      by_cases t3 : t = 3
      · subst t3; exact .inr rfl
      · by_cases t5 : t = 5
        · subst t5; exact .inr rfl
        · by_cases tj : (Nat.ble 14 t && Nat.ble t 21) = true
          · simp [t3, t5, tj]
          · have : t ≠ 14 ∧ t ≠ 15 ∧ t ≠ 16 ∧ t ≠ 17 ∧ t ≠ 18 ∧ t ≠ 19 ∧ t ≠ 20 ∧ t ≠ 21 := by
              refine ⟨?_, ?_, ?_, ?_, ?_, ?_, ?_, ?_⟩ <;> (intro e; subst e; exact tj rfl)
            simp [t3, t5, tj, this]
    · omega
theorem inner_l2Count {b0 : Nat} {fr : Fr} {Q : CPost} (acc r : Int) (hr0 : 0 ≤ r) (hr : r < 64) (ha0 : 0 ≤ acc) (ha : acc ≤ 1000) (h3 : fr 3 = I acc) (h5 : fr 5 = I r)
    (hq : Q (.exit 2) (upd (upd (frC fr 0 (acc + pcz r)) 14 (I 0)) 15 (Bo false)) σ) : LoopR b0 (fun fr σ Q => rW Try.prog W0 b0 innerC fr σ Q) fr σ Q := by
  refine LoopR.inv ⟨fun m fr' σ' => ∃ r' acc' : Int, fr' = frC fr r' acc' ∧ σ' = σ ∧ 0 ≤ r' ∧ r' < 64 ∧ m = r'.toNat ∧ 0 ≤ acc' ∧ acc' + pcz r' = acc + pcz r, r.toNat, frC fr r acc, σ, .inl ⟨rfl, fun t => ?_⟩, ⟨r, acc, rfl, rfl, hr0, hr, rfl, ha0, rfl⟩, ?_⟩
  · unfold frC
    split
    · rename_i e; right; rw [e, h3]
    · split
      · rename_i e; right; rw [e, h5]
      · split
        · exact .inl rfl
        · exact .inr rfl
  · rintro m fr' σ' ⟨r', acc', rfl, rfl, k1, k2, rfl, k3, k4⟩
    have hp : pcz r ≤ 6 := by unfold pcz; have := (pcz_step r.toNat (by omega)).2; omega
    have hp' : 0 ≤ pcz r' := by unfold pcz; omega
    refine body_l2Count r' acc' _ k1 k2 k3 (by omega) (fun e => ?_) (fun e fr'' hfr => ?_)
    · subst e
      have : acc' = acc + pcz r := by rw [← k4]; simp [pcz, ones]
      subst this
      exact hq
    · refine ⟨(r' / 2).toNat, frC fr (r' / 2) (acc' + r' % 2), σ', by omega, .inl ⟨rfl, hfr⟩, r' / 2, acc' + r' % 2, rfl, rfl, by omega, by omega, rfl, by omega, ?_⟩
      rw [← k4]
      unfold pcz
      have h1 := (pcz_step r'.toNat (by omega)).1
      rw [show (r' / 2).toNat = r'.toNat / 2 by omega]
      omega
theorem pcz_bd (r : Int) (h0 : 0 ≤ r) (h1 : r < 64) : 0 ≤ pcz r ∧ pcz r ≤ 6 := by
  unfold pcz; have := (pcz_step r.toNat (by omega)).2; omega
set_option maxRecDepth 100000 in
theorem c_l2Count (a b c d e f : Int) (ha : 0 ≤ a ∧ a < 64) (hb : 0 ≤ b ∧ b < 64) (hc : 0 ≤ c ∧ c < 64) (hd : 0 ≤ d ∧ d < 64) (he : 0 ≤ e ∧ e < 64) (hf : 0 ≤ f ∧ f < 64) (K : Cont) (h0 : K (I (0 + pcz a + pcz b + pcz c + pcz d + pcz e + pcz f)) []) : ACall Try.prog W0 61 [Sh a b c d e f] [] K := by
  refine by61 (Nat.le_of_ble_eq_true rfl) ?_
  have pa := pcz_bd a ha.1 ha.2
  have pb := pcz_bd b hb.1 hb.2
  have pc := pcz_bd c hc.1 hc.2
  have pd := pcz_bd d hd.1 hd.2
  have pe := pcz_bd e he.1 he.2
  have pf := pcz_bd f hf.1 hf.2
  repeat' ((conv => whnf); first | (refine Exists.intro ([] : List Nat) ?_) | (refine And.intro rfl ?_) | (refine And.intro (by decide +kernel) ?_) | (refine And.intro trivial ?_) | (refine Exists.intro _ (And.intro rfl (And.intro rfl (And.intro (Nat.le_of_ble_eq_true rfl) ?_)))) | (refine Exists.intro _ (And.intro rfl (And.intro rfl (And.intro rfl (And.intro (Nat.le_of_ble_eq_true rfl) ?_))))) | (refine And.intro (Exists.intro _ (And.intro rfl rfl)) ?_) | (exact fun hW => absurd hW (by decide +kernel)) | (intro hW; (try simp only [Bool.not_true, Bool.not_false, Bool.not_eq_true', Bool.not_eq_false', decide_eq_true_eq, decide_eq_false_iff_not, reduceCtorEq, Bool.true_eq_false, Bool.false_eq_true, mk_size, List.size_toArray, ByteArray.size_append, ByteArray.size_extract, List.length_cons, List.length_nil, ba_get, ba_empty, Int.toNat_natCast] at hW)) | (refine And.intro (?_ : _ → _) (?_ : _ → _)) | (refine FinR.drop 0 (Nat.zero_le _) (Closed.zero _) rfl ?_) | (refine FinR.keep ?_) | (refine And.intro (det3_agg rfl) ?_) | (refine fL_mk ?_) | (refine And.intro (by (try simp only [mk_size, List.size_toArray, ByteArray.size_append, ByteArray.size_extract, List.length_cons, List.length_nil]); omega) ?_) | (refine And.intro (by (try simp only [mk_size, List.size_toArray, ByteArray.size_append, ByteArray.size_extract, List.length_cons, List.length_nil, wrap64_eq]); omega) ?_) | fail)
  refine LoopR.unroll 7 ?_
  repeat' ((conv => whnf); first | (refine Exists.intro ([] : List Nat) ?_) | (refine And.intro rfl ?_) | (refine And.intro (by decide +kernel) ?_) | (refine And.intro trivial ?_) | (refine inner_l2Count _ _ (by omega) (by omega) (by omega) (by omega) rfl rfl ?_) | (refine Exists.intro _ (And.intro rfl (And.intro rfl (And.intro (Nat.le_of_ble_eq_true rfl) ?_)))) | (refine Exists.intro _ (And.intro rfl (And.intro rfl (And.intro rfl (And.intro (Nat.le_of_ble_eq_true rfl) ?_))))) | (refine And.intro (Exists.intro _ (And.intro rfl rfl)) ?_) | (exact fun hW => absurd hW (by decide +kernel)) | (intro hW; (try simp only [Bool.not_true, Bool.not_false, Bool.not_eq_true', Bool.not_eq_false', decide_eq_true_eq, decide_eq_false_iff_not, reduceCtorEq, Bool.true_eq_false, Bool.false_eq_true, mk_size, List.size_toArray, ByteArray.size_append, ByteArray.size_extract, List.length_cons, List.length_nil, ba_get, ba_empty, Int.toNat_natCast] at hW)) | (refine And.intro (?_ : _ → _) (?_ : _ → _)) | (refine FinR.drop 0 (Nat.zero_le _) (Closed.zero _) rfl ?_) | (refine FinR.keep ?_) | (refine And.intro (det3_agg rfl) ?_) | (refine fL_mk ?_) | (refine And.intro (by (try simp only [mk_size, List.size_toArray, ByteArray.size_append, ByteArray.size_extract, List.length_cons, List.length_nil]); omega) ?_) | (refine And.intro (by (try simp only [mk_size, List.size_toArray, ByteArray.size_append, ByteArray.size_extract, List.length_cons, List.length_nil, wrap64_eq]); omega) ?_) | fail)
  all_goals exact h0
end Go.Proofs.Ytcclhjohpicleaa
end

section
/- Contracts: the cells that sheet and stamp have in common. -/
set_option linter.unusedVariables false
set_option linter.unusedSimpArgs false
namespace Go.Proofs.Ytcclhjohpicleaa
open Go Go.RowKit Go.Proofs.Ytcclhjohpicleaa.Abs
variable {W0 : World} {σ : List Blk}
theorem row_and : ∀ x : Nat, x < 64 → ∀ y : Nat, y < 64 → bAnd .i64 (x : Int) (y : Int) = ((x &&& y : Nat) : Int) := by decide +kernel
theorem inB_iff (x a b : Int) : inB x a b = true ↔ a ≤ x ∧ x ≤ b := by simp [inB]
/-- the rows of a sheet that is right, as numbers -/
theorem rows_of (a b c d e f : Int) (h : shB6 a b c d e f = true) : ∃ a0 b0 c0 d0 e0 f0 : Nat, a = a0 ∧ b = b0 ∧ c = c0 ∧ d = d0 ∧ e = e0 ∧ f = f0 ∧ a0 < 64 ∧ b0 < 64 ∧ c0 < 64 ∧ d0 < 64 ∧ e0 < 64 ∧ f0 < 64 := by
  simp only [shB6, Bool.and_eq_true, inB_iff] at h
  exact ⟨a.toNat, b.toNat, c.toNat, d.toNat, e.toNat, f.toNat, by omega, by omega, by omega, by omega, by omega, by omega, by omega, by omega, by omega, by omega, by omega, by omega⟩
/-- the number of a sheet's set -/
def setN (a b c d e f : Nat) : Nat := a + 64 * (b + 64 * (c + 64 * (d + 64 * (e + 64 * f))))
theorem wrapu (x : Nat) (h : x < 64) : IntKind.u64.wrap (x : Int) = x := wrap_u64 x (by omega)
theorem setI_nat (a b c d e f : Nat) (ha : a < 64) (hb : b < 64) (hc : c < 64) (hd : d < 64) (he : e < 64) (hf : f < 64) : setI a b c d e f = (setN a b c d e f : Nat) := by
  have or_step : ∀ k x y : Nat, x < 2 ^ k → k ≤ 30 → y < 64 → bOr .u64 (x : Int) (shL .u64 (IntKind.u64.wrap (y : Int)) ((k : Nat) : Int)) = ((x + 2 ^ k * y : Nat) : Int) := by
    intro k x y hx hk hy
    have hp : 2 ^ k ≤ 2 ^ 30 := Nat.pow_le_pow_right (by omega) hk
    have hy' : y * 2 ^ k ≤ 63 * 2 ^ 30 := Nat.mul_le_mul (by omega) hp
    rw [wrapu y hy, shL_u64 y k (by omega) (Nat.lt_of_le_of_lt hy' (by decide)), bOr_u64 _ _ (by omega) (Nat.lt_of_le_of_lt hy' (by decide))]
    have h1 := lor_dig k x 0 0 y hx (Nat.two_pow_pos k)
    rw [Nat.mul_zero, Nat.add_zero, Nat.zero_add, Nat.or_zero, Nat.zero_or] at h1
    rw [Nat.mul_comm y, h1]
  unfold setI setN
  have e0 : bOr .u64 0 (shL .u64 (IntKind.u64.wrap (a : Int)) 0) = ((a : Nat) : Int) := by
    have := or_step 0 0 a (by decide) (by omega) ha
    simpa using this
  rw [e0]
  have e1 := or_step 6 a b (by omega) (by omega) hb
  have e2 := or_step 12 _ c (show a + 2 ^ 6 * b < 2 ^ 12 by omega) (by omega) hc
  have e3 := or_step 18 _ d (show a + 2 ^ 6 * b + 2 ^ 12 * c < 2 ^ 18 by omega) (by omega) hd
  have e4 := or_step 24 _ e (show a + 2 ^ 6 * b + 2 ^ 12 * c + 2 ^ 18 * d < 2 ^ 24 by omega) (by omega) he
  have e5 := or_step 30 _ f (show a + 2 ^ 6 * b + 2 ^ 12 * c + 2 ^ 18 * d + 2 ^ 24 * e < 2 ^ 30 by omega) (by omega) hf
  rw [show (6 : Int) = ((6 : Nat) : Int) from rfl, e1, show (12 : Int) = ((12 : Nat) : Int) from rfl, e2, show (18 : Int) = ((18 : Nat) : Int) from rfl, e3, show (24 : Int) = ((24 : Nat) : Int) from rfl, e4, show (30 : Int) = ((30 : Nat) : Int) from rfl, e5]
  refine congrArg (fun n : Nat => (n : Int)) ?_
  omega
theorem ones_zero : ∀ n, ones n 0 = 0
  | 0 => rfl
  | n + 1 => by simp only [ones]; rw [Nat.zero_div, ones_zero n]
theorem ones6 (d x : Nat) (hd : d < 64) : ones 6 (d + 64 * x) = ones 6 d := by
  simp only [ones]; omega
theorem ones_step6 (m d x : Nat) (hd : d < 64) : ones (6 + m) (d + 64 * x) = ones 6 d + ones m x := by
  rw [ones_add 6 m, ones6 d x hd, show (d + 64 * x) / 2 ^ 6 = x from div_dig 64 d x hd]
theorem ones_setN (a b c d e f : Nat) (ha : a < 64) (hb : b < 64) (hc : c < 64) (hd : d < 64) (he : e < 64) (hf : f < 64) : ones 64 (setN a b c d e f) = ones 6 a + (ones 6 b + (ones 6 c + (ones 6 d + (ones 6 e + ones 6 f)))) := by
  have h64 : ∀ y, ones 64 y = ones (6 + (6 + (6 + (6 + (6 + (6 + 28)))))) y := fun _ => rfl
  have hl : ones (6 + 28) f = ones 6 f := by
    have h := ones_step6 28 f 0 hf
    rw [Nat.mul_zero, Nat.add_zero, ones_zero, Nat.add_zero] at h
    exact h
  unfold setN
  rw [h64, ones_step6 _ a _ ha, ones_step6 _ b _ hb, ones_step6 _ c _ hc, ones_step6 _ d _ hd, ones_step6 _ e _ he, hl]
theorem setN_lt (a b c d e f : Nat) (ha : a < 64) (hb : b < 64) (hc : c < 64) (hd : d < 64) (he : e < 64) (hf : f < 64) : setN a b c d e f < 68719476736 := by unfold setN; omega
end Go.Proofs.Ytcclhjohpicleaa
end
