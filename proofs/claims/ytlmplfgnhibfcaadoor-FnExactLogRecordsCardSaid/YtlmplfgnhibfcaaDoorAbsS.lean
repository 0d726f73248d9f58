/- The abstract logic, part S: a region that draws its order: what leaves no trace is taken in the order of the text, what does is tried in every order that is open; guards. -/
import Derived.Test.YtlmplfgnhibfcaaDoorAbsQ
set_option linter.unusedVariables false
set_option linter.unusedSimpArgs false
namespace Go.Proofs.YtlmplfgnhibfcaaDoor.Abs
open Go Go.RowKit

/-- guard (its slot), destination, operation -/
structure GI where
  g : Option (Nat × Bool)
  d : Option Nat
  o : ROp
/-- a plan for a region: 'n': nothing that leaves a trace can come before; 'h': it can, and does no harm; 't': it leaves a trace -/
inductive PT
  | fin
  | n (it : GI) (r : PT)
  | h (it : GI) (r : PT)
  | t (it : GI) (r : PT)
  | both (a b : PT)

noncomputable def memB (k : Nat) (l : List Nat) : Bool := List.rec (motive := fun _ => Bool) false (fun x _ ih => cond (Nat.beq k x) true ih) l
/-- blocks may be added, those of F may be written -/
def varL (F : List Nat) (σ0 : List Blk) : Nat → List Blk → Prop :=
  List.rec (motive := fun _ => Nat → List Blk → Prop) (fun _ _ => True) (fun B _ ih k σ' => match σ' with
    | [] => False
    | B' :: σ'' => (B'.ver = B.ver ∧ B'.esz = B.esz ∧ B'.row = B.row ∧ (memB k F = false → B' = B)) ∧ ih (k + 1) σ'') σ0
def simB (σ σ' : List Blk) : Prop := ∀ (b : Nat) (B : Blk), σ[b]? = some B → ∃ B', σ'[b]? = some B' ∧ B'.ver = B.ver ∧ B'.esz = B.esz ∧ B'.row = B.row
theorem varL_get {F : List Nat} : ∀ {σ0 : List Blk} {k : Nat} {σ' : List Blk}, varL F σ0 k σ' → ∀ (b : Nat) (B : Blk), σ0[b]? = some B → ∃ B', σ'[b]? = some B' ∧ B'.ver = B.ver ∧ B'.esz = B.esz ∧ B'.row = B.row ∧ (memB (k + b) F = false → B' = B)
  | [], k, σ', h, b, B, hB => by simp at hB
  | B0 :: σ0, k, [], h, b, B, hB => h.elim
  | B0 :: σ0, k, B' :: σ', h, b, B, hB => by
    obtain ⟨h1, h2⟩ := (show (B'.ver = B0.ver ∧ B'.esz = B0.esz ∧ B'.row = B0.row ∧ (memB k F = false → B' = B0)) ∧ varL F σ0 (k + 1) σ' from h)
    cases b with
    | zero => simp at hB; subst hB; exact ⟨B', rfl, h1⟩
    | succ b =>
      obtain ⟨B'', h3, h4⟩ := varL_get h2 b B (by simpa using hB)
      exact ⟨B'', by simpa using h3, by rw [show k + (b + 1) = k + 1 + b by omega]; exact h4⟩
theorem varL_sim {F : List Nat} {σ0 σ' : List Blk} (h : varL F σ0 0 σ') : simB σ0 σ' := fun b B hB => let ⟨B', h1, h2, h3, h4, _⟩ := varL_get h b B hB; ⟨B', h1, h2, h3, h4⟩
theorem varL_refl (F : List Nat) : ∀ (σ0 : List Blk) (k : Nat), varL F σ0 k σ0
  | [], _ => trivial
  | B :: σ0, k => ⟨⟨rfl, rfl, rfl, fun _ => rfl⟩, varL_refl F σ0 (k + 1)⟩

/-- the same, and then R -/
def varC (F : List Nat) (σ0 : List Blk) (R : Prop) : Nat → List Blk → Prop :=
  List.rec (motive := fun _ => Nat → List Blk → Prop) (fun _ _ => R) (fun B _ ih k σ' => match σ' with
    | [] => False
    | B' :: σ'' => match memB k F with
      | true => B'.ver = B.ver ∧ B'.esz = B.esz ∧ B'.row = B.row ∧ ih (k + 1) σ''
      | false => B' = B ∧ ih (k + 1) σ'') σ0
theorem varC_spec {F : List Nat} {R : Prop} : ∀ {σ0 : List Blk} {k : Nat} {σ' : List Blk}, varC F σ0 R k σ' → varL F σ0 k σ' ∧ R
  | [], k, σ', h => ⟨trivial, h⟩
  | B0 :: σ0, k, [], h => h.elim
  | B0 :: σ0, k, B' :: σ', h => by
    have h' : (match memB k F with
      | true => B'.ver = B0.ver ∧ B'.esz = B0.esz ∧ B'.row = B0.row ∧ varC F σ0 R (k + 1) σ'
      | false => B' = B0 ∧ varC F σ0 R (k + 1) σ' : Prop) := h
    show ((B'.ver = B0.ver ∧ B'.esz = B0.esz ∧ B'.row = B0.row ∧ (memB k F = false → B' = B0)) ∧ varL F σ0 (k + 1) σ') ∧ R
    cases hm : memB k F with
    | true =>
      rw [hm] at h'
      obtain ⟨h1, h2, h3, h4⟩ := h'
      obtain ⟨h5, h6⟩ := varC_spec h4
      exact ⟨⟨⟨h1, h2, h3, fun e => by cases e⟩, h5⟩, h6⟩
    | false =>
      rw [hm] at h'
      obtain ⟨h1, h4⟩ := h'
      obtain ⟨h5, h6⟩ := varC_spec h4
      subst h1
      exact ⟨⟨⟨rfl, rfl, rfl, fun _ => rfl⟩, h5⟩, h6⟩

section
variable {P : Program} {W0 : World} {fr fr' : Fr} {σ : List Blk} {K K' : Cont}
def LV (R : List Blk → Cont → Prop) (σ : List Blk) (K : Cont) : Prop := ∃ av, K av σ ∧ ∀ (σ' : List Blk) (K' : Cont), simB σ σ' → K' av σ' → R σ' K'
theorem LP.lv {R : List Blk → Cont → Prop} (h : LP R σ K) : LV R σ K := let ⟨av, h1, h2⟩ := h; ⟨av, h1, fun σ' K' _ hk => h2 σ' K' hk⟩
theorem curv {b ver : Nat} {σ' : List Blk} (hs : simB σ σ') (h : ∃ B, σ[b]? = some B ∧ B.ver = ver) : ∃ B, σ'[b]? = some B ∧ B.ver = ver :=
  let ⟨B, h1, h2⟩ := h; let ⟨B', h3, h4, _⟩ := hs b B h1; ⟨B', h3, h4.trans h2⟩
theorem faddrR_lv {off : Nat} {a : AV} (h : faddrR off a σ K) : LV (fun σ => faddrR off a σ) σ K := by
  unfold faddrR at h
  split at h
  · exact ⟨_, h.2, fun τ K' hs h' => ⟨curv hs h.1, h'⟩⟩
  · exact ⟨_, h, fun τ K' _ h' => h'⟩
  · exact h.elim
theorem iaddrAR_lv {len s : Nat} {a i : AV} (h : iaddrAR len s a i σ K) : LV (fun σ => iaddrAR len s a i σ) σ K := by
  unfold iaddrAR at h
  split at h
  · exact ⟨_, h.2.2.2, fun τ K' hs h' => ⟨curv hs h.1, h.2.1, h.2.2.1, h'⟩⟩
  · exact ⟨_, h.2.2, fun τ K' _ h' => ⟨h.1, h.2.1, h'⟩⟩
  · exact h.elim
theorem iaddrSR_lv {s : Nat} {a i : AV} (h : iaddrSR s a i σ K) : LV (fun σ => iaddrSR s a i σ) σ K := by
  unfold iaddrSR at h
  split at h
  · exact ⟨_, h.2.2.2, fun τ K' hs h' => ⟨curv hs h.1, h.2.1, h.2.2.1, h'⟩⟩
  · exact ⟨_, h.2.2, fun τ K' _ h' => ⟨h.1, h.2.1, h'⟩⟩
  · exact h.elim
theorem lenLR_lv {x : AV} (h : lenLR x σ K) : LV (fun σ => lenLR x σ) σ K := by
  unfold lenLR at h
  split at h
  · exact ⟨_, h, fun τ K' _ h' => h'⟩
  · exact ⟨_, h.2, fun τ K' hs h' => ⟨curv hs h.1, h'⟩⟩
  · exact h.elim
theorem nilSR_lv {neg : Bool} {x : AV} (h : nilSR neg x σ K) : LV (fun σ => nilSR neg x σ) σ K := by
  unfold nilSR at h
  split at h
  · exact ⟨_, h, fun τ K' _ h' => h'⟩
  · exact ⟨_, h.2, fun τ K' hs h' => ⟨curv hs h.1, h'⟩⟩
  · exact h.elim
theorem nilPR_lv {neg : Bool} {x : AV} (h : nilPR neg x σ K) : LV (fun σ => nilPR neg x σ) σ K := by
  unfold nilPR at h
  split at h
  · exact ⟨_, h.2, fun τ K' hs h' => ⟨curv hs h.1, h'⟩⟩
  · exact h.elim
theorem nilckR_lv {x : AV} (h : nilckR x σ K) : LV (fun σ => nilckR x σ) σ K := by
  unfold nilckR at h
  split at h
  · exact ⟨_, h.2, fun τ K' hs h' => ⟨curv hs h.1, h'⟩⟩
  · exact ⟨_, h, fun τ K' _ h' => h'⟩
  · exact ⟨_, h, fun τ K' _ h' => h'⟩
  · exact ⟨_, h, fun τ K' _ h' => h'⟩
  · exact h.elim
theorem sliceR_lv {s : Nat} {x : AV} {lo hi : Int → Option Int} (h : sliceR s x lo hi σ K) : LV (fun σ => sliceR s x lo hi σ) σ K := by
  unfold sliceR at h
  split at h
  · split at h
    · rename_i l hh e1 e2
      obtain ⟨B, b1, b2, b3, a1, a2, a3, hk⟩ := h
      exact ⟨_, hk, fun τ K' hs h' => by
        obtain ⟨B', c1, c2, c3, c4⟩ := hs _ _ b1
        unfold sliceR; dsimp only; rw [e1, e2]; exact ⟨B', c1, c2.trans b2, fun e => c3.trans (b3 (c4 ▸ e)), a1, a2, a3, h'⟩⟩
    · exact h.elim
  · split at h
    · rename_i l hh e1 e2
      obtain ⟨a1, a2, a3, hk⟩ := h
      exact ⟨_, hk, fun τ K' _ h' => by unfold sliceR; dsimp only; rw [e1, e2]; exact ⟨a1, a2, a3, h'⟩⟩
    · exact h.elim
  · split at h
    · rename_i l hh e1 e2
      obtain ⟨a1, a2, hk⟩ := h
      exact ⟨_, hk, fun τ K' _ h' => by unfold sliceR; (try dsimp only); rw [e1, e2]; exact ⟨a1, a2, h'⟩⟩
    · exact h.elim
  · exact h.elim
theorem slicePR_lv {n s : Nat} {x : AV} {lo hi : Int → Option Int} (h : slicePR n s x lo hi σ K) : LV (fun σ => slicePR n s x lo hi σ) σ K := by
  unfold slicePR at h
  split at h
  · split at h
    · rename_i l hh e1 e2
      obtain ⟨B, b1, b2, b3, a0, a1, a2, a3, hk⟩ := h
      exact ⟨_, hk, fun τ K' hs h' => by
        obtain ⟨B', c1, c2, c3, c4⟩ := hs _ _ b1
        unfold slicePR; dsimp only; rw [e1, e2]; exact ⟨B', c1, c2.trans b2, c4.trans b3, a0, a1, a2, a3, h'⟩⟩
    · exact h.elim
  · exact h.elim
def loadsR : ROp → Bool
  | .load _ _ _ | .strL _ => true
  | _ => false
theorem ropW_lv {o : ROp} (hl : looksR o = true) (hn : loadsR o = false) (h : ropW P W0 o fr σ K) : LV (ropW P W0 o fr) σ K := by
  by_cases hp : pureR o = true
  · exact (ropW_lp hp h).lv
  · cases o with
    | slice s x lo hi => exact sliceR_lv (lo := fun d => bndR fr d lo) (hi := fun d => bndR fr d hi) h
    | sliceP n s x lo hi => exact slicePR_lv (lo := fun d => bndR fr d lo) (hi := fun d => bndR fr d hi) h
    | _ => first
      | (simp [looksR] at hl; done)
      | (simp [loadsR] at hn; done)
      | (exact (hp rfl).elim)
      | exact faddrR_lv h
      | exact iaddrAR_lv h
      | exact iaddrSR_lv h
      | exact lenLR_lv h
      | exact nilSR_lv h
      | exact nilPR_lv h
      | exact nilckR_lv h
end

/-! ### one operation -/
section
variable {P : Program} {W0 : World}
/-- it leaves no trace -/
def qRun (P : Program) (W0 : World) (o : ROp) (fr : Fr) (σ : List Blk) (K : AV → Prop) : Prop :=
  match o with
  | .call f args => fL (args.map (RA.ev fr)) fun vs => ∃ r, callW P W0 (f.ev fr) vs σ (fun v σ' => v = r ∧ σ' = σ) ∧ K r
  | o => looksR o = true ∧ ropW P W0 o fr σ fun v _ => K v
/-- it leaves no trace, and gives the same whatever else is done -/
def hRun (P : Program) (W0 : World) (F : List Nat) (σ0 : List Blk) (o : ROp) (fr : Fr) (K : AV → Prop) : Prop :=
  match o with
  | .call f args => fL (args.map (RA.ev fr)) fun vs => ∃ r, (∀ τ, varL F σ0 0 τ → callW P W0 (f.ev fr) vs τ fun v σ' => v = r ∧ σ' = τ) ∧ K r
  | .load s g a => match a.ev fr with
    | .ptr b ver off => memB b F = false ∧ loadR W0 s g (.ptr b ver off) σ0 fun v _ => K v
    | a => loadR W0 s g a σ0 fun v _ => K v
  | .strL _ => False
  | o => looksR o = true ∧ ropW P W0 o fr σ0 fun v _ => K v
def gRun (g : Option (Nat × Bool)) (fr : Fr) (run skip : Prop) : Prop :=
  match g with
  | none => run
  | some (s, b) => match fr s with
    | .lit (.bool t) => (t = b → run) ∧ (t = !b → skip)
    | .lit _ => skip
    | _ => False
/-- one operation, its value handed on -/
def stepG (P : Program) (W0 : World) (V : List Blk → Prop) (tt : Bool) (it : GI) (fr : Fr) (σ : List Blk) (K : Cont) : Prop :=
  gRun it.g fr (match tt with
    | true => ropW P W0 it.o fr σ fun v σ' => V σ' ∧ K v σ'
    | false => qRun P W0 it.o fr σ fun v => K v σ) (K (.lit undef) σ)
def readsG (it : GI) : List Nat := slotsR it.o ++ match it.g with
  | some (s, _) => [s]
  | none => []

theorem gRun_mono {g : Option (Nat × Bool)} {fr : Fr} {r r' s s' : Prop} (h : gRun g fr r s) (hr : r → r') (hs : s → s') : gRun g fr r' s' := by
  unfold gRun at h ⊢
  split
  · exact hr h
  · dsimp only at h
    split at h
    · exact ⟨fun e => hr (h.1 e), fun e => hs (h.2 e)⟩
    · exact hs h
    · exact h.elim
theorem gRun_congr {g : Option (Nat × Bool)} {fr fr' : Fr} {r s : Prop} (h : ∀ x b, g = some (x, b) → fr x = fr' x) : gRun g fr r s = gRun g fr' r s := by
  unfold gRun
  split
  · rfl
  · rename_i x b; rw [h x b rfl]
theorem qRun_congr {o : ROp} {fr fr' : Fr} {σ : List Blk} {K : AV → Prop} (h : ∀ t ∈ slotsR o, fr t = fr' t) : qRun P W0 o fr σ K = qRun P W0 o fr' σ K := by
  unfold qRun
  split
  · rename_i f args
    have e1 := ev_congr (x := f) fun t ht => h t (by simp only [slotsR]; exact List.mem_append_left _ ht)
    have e2 := evs_congr (l := args) fun t ht => h t (by simp only [slotsR]; exact List.mem_append_right _ ht)
    simp only [e1, e2]
  · rw [ropW_congr h]
theorem qRun_inv {o : ROp} {fr : Fr} {σ : List Blk} {K : AV → Prop} (h : qRun P W0 o fr σ K) : ∃ v, K v ∧ ∀ K' : AV → Prop, K' v → qRun P W0 o fr σ K' := by
  unfold qRun at h
  split at h
  · rename_i f args
    rw [fL_eq] at h
    obtain ⟨r, h1, h2⟩ := h
    refine ⟨r, h2, fun K' hk => ?_⟩
    unfold qRun; dsimp only; rw [fL_eq]
    exact ⟨r, h1, hk⟩
  · rename_i hne
    obtain ⟨hl, h⟩ := h
    obtain ⟨v, h1, h2⟩ := ropW_ld hl h
    refine ⟨v, h1, fun K' hk => ?_⟩
    unfold qRun
    split
    · exact (hne _ _ rfl).elim
    · exact ⟨hl, h2 (fun v _ => K' v) hk⟩
theorem qRun_mono {o : ROp} {fr : Fr} {σ : List Blk} {K K' : AV → Prop} (h : qRun P W0 o fr σ K) (hk : ∀ v, K v → K' v) : qRun P W0 o fr σ K' :=
  let ⟨v, h1, h2⟩ := qRun_inv h; h2 K' (hk v h1)
theorem qRun_pure {o : ROp} {fr : Fr} {σ : List Blk} {K : AV → Prop} (hp : pureR o = true) (h : qRun P W0 o fr σ K) : ∃ v, K v ∧ ∀ (σ' : List Blk) (K' : AV → Prop), K' v → qRun P W0 o fr σ' K' := by
  unfold qRun at h
  split at h
  · cases hp
  · rename_i hne
    obtain ⟨hl, h⟩ := h
    obtain ⟨v, h1, h2⟩ := ropW_lp hp h
    refine ⟨v, h1, fun σ' K' hk => ?_⟩
    unfold qRun
    split
    · exact (hne _ _ rfl).elim
    · exact ⟨hl, h2 σ' (fun v _ => K' v) hk⟩
theorem qRun_ropW {o : ROp} {fr : Fr} {σ : List Blk} {K : AV → Prop} (h : qRun P W0 o fr σ K) : ropW P W0 o fr σ fun v σ' => σ' = σ ∧ K v := by
  unfold qRun at h
  split at h
  · rename_i f args
    rw [fL_eq] at h
    obtain ⟨r, h1, h2⟩ := h
    simp only [ropW, fL_eq]
    exact callW_mono h1 fun v σ' ⟨e1, e2⟩ => ⟨e2, e1 ▸ h2⟩
  · obtain ⟨hl, h⟩ := h
    obtain ⟨v, h1, h2⟩ := ropW_ld hl h
    exact h2 _ ⟨rfl, h1⟩
theorem hRun_inv {F : List Nat} {σ0 : List Blk} {o : ROp} {fr : Fr} {K : AV → Prop} (h : hRun P W0 F σ0 o fr K) : ∃ v, K v ∧ ∀ (σ' : List Blk) (K' : AV → Prop), varL F σ0 0 σ' → K' v → qRun P W0 o fr σ' K' := by
  unfold hRun at h
  split at h
  · rename_i f args
    rw [fL_eq] at h
    obtain ⟨r, h1, h2⟩ := h
    refine ⟨r, h2, fun σ' K' hv hk => ?_⟩
    unfold qRun; dsimp only; rw [fL_eq]
    exact ⟨r, h1 σ' hv, hk⟩
  · rename_i s g a
    split at h
    · rename_i b ver off ha
      obtain ⟨hb, h⟩ := h
      obtain ⟨B, h1, h2, h3, hk⟩ := (show ∃ B, σ0[b]? = some B ∧ B.ver = ver ∧ off + s ≤ B.cells.length ∧ K (mkAV g ((B.cells.drop off).take s)) from h)
      refine ⟨_, hk, fun σ' K' hv hk' => ⟨rfl, ?_⟩⟩
      obtain ⟨B', c1, _, _, _, c5⟩ := varL_get hv b B h1
      rw [Nat.zero_add] at c5
      have e := c5 hb
      subst e
      show loadR W0 s g (a.ev fr) σ' fun v _ => K' v
      rw [ha]
      exact ⟨B', c1, h2, h3, hk'⟩
    · rename_i hne
      have h' := h
      unfold loadR at h
      split at h
      · rename_i b ver off ha; exact (hne _ _ _ ha).elim
      · rename_i ad ha
        obtain ⟨cs, h1, h2, h3, hk⟩ := h
        refine ⟨_, hk, fun σ' K' hv hk' => ⟨rfl, ?_⟩⟩
        show loadR W0 s g (a.ev fr) σ' fun v _ => K' v
        rw [ha]
        exact ⟨cs, h1, h2, h3, hk'⟩
      · exact h.elim
  · exact h.elim
  · rename_i hne1 hne2 hne3
    obtain ⟨hl, h⟩ := h
    have hnl : loadsR o = false := by cases o <;> first | rfl | exact (hne2 _ _ _ rfl).elim | exact (hne3 _ rfl).elim
    obtain ⟨v, h1, h2⟩ := ropW_lv hl hnl h
    refine ⟨v, h1, fun σ' K' hv hk => ?_⟩
    unfold qRun
    split
    · exact (hne1 _ _ rfl).elim
    · exact ⟨hl, h2 σ' (fun v _ => K' v) (varL_sim hv) hk⟩

variable {V : List Blk → Prop} {it : GI} {fr fr' : Fr} {σ : List Blk} {K K' : Cont} {tt : Bool}
theorem stepG_mono (h : stepG P W0 V tt it fr σ K) (hk : ∀ v σ', K v σ' → K' v σ') : stepG P W0 V tt it fr σ K' := by
  refine gRun_mono h (fun hr => ?_) (hk _ _)
  cases tt with
  | true => exact ropW_mono hr fun v σ' ⟨h1, h2⟩ => ⟨h1, hk _ _ h2⟩
  | false => exact qRun_mono hr fun v => hk _ _
/-- what is known of the blocks behind it -/
theorem stepG_keeps (h : stepG P W0 V tt it fr σ K) : stepG P W0 V tt it fr σ fun v σ' => (σ' = σ ∨ (tt = true ∧ V σ')) ∧ K v σ' := by
  refine gRun_mono h (fun hr => ?_) fun hs => ⟨.inl rfl, hs⟩
  cases tt with
  | true => exact ropW_mono hr fun v σ' ⟨h1, h2⟩ => ⟨h1, .inr ⟨rfl, h1⟩, h2⟩
  | false => exact qRun_mono hr fun v h => ⟨.inl rfl, h⟩
theorem stepG_congr (h : ∀ t ∈ readsG it, fr t = fr' t) : stepG P W0 V tt it fr σ K = stepG P W0 V tt it fr' σ K := by
  unfold stepG
  have h1 : ∀ t ∈ slotsR it.o, fr t = fr' t := fun t ht => h t (List.mem_append_left _ ht)
  have h2 : ∀ x b, it.g = some (x, b) → fr x = fr' x := fun x b e => h x (List.mem_append_right _ (by rw [e]; simp))
  rw [gRun_congr h2]
  cases tt with
  | true => rw [ropW_congr h1]
  | false => rw [qRun_congr h1]
end

/-! ### every order -/
abbrev GL := List GI
def treeG (P : Program) (W0 : World) (ops : Array Oper) (L : GL) (T : Nat → Bool) (V : List Blk → Prop) (K : Fr → List Blk → Prop) : Nat → Array Bool → Fr → List Blk → Prop
  | 0, done, fr, σ => Region.ready .any ops done = [] ∧ K fr σ
  | f + 1, done, fr, σ => Region.ready .any ops done ≠ [] ∧ ∀ i ∈ Region.ready .any ops done, ∃ it, L[i]? = some it ∧ stepG P W0 V (T i) it fr σ fun v σ' => treeG P W0 ops L T V K f (done.setIfInBounds i true) (updO fr it.d v) σ'

def apartG (j i : GI) : Bool :=
  (match j.d with
    | some d => !(readsG i).contains d && i.d != some d
    | none => true) &&
  (match i.d with
    | some d => !(readsG j).contains d
    | none => true)
theorem apartG_spec {j i : GI} (h : apartG j i = true) : (∀ d, j.d = some d → d ∉ readsG i) ∧ (∀ d, j.d = some d → i.d ≠ some d) ∧ (∀ d, i.d = some d → d ∉ readsG j) := by
  unfold apartG at h
  simp only [Bool.and_eq_true] at h
  refine ⟨fun d hd => ?_, fun d hd => ?_, fun d hd => ?_⟩
  · have := h.1; rw [hd] at this; simp at this; exact this.1
  · have := h.1; rw [hd] at this; simp at this; exact this.2
  · have := h.2; rw [hd] at this; simp at this; exact this

/-- all that can be done while j is not -/
def closeD (ops : Array Oper) (j : Nat) : Nat → Array Bool → Array Bool
  | 0, D => D
  | f + 1, D => match (Region.ready .any ops D).filter (· != j) with
    | [] => D
    | l => closeD ops j f (l.foldl (fun D i => D.setIfInBounds i true) D)
/-- D is all that can be done before j: nothing but j is ready behind it -/
def okD (ops : Array Oper) (L : GL) (T : Nat → Bool) (done D : Array Bool) (j : Nat) (quiet : Bool) : Bool :=
  (Region.ready .any ops D).all (· == j) && decide (D.size = ops.size) && decide (D.getD j true = false) &&
  (List.range ops.size).all fun i => (!done.getD i false || D.getD i false) && (!D.getD i false || done.getD i true || match L[i]?, L[j]? with
    | some a, some b => apartG b a && (!quiet || !T i)
    | _, _ => false)

theorem updO_off' {fr : Fr} {d : Option Nat} {v : AV} {l : List Nat} (h : ∀ x, d = some x → x ∉ l) : ∀ t ∈ l, updO fr d v t = fr t := fun t ht => by
  cases d with
  | none => rfl
  | some x =>
    have : t ≠ x := fun e => h x rfl (e ▸ ht)
    simp [updO, upd, this]

section
variable {P : Program} {W0 : World} {ops : Array Oper} {L : GL} {T : Nat → Bool} {V : List Blk → Prop} {K : Fr → List Blk → Prop}

theorem getD_true_of {A : Array Bool} {i : Nat} (h : A.getD i false = true) : A.getD i true = true := by
  rcases Nat.lt_or_ge i A.size with h' | h'
  · simp [h'] at h ⊢; exact h
  · simp [Array.getElem?_eq_none h'] at h

/-- what can be done first, and harms no other, may be done first -/
theorem treeG_take {j : Nat} {it : GI} {v : AV} {D done0 : Array Bool} {V' : List Blk → Prop} (hL : L[j]? = some it) (hT : T j = false)
    (hD1 : ∀ i ∈ Region.ready .any ops D, i = j) (hDs : D.size = ops.size)
    (hap : ∀ i a, D.getD i false = true → done0.getD i true = false → L[i]? = some a → apartG it a = true ∧ (T i = true → ∀ σ, V σ → V' σ)) :
    ∀ (f : Nat) (done : Array Bool) (fr : Fr) (σ : List Blk), (∀ k, done.getD k true = false → done0.getD k true = false) → (∀ k, done.getD k false = true → D.getD k false = true) → j ∈ Region.ready .any ops done → D.getD j true = false →
      (∀ (fr' : Fr) (σ' : List Blk) (K' : Cont), (∀ t ∈ readsG it, fr' t = fr t) → V' σ' → K' v σ' → stepG P W0 V false it fr' σ' K') → V' σ →
      treeG P W0 ops L T V K f (done.setIfInBounds j true) (updO fr it.d v) σ → treeG P W0 ops L T V K (f + 1) done fr σ := by
  have here : ∀ {f : Nat} {done : Array Bool} {fr : Fr} {σ : List Blk}, (∀ (fr' : Fr) (σ' : List Blk) (K' : Cont), (∀ t ∈ readsG it, fr' t = fr t) → V' σ' → K' v σ' → stepG P W0 V false it fr' σ' K') → V' σ →
      treeG P W0 ops L T V K f (done.setIfInBounds j true) (updO fr it.d v) σ → ∃ it, L[j]? = some it ∧ stepG P W0 V (T j) it fr σ fun v σ' => treeG P W0 ops L T V K f (done.setIfInBounds j true) (updO fr it.d v) σ' := fun hs hV h => by
    refine ⟨it, hL, ?_⟩
    rw [hT]
    exact hs _ _ _ (fun _ _ => rfl) hV h
  intro f
  induction f with
  | zero =>
    intro done fr σ s1 s2 hr hDj hs hV H
    refine ⟨fun h0 => (by rw [h0] at hr; cases hr), fun i hi => ?_⟩
    rcases Nat.decEq i j with hne | rfl
    · have := ready_mono hi hne
      rw [H.1] at this; cases this
    · exact here hs hV H
  | succ f ih =>
    intro done fr σ s1 s2 hr hDj hs hV H
    refine ⟨fun h0 => (by rw [h0] at hr; cases hr), fun i hi => ?_⟩
    rcases Nat.decEq i j with hne | rfl
    · obtain ⟨iti, hLi, hst⟩ := H.2 i (ready_mono hi hne)
      have hiu := (mem_ready.1 hi).1
      obtain ⟨_, oi, hoi, hdeps⟩ := mem_ready.1 hi
      have hisz : i < ops.size := (Array.getElem?_eq_some_iff.1 hoi).1
      have hDi : D.getD i false = true := by
        cases hd : D.getD i true with
        | false => exact (hne (hD1 i (mem_ready.2 ⟨hd, oi, hoi, fun e he hb => s2 _ (hdeps e he hb)⟩))).elim
        | true =>
          have hlt : i < D.size := by omega
          simp [hlt] at hd ⊢; exact hd
      obtain ⟨hapart, hTi⟩ := hap i iti hDi (s1 i hiu) hLi
      obtain ⟨a1, a2, a3⟩ := apartG_spec hapart
      rw [stepG_congr (fr' := fr) (updO_off' a1)] at hst
      refine ⟨iti, hLi, stepG_mono (stepG_keeps hst) fun u σ' ⟨hk, h⟩ => ?_⟩
      rw [Array.setIfInBounds_comm _ _ (Ne.symm hne), updO_comm a2] at h
      have hV' : V' σ' := by
        rcases hk with e | ⟨e, hv⟩
        · rw [e]; exact hV
        · exact hTi e _ hv
      refine ih (done.setIfInBounds i true) (updO fr iti.d u) σ' (fun k hk => ?_) (fun k hk => ?_) (ready_mono hr (Ne.symm hne)) hDj (fun fr' σ'' K' hfr hv hk => hs fr' σ'' K' (fun t ht => (hfr t ht).trans (updO_off' a3 t ht)) hv hk) hV' h
      · rcases Nat.decEq i k with hik | rfl
        · rw [getD_set_ne true hik] at hk; exact s1 k hk
        · exact s1 i hiu
      · rcases Nat.decEq i k with hik | rfl
        · rw [getD_set_ne false hik] at hk; exact s2 k hk
        · exact hDi
    · exact here hs hV H

/-! ### plans -/
def brs (L : GL) (rec : Nat → Option PT) : List Nat → Option PT
  | [] => none
  | [i] => match L[i]?, rec i with
    | some it, some p => some (.t it p)
    | _, _ => none
  | i :: is => match L[i]?, rec i, brs L rec is with
    | some it, some p, some q => some (.both (.t it p) q)
    | _, _, _ => none
def mkPlan (ops : Array Oper) (L : GL) (T : Nat → Bool) (nh : Bool) : Nat → Array Bool → Option PT
  | 0, done => if (Region.ready .any ops done).isEmpty then some .fin else none
  | f + 1, done => match (Region.ready .any ops done).find? (fun j => !T j) with
    | some j => match L[j]? with
      | some it => if okD ops L T done (closeD ops j ops.size done) j true then (mkPlan ops L T nh f (done.setIfInBounds j true)).map (.n it)
        else if pureR it.o && okD ops L T done (closeD ops j ops.size done) j false then (mkPlan ops L T nh f (done.setIfInBounds j true)).map (.n it)
        else if nh && okD ops L T done (closeD ops j ops.size done) j false then (mkPlan ops L T nh f (done.setIfInBounds j true)).map (.h it)
        else none
      | none => none
    | none => brs L (fun i => mkPlan ops L T nh f (done.setIfInBounds i true)) (Region.ready .any ops done)

/-- a guard, its slot set right -/
def gRunF (g : Option (Nat × Bool)) (fr : Fr) (run skip : Fr → Prop) : Prop :=
  match g with
  | none => run fr
  | some (s, b) => match fr s with
    | .lit (.bool t) => (t = b → run (upd fr s (.lit (.bool b)))) ∧ (t = !b → skip (upd fr s (.lit (.bool !b))))
    | .lit _ => skip fr
    | _ => False
theorem gRunF_out {g : Option (Nat × Bool)} {fr : Fr} {run skip : Fr → Prop} (h : gRunF g fr run skip) : gRun g fr (run fr) (skip fr) := by
  unfold gRunF at h
  unfold gRun
  split
  · exact h
  · rename_i s b
    dsimp only at h
    split at h
    · rename_i t ht
      refine ⟨fun e => ?_, fun e => ?_⟩
      · have := h.1 e
        rw [upd_at (by rw [ht, e])] at this
        exact this
      · have := h.2 e
        rw [upd_at (by rw [ht, e])] at this
        exact this
    · exact h
    · exact h.elim

def ptW (P : Program) (W0 : World) (C : List Blk → Prop → Prop) (F : List Nat) (σ0 : List Blk) (p : PT) : Fr → List Blk → (Fr → List Blk → Prop) → Prop :=
  PT.rec (motive := fun _ => Fr → List Blk → (Fr → List Blk → Prop) → Prop) (fun fr σ K => K fr σ)
    (fun it _ ih fr σ K => gRunF it.g fr (fun fr => qRun P W0 it.o fr σ fun v => fv v fun v => ih (updO fr it.d v) σ K) (fun fr => ih (updO fr it.d (.lit undef)) σ K))
    (fun it _ ih fr σ K => gRunF it.g fr (fun fr => hRun P W0 F σ0 it.o fr fun v => fv v fun v => ih (updO fr it.d v) σ K) (fun fr => ih (updO fr it.d (.lit undef)) σ K))
    (fun it _ ih fr σ K => gRunF it.g fr (fun fr => ropW P W0 it.o fr σ fun v σ' => C σ' (fv v fun v => ih (updO fr it.d v) σ' K)) (fun fr => ih (updO fr it.d (.lit undef)) σ K))
    (fun _ _ ia ib fr σ K => ia fr σ K ∧ ib fr σ K) p

theorem gRun_inv {g : Option (Nat × Bool)} {fr : Fr} {R S : (AV → Prop) → Prop} {X : AV → Prop} (hR : R X → ∃ v, X v ∧ ∀ K' : AV → Prop, K' v → S K') (h : gRun g fr (R X) (X (.lit undef))) :
    ∃ v, X v ∧ ∀ K' : AV → Prop, K' v → gRun g fr (S K') (K' (.lit undef)) := by
  unfold gRun at h
  split at h
  · obtain ⟨v, h1, h2⟩ := hR h
    exact ⟨v, h1, h2⟩
  · rename_i s b
    split at h
    · rename_i t ht
      by_cases e : t = b
      · obtain ⟨v, h1, h2⟩ := hR (h.1 e)
        refine ⟨v, h1, fun K' hk => ?_⟩
        unfold gRun; dsimp only; rw [ht]
        exact ⟨fun _ => h2 K' hk, fun e' => by subst e; cases t <;> cases e'⟩
      · have e' : t = !b := by cases t <;> cases b <;> simp_all
        refine ⟨_, h.2 e', fun K' hk => ?_⟩
        unfold gRun; dsimp only; rw [ht]
        exact ⟨fun e2 => (e e2).elim, fun _ => hk⟩
    · rename_i u hu hne
      refine ⟨_, h, fun K' hk => ?_⟩
      unfold gRun; dsimp only; rw [hne]
      cases u <;> first | exact hk | exact (hu _ rfl).elim
    · exact h.elim

theorem brs_sound {C : List Blk → Prop → Prop} {F : List Nat} {σ0 : List Blk} {rec : Nat → Option PT} {fr : Fr} {σ : List Blk} : ∀ {is : List Nat} {p : PT}, brs L rec is = some p → ptW P W0 C F σ0 p fr σ K → is ≠ [] ∧ ∀ i ∈ is, ∃ it q, L[i]? = some it ∧ rec i = some q ∧ ptW P W0 C F σ0 (.t it q) fr σ K
  | [], p, h, _ => by cases h
  | [i], p, h, hw => by
    unfold brs at h
    split at h
    · rename_i it q h1 h2
      cases h
      refine ⟨by simp, fun k hk => ?_⟩
      rw [List.mem_singleton.1 hk]
      exact ⟨it, q, h1, h2, hw⟩
    · cases h
  | i :: i' :: is, p, h, hw => by
    unfold brs at h
    split at h
    · rename_i it q q' h1 h2 h3
      cases h
      have hw' : ptW P W0 C F σ0 (.t it q) fr σ K ∧ ptW P W0 C F σ0 q' fr σ K := hw
      refine ⟨by simp, fun k hk => ?_⟩
      rcases List.mem_cons.1 hk with rfl | hk
      · exact ⟨it, q, h1, h2, hw'.1⟩
      · exact (brs_sound h3 hw'.2).2 k hk
    · cases h

theorem okD_spec {done D : Array Bool} {j : Nat} {quiet : Bool} {it : GI} (h : okD ops L T done D j quiet = true) (hL : L[j]? = some it) :
    (∀ i ∈ Region.ready .any ops D, i = j) ∧ D.size = ops.size ∧ D.getD j true = false ∧ (∀ k, k < ops.size → done.getD k false = true → D.getD k false = true) ∧
    ∀ i a, D.getD i false = true → done.getD i true = false → L[i]? = some a → apartG it a = true ∧ (quiet = true → T i = false) := by
  unfold okD at h
  simp only [Bool.and_eq_true, decide_eq_true_eq] at h
  obtain ⟨⟨⟨h1, h2⟩, h3⟩, h4⟩ := h
  have h4' := List.all_eq_true.1 h4
  refine ⟨fun i hi => by simpa using List.all_eq_true.1 h1 i hi, h2, h3, fun k hk hd => ?_, fun i a hD hd ha => ?_⟩
  · have := h4' k (List.mem_range.2 hk)
    simp only [Bool.and_eq_true, Bool.or_eq_true, Bool.not_eq_true'] at this
    rcases this.1 with e | e
    · rw [hd] at e; cases e
    · exact e
  · have hi : i < ops.size := by
      rcases Nat.lt_or_ge i D.size with h' | h'
      · omega
      · simp [Array.getElem?_eq_none h'] at hD
    have := h4' i (List.mem_range.2 hi)
    rw [hD, hd, ha, hL] at this
    simp only [Bool.not_true, Bool.false_or, Bool.and_eq_true, Bool.or_eq_true, Bool.not_eq_true'] at this
    exact ⟨this.2.1, fun hq => by rcases this.2.2 with e | e <;> simp_all⟩

theorem plan_sound {C : List Blk → Prop → Prop} (hC : ∀ σ' R, C σ' R → V σ' ∧ R) {F : List Nat} {σ0 : List Blk} {nh : Bool} (hsz : L.length = ops.size) (hnh : nh = true → V = varL F σ0 0) : ∀ (f : Nat) (done : Array Bool) (p : PT) (fr : Fr) (σ : List Blk), done.size = ops.size → mkPlan ops L T nh f done = some p → V σ →
    ptW P W0 C F σ0 p fr σ K → treeG P W0 ops L T V K f done fr σ
  | 0, done, p, fr, σ, hds, hp, hV, h => by
    unfold mkPlan at hp
    split at hp
    · rename_i he
      cases hp
      exact ⟨by simpa using he, h⟩
    · cases hp
  | f + 1, done, p, fr, σ, hds, hp, hV, h => by
    unfold mkPlan at hp
    split at hp
    · rename_i j hj
      have hjr : j ∈ Region.ready .any ops done := List.mem_of_find?_eq_some hj
      have hTj : T j = false := by simpa using List.find?_some hj
      split at hp
      · rename_i it hL
        split at hp
        · rename_i hok
          obtain ⟨q, hq, rfl⟩ := Option.map_eq_some_iff.1 hp
          obtain ⟨d1, d2, d3, d4, d5⟩ := okD_spec hok hL
          obtain ⟨v, hv, hst⟩ := gRun_inv (R := fun X => qRun P W0 it.o fr σ X) (S := fun X => qRun P W0 it.o fr σ X) (X := fun v => ptW P W0 C F σ0 q (updO fr it.d v) σ K) (fun hr => qRun_inv hr) (gRun_mono (gRunF_out (show gRunF it.g fr (fun fr => qRun P W0 it.o fr σ fun v => fv v fun v => ptW P W0 C F σ0 q (updO fr it.d v) σ K) (fun fr => ptW P W0 C F σ0 q (updO fr it.d (.lit undef)) σ K) from h)) (fun hr => qRun_mono hr fun v hv => fv_out hv) id)
          refine treeG_take (V' := fun σ' => σ' = σ) hL hTj d1 d2 (fun i a hD hd ha => ⟨(d5 i a hD hd ha).1, fun e => by rw [(d5 i a hD hd ha).2 rfl] at e; cases e⟩) f done fr σ (fun _ h => h) (fun k hk => ?_) hjr d3 (fun fr' σ' K' hfr hσ hk => ?_) rfl
            (plan_sound hC hsz hnh f _ q _ σ (by simpa using hds) hq hV hv)
          · refine d4 k ?_ hk
            rcases Nat.lt_or_ge k done.size with h' | h'
            · omega
            · simp [Array.getElem?_eq_none h'] at hk
          · subst hσ
            rw [stepG_congr hfr]
            exact hst (fun v => K' v σ') hk
        · split at hp
          · rename_i hok
            simp only [Bool.and_eq_true] at hok
            obtain ⟨hpu, hok⟩ := hok
            obtain ⟨q, hq, rfl⟩ := Option.map_eq_some_iff.1 hp
            obtain ⟨d1, d2, d3, d4, d5⟩ := okD_spec hok hL
            obtain ⟨v, hv, hst⟩ := gRun_inv (R := fun X => qRun P W0 it.o fr σ X) (S := fun X => ∀ σ', qRun P W0 it.o fr σ' X) (X := fun v => ptW P W0 C F σ0 q (updO fr it.d v) σ K) (fun hr => let ⟨v, h1, h2⟩ := qRun_pure hpu hr; ⟨v, h1, fun K' hk σ' => h2 σ' K' hk⟩) (gRun_mono (gRunF_out (show gRunF it.g fr (fun fr => qRun P W0 it.o fr σ fun v => fv v fun v => ptW P W0 C F σ0 q (updO fr it.d v) σ K) (fun fr => ptW P W0 C F σ0 q (updO fr it.d (.lit undef)) σ K) from h)) (fun hr => qRun_mono hr fun v hv => fv_out hv) id)
            refine treeG_take (V' := fun _ => True) hL hTj d1 d2 (fun i a hD hd ha => ⟨(d5 i a hD hd ha).1, fun _ _ _ => trivial⟩) f done fr σ (fun _ h => h) (fun k hk => ?_) hjr d3 (fun fr' σ' K' hfr hσ hk => ?_) trivial
              (plan_sound hC hsz hnh f _ q _ σ (by simpa using hds) hq hV hv)
            · refine d4 k ?_ hk
              rcases Nat.lt_or_ge k done.size with h' | h'
              · omega
              · simp [Array.getElem?_eq_none h'] at hk
            · rw [stepG_congr hfr]
              exact gRun_mono (hst (fun v => K' v σ') hk) (fun hr => hr σ') id
          · split at hp
            · rename_i hok
              simp only [Bool.and_eq_true] at hok
              obtain ⟨hn, hok⟩ := hok
              have hVe := hnh hn
              obtain ⟨q, hq, rfl⟩ := Option.map_eq_some_iff.1 hp
              obtain ⟨d1, d2, d3, d4, d5⟩ := okD_spec hok hL
              obtain ⟨v, hv, hst⟩ := gRun_inv (R := fun X => hRun P W0 F σ0 it.o fr X) (S := fun X => ∀ σ', varL F σ0 0 σ' → qRun P W0 it.o fr σ' X) (X := fun v => fv v fun v => ptW P W0 C F σ0 q (updO fr it.d v) σ K)
                (fun hr => let ⟨v, h1, h2⟩ := hRun_inv hr; ⟨v, h1, fun K' hk σ' hv => h2 σ' K' hv hk⟩) (gRun_mono (gRunF_out (show gRunF it.g fr (fun fr => hRun P W0 F σ0 it.o fr fun v => fv v fun v => ptW P W0 C F σ0 q (updO fr it.d v) σ K) (fun fr => ptW P W0 C F σ0 q (updO fr it.d (.lit undef)) σ K) from h)) id (fun hs => by rw [fv_eq]; exact hs))
              refine treeG_take (V' := V) hL hTj d1 d2 (fun i a hD hd ha => ⟨(d5 i a hD hd ha).1, fun _ _ h => h⟩) f done fr σ (fun _ h => h) (fun k hk => ?_) hjr d3 (fun fr' σ' K' hfr hσ hk => ?_) hV
                (plan_sound hC hsz hnh f _ q _ σ (by simpa using hds) hq hV (fv_out hv))
              · refine d4 k ?_ hk
                rcases Nat.lt_or_ge k done.size with h' | h'
                · omega
                · simp [Array.getElem?_eq_none h'] at hk
              · rw [stepG_congr hfr]
                rw [hVe] at hσ
                exact gRun_mono (hst (fun v => K' v σ') hk) (fun hr => hr σ' hσ) id
            · cases hp
      · cases hp
    · rename_i hnone
      obtain ⟨h1, h2⟩ := brs_sound hp h
      refine ⟨h1, fun i hi => ?_⟩
      obtain ⟨it, q, hL, hq, hw⟩ := h2 i hi
      have hT : T i = true := by simpa using List.find?_eq_none.1 hnone i hi
      refine ⟨it, hL, ?_⟩
      rw [hT]
      refine gRun_mono (gRunF_out (show gRunF it.g fr (fun fr => ropW P W0 it.o fr σ fun v σ' => C σ' (fv v fun v => ptW P W0 C F σ0 q (updO fr it.d v) σ' K)) (fun fr => ptW P W0 C F σ0 q (updO fr it.d (.lit undef)) σ K) from hw)) (fun hr => ropW_mono hr fun v σ' hc => let ⟨e1, e2⟩ := hC _ _ hc; ⟨e1, plan_sound hC hsz hnh f _ q _ σ' (by simpa using hds) hq e1 (fv_out e2)⟩)
        (fun hs => plan_sound hC hsz hnh f _ q _ σ (by simpa using hds) hq hV hs)
end

/-! ### the program's operations -/
def gslot (ops : Array Oper) : Option (Nat × Bool) → Option (Option (Nat × Bool))
  | none => some none
  | some (j, b) => ((ops[j]?).bind (·.dst)).map fun s => some (s, b)
def compG (P : Program) (n : Nat) (ops : Array Oper) : List Oper → Option GL
  | [] => some []
  | o :: rest => if dOKb n o.dst then match compOp P o.op, gslot ops o.guard, compG P n ops rest with
    | some r, some g, some l => some (⟨g, o.dst, r⟩ :: l)
    | _, _, _ => none
    else none

section
variable {P : Program} {W0 : World} {ι ι0 : Loc} {σ σ0 : List Blk} {n : Nat} {ops : Array Oper}

theorem compG_get : ∀ (l : List Oper) (L : GL), compG P n ops l = some L → L.length = l.length ∧ ∀ (i : Nat) (it : GI), L[i]? = some it → ∃ o, l[i]? = some o ∧ o.dst = it.d ∧ gslot ops o.guard = some it.g ∧ compOp P o.op = some it.o ∧ dOK n o.dst
  | [], L, h => by
    simp only [compG, Option.some.injEq] at h; subst h
    exact ⟨rfl, fun i it h => by simp at h⟩
  | o :: rest, L, h => by
    unfold compG at h
    split at h
    · rename_i hd
      split at h
      · rename_i r g l hr hg hl
        cases h
        obtain ⟨h1, h2⟩ := compG_get rest l hl
        refine ⟨by simp [h1], fun i it hi => ?_⟩
        cases i with
        | zero =>
          simp at hi
          subst hi
          exact ⟨o, rfl, rfl, hg, hr, dOKb_ok hd⟩
        | succ i => simpa using h2 i it (by simpa using hi)
      · cases h
    · cases h

theorem guard_of_gRun {fr : Fr} {g : Option (Nat × Bool)} {g' : Option (Nat × Bool)} {r s : Prop} (hg : gslot ops g = some g') (h : gRun g' fr r s) : guardW ops fr g r s := by
  unfold gslot at hg
  split at hg
  · cases hg; exact h
  · rename_i j b
    obtain ⟨d, hd, rfl⟩ := Option.map_eq_some_iff.1 hg
    unfold guardW
    dsimp only
    rw [hd]
    exact h

theorem wpAny_of_treeG {L : GL} {T : Nat → Bool} {V : List Blk → Prop} {ds : List Deferred} {K : Fr → List Blk → Prop} {Q : Exit → Act → World → Prop} (hL : compG P n ops ops.toList = some L) (hQ : ∀ a w, Post W0 ι0 σ0 n ds K a w → Q .normal a w) :
    ∀ (f : Nat) (done : Array Bool) (fr : Fr) (σ : List Blk) (ι : Loc) (a : Act) (w : World), treeG P W0 ops L T V K f done fr σ → HRel W0 ι σ w → FRel ι σ n fr a → Ext ι0 σ0 ι σ → a.defers = ds → wpAny P .any ops Q f done a w
  | 0, done, fr, σ, ι, a, w, h, hh, hf, hx, hd => ⟨h.1, hQ _ _ ⟨ι, σ, fr, h.2, hh, hf, hx, hd⟩⟩
  | f + 1, done, fr, σ, ι, a, w, h, hh, hf, hx, hd => by
    refine ⟨fun h0 => (h.1 h0).elim, fun i hi => ?_⟩
    obtain ⟨it, hLi, hst⟩ := h.2 i hi
    obtain ⟨o, ho, hdst, hg, hr, hdo⟩ := (compG_get _ _ hL).2 i it hLi
    have ho' : ops[i]? = some o := by simpa using ho
    rw [← hdst] at hst
    have hgw : guardW ops fr o.guard (opW P W0 o.op (evA fr) σ fun v σ' => treeG P W0 ops L T V K f (done.setIfInBounds i true) (updO fr o.dst v) σ') (treeG P W0 ops L T V K f (done.setIfInBounds i true) (updO fr o.dst (.lit undef)) σ) := by
      refine guard_of_gRun hg (gRun_mono hst (fun hrun => compOp_sound hr ?_) id)
      cases hb : T i with
      | true => rw [hb] at hrun; exact ropW_mono hrun fun v σ' h => h.2
      | false => rw [hb] at hrun; exact ropW_mono (qRun_ropW hrun) fun v σ' ⟨e, h⟩ => e ▸ h
    unfold wpOp
    rw [ho']
    dsimp only
    rcases guardW_sound hgw hf o rfl with ⟨hw, hop⟩ | ⟨hw, hsk⟩
    · rw [if_pos hw]
      refine .inl (opW_sound hop hh hf.eval fun v w' ι' σ' av h2 h3 h4 h5 => ?_)
      exact wpAny_of_treeG hL hQ f _ _ σ' ι' _ w' h2 h3 ((hf.mono h4).put hdo h5) (hx.trans h4) (by rw [put_defers]; exact hd)
    · rw [if_neg (by rw [hw]; exact Bool.false_ne_true)]
      exact wpAny_of_treeG hL hQ f _ _ σ ι _ w hsk hh (hf.put hdo (v := .lit undef) rfl) hx (by rw [put_defers]; exact hd)

/-- the blocks that a plan's stores write -/
noncomputable def stF (p : PT) (fr : Fr) : List Nat :=
  PT.rec (motive := fun _ => List Nat) [] (fun _ _ ih => ih) (fun _ _ ih => ih) (fun it _ ih => match it.o with
    | .store _ (.t a) _ => match fr a with
      | .ptr b _ _ => b :: ih
      | _ => ih
    | _ => ih) (fun _ _ ia _ => ia) p
/-- a region by its plan -/
def anyR (P : Program) (W0 : World) (nh : Bool) (p : PT) (fr : Fr) (σ : List Blk) (K : Fr → List Blk → Prop) : Prop :=
  match nh with
  | true => ptW P W0 (fun σ' R => varC (stF p fr) σ R 0 σ') (stF p fr) σ p fr σ K
  | false => ptW P W0 (fun _ R => R) [] [] p fr σ K

theorem wp_region_plan {id : Nat} {L : GL} {T : Nat → Bool} {nh : Bool} {p : PT} {ds : List Deferred} {K : Fr → List Blk → Prop} {Q : Exit → Act → World → Prop} {fr : Fr} {a : Act} {w : World} (hm : P.follows .mixedOrders = true) (hL : compG P n ops ops.toList = some L)
    (hp : mkPlan ops L T nh ops.size (Array.replicate ops.size false) = some p) (hQ : ∀ a w, Post W0 ι0 σ0 n ds K a w → Q .normal a w)
    (h : anyR P W0 nh p fr σ K) (hh : HRel W0 ι σ w) (hf : FRel ι σ n fr a) (hx : Ext ι0 σ0 ι σ) (hd : a.defers = ds) : (Code.region id ops true).wp P Q a w := by
  have hsz : L.length = ops.size := by have := (compG_get _ _ hL).1; simpa using this
  cases nh with
  | true =>
    have ht := plan_sound (P := P) (W0 := W0) (ops := ops) (L := L) (T := T) (V := varL (stF p fr) σ 0) (K := K) (fun _ _ h => varC_spec h) hsz (fun _ => rfl) ops.size _ p fr σ (by simp) hp (varL_refl _ _ _) h
    exact wp_region_any hm (wpAny_of_treeG hL hQ _ _ _ _ _ _ _ ht hh.drew hf hx hd)
  | false =>
    have ht := plan_sound (P := P) (W0 := W0) (ops := ops) (L := L) (T := T) (V := fun _ => True) (K := K) (fun _ _ h => ⟨trivial, h⟩) hsz (fun e => by cases e) ops.size _ p fr σ (by simp) hp trivial h
    exact wp_region_any hm (wpAny_of_treeG hL hQ _ _ _ _ _ _ _ ht hh.drew hf hx hd)
end
end Go.Proofs.YtlmplfgnhibfcaaDoor.Abs
