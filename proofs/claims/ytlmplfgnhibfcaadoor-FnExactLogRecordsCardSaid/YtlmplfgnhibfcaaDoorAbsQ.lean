/- The abstract logic, part Q: a region that draws its order: its head may be taken in the order of the text. -/
import Derived.Test.YtlmplfgnhibfcaaDoorAbsO
set_option linter.unusedVariables false
set_option linter.unusedSimpArgs false
namespace Go.Proofs.YtlmplfgnhibfcaaDoor.Abs
open Go Go.RowKit

abbrev DL := List (Option Nat × ROp)

theorem callW_fn {P : Program} {W0 : World} {g : FuncId} {args : List AV} {σ : List Blk} {K : Cont} (h : ACall P W0 g args σ K) : callW P W0 (.lit (.func (.func g) #[] #[])) args σ K := ⟨rfl, rfl, h⟩

/-- an operation of the head: it looks, or calls what leaves no trace -/
def hOne (P : Program) (W0 : World) (o : ROp) (fr : Fr) (σ : List Blk) (K : AV → Prop) : Prop :=
  match o with
  | .call f args => fL (args.map (RA.ev fr)) fun vs => ∃ r, (∀ τ, callW P W0 (f.ev fr) vs (σ ++ τ) fun v σ' => v = r ∧ σ' = σ ++ τ) ∧ K r
  | o => looksR o = true ∧ ropW P W0 o fr σ fun v _ => K v
def stepR (P : Program) (W0 : World) (b : Bool) (o : ROp) (fr : Fr) (σ : List Blk) (K : Cont) : Prop :=
  match b with
  | true => hOne P W0 o fr σ fun v => K v σ
  | false => ropW P W0 o fr σ K
def tree (P : Program) (W0 : World) (ops : Array Oper) (L : DL) (n : Nat) (K : Fr → List Blk → Prop) : Nat → Array Bool → Fr → List Blk → Prop
  | 0, done, fr, σ => Region.ready .any ops done = [] ∧ K fr σ
  | f + 1, done, fr, σ => Region.ready .any ops done ≠ [] ∧ ∀ i ∈ Region.ready .any ops done, ∃ d o, L[i]? = some (d, o) ∧ stepR P W0 (decide (i < n)) o fr σ fun v σ' => tree P W0 ops L n K f (done.setIfInBounds i true) (updO fr d v) σ'

def apartR (dj : Option Nat) (oj : ROp) (di : Option Nat) (oi : ROp) : Bool :=
  (match dj with
    | some d => !(slotsR oi).contains d && di != some d
    | none => true) &&
  (match di with
    | some d => !(slotsR oj).contains d
    | none => true)
def freeD (ops : Array Oper) (L : DL) (done : Array Bool) (j : Nat) : Bool :=
  match L[j]? with
  | some (dj, oj) => (List.range ops.size).all fun i => i == j || done.getD i true || Region.waitsFor .any ops i j || match L[i]? with
    | some (di, oi) => apartR dj oj di oi
    | none => true
  | none => false
def allocR : ROp → Bool
  | .alloc _ _ => true
  | _ => false
def condD (ops : Array Oper) (L : DL) (n j : Nat) : Bool :=
  match L[j]? with
  | some (_, oj) => pureR oj || (List.range ops.size).all fun t => decide (t < n) || Region.waitsFor .any ops t j || match L[t]? with
    | some (_, ot) => allocR ot
    | none => false
  | none => false
def lexD (ops : Array Oper) (L : DL) (n g : Nat) : Nat → Nat → Array Bool → Bool
  | 0, k, done => Region.seqB .any ops g k done
  | f + 1, k, done => (Region.ready .any ops done).contains k && freeD ops L done k && condD ops L n k && lexD ops L n g f (k + 1) (done.setIfInBounds k true)

section
variable {P : Program} {W0 : World} {ops : Array Oper} {L : DL} {n : Nat} {K : Fr → List Blk → Prop}

theorem hOne_congr {o : ROp} {fr fr' : Fr} {σ : List Blk} {K : AV → Prop} (h : ∀ t ∈ slotsR o, fr t = fr' t) : hOne P W0 o fr σ K = hOne P W0 o fr' σ K := by
  unfold hOne
  split
  · rename_i f args
    have e1 := ev_congr (x := f) fun t ht => h t (by simp only [slotsR]; exact List.mem_append_left _ ht)
    have e2 := evs_congr (l := args) fun t ht => h t (by simp only [slotsR]; exact List.mem_append_right _ ht)
    simp only [e1, e2]
  · rw [ropW_congr h]
theorem stepR_congr {b : Bool} {o : ROp} {fr fr' : Fr} {σ : List Blk} {K : Cont} (h : ∀ t ∈ slotsR o, fr t = fr' t) : stepR P W0 b o fr σ K = stepR P W0 b o fr' σ K := by
  cases b with
  | true => exact hOne_congr h
  | false => exact ropW_congr h

/-- the value of an operation of the head stays, whatever blocks are added; a plain one's, whatever the blocks are -/
theorem hOne_inv {o : ROp} {fr : Fr} {σ : List Blk} {K : AV → Prop} (h : hOne P W0 o fr σ K) :
    ∃ v, K v ∧ ∀ (σ' : List Blk) (K' : AV → Prop), (pureR o = true ∨ ∃ τ, σ' = σ ++ τ) → K' v → hOne P W0 o fr σ' K' := by
  unfold hOne at h
  split at h
  · rename_i f args
    rw [fL_eq] at h
    obtain ⟨r, h1, h2⟩ := h
    refine ⟨r, h2, fun σ' K' hσ hk => ?_⟩
    unfold hOne
    dsimp only
    rw [fL_eq]
    rcases hσ with hp | ⟨τ, rfl⟩
    · simp [pureR] at hp
    · exact ⟨r, fun τ' => by rw [List.append_assoc]; exact h1 _, hk⟩
  · rename_i hne
    obtain ⟨hl, h⟩ := h
    by_cases hp : pureR o = true
    · obtain ⟨v, h1, h2⟩ := ropW_lp hp h
      refine ⟨v, h1, fun σ' K' _ hk => ?_⟩
      unfold hOne
      split
      · exact (hne _ _ rfl).elim
      · exact ⟨hl, h2 σ' (fun v _ => K' v) hk⟩
    · obtain ⟨v, h1, h2⟩ := ropW_lx hl h
      refine ⟨v, h1, fun σ' K' hσ hk => ?_⟩
      rcases hσ with hp' | ⟨τ, rfl⟩
      · exact (hp hp').elim
      · unfold hOne
        split
        · exact (hne _ _ rfl).elim
        · exact ⟨hl, h2 τ (fun v _ => K' v) hk⟩
theorem hOne_mono {o : ROp} {fr : Fr} {σ : List Blk} {K K' : AV → Prop} (h : hOne P W0 o fr σ K) (hk : ∀ v, K v → K' v) : hOne P W0 o fr σ K' := by
  obtain ⟨v, h1, h2⟩ := hOne_inv h
  exact h2 σ K' (.inr ⟨[], by simp⟩) (hk v h1)
theorem stepR_mono {b : Bool} {o : ROp} {fr : Fr} {σ : List Blk} {K K' : Cont} (h : stepR P W0 b o fr σ K) (hk : ∀ v σ', K v σ' → K' v σ') : stepR P W0 b o fr σ K' := by
  cases b with
  | true => exact hOne_mono h fun v => hk v σ
  | false => exact ropW_mono h hk

theorem apartR_spec {dj di : Option Nat} {oj oi : ROp} (h : apartR dj oj di oi = true) : (∀ d, dj = some d → d ∉ slotsR oi) ∧ (∀ d, dj = some d → di ≠ some d) ∧ (∀ d, di = some d → d ∉ slotsR oj) := by
  unfold apartR at h
  rw [Bool.and_eq_true] at h
  refine ⟨fun d hd => ?_, fun d hd => ?_, fun d hd => ?_⟩
  · subst hd; simp at h; exact h.1.1
  · subst hd; simp at h; exact fun e => h.1.2 e
  · subst hd; simp at h; exact h.2

theorem updO_comm {fr : Fr} {di dj : Option Nat} {u v : AV} (h : ∀ d, dj = some d → di ≠ some d) : updO (updO fr dj v) di u = updO (updO fr di u) dj v := by
  cases dj with
  | none => rfl
  | some b =>
    cases di with
    | none => rfl
    | some a =>
      have hne : a ≠ b := fun e => h b rfl (by rw [e])
      funext t
      simp only [updO, upd]
      by_cases h1 : t = a
      · by_cases h2 : t = b
        · exact (hne (h1.symm.trans h2)).elim
        · simp [h1, hne]
      · by_cases h2 : t = b
        · simp [h2, Ne.symm hne]
        · simp [h1, h2]
theorem updO_off {fr : Fr} {d : Option Nat} {v : AV} {o : ROp} (h : ∀ x, d = some x → x ∉ slotsR o) : ∀ t ∈ slotsR o, updO fr d v t = fr t := fun t ht => by
  cases d with
  | none => rfl
  | some x =>
    have : t ≠ x := fun e => h x rfl (e ▸ ht)
    simp [updO, upd, this]

theorem waits_undone {done : Array Bool} {i j : Nat} (hi : i ∈ Region.ready .any ops done) (hj : j ∈ Region.ready .any ops done) : Region.waitsFor .any ops i j = false := by
  cases hw : Region.waitsFor .any ops i j with
  | false => rfl
  | true =>
    obtain ⟨o, ho, e, he, hb, hon⟩ := Region.waitsFor_spec hw
    obtain ⟨_, o', ho', hall⟩ := mem_ready.1 hi
    rw [ho] at ho'; cases ho'
    have h1 := hall e he hb
    rw [hon] at h1
    have h2 := getD_both (mem_ready.1 hj).1
    rw [h1] at h2; cases h2

/-- An operation of the head that may come up may be taken first. -/
theorem tree_take {j : Nat} {dj : Option Nat} {oj : ROp} {v : AV} (hL : L[j]? = some (dj, oj)) (hjn : j < n) (hc : condD ops L n j = true) : ∀ (f : Nat) (done : Array Bool) (fr : Fr) (σ : List Blk),
    j ∈ Region.ready .any ops done → freeD ops L done j = true → (∀ (fr' : Fr) (σ' : List Blk) (K' : AV → Prop), (∀ t ∈ slotsR oj, fr' t = fr t) → (pureR oj = true ∨ ∃ τ, σ' = σ ++ τ) → K' v → hOne P W0 oj fr' σ' K') →
    tree P W0 ops L n K f (done.setIfInBounds j true) (updO fr dj v) σ → tree P W0 ops L n K (f + 1) done fr σ := by
  have here : ∀ {f : Nat} {done : Array Bool} {fr : Fr} {σ : List Blk}, (∀ (fr' : Fr) (σ' : List Blk) (K' : AV → Prop), (∀ t ∈ slotsR oj, fr' t = fr t) → (pureR oj = true ∨ ∃ τ, σ' = σ ++ τ) → K' v → hOne P W0 oj fr' σ' K') →
      tree P W0 ops L n K f (done.setIfInBounds j true) (updO fr dj v) σ → ∃ d o, L[j]? = some (d, o) ∧ stepR P W0 (decide (j < n)) o fr σ fun v σ' => tree P W0 ops L n K f (done.setIfInBounds j true) (updO fr d v) σ' := fun hs h => by
    refine ⟨dj, oj, hL, ?_⟩
    rw [decide_eq_true hjn]
    exact hs _ _ _ (fun _ _ => rfl) (.inr ⟨[], by simp⟩) h
  intro f
  induction f with
  | zero =>
    intro done fr σ hr hfree hs H
    refine ⟨fun h0 => (by rw [h0] at hr; cases hr), fun i hi => ?_⟩
    rcases Nat.decEq i j with hne | rfl
    · have := ready_mono hi hne
      rw [H.1] at this; cases this
    · exact here hs H
  | succ f ih =>
    intro done fr σ hr hfree hs H
    refine ⟨fun h0 => (by rw [h0] at hr; cases hr), fun i hi => ?_⟩
    rcases Nat.decEq i j with hne | rfl
    · obtain ⟨di, oi, hLi, hst⟩ := H.2 i (ready_mono hi hne)
      have hiu := (mem_ready.1 hi).1
      have hisz : i < ops.size := by
        obtain ⟨_, o, ho, _⟩ := mem_ready.1 hi
        exact (Array.getElem?_eq_some_iff.1 ho).1
      have hw := waits_undone hi hr
      have hap : apartR dj oj di oi = true := by
        unfold freeD at hfree
        rw [hL] at hfree
        have := List.all_eq_true.1 hfree i (List.mem_range.2 hisz)
        rw [hw, hiu, hLi] at this
        simpa [hne] using this
      obtain ⟨a1, a2, a3⟩ := apartR_spec hap
      rw [stepR_congr (fr' := fr) (updO_off a1)] at hst
      have hgrow : stepR P W0 (decide (i < n)) oi fr σ fun u σ' => (pureR oj = true ∨ ∃ τ, σ' = σ ++ τ) ∧ tree P W0 ops L n K f ((done.setIfInBounds j true).setIfInBounds i true) (updO (updO fr dj v) di u) σ' := by
        by_cases hp : pureR oj = true
        · exact stepR_mono hst fun u σ' h => ⟨.inl hp, h⟩
        · by_cases hin : i < n
          · rw [decide_eq_true hin] at hst ⊢
            exact hOne_mono hst fun u h => ⟨.inr ⟨[], by simp⟩, h⟩
          · rw [decide_eq_false hin] at hst ⊢
            have hal : allocR oi = true := by
              unfold condD at hc
              rw [hL] at hc
              simp only [Bool.or_eq_true] at hc
              rcases hc with hc | hc
              · exact (hp hc).elim
              · have := List.all_eq_true.1 hc i (List.mem_range.2 hisz)
                rw [hw, hLi] at this
                simpa [hin] using this
            cases oi <;> simp [allocR] at hal
            unfold stepR ropW at hst ⊢
            simp only [fS_eq] at hst ⊢
            exact ⟨.inr ⟨_, rfl⟩, hst⟩
      refine ⟨di, oi, hLi, stepR_mono hgrow fun u σ' ⟨hσ, h⟩ => ?_⟩
      rw [Array.setIfInBounds_comm _ _ (Ne.symm hne), updO_comm a2] at h
      refine ih (done.setIfInBounds i true) (updO fr di u) σ' (ready_mono hr (Ne.symm hne)) ?_ ?_ h
      · unfold freeD at hfree ⊢
        rw [hL] at hfree ⊢
        rw [List.all_eq_true] at hfree ⊢
        intro k hk
        have h1 := hfree k hk
        simp only [Bool.or_eq_true] at h1 ⊢
        rcases h1 with ((h1 | h1) | h1) | h1
        · exact .inl (.inl (.inl h1))
        · refine .inl (.inl (.inr ?_))
          rcases Nat.decEq i k with hik | rfl
          · rw [getD_set_ne true hik]; exact h1
          · have : i < done.size ∨ done.size ≤ i := Nat.lt_or_ge _ _
            rcases this with hlt | hge
            · simp [hlt]
            · simp [hge]
        · exact .inl (.inr h1)
        · exact .inr h1
      · intro fr' σ'' K' hfr hσ' hk
        refine hs fr' σ'' K' (fun t ht => (hfr t ht).trans (updO_off a3 t ht)) ?_ hk
        rcases hσ' with hp | ⟨τ', rfl⟩
        · exact .inl hp
        · rcases hσ with hp | ⟨τ, rfl⟩
          · exact .inl hp
          · exact .inr ⟨τ ++ τ', by rw [List.append_assoc]⟩
    · exact here hs H

/-- the head in the order of the text, then the tail -/
def hR (P : Program) (W0 : World) (l : DL) : Fr → List Blk → (Fr → Prop) → Prop :=
  List.rec (motive := fun _ => Fr → List Blk → (Fr → Prop) → Prop) (fun fr σ K => K fr)
    (fun o _ ih fr σ K => hOne P W0 o.2 fr σ fun av => fv av fun av => ih (updO fr o.1 av) σ K) l
theorem hR_cons {d : Option Nat} {o : ROp} {rest : DL} {fr : Fr} {σ : List Blk} {K : Fr → Prop} : hR P W0 ((d, o) :: rest) fr σ K = hOne P W0 o fr σ fun av => fv av fun av => hR P W0 rest (updO fr d av) σ K := rfl

theorem tree_of_seq : ∀ (l : DL) (k : Nat) (done : Array Bool) (fr : Fr) (σ : List Blk), n ≤ k → (∀ j, l[j]? = L[k + j]?) → Region.seqB .any ops l.length k done = true → runB P W0 l fr σ K → tree P W0 ops L n K l.length done fr σ
  | [], k, done, fr, σ, hn, hl, hB, h => ⟨by simpa [Region.seqB] using hB, h⟩
  | (d, o) :: l, k, done, fr, σ, hn, hl, hB, h => by
    have h0 : L[k]? = some (d, o) := by simpa using (hl 0).symm
    simp only [List.length_cons, Region.seqB, Bool.and_eq_true, decide_eq_true_eq] at hB
    refine ⟨by rw [hB.1]; simp, fun i hi => ?_⟩
    rw [hB.1] at hi
    obtain rfl : i = k := by simpa using hi
    refine ⟨d, o, h0, ?_⟩
    rw [decide_eq_false (by omega)]
    rw [runB_cons] at h
    unfold stepR
    dsimp only
    refine ropW_mono h fun v σ' hk => ?_
    exact tree_of_seq l (i + 1) _ _ _ (by omega) (fun j => by have := hl (j + 1); simpa [Nat.add_assoc, Nat.add_comm 1 j] using this) hB.2 (fv_out hk)

theorem tree_of_lex {g : Nat} {tl : DL} (htl : ∀ j, tl[j]? = L[n + j]?) (hg : tl.length = g) : ∀ (l : DL) (k : Nat) (done : Array Bool) (fr : Fr) (σ : List Blk), (∀ j, j < l.length → l[j]? = L[k + j]?) → k + l.length = n → lexD ops L n g l.length k done = true →
    hR P W0 l fr σ (fun fr => runB P W0 tl fr σ K) → tree P W0 ops L n K (l.length + g) done fr σ
  | [], k, done, fr, σ, hl, hk, hB, h => by
    obtain rfl : k = n := by simpa using hk
    subst hg
    rw [show ([] : DL).length + tl.length = tl.length by simp]
    exact tree_of_seq tl k done fr σ (Nat.le_refl _) htl (by simpa [lexD] using hB) h
  | (d, o) :: l, k, done, fr, σ, hl, hk, hB, h => by
    have h0 : L[k]? = some (d, o) := by have := hl 0 (by simp); simpa using this.symm
    simp only [List.length_cons, lexD, Bool.and_eq_true] at hB
    obtain ⟨⟨⟨hr, hf⟩, hc⟩, hB⟩ := hB
    have hkn : k < n := by simp only [List.length_cons] at hk; omega
    rw [hR_cons] at h
    obtain ⟨v, h1, h2⟩ := hOne_inv h
    rw [show ((d, o) :: l).length + g = (l.length + g) + 1 by simp only [List.length_cons]; omega]
    refine tree_take h0 hkn hc _ done fr σ (by simpa using hr) hf (fun fr' σ' K' hfr hσ hk => ?_) (tree_of_lex htl hg l (k + 1) _ _ _ (fun j hj => by have := hl (j + 1) (by simp; omega); simpa [Nat.add_assoc, Nat.add_comm 1 j] using this) (by simp only [List.length_cons] at hk; omega) hB (fv_out h1))
    rw [hOne_congr hfr]
    exact h2 σ' K' hσ hk
end

/-! ### the program's operations -/
def compD (P : Program) (n : Nat) : List Oper → Option DL
  | [] => some []
  | o :: rest => if dOKb n o.dst && o.guard.isNone then match compOp P o.op, compD P n rest with
    | some r, some l => some ((o.dst, r) :: l)
    | _, _ => none
    else none

section
variable {P : Program} {W0 : World} {ι ι0 : Loc} {σ σ0 : List Blk} {n : Nat} {ops : Array Oper}

theorem compD_get : ∀ (l : List Oper) (L : DL), compD P n l = some L → L.length = l.length ∧ ∀ (i : Nat) (d : Option Nat) (r : ROp), L[i]? = some (d, r) → ∃ o, l[i]? = some o ∧ o.dst = d ∧ o.guard = none ∧ compOp P o.op = some r ∧ dOK n o.dst
  | [], L, h => by
    simp only [compD, Option.some.injEq] at h; subst h
    exact ⟨rfl, fun i d r h => by simp at h⟩
  | o :: rest, L, h => by
    unfold compD at h
    split at h
    · rename_i hd
      simp only [Bool.and_eq_true] at hd
      split at h
      · rename_i r l hr hl
        cases h
        obtain ⟨h1, h2⟩ := compD_get rest l hl
        refine ⟨by simp [h1], fun i d r' hi => ?_⟩
        cases i with
        | zero =>
          simp at hi
          obtain ⟨rfl, rfl⟩ := hi
          exact ⟨o, rfl, rfl, by cases hg : o.guard <;> simp [hg] at hd ⊢, hr, dOKb_ok hd.1⟩
        | succ i => simpa using h2 i d r' (by simpa using hi)
      · cases h
    · cases h

theorem wpAny_of_tree {L : DL} {m : Nat} {ds : List Deferred} {K : Fr → List Blk → Prop} {Q : Exit → Act → World → Prop} (hL : compD P n ops.toList = some L) (hQ : ∀ a w, Post W0 ι0 σ0 n ds K a w → Q .normal a w) :
    ∀ (f : Nat) (done : Array Bool) (fr : Fr) (σ : List Blk) (ι : Loc) (a : Act) (w : World), tree P W0 ops L m K f done fr σ → HRel W0 ι σ w → FRel ι σ n fr a → Ext ι0 σ0 ι σ → a.defers = ds → wpAny P .any ops Q f done a w
  | 0, done, fr, σ, ι, a, w, h, hh, hf, hx, hd => ⟨h.1, hQ _ _ ⟨ι, σ, fr, h.2, hh, hf, hx, hd⟩⟩
  | f + 1, done, fr, σ, ι, a, w, h, hh, hf, hx, hd => by
    refine ⟨fun h0 => (h.1 h0).elim, fun i hi => ?_⟩
    obtain ⟨d, r, hLi, hst⟩ := h.2 i hi
    obtain ⟨o, ho, rfl, hg, hr, hdo⟩ := (compD_get _ _ hL).2 i d r hLi
    have ho' : ops[i]? = some o := by simpa using ho
    have hop : opW P W0 o.op (evA fr) σ fun v σ' => tree P W0 ops L m K f (done.setIfInBounds i true) (updO fr o.dst v) σ' := by
      refine compOp_sound hr ?_
      cases hb : decide (i < m) with
      | false => rw [hb] at hst; exact hst
      | true =>
        rw [hb] at hst
        unfold stepR hOne at hst
        dsimp only at hst
        split at hst
        · rename_i fn args
          rw [fL_eq] at hst
          obtain ⟨q, h1, h2⟩ := hst
          have h3 := h1 []
          rw [List.append_nil] at h3
          simp only [ropW, fL_eq]
          refine callW_mono h3 fun v σ' ⟨e1, e2⟩ => ?_
          rw [e1, e2]; exact h2
        · obtain ⟨hl, h1⟩ := hst
          obtain ⟨v, h2, h3⟩ := ropW_ld hl h1
          exact h3 _ h2
    unfold wpOp
    rw [ho']
    dsimp only
    have hwant : Region.wanted o (yielded ops a.tmps) = true := by unfold Region.wanted; rw [hg]
    rw [if_pos hwant]
    refine .inl (opW_sound hop hh hf.eval fun v w' ι' σ' av h2 h3 h4 h5 => ?_)
    exact wpAny_of_tree hL hQ f _ _ σ' ι' _ w' h2 h3 ((hf.mono h4).put hdo h5) (hx.trans h4) (by rw [put_defers]; exact hd)

theorem wp_region_lexD {id m : Nat} {L : DL} {ds : List Deferred} {K : Fr → List Blk → Prop} {Q : Exit → Act → World → Prop} {fr : Fr} {a : Act} {w : World} (hm : P.follows .mixedOrders = true) (hL : compD P n ops.toList = some L) (hmn : m ≤ L.length)
    (hB : lexD ops L m (L.length - m) m 0 (Array.replicate ops.size false) = true) (hQ : ∀ a w, Post W0 ι0 σ0 n ds K a w → Q .normal a w)
    (h : hR P W0 (L.take m) fr σ fun fr => runB P W0 (L.drop m) fr σ K) (hh : HRel W0 ι σ w) (hf : FRel ι σ n fr a) (hx : Ext ι0 σ0 ι σ) (hd : a.defers = ds) : (Code.region id ops true).wp P Q a w := by
  have hsz : L.length = ops.size := by have := (compD_get _ _ hL).1; simpa using this
  have htk : (L.take m).length = m := by simp; omega
  have ht := tree_of_lex (P := P) (W0 := W0) (ops := ops) (L := L) (n := m) (K := K) (g := L.length - m) (tl := L.drop m) (fun j => by rw [List.getElem?_drop]) (by simp) (L.take m) 0 (Array.replicate ops.size false) fr σ
    (fun j hj => by rw [htk] at hj; rw [List.getElem?_take, if_pos hj, Nat.zero_add]) (by rw [htk, Nat.zero_add]) (by rw [htk]; exact hB) h
  rw [htk, show m + (L.length - m) = ops.size by omega] at ht
  exact wp_region_any hm (wpAny_of_tree hL hQ _ _ _ _ _ _ _ ht hh.drew hf hx hd)
end
end Go.Proofs.YtlmplfgnhibfcaaDoor.Abs
