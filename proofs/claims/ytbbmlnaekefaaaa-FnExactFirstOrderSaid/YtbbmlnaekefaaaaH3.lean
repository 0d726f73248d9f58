import Derived.LoopN
import Derived.Test.YtbbmlnaekefaaaaRows
import Derived.WalkKit
import Derived.ProofKit
import Derived.OpenShut
import Derived.ShutString
import Derived.ChangeOld
import Derived.Below
import Derived.Deep.Slices
import Derived.Test.YtbbmlnaekefaaaaProg
import Derived.Test.YtbbmlnaekefaaaaH2
section
/- The abstract logic, part N: a function's resolved code; rounds of a loop; a function by its resolved code. -/
set_option linter.unusedVariables false
set_option linter.unusedSimpArgs false
namespace Go.Proofs.Ytbbmlnaekefaaaa.Abs
open Go Go.RowKit
inductive RC where
  | skip
  | seq (a b : RC)
  | cond (c : RA) (a b : RC)
  | block (id : Nat) (c : RC)
  | exit (id : Nat)
  | loop (c : RC)
  | ret
  | scope (c : RC)
  | reg (is : List RI)
  | quiet (head tail : List RI)
  | draw (head tail : DL)
  | any (nh : Bool) (p : PT)
  | dead
def roundsR (body : Fr → List Blk → CPost → Prop) (k : Nat) : Fr → List Blk → CPost → Prop :=
  Nat.rec (motive := fun _ => Fr → List Blk → CPost → Prop) (fun _ _ _ => False) (fun _ ih fr σ Q => body fr σ fun e fr' σ' => match e with
    | .normal => ih fr' σ' Q
    | e => Q e fr' σ') k
/-- A loop: so and so many rounds at most, or by what holds at each round's head. -/
inductive LoopR (b0 : Nat) (body : Fr → List Blk → CPost → Prop) (fr : Fr) (σ : List Blk) (Q : CPost) : Prop
  | unroll (k : Nat) (h : roundsR body k fr σ Q)
  | inv (h : LoopW b0 body fr σ Q)
def rW (P : Program) (W0 : World) (b0 : Nat) (r : RC) : Fr → List Blk → CPost → Prop :=
  RC.rec (motive := fun _ => Fr → List Blk → CPost → Prop)
    (fun fr σ Q => Q .normal fr σ)
    (fun _ _ ia ib fr σ Q => ia fr σ fun e fr σ => match e with
      | .normal => ib fr σ Q
      | e => Q e fr σ)
    (fun c _ _ ia ib fr σ Q => match c.ev fr with
      | .lit (.bool t) => (t = true → ia fr σ Q) ∧ (t = false → ib fr σ Q)
      | _ => False)
    (fun id _ ic fr σ Q => ic fr σ fun e fr σ => match e with
      | .exit i => if i = id then Q .normal fr σ else Q (.exit i) fr σ
      | e => Q e fr σ)
    (fun id fr σ Q => Q (.exit id) fr σ)
    (fun _ ic fr σ Q => LoopR b0 ic fr σ Q)
    (fun fr σ Q => Q .ret fr σ)
    (fun _ ic fr σ Q => ic fr σ fun e fr σ => match e with
      | .goto _ => False
      | e => Q e fr σ)
    (fun is fr σ Q => riW P W0 is fr σ (Q .normal))
    (fun head tail fr σ Q => qR P W0 head fr σ fun fr => riW P W0 tail fr σ (Q .normal))
    (fun head tail fr σ Q => hR P W0 head fr σ fun fr => runB P W0 tail fr σ (Q .normal))
    (fun nh p fr σ Q => anyR P W0 nh p fr σ (Q .normal))
    (fun _ _ _ => False) r
theorem rW_cond {P : Program} {W0 : World} {b0 : Nat} {c : RA} {a b : RC} {fr : Fr} {σ : List Blk} {Q : CPost} : rW P W0 b0 (.cond c a b) fr σ Q = match c.ev fr with
    | .lit (.bool t) => (t = true → rW P W0 b0 a fr σ Q) ∧ (t = false → rW P W0 b0 b fr σ Q)
    | _ => False := rfl
theorem rW_loop {P : Program} {W0 : World} {b0 : Nat} {c : RC} {fr : Fr} {σ : List Blk} {Q : CPost} : rW P W0 b0 (.loop c) fr σ Q = LoopR b0 (fun fr σ Q => rW P W0 b0 c fr σ Q) fr σ Q := rfl
/-- what is not served must not be reached -/
def orDead : Option RC → Option RC
  | none => some .dead
  | some r => some r
theorem orDead_inv {x : Option RC} {r : RC} (h : orDead x = some r) : r = .dead ∨ x = some r := by
  cases x with
  | none => exact .inl (by cases h; rfl)
  | some y => exact .inr h
def comp (P : Program) (n : Nat) (cuts : Nat → Nat) : Code → Option RC
  | .skip | .label _ => some .skip
  | .region id ops draw => orDead (match draw with
    | false => (compOps P n ops ops.toList).map .reg
    | true => if 1000000 ≤ cuts id then match compG P n ops ops.toList with
        | some L => (mkPlan ops L (fun i => ((cuts id - 1000000) / 2).testBit i) (fun i => ((cuts id - 1000000) / 2).testBit (i + 64)) (cond ((cuts id - 1000000) % 2 == 1) 1 0) ops.size (Array.replicate ops.size false)).map (.any ((cuts id - 1000000) % 2 == 1))
        | none => none
      else if cuts id % 2 = 1 then match compD P n ops.toList with
        | some L => if cuts id / 2 ≤ L.length ∧ lexD ops L (cuts id / 2) (L.length - (cuts id / 2)) (cuts id / 2) 0 (Array.replicate ops.size false) = true then some (.draw (L.take (cuts id / 2)) (L.drop (cuts id / 2))) else none
        | none => none
      else if cuts id / 2 = 0 then (if Region.lexB .any ops = true then (compOps P n ops ops.toList).map fun h => .quiet h [] else none)
      else if Region.lexTailB .any ops (cuts id / 2) = true then match compOps P n ops (ops.toList.take (cuts id / 2)), compOps P n ops (ops.toList.drop (cuts id / 2)) with
        | some h, some t => some (.quiet h t)
        | _, _ => none
      else none)
  | .seq a b => match comp P n cuts a, comp P n cuts b with
    | some x, some y => some (.seq x y)
    | _, _ => none
  | .cond c a b => match comp P n cuts a, comp P n cuts b with
    | some x, some y => some (.cond (cA c) x y)
    | _, _ => none
  | .block id c => (comp P n cuts c).map (.block id)
  | .exit id => some (.exit id)
  | .loop c => (comp P n cuts c).map .loop
  | .ret => some .ret
  | .scope c => (comp P n cuts c).map .scope
  | _ => some .dead
section
variable {P : Program} {W0 : World} {ι0 : Loc} {σ0 : List Blk} {n : Nat} {cuts : Nat → Nat}
theorem comp_sound (hm : P.follows .mixedOrders = true) (hl0 : ι0.length = σ0.length) : ∀ (c : Code) (r : RC) (Q : CPost) (fr : Fr) (σ : List Blk) (ι : Loc) (a : Act) (w : World) (ds : List Deferred), comp P n cuts c = some r → rW P W0 σ0.length r fr σ Q →
    HRel W0 ι σ w → FRel ι σ n fr a → Ext ι0 σ0 ι σ → a.defers = ds → c.wp P (Lift W0 ι0 σ0 n ds Q) a w
  | .skip, r, Q, fr, σ, ι, a, w, ds, hc, h, hh, hf, hx, hd => by
    cases hc
    exact wp_skip ⟨ι, σ, fr, h, hh, hf, hx, hd⟩
  | .label _, r, Q, fr, σ, ι, a, w, ds, hc, h, hh, hf, hx, hd => by
    cases hc
    exact wp_label ⟨ι, σ, fr, h, hh, hf, hx, hd⟩
  | .exit id, r, Q, fr, σ, ι, a, w, ds, hc, h, hh, hf, hx, hd => by
    cases hc
    exact wp_exit ⟨ι, σ, fr, h, hh, hf, hx, hd⟩
  | .goto l, r, Q, fr, σ, ι, a, w, ds, hc, h, hh, hf, hx, hd => by cases hc; exact False.elim h
  | .ret, r, Q, fr, σ, ι, a, w, ds, hc, h, hh, hf, hx, hd => by
    cases hc
    exact wp_ret ⟨ι, σ, fr, h, hh, hf, hx, hd⟩
  | .refuse _, r, Q, fr, σ, ι, a, w, ds, hc, h, hh, hf, hx, hd => by cases hc; exact False.elim h
  | .rangeFunc _ _ _ _, r, Q, fr, σ, ι, a, w, ds, hc, h, hh, hf, hx, hd => by cases hc; exact False.elim h
  | .region id ops draw, r, Q, fr, σ, ι, a, w, ds, hc, h, hh, hf, hx, hd => by
    unfold comp at hc
    rcases orDead_inv hc with rfl | hc
    · exact False.elim h
    cases draw with
    | false =>
      dsimp only at hc
      obtain ⟨is, his, rfl⟩ := Option.map_eq_some_iff.1 hc
      exact wp_region_list (opsW_sound (fun _ _ hp => hp) _ none fr σ ι a w (compOps_sound _ _ _ fr σ (Nat.le_refl _) his h) hh hf hx hd (fun q hq => by cases hq))
    | true =>
      dsimp only at hc
      split at hc
      · split at hc
        · rename_i L hL
          revert hc
          generalize ((cuts id - 1000000) % 2 == 1) = nh
          generalize (fun i => ((cuts id - 1000000) / 2).testBit i) = T
          generalize (fun i => ((cuts id - 1000000) / 2).testBit (i + 64)) = U
          intro hc
          obtain ⟨p, hp, rfl⟩ := Option.map_eq_some_iff.1 hc
          exact wp_region_plan hm hL hp (fun _ _ hp => hp) h hh hf hx hd
        · cases hc
      split at hc
      · split at hc
        · rename_i L hL
          split at hc
          · rename_i hcond
            cases hc
            exact wp_region_lexD hm hL hcond.1 hcond.2 (fun _ _ hp => hp) h hh hf hx hd
          · cases hc
        · cases hc
      split at hc
      · split at hc
        · rename_i hB
          obtain ⟨is, his, rfl⟩ := Option.map_eq_some_iff.1 hc
          refine wp_region_quiet (C := HRel W0 ι σ) hm hB hh.drew ?_
          exact qW_sound (fun fr' a' hk hf' hd' w' hw' => ⟨ι, σ, fr', hk, hw', hf', hx, hd'⟩) hh _ _ _ (compOps_q _ _ _ his h) hf hd
        · cases hc
      · split at hc
        · rename_i hB
          split at hc
          · rename_i hd' tl h1 h2
            cases hc
            have hops : ops = ops.toList.toArray := by simp
            rw [hops]
            refine wp_region_head_tail (C := HRel W0 ι σ) (cuts id / 2) hm (by rw [← hops]; exact hB) hh.drew ?_
            rw [← hops]
            exact qW_sound (fun fr' a' hk hf' hd' w' hw' => opsW_sound (fun _ _ hp => hp) _ none fr' σ ι a' w' (compOps_sound _ _ _ fr' σ (Nat.le_refl _) h2 hk) hw' hf' hx hd' (fun q hq => by cases hq)) hh _ _ _ (compOps_q _ _ _ h1 h) hf hd
          · cases hc
        · cases hc
  | .seq x y, r, Q, fr, σ, ι, a, w, ds, hc, h, hh, hf, hx, hd => by
    unfold comp at hc
    split at hc
    · rename_i rx ry h1 h2
      cases hc
      refine wp_seq (wp_mono (comp_sound hm hl0 x rx _ fr σ ι a w ds h1 h hh hf hx hd) fun e a' w' hq => ?_)
      cases e with
      | normal =>
        obtain ⟨ι', σ', fr', hk, hh', hf', hx', hd'⟩ := hq
        exact comp_sound hm hl0 y ry Q fr' σ' ι' a' w' ds h2 hk hh' hf' hx' hd'
      | _ => exact hq
    · cases hc
  | .cond c x y, r, Q, fr, σ, ι, a, w, ds, hc, h, hh, hf, hx, hd => by
    unfold comp at hc
    split at hc
    · rename_i rx ry h1 h2
      cases hc
      rw [rW_cond] at h
      split at h
      · rename_i t ht
        rw [cA_ev] at ht
        have h1' := hf.eval c
        rw [ht] at h1'
        have e1 : a.eval c = .bool t := h1'
        exact wp_cond_split e1 (fun e => comp_sound hm hl0 x rx Q fr σ ι a w ds h1 (h.1 e) hh hf hx hd) (fun e => comp_sound hm hl0 y ry Q fr σ ι a w ds h2 (h.2 e) hh hf hx hd)
      · exact h.elim
    · cases hc
  | .block id c, r, Q, fr, σ, ι, a, w, ds, hc, h, hh, hf, hx, hd => by
    unfold comp at hc
    obtain ⟨rc, hrc, rfl⟩ := Option.map_eq_some_iff.1 hc
    refine wp_block (wp_mono (comp_sound hm hl0 c rc _ fr σ ι a w ds hrc h hh hf hx hd) fun e a' w' hq => ?_)
    cases e with
    | exit i =>
      obtain ⟨ι', σ', fr', hk, hrest⟩ := hq
      simp only [Exit.inBlock]
      by_cases hi : i = id
      · simp only [hi, if_true] at hk ⊢; exact ⟨ι', σ', fr', hk, hrest⟩
      · simp only [hi, if_false] at hk ⊢; exact ⟨ι', σ', fr', hk, hrest⟩
    | _ => exact hq
  | .scope c, r, Q, fr, σ, ι, a, w, ds, hc, h, hh, hf, hx, hd => by
    unfold comp at hc
    obtain ⟨rc, hrc, rfl⟩ := Option.map_eq_some_iff.1 hc
    refine wp_scope_straight (wp_mono (comp_sound hm hl0 c rc _ fr σ ι a w ds hrc h hh hf hx hd) fun e a' w' hq => ?_)
    cases e with
    | goto l => obtain ⟨ι', σ', fr', hk, hrest⟩ := hq; exact hk.elim
    | _ => exact hq
  | .loop c, r, Q, fr, σ, ι, a, w, ds, hc, h, hh, hf, hx, hd => by
    unfold comp at hc
    obtain ⟨rc, hrc, rfl⟩ := Option.map_eq_some_iff.1 hc
    rw [rW_loop] at h
    rcases h with ⟨k, h⟩ | ⟨⟨I, m, fr0, σ1, hfo, hI, round⟩⟩
    · refine wp_loop_rounds k ?_
      have key : ∀ k fr σ ι a w, roundsR (fun fr σ Q => rW P W0 σ0.length rc fr σ Q) k fr σ Q → HRel W0 ι σ w → FRel ι σ n fr a → Ext ι0 σ0 ι σ → a.defers = ds → Code.rounds P c (Lift W0 ι0 σ0 n ds Q) k a w := by
        intro k
        induction k with
        | zero => intro fr σ ι a w h _ _ _ _; exact h.elim
        | succ k ih =>
          intro fr σ ι a w h hh hf hx hd
          refine wp_mono (comp_sound hm hl0 c rc _ fr σ ι a w ds hrc h hh hf hx hd) fun e a' w' hq => ?_
          cases e with
          | normal =>
            obtain ⟨ι', σ', fr', hk, hh', hf', hx', hd'⟩ := hq
            exact ih fr' σ' ι' a' w' hk hh' hf' hx' hd'
          | _ => exact hq
      exact key k fr σ ι a w h hh hf hx hd
    · obtain ⟨ι1, hh1, hf1, hx1⟩ := hf.forget hfo hh hx hl0
      refine wp_loop_least (fun m a w => ∃ ι σ fr, I m fr σ ∧ HRel W0 ι σ w ∧ FRel ι σ n fr a ∧ Ext ι0 σ0 ι σ ∧ a.defers = ds) ⟨m, ι1, σ1, fr0, hI, hh1, hf1, hx1, hd⟩ fun m a w ⟨ι, σ, fr, hI, hh, hf, hx, hd⟩ => ?_
      refine wp_mono (comp_sound hm hl0 c rc _ fr σ ι a w ds hrc (round m fr σ hI) hh hf hx hd) fun e a' w' hq => ?_
      cases e with
      | normal =>
        obtain ⟨ι', σ', fr', ⟨m', fr'', σ'', hlt, hfo', hI'⟩, hh', hf', hx', hd'⟩ := hq
        obtain ⟨ι2, hh2, hf2, hx2⟩ := hf'.forget hfo' hh' hx' hl0
        exact ⟨m', hlt, ι2, σ'', fr'', hI', hh2, hf2, hx2, hd'⟩
      | _ => exact hq
end
/-! ### results -/
inductive RR where
  | tmp (t : Nat)
  | cell (a s : Nat) (g : Bool)
def compRes (P : Program) : List ResultVar → Option (List RR)
  | [] => some []
  | .tmp t :: rs => (compRes P rs).map (.tmp t :: ·)
  | .cell a t :: rs => match compOp P (.load t (.tmp a)), compRes P rs with
    | some (.load s g (.t a')), some l => if a' = a then some (.cell a s g :: l) else none
    | _, _ => none
def resR (W0 : World) (fr : Fr) (σ : List Blk) (l : List RR) : (List AV → Prop) → Prop :=
  List.rec (motive := fun _ => (List AV → Prop) → Prop) (fun K => K []) (fun r _ ih K => match r with
    | .tmp t => ih fun vs => fv (fr t) fun v => K (v :: vs)
    | .cell a s g => loadR W0 s g (fr a) σ fun v _ => ih fun vs => fv v fun v => K (v :: vs)) l
section
variable {W0 : World} {fr : Fr} {σ : List Blk} {rs : List RR} {K : List AV → Prop}
theorem resR_tmp {t : Nat} : resR W0 fr σ (.tmp t :: rs) K = resR W0 fr σ rs fun vs => fv (fr t) fun v => K (v :: vs) := rfl
theorem resR_cell {a s : Nat} {g : Bool} : resR W0 fr σ (.cell a s g :: rs) K = loadR W0 s g (fr a) σ fun v _ => resR W0 fr σ rs fun vs => fv v fun v => K (v :: vs) := rfl
end
theorem resR_sound {P : Program} {W0 : World} {fr : Fr} {σ : List Blk} : ∀ (rs : List ResultVar) (l : List RR) (K : List AV → Prop), compRes P rs = some l → resR W0 fr σ l K → resW P W0 fr σ rs K
  | [], l, K, hc, h => by
    simp only [compRes, Option.some.injEq] at hc; subst hc
    exact h
  | .tmp t :: rs, l, K, hc, h => by
    simp only [compRes] at hc
    obtain ⟨l', hl, rfl⟩ := Option.map_eq_some_iff.1 hc
    simp only [resR_tmp, fv_eq] at h
    exact resR_sound rs l' (fun vs => K (fr t :: vs)) hl h
  | .cell a t :: rs, l, K, hc, h => by
    simp only [compRes] at hc
    split at hc
    · rename_i s g a' l' h1 h2
      split at hc
      · rename_i ha
        subst ha
        cases hc
        simp only [resR_cell, fv_eq] at h
        obtain ⟨av, hk, h3⟩ := loadR_ld h
        have h4 : ropW P W0 (.load s g (.t a')) fr σ (fun v _ => resW P W0 fr σ rs fun vs => K (v :: vs)) := h3 (fun v _ => resW P W0 fr σ rs fun vs => K (v :: vs)) (resR_sound rs l' (fun vs => K (av :: vs)) h2 hk)
        exact compOp_sound h1 h4
      · cases hc
    · cases hc
/-- Behind a function: blocks that nothing leads to any more may be dropped. -/
inductive FinR (b0 : Nat) (K : Cont) (v : AV) (σ : List Blk) : Prop
  | keep (h : K v σ)
  | drop (k : Nat) (hk : b0 ≤ k) (hc : Closed k (σ.take k)) (hb : bel3 k v = true) (h : K v (σ.take k))
def tupR (vs : List AV) (K : AV → Prop) : Prop :=
  match vs with
  | [v] => K v
  | vs => match vs.all one2 with
    | true => K (.tup vs)
    | false => False
def finP (W0 : World) (rs : List RR) (b0 : Nat) (K : Cont) : CPost := fun e fr σ => match e with
  | .normal => resR W0 fr σ rs fun vs => tupR vs fun v => FinR b0 K v σ
  | .ret => resR W0 fr σ rs fun vs => tupR vs fun v => FinR b0 K v σ
  | _ => False
section
variable {P : Program} {W0 : World} {σ : List Blk}
theorem tupR_sound {vs : List AV} {K : AV → Prop} (h : tupR vs K) : ∃ v, tupA vs = some v ∧ K v := by
  unfold tupR at h
  unfold tupA
  split at h
  · exact ⟨_, rfl, h⟩
  · rename_i hne
    split at h
    · rename_i hall
      split
      · exact (hne _ rfl).elim
      · rw [if_pos hall]; exact ⟨_, rfl, h⟩
    · exact h.elim
theorem rel_initFr {ι : Loc} {fn : Func} {args : List AV} {vs : List Value} (hr : Rels (rel3 ι σ) args vs) (hn : args.length ≤ fn.ntmps) :
    FRel ι σ fn.ntmps (initFr args) ({ tmps := vs.toArray ++ Array.replicate (fn.ntmps - vs.toArray.size) undef, defers := [] } : Act) := by
  have hvl : vs.length = args.length := hr.1.symm
  refine ⟨by simp; omega, fun t => ?_⟩
  unfold initFr
  rcases Nat.lt_or_ge t args.length with ht | ht
  · have ha := List.getElem?_eq_getElem ht
    obtain ⟨b, hb', hab⟩ := hr.get ha
    have htl : t < vs.length := by omega
    have h1 : args.getD t .junk = args[t] := by simp [ht]
    have h2 : (vs.toArray ++ Array.replicate (fn.ntmps - vs.toArray.size) undef).getD t undef = b := by
      rw [Array.getD_eq_getD_getElem?, Array.getElem?_append_left (by simpa using htl)]
      simp [hb']
    show rel3 ι σ (args.getD t .junk) ((vs.toArray ++ Array.replicate (fn.ntmps - vs.toArray.size) undef).getD t undef)
    rw [h1, h2]; exact hab
  · have h1 : args.getD t .junk = .junk := by simp [ht]
    rw [h1]; exact trivial
/-- **A function by its resolved code.** -/
theorem ACall.introR {g : FuncId} {fn : Func} {r : RC} {rs : List RR} {args : List AV} {K : Cont} {cuts : Nat → Nat} (hm : P.follows .mixedOrders = true) (hf : P.funcs[g]? = some fn) (hname : (fn.name == "runtime.NumGoroutine") = false)
    (hc : (fn.body.bind fun c => comp P fn.ntmps cuts c) = some r) (hrs : compRes P fn.results.toList = some rs) (hn : args.length ≤ fn.ntmps)
    (h : rW P W0 σ.length r (initFr args) σ (finP W0 rs σ.length K)) : ACall P W0 g args σ K := by
  obtain ⟨c, hb, hc⟩ := Option.bind_eq_some_iff.1 hc
  refine ⟨by simp [callOK, hf, hname, hb], fun ι w vs hh hr => ?_⟩
  refine calls_of_wp hf hb (wp_mono (comp_sound (ι0 := ι) (σ0 := σ) hm hh.len c r _ (initFr args) σ ι _ w [] hc h hh (rel_initFr hr hn) (Ext.refl _ _) rfl) fun e a' w' hq => ?_)
  obtain ⟨ι', σ', fr', hfin, hh', hf', hx', hd'⟩ := hq
  have key : resR W0 fr' σ' rs (fun vs => tupR vs fun v => FinR σ.length K v σ') → bodyPost P fn (fun e w' => ∃ v ι' σ' av, e = .returned v ∧ K av σ' ∧ HRel W0 ι' σ' w' ∧ Ext ι σ ι' σ' ∧ rel3 ι' σ' av v) .normal a' w' := by
    intro hres
    have hres' := resR_sound _ _ _ hrs hres
    obtain ⟨vs', xs, hv, hrr, hrun⟩ := run_resList hf' hh' _ _ hres'
    obtain ⟨v, hv1, hv2⟩ := tupR_sound hv
    have hmm : (fn.results.mapM (resOne a'.tmps)).run P w' = .ok xs.toArray w' := by
      rw [Array.mapM_eq_mapM_toList]
      simp only [Sem.run_map, hrun, Result.andThen_ok]
    have h0 : (results fn a'.tmps).run P w' = .ok (if h : xs.toArray.size = 1 then xs.toArray[0] else .tuple xs.toArray) w' := by
      rw [results_eq]
      simp only [Sem.run_bind, Sem.run_pure, hmm, Result.andThen_ok]
    have hx : ∃ x, (results fn a'.tmps).run P w' = .ok x w' ∧ rel3 ι' σ' v x := by
      unfold tupA at hv1
      split at hv1
      · rename_i u
        cases hv1
        obtain ⟨b, m, rfl, h1, h2⟩ := hrr.uncons
        obtain rfl := h2.nil_inv
        exact ⟨b, by rw [h0]; rfl, h1⟩
      · rename_i hne
        split at hv1
        · rename_i hall
          cases hv1
          have hl : xs.toArray.size ≠ 1 := by
            have := hrr.1
            intro h1
            simp at h1
            rw [h1] at this
            match vs', this with
            | [u], _ => exact hne u rfl
          rw [dif_neg hl] at h0
          exact ⟨_, h0, xs, rfl, hrr.mono' fun a ha b hab => rel2_of_rel3 (List.all_eq_true.1 hall a ha) hab⟩
        · cases hv1
    obtain ⟨x, hrun', hrel⟩ := hx
    refine ⟨hd', x, hrun', ?_⟩
    cases hv2 with
    | keep hk => exact ⟨x, ι', σ', v, rfl, hk, hh', hx', hrel⟩
    | drop k hbk hcl hbel hk => exact ⟨x, ι'.take k, σ'.take k, v, rfl, hk, hh'.take hcl, hx'.take hh.len hbk, hrel.take hbel⟩
  cases e with
  | normal => exact key hfin
  | ret => exact key hfin
  | _ => exact hfin.elim
end
/-! ### a call among other blocks -/
def sh0 (k : Nat) : AV → AV
  | .ptr b ver off => .ptr (k + b) ver off
  | v => v
def sh1 (k : Nat) : AV → AV
  | .ptr b ver off => .ptr (k + b) ver off
  | .sl b ver off n c => .sl (k + b) ver off n c
  | .fn f first caps => .fn f (first.map (sh0 k)) (caps.map (sh0 k))
  | v => v
def sh2 (k : Nat) : AV → AV
  | .agg cs => .agg (cs.map (sh1 k))
  | v => sh1 k v
def sh3 (k : Nat) : AV → AV
  | .tup vs => .tup (vs.map (sh2 k))
  | v => sh2 k v
def shB (k : Nat) (σ : List Blk) : List Blk := σ.map fun B => { B with cells := B.cells.map (sh1 k) }
section
variable {P : Program} {W0 : World} {ι ι' : Loc} {σ σ' : List Blk} {w : World}
theorem get_sh {b : Nat} {B : Blk} (h : σ'[b]? = some B) : (σ ++ shB σ.length σ')[σ.length + b]? = some { B with cells := B.cells.map (sh1 σ.length) } := by
  rw [List.getElem?_append_right (by omega)]
  simp [shB, h]
theorem get_shI {b : Nat} {q : Nat × Nat} (hl : ι.length = σ.length) (h : ι'[b]? = some q) : (ι ++ ι')[σ.length + b]? = some q := by
  rw [List.getElem?_append_right (by omega), hl]
  simpa using h
theorem ptrRel.sh {b ver off : Nat} {x : Value} (hl : ι.length = σ.length) (h : ptrRel ι' σ' b ver off x) : ptrRel (ι ++ ι') (σ ++ shB σ.length σ') (σ.length + b) ver off x := by
  obtain ⟨B, hB, hv, h1, hc⟩ := h
  refine ⟨_, get_sh hB, hv, h1, fun e => ?_⟩
  obtain ⟨c, t, hi, he⟩ := hc e
  exact ⟨c, t, get_shI hl hi, he⟩
theorem slRel.sh {b ver off len cap : Nat} {x : Value} (hl : ι.length = σ.length) (h : slRel ι' σ' b ver off len cap x) : slRel (ι ++ ι') (σ ++ shB σ.length σ') (σ.length + b) ver off len cap x := by
  obtain ⟨B, hB, hv, h1, hc⟩ := h
  refine ⟨_, get_sh hB, hv, h1, fun e => ?_⟩
  obtain ⟨c, t, hi, he⟩ := hc e
  exact ⟨c, t, get_shI hl hi, he⟩
theorem Rels.mapL {α β γ : Type} {R : α → β → Prop} {R' : γ → β → Prop} {f : α → γ} {l : List α} {m : List β} (h : Rels R l m) (hr : ∀ a b, R a b → R' (f a) b) : Rels R' (l.map f) m :=
  ⟨by simp [h.1], fun i a b ha hb => by
    rw [List.getElem?_map] at ha
    obtain ⟨a', ha', rfl⟩ := Option.map_eq_some_iff.1 ha
    exact hr _ _ (h.2 i a' b ha' hb)⟩
theorem rel0.sh (hl : ι.length = σ.length) {v : AV} {x : Value} (h : rel0 ι' σ' v x) : rel0 (ι ++ ι') (σ ++ shB σ.length σ') (sh0 σ.length v) x := by
  cases v <;> first | exact h | exact ptrRel.sh hl h
theorem rel1.sh (hl : ι.length = σ.length) {v : AV} {x : Value} (h : rel1 ι' σ' v x) : rel1 (ι ++ ι') (σ ++ shB σ.length σ') (sh1 σ.length v) x := by
  cases v with
  | ptr b ver off => exact ptrRel.sh hl h
  | sl b ver off len cap => exact slRel.sh hl h
  | fn f first caps =>
    obtain ⟨l1, l2, e, h1, h2⟩ := h
    exact ⟨l1, l2, e, h1.mapL fun _ _ => rel0.sh hl, h2.mapL fun _ _ => rel0.sh hl⟩
  | _ => exact h
theorem crel.sh (hl : ι.length = σ.length) {v : AV} {x : Value} (h : crel ι' σ' v x) : crel (ι ++ ι') (σ ++ shB σ.length σ') (sh1 σ.length v) x := ⟨rel1.sh hl h.1, h.2⟩
theorem rel2.sh (hl : ι.length = σ.length) {v : AV} {x : Value} (h : rel2 ι' σ' v x) : rel2 (ι ++ ι') (σ ++ shB σ.length σ') (sh2 σ.length v) x := by
  cases v with
  | agg cs => obtain ⟨l, e, h1⟩ := h; exact ⟨l, e, h1.mapL fun _ _ => crel.sh hl⟩
  | ptr b ver off => exact ptrRel.sh hl h
  | sl b ver off len cap => exact slRel.sh hl h
  | fn f first caps => exact rel1.sh (v := .fn f first caps) hl h
  | _ => exact h
theorem rel3.sh (hl : ι.length = σ.length) {v : AV} {x : Value} (h : rel3 ι' σ' v x) : rel3 (ι ++ ι') (σ ++ shB σ.length σ') (sh3 σ.length v) x := by
  cases v with
  | tup vs => obtain ⟨l, e, h1⟩ := h; exact ⟨l, e, h1.mapL fun _ _ => rel2.sh hl⟩
  | agg cs => exact rel2.sh (v := .agg cs) hl h
  | ptr b ver off => exact ptrRel.sh hl h
  | sl b ver off len cap => exact slRel.sh hl h
  | fn f first caps => exact rel1.sh (v := .fn f first caps) hl h
  | _ => exact h
/-- an argument that leads to no own block -/
def pure1 : AV → Bool
  | .lit _ | .junk => true
  | .fn _ first caps => first.all (fun v => match v with | .lit _ => true | _ => false) && caps.all (fun v => match v with | .lit _ => true | _ => false)
  | _ => false
def pure3 : AV → Bool
  | .agg cs => cs.all (fun v => match v with | .lit _ => true | _ => false)
  | v => pure1 v
theorem rel3_pure {v : AV} {x : Value} (hp : pure3 v = true) (h : rel3 ι σ v x) : rel3 [] [] v x := by
  have l0 : ∀ {l : List AV} {m : List Value}, (l.all (fun v => match v with | .lit _ => true | _ => false)) = true → Rels (rel0 ι σ) l m → Rels (rel0 [] []) l m := fun ha hr => hr.mono' fun a hm b hab => by
    have := List.all_eq_true.1 ha a hm
    cases a <;> first | exact hab | (simp at this)
  cases v with
  | lit v => exact h
  | junk => exact trivial
  | fn f first caps =>
    simp only [pure3, pure1, Bool.and_eq_true] at hp
    obtain ⟨l1, l2, e, h1, h2⟩ := h
    exact ⟨l1, l2, e, l0 hp.1 h1, l0 hp.2 h2⟩
  | agg cs =>
    simp only [pure3] at hp
    obtain ⟨l, e, h1⟩ := h
    exact ⟨l, e, h1.mono' fun a hm b hab => by
      have := List.all_eq_true.1 hp a hm
      cases a <;> first | exact hab | (simp at this)⟩
  | ptr b ver off => simp [pure3, pure1] at hp
  | sl b ver off len cap => simp [pure3, pure1] at hp
  | tup vs => simp [pure3, pure1] at hp
theorem HRel.nil (w : World) : HRel w [] [] w :=
  ⟨Below.refl _ _, rfl, fun i j c t t' h => by simp at h, fun i c t h => by simp at h, fun i B c t h => by simp at h⟩
/-- new blocks beside those that were there -/
theorem HRel.beside {w' : World} (h : HRel W0 ι σ w) (h' : HRel w ι' σ' w') : HRel W0 (ι ++ ι') (σ ++ shB σ.length σ') w' ∧ Ext ι σ (ι ++ ι') (σ ++ shB σ.length σ') := by
  have hsz : w.heap.size ≤ w'.heap.size := h'.below.size
  have hW : W0.heap.size ≤ w.heap.size := h.below.size
  have hx : Ext ι σ (ι ++ ι') (σ ++ shB σ.length σ') := by
    refine ⟨by simp, fun i B B' hB hB' => ?_, fun i B B' hB hB' _ => ?_⟩
    · rw [List.getElem?_append_left (getElem?_lt hB), hB] at hB'
      cases hB'
      exact ⟨Nat.le_refl _, rfl, rfl⟩
    · exact List.getElem?_append_left (by rw [h.len]; exact getElem?_lt hB)
  refine ⟨⟨(h.below.trans (h'.below.mono hW)), by simp [h.len, h'.len, shB], ?_, ?_, ?_⟩, hx⟩
  · intro i j c t t' hi hj
    rw [List.getElem?_append] at hi hj
    split at hi <;> split at hj
    · exact h.inj i j c t t' hi hj
    · have := (h.dom i c t hi).2; have := (h'.dom _ c t' hj).1; omega
    · have := (h.dom j c t' hj).2; have := (h'.dom _ c t hi).1; omega
    · have := h'.inj _ _ c t t' hi hj; omega
  · intro i c t hi
    rw [List.getElem?_append] at hi
    split at hi
    · have := h.dom i c t hi; omega
    · have := h'.dom _ c t hi; omega
  · intro i B c t hB hi
    rw [List.getElem?_append] at hB hi
    rw [h.len] at hi
    split at hB
    · rename_i hlt
      rw [if_pos hlt] at hi
      obtain ⟨vs, rest, h1, h2, h3, h4⟩ := h.blk i B c t hB hi
      refine ⟨vs, rest, ?_, h2, h3.mono fun _ _ => crel.mono hx, h4⟩
      rw [h'.below.block c (h.dom i c t hi).2]; exact h1
    · rename_i hge
      rw [if_neg hge] at hi
      unfold shB at hB
      rw [List.getElem?_map] at hB
      obtain ⟨B', hB', rfl⟩ := Option.map_eq_some_iff.1 hB
      obtain ⟨vs, rest, h1, h2, h3, h4⟩ := h'.blk _ B' c t hB' hi
      exact ⟨vs, rest, h1, h2, h3.mapL fun _ _ => crel.sh h.len, h4⟩
/-- **A contract that knows no blocks holds beside any.** -/
theorem ACall.frame {g : FuncId} {args : List AV} {K0 K : Cont} (hp : args.all pure3 = true) (h : ∀ W1, Below W0.heap.size W0 W1 → ACall P W1 g args [] K0) (hk : ∀ v σ', K0 v σ' → K (sh3 σ.length v) (σ ++ shB σ.length σ')) :
    ACall P W0 g args σ K := by
  refine ⟨(h W0 (Below.refl _ _)).ok, fun ι w vs hh hr => ?_⟩
  have hr0 : Rels (rel3 [] []) args vs := hr.mono' fun a ha b hab => rel3_pure (List.all_eq_true.1 hp a ha) hab
  refine ((h w hh.below).run [] w vs (HRel.nil w) hr0).mono fun e w' ⟨v, ι', σ', av, he, hk0, h3, h4, h5⟩ => ?_
  obtain ⟨h6, h7⟩ := hh.beside h3
  exact ⟨v, _, _, _, he, hk _ _ hk0, h6, h7, rel3.sh hh.len h5⟩
/-- a contract whose result leads to no block -/
theorem ACall.lift {g : FuncId} {args : List AV} {r : AV} {K : Cont} (hp : args.all pure3 = true) (hs : ∀ k, sh3 k r = r) (h : ∀ (W1 : World) (K : Cont), Below W0.heap.size W0 W1 → K r [] → ACall P W1 g args [] K) (hk : K r σ) :
    ACall P W0 g args σ K :=
  ACall.frame (K0 := fun v σ' => v = r ∧ σ' = []) hp (fun W1 hb => h W1 _ hb ⟨rfl, rfl⟩) fun v σ' ⟨h1, h2⟩ => by
    subst h1; subst h2
    rw [hs]
    simpa [shB] using hk
theorem Closed.zero (σ : List Blk) : Closed 0 (σ.take 0) := by simp [Closed]
end
end Go.Proofs.Ytbbmlnaekefaaaa.Abs
end

section
/- From a contract to the statement: what came in, and what a law's call leaves. -/
set_option linter.unusedVariables false
set_option linter.unusedSimpArgs false
namespace Go.Proofs.Ytbbmlnaekefaaaa
open Go Go.RowKit Go.Proofs.Ytbbmlnaekefaaaa.Abs
theorem own : ownKnob Try.prog.godebug = none := by kernel_rfl
theorem laidOut : laidOutB Try.prog = true := by kernel_rfl
/-- what a law's call leaves -/
theorem law_calls {P : Program} {w : World} {g : FuncId} {avs : List AV} {vs : List Value} (h : ∀ K : Cont, K (.lit (.bool true)) [] → ACall P w g avs [] K) (hr : Rels (rel3 [] []) avs vs) :
    Calls P g vs.toArray w fun e w' => e = .returned (.bool true) ∧ Below w.heap.size w w' := by
  refine ((h (fun v σ' => v = .lit (.bool true)) rfl).run [] w vs (HRel.nil w) hr).mono fun e w' ⟨v, ι', σ', av, he, hk, hh, _, hrel⟩ => ?_
  subst hk
  have e1 : v = .bool true := hrel
  subst e1
  exact ⟨he, hh.below⟩
end Go.Proofs.Ytbbmlnaekefaaaa
end

section
/- The abstract logic, part R: a loop by the slots that live; contracts over 'Calls' as abstract calls; memory that came in. -/
set_option linter.unusedVariables false
set_option linter.unusedSimpArgs false
namespace Go.Proofs.Ytbbmlnaekefaaaa.Abs
open Go Go.RowKit
theorem mk_size (a : Array UInt8) : (ByteArray.mk a).size = a.size := rfl
/-- the bytes of a string -/
def tl (s : ByteArray) : List UInt8 := s.data.toList
theorem ba_get (s : ByteArray) (i : Nat) : s.data[i]?.getD 0 = (tl s).getD i 0 := by simp [List.getD, tl]
theorem ba_empty (s : ByteArray) : (s.toList == (⟨#[]⟩ : ByteArray).toList) = !decide ((1 : Int) ≤ (s.size : Nat)) := by
  rw [ByteArray.toList_eq, ByteArray.toList_eq]
  have h : s.size = s.data.toList.length := by show s.data.size = _; simp
  rw [h]
  cases s.data.toList <;> simp
  omega
theorem wrap64_eq (n : Int) : IntKind.i64.wrap n = (n + 9223372036854775808) % 18446744073709551616 - 9223372036854775808 := by
  unfold IntKind.wrap
  have e1 : IntKind.i64.bits = 64 := by decide
  have e2 : IntKind.i64.signed = true := by decide
  rw [e1, e2]
  have e3 : (2 : Int) ^ 64 = 18446744073709551616 := by decide
  have e4 : (2 : Int) ^ (64 - 1) = 9223372036854775808 := by decide
  simp only [e3, e4, Bool.true_and]
  split <;> (rename_i h; simp only [decide_eq_true_eq] at h; omega)
/-- a frame by the slots that are known -/
noncomputable def frL (l : List (Nat × AV)) : Fr := fun t => List.rec (motive := fun _ => AV) .junk (fun p _ ih => cond (Nat.beq t p.1) p.2 ih) l
def agr (l : List (Nat × AV)) (fr : Fr) : Prop := List.rec (motive := fun _ => Prop) True (fun p _ ih => fr p.1 = p.2 ∧ ih) l
theorem frL_cons {p : Nat × AV} {l : List (Nat × AV)} {t : Nat} : frL (p :: l) t = cond (Nat.beq t p.1) p.2 (frL l t) := rfl
theorem agr_cons {p : Nat × AV} {l : List (Nat × AV)} {fr : Fr} : agr (p :: l) fr = (fr p.1 = p.2 ∧ agr l fr) := rfl
theorem frL_agr {fr : Fr} : ∀ {l : List (Nat × AV)}, agr l fr → ∀ t, frL l t = .junk ∨ (frL l t = fr t ∧ ∃ p ∈ l, fr t = p.2)
  | [], _, t => .inl rfl
  | p :: l, h, t => by
    rw [agr_cons] at h
    rw [frL_cons]
    cases hb : Nat.beq t p.1 with
    | true =>
      have e : t = p.1 := Nat.eq_of_beq_eq_true hb
      right
      refine ⟨?_, p, List.mem_cons_self, ?_⟩ <;> rw [e, h.1]
      rfl
    | false =>
      rcases frL_agr h.2 t with h' | ⟨h', q, hq, hq'⟩
      · exact .inl h'
      · exact .inr ⟨h', q, List.mem_cons_of_mem _ hq, hq'⟩
/-- what becomes of the blocks at a loop's head: they stay, or those behind k are dropped -/
inductive Fgt (b0 : Nat) (l : List (Nat × AV)) (σ σ' : List Blk) : Prop
  | keep (h : σ' = σ)
  | drop (k : Nat) (hk : b0 ≤ k) (e : σ' = σ.take k) (hc : Closed k σ') (hb : l.all (fun p => bel3 k p.2) = true)
theorem Fgt.forget {b0 : Nat} {l : List (Nat × AV)} {σ σ' : List Blk} {fr : Fr} (h : Fgt b0 l σ σ') (ha : agr l fr) : Forget b0 fr σ (frL l) σ' := by
  cases h with
  | keep e => exact .inl ⟨e, fun t => (frL_agr ha t).imp id (·.1)⟩
  | drop k hk e hc hb =>
    refine .inr ⟨k, hk, e, hc, fun t => (frL_agr ha t).imp id fun ⟨h1, p, hp, h2⟩ => ⟨h1, ?_⟩⟩
    rw [h2]
    exact List.all_eq_true.1 hb p hp
/-- at the end of a round: the next round's head -/
structure Again {X : Type} (b0 : Nat) (sh : X → List (Nat × AV)) (st : X → List Blk) (inv : X → Prop) (m : X → Nat) (n : Nat) (fr : Fr) (σ : List Blk) : Prop where
  ex : ∃ m' fr'' σ'', m' < n ∧ Forget b0 fr σ fr'' σ'' ∧ ∃ y, fr'' = frL (sh y) ∧ σ'' = st y ∧ inv y ∧ m' = m y
theorem Again.go {X : Type} {b0 : Nat} {sh : X → List (Nat × AV)} {st : X → List Blk} {inv : X → Prop} {m : X → Nat} {n : Nat} {fr : Fr} {σ : List Blk} (x : X) (ha : agr (sh x) fr) (hg : Fgt b0 (sh x) σ (st x)) (hi : inv x) (hm : m x < n) :
    Again b0 sh st inv m n fr σ := ⟨m x, _, _, hm, hg.forget ha, x, rfl, rfl, hi, rfl⟩
/-- **A loop by the slots that live.** -/
theorem LoopR.live {X : Type} {b0 : Nat} {body : Fr → List Blk → CPost → Prop} {fr : Fr} {σ : List Blk} {Q : CPost} (sh : X → List (Nat × AV)) (st : X → List Blk) (inv : X → Prop) (m : X → Nat) (x0 : X)
    (hf : agr (sh x0) fr) (hσ : Fgt b0 (sh x0) σ (st x0)) (h0 : inv x0)
    (hb : ∀ x, inv x → body (frL (sh x)) (st x) fun e fr' σ' => match e with
      | .normal => Again b0 sh st inv m (m x) fr' σ'
      | e => Q e fr' σ') : LoopR b0 body fr σ Q := by
  refine LoopR.inv ⟨fun n fr' σ' => ∃ x, fr' = frL (sh x) ∧ σ' = st x ∧ inv x ∧ n = m x, m x0, frL (sh x0), st x0, hσ.forget hf, ⟨x0, rfl, rfl, h0, rfl⟩, ?_⟩
  rintro n fr' σ' ⟨x, rfl, rfl, hx, rfl⟩
  have h := hb x hx
  have e : (fun (e : Exit) (fr' : Fr) (σ' : List Blk) => (match e with | .normal => ∃ m' fr'' σ'', m' < m x ∧ Forget b0 fr' σ' fr'' σ'' ∧ (∃ y, fr'' = frL (sh y) ∧ σ'' = st y ∧ inv y ∧ m' = m y) | e => Q e fr' σ' : Prop))
      = (fun (e : Exit) (fr' : Fr) (σ' : List Blk) => (match e with | .normal => Again b0 sh st inv m (m x) fr' σ' | e => Q e fr' σ' : Prop)) := by
    funext e fr' σ'
    cases e with
    | normal => exact propext ⟨fun h => ⟨h⟩, fun h => h.ex⟩
    | _ => rfl
  exact Eq.mp (congrArg (fun k => body (frL (sh x)) (st x) k) e.symm) h
section
variable {P : Program} {W0 : World} {σ : List Blk} {K : Cont}
theorem HRel.after {ι : Loc} {w w' : World} (h : HRel W0 ι σ w) (hb : Below w.heap.size w w') : HRel W0 ι σ w' := by
  have h0 : HRel w [] [] w' := ⟨hb, rfl, fun i j c t t' h => by simp at h, fun i c t h => by simp at h, fun i B c t h => by simp at h⟩
  have h1 := (h.beside h0).1
  simpa [shB] using h1
end
/-! ### memory that came in, and own memory, as lists -/
theorem add_add (a : Addr) (i j : Nat) : (a.add i).add j = a.add (i + j) := by
  unfold Addr.add
  by_cases h : i = 0
  · subst h; simp
  · by_cases h' : j = 0
    · subst h'; simp
    · simp [h, h']; omega
theorem add_block (a : Addr) (i : Nat) : (a.add i).block = a.block := by unfold Addr.add; split <;> rfl
/-- a slice whose elements are told by a list: it came in (or is nil), or it is the call's own -/
inductive Sli {α : Type} (W0 : World) (σ : List Blk) (s : Nat) (enc : α → List Value) : AV → List α → Prop
  | nil : Sli W0 σ s enc (.lit (.slice none 0 0)) []
  | inn (ad : Addr) (n cap : Nat) (xs : List α) (hn : n = xs.length) (hc : n ≤ cap) (hm : cap ≤ maxLen) (hb : ad.block < W0.heap.size)
      (hx : ∀ i x, xs[i]? = some x → ∀ j v, (enc x)[j]? = some v → W0.cell? ((ad.add (i * s)).add j) = some v ∧ v.oneCell' = true) : Sli W0 σ s enc (.lit (.slice (some ad) n cap)) xs
  | own (b ver off n cap : Nat) (B : Blk) (xs : List α) (hB : σ[b]? = some B) (hv : B.ver = ver) (hn : n = xs.length)
      (hx : ∀ i x, xs[i]? = some x → ∀ j v, (enc x)[j]? = some v → B.cells[off + i * s + j]? = some (.lit v)) : Sli W0 σ s enc (.sl b ver off n cap) xs
section
variable {P : Program} {W0 : World} {σ : List Blk} {K : Cont} {α : Type} {s : Nat} {enc : α → List Value}
theorem Sli.conc {a : AV} {xs : List α} {ι : Loc} {W1 : World} (h : Sli W0 σ s enc a xs) (hh : HRel W0 ι σ W1) (hr : ∃ x, rel3 ι σ a x) : ∃ a', (∀ x, rel3 ι σ a x → rel3 [] [] a' x) ∧ Sli W1 [] s enc a' xs := by
  cases h with
  | nil => exact ⟨.lit (.slice none 0 0), fun x hx => hx, .nil⟩
  | inn ad n cap xs hn hc hm hb hx =>
    refine ⟨.lit (.slice (some ad) n cap), fun x hx => hx, .inn ad n cap xs hn hc hm (Nat.lt_of_lt_of_le hb hh.below.size) fun i x hi j v hj => ?_⟩
    rw [hh.below.cell (p := (ad.add (i * s)).add j) (by rw [add_block, add_block]; exact hb)]
    exact hx i x hi j v hj
  | own b ver off n cap B xs hB hv hn hx =>
    obtain ⟨x0, h0⟩ := hr
    have h0' : slRel ι σ b ver off n cap x0 := h0
    obtain ⟨c, t, hi, rfl, hc, hm, _⟩ := slRel_now h0' hB hv
    refine ⟨.lit (.slice (some ⟨c, off, none⟩) n cap), fun x hx => ?_, .inn _ n cap xs hn hc hm (hh.dom b c t hi).2 fun i x hxi j v hj => ?_⟩
    · have hx' : slRel ι σ b ver off n cap x := hx
      obtain ⟨c', t', hi', rfl, _⟩ := slRel_now hx' hB hv
      rw [hi] at hi'; cases hi'; rfl
    · obtain ⟨vs, rest, h1, h2, h3, h4⟩ := hh.blk b B c t hB hi
      have hcell := hx i x hxi j v hj
      obtain ⟨y, hy, hyr⟩ := h3.get hcell
      have e1 : y = v := hyr.1
      subst e1
      rw [add_own, cell?_own h1]
      refine ⟨?_, hyr.2⟩
      rw [List.getElem?_append_left (getElem?_lt hy)]
      exact hy
/-- **A contract that knows no own blocks holds beside any; its arguments may be own slices.** -/
theorem ACall.frameA {g : FuncId} {args : List AV} {K0 K : Cont} (hok : callOK P g = true)
    (h : ∀ W1 ι (vs : List Value), HRel W0 ι σ W1 → Rels (rel3 ι σ) args vs → ∃ args', Rels (rel3 [] []) args' vs ∧ ACall P W1 g args' [] K0) (hk : ∀ v σ', K0 v σ' → K (sh3 σ.length v) (σ ++ shB σ.length σ')) :
    ACall P W0 g args σ K := by
  refine ⟨hok, fun ι w vs hh hr => ?_⟩
  obtain ⟨args', hr', hc⟩ := h w ι vs hh hr
  refine (hc.run [] w vs (HRel.nil w) hr').mono fun e w' ⟨v, ι', σ', av, he, hk0, h3, h4, h5⟩ => ?_
  obtain ⟨h6, h7⟩ := hh.beside h3
  exact ⟨v, _, _, _, he, hk _ _ hk0, h6, h7, rel3.sh hh.len h5⟩
/-- the arguments as the callee sees them -/
inductive Sees (W1 : World) (ι : Loc) (σ : List Blk) : List AV → List AV → Prop
  | nil : Sees W1 ι σ [] []
  | cons {a a' : AV} {l l' : List AV} (h : ∀ x, rel3 ι σ a x → rel3 [] [] a' x) (t : Sees W1 ι σ l l') : Sees W1 ι σ (a :: l) (a' :: l')
/-! ### loads of what came in -/
theorem ldIn {ad : Addr} {xs : List α} (hb : ad.block < W0.heap.size) (hx : ∀ i x, xs[i]? = some x → ∀ j v, (enc x)[j]? = some v → W0.cell? ((ad.add (i * s)).add j) = some v ∧ v.oneCell' = true)
    {k : Nat} {x : α} (hk : xs[k]? = some x) (hs : (enc x).length = s) {C : List Value → Prop} (h : C (enc x)) :
    ∃ cs : List Value, cs.length = s ∧ (∀ (j : Nat) (v : Value), cs[j]? = some v → W0.cell? ((ad.add (k * s)).add j) = some v ∧ v.oneCell' = true) ∧ (ad.add (k * s)).block < W0.heap.size ∧ C cs :=
  ⟨enc x, hs, hx k x hk, by rw [add_block]; exact hb, h⟩
end
end Go.Proofs.Ytbbmlnaekefaaaa.Abs
end

section
/- From a contract to the statement: arguments of several kinds of cells. -/
set_option linter.unusedVariables false
set_option linter.unusedSimpArgs false
namespace Go.Proofs.Ytbbmlnaekefaaaa
open Go Go.RowKit Go.Proofs.Ytbbmlnaekefaaaa.Abs
def kOf : Option TypeDesc → Nat
  | some (.int .i64) => 0
  | some .string => 1
  | some .bool => 2
  | _ => 9
def okK (k : Nat) (x : Value) : Prop := match k with
  | 0 => ∃ m, x = .int .i64 m ∧ IntKind.i64.has m
  | 1 => ∃ s : ByteArray, x = .string s ∧ s.size ≤ 9223372036854775807
  | 2 => ∃ b, x = .bool b
  | _ => True
theorem okK_of_cell {P : Program} {w : World} {base : Nat} {u : TypeId} {v : Value} (hok : Cell.okWide P w .any base u v) : okK (kOf (P.underlying u)) v := by
  unfold Cell.okWide at hok
  cases hu : P.underlying u with
  | none => exact trivial
  | some d =>
    rw [hu] at hok
    cases d with
    | int k =>
      cases k with
      | i64 =>
        unfold Cell.ok at hok
        rw [hu] at hok
        cases v <;> simp at hok
        exact ⟨_, by rw [hok.1], hok.2⟩
      | _ => exact trivial
    | string =>
      unfold Cell.ok at hok
      rw [hu] at hok
      cases v with
      | string s =>
        have h1 : (s.size : Int) ≤ IntKind.i64.max := hok
        have h2 : IntKind.i64.max = 9223372036854775807 := by decide
        exact ⟨s, rfl, by omega⟩
      | _ => simp at hok
    | bool =>
      unfold Cell.ok at hok
      rw [hu] at hok
      cases v with
      | bool b => exact ⟨b, rfl⟩
      | _ => simp at hok
    | _ => exact trivial
theorem flat_of_okWide {P : Program} {w : World} {base n : Nat} {t : TypeId} {v : Value} {ks : List Nat} (ha : aggP P t = some true) (hs : P.cellsOf t = n)
    (hk : ((P.cellTypes P.depth t).map fun ts => ts.map fun u => kOf (P.underlying u)) = some ks) (hn : ks.length = n)
    (h : Value.okWide P w .any base t v) : ∃ l : List Value, l.length = n ∧ v = .agg l.toArray ∧ ∀ (i : Nat) (x : Value) (k : Nat), l[i]? = some x → ks[i]? = some k → okK k x := by
  obtain ⟨ts, hc, hks⟩ := Option.map_eq_some_iff.1 hk
  have hd : ∃ cs, v = .agg cs ∧ cs.size = P.cellsOf t ∧ Row.okWide P w .any base t cs := by
    unfold aggP at ha
    obtain ⟨d, hd, hg⟩ := Option.map_eq_some_iff.1 ha
    unfold Value.okWide at h
    rw [hd] at h
    cases d <;> first | exact h | (simp [isAggD] at hg)
  obtain ⟨cs, rfl, hsz, ts', hts, hn', hall⟩ := hd
  rw [hc] at hts; cases hts
  have hlen : ts.length = n := by rw [← hn, ← hks]; simp
  refine ⟨cs.toList, by simp [hsz, hs], by simp, fun i x k hx hk' => ?_⟩
  obtain ⟨u, hu, hok⟩ := hall i x (by simpa using hx)
  have hi : i < n := by
    have := (List.getElem?_eq_some_iff.1 hk').1
    omega
  rw [hlen, Nat.mod_eq_of_lt hi] at hu
  rw [← hks, List.getElem?_map, hu] at hk'
  cases hk'
  exact okK_of_cell hok
theorem cons_of_len {α : Type} {l : List α} {n : Nat} (h : l.length = n + 1) : ∃ a l', l = a :: l' ∧ l'.length = n := by
  cases l with
  | nil => simp at h
  | cons a l' => exact ⟨a, l', rfl, by simpa using h⟩
theorem nil_of_len {α : Type} {l : List α} (h : l.length = 0) : l = [] := List.length_eq_zero_iff.1 h
theorem rel_agg (l : List Value) (h : l.all (·.oneCell') = true) : rel3 [] [] (.agg (l.map AV.lit)) (.agg l.toArray) :=
  ⟨l, rfl, by simp, fun i a b ha hb => by
    rw [List.getElem?_map, hb] at ha
    cases ha
    exact ⟨rfl, List.all_eq_true.1 h b (List.mem_of_getElem? hb)⟩⟩
end Go.Proofs.Ytbbmlnaekefaaaa
end

section
/- From a contract to the statement: slices that came in. -/
set_option linter.unusedVariables false
set_option linter.unusedSimpArgs false
namespace Go.Proofs.Ytbbmlnaekefaaaa
open Go Go.RowKit Go.Proofs.Ytbbmlnaekefaaaa.Abs Go.ChangeShapes Go.WideShapes
/-- of which kind a cell of a type is -/
def kindT (P : Program) : Nat → TypeId → Nat → Nat
  | 0, _, _ => 9
  | d + 1, t, j => match P.underlying t with
    | some (.struct fs) => match fs.toList.find? (fun f => decide (f.offset ≤ j) && decide (j < f.offset + P.cellsOf f.type)) with
      | some f => kindT P d f.type (j - f.offset)
      | none => 9
    | some (.array n e) => if 0 < P.cellsOf e ∧ j / P.cellsOf e < n then kindT P d e (j % P.cellsOf e) else 9
    | u => kOf u
section
variable {H : Type} {enc : TypeId × Value → H} {P : Program} {w : World} {base : Nat} {spare : Nat → Bool} {held : Bool}
theorem okK_trod : ∀ (d : Nat) (t : TypeId) (fuel : Nat) (cs : List Value) (x : DataW H × List MemPlace) (j : Nat) (v : Value), DataW.trod enc P w base spare held fuel t cs = some x → cs[j]? = some v → okK (kindT P d t j) v
  | 0, _, _, _, _, _, _, _, _ => trivial
  | d + 1, t, fuel, cs, x, j, v, h, hj => by
    unfold kindT
    cases hu : P.underlying t with
    | none => exact trivial
    | some u =>
      cases u with
      | struct fs =>
        dsimp only
        cases hf : fs.toList.find? (fun f => decide (f.offset ≤ j) && decide (j < f.offset + P.cellsOf f.type)) with
        | none => exact trivial
        | some f =>
          dsimp only
          have h1 := List.find?_some hf
          simp only [Bool.and_eq_true, decide_eq_true_eq] at h1
          obtain ⟨i, hi⟩ := List.mem_iff_getElem?.1 (List.mem_of_find?_eq_some hf)
          obtain ⟨xs, n, rfl, rfl, hl, hxl, hall⟩ := DataW.trod_struct hu h
          have hi' : fs[i]? = some f := by simpa using hi
          have h2 := hall i f hi'
          have hlt : i < xs.length := by rw [hxl]; simpa using (getElem?_lt hi)
          rw [List.getElem?_eq_getElem hlt] at h2
          refine okK_trod d f.type n _ _ (j - f.offset) v h2 ?_
          rw [List.getElem?_take, if_pos (by omega), List.getElem?_drop, show f.offset + (j - f.offset) = j by omega]
          exact hj
      | array n e =>
        dsimp only
        split
        · rename_i hlt
          obtain ⟨xs, m, rfl, rfl, hl, hxl, hall⟩ := DataW.trod_array hu h
          have h2 := hall _ hlt.2
          rw [List.getElem?_eq_getElem (by rw [hxl]; exact hlt.2)] at h2
          refine okK_trod d e m _ _ (j % P.cellsOf e) v h2 ?_
          rw [List.getElem?_take, if_pos (Nat.mod_lt _ hlt.1), List.getElem?_drop, show j / P.cellsOf e * P.cellsOf e + j % P.cellsOf e = j by rw [Nat.mul_comm]; exact Nat.div_add_mod _ _]
          exact hj
        · exact trivial
      | int k =>
        cases k with
        | i64 =>
          obtain ⟨n, rfl, rfl, hw⟩ := DataW.trod_int hu h
          cases j with
          | zero =>
            simp at hj; subst hj
            simp only [Lit.wf, Bool.and_eq_true, decide_eq_true_eq] at hw
            exact ⟨n, rfl, hw⟩
          | succ j => simp at hj
        | _ => exact trivial
      | string =>
        obtain ⟨s, rfl, rfl, hs⟩ := DataW.trod_string hu h
        cases j with
        | zero =>
          simp at hj; subst hj
          exact ⟨s, rfl, hs⟩
        | succ j => simp at hj
      | bool =>
        obtain ⟨b, rfl, rfl⟩ := DataW.trod_bool hu h
        cases j with
        | zero =>
          simp at hj; subst hj
          exact ⟨b, rfl⟩
        | succ j => simp at hj
      | _ => exact trivial
theorem shape_lt {b : Nat} {r : TypeId × Nat} (h : w.shape? b = some r) : b < w.heap.size := by
  unfold World.shape? at h
  cases hb : w.heap[b]? with
  | none => rw [hb] at h; simp at h
  | some o => exact (Array.getElem?_eq_some_iff.1 hb).1
/-- the ints of an element's cells -/
def intsOf (cs : List Value) : List Int := cs.map fun v => match v with | .int _ m => m | _ => 0
theorem intsOf_map {cs : List Value} (h : ∀ v ∈ cs, ∃ m, v = Value.int .i64 m ∧ IntKind.i64.has m) : (intsOf cs).map (Value.int .i64) = cs ∧ ∀ n ∈ intsOf cs, IntKind.i64.has n := by
  induction cs with
  | nil => exact ⟨rfl, fun n hn => by cases hn⟩
  | cons v cs ih =>
    obtain ⟨m, rfl, hm⟩ := h v List.mem_cons_self
    obtain ⟨h1, h2⟩ := ih fun v hv => h v (List.mem_cons_of_mem _ hv)
    refine ⟨by show Value.int .i64 m :: (intsOf cs).map _ = _; rw [h1], fun n hn => ?_⟩
    rcases List.mem_cons.1 hn with rfl | hn
    · exact hm
    · exact h2 n hn
abbrev encL (l : List Int) : List Value := l.map (Value.int .i64)
theorem sli_arg {t e : TypeId} {s fuel : Nat} {v : Value} {x : DataW H × List MemPlace} {b0 : Nat} (ht : P.underlying t = some (.slice e)) (hs : P.cellsOf e = s) (hk : ∀ j, j < s → kindT P 20 e j = 0) (hv : Value.okWide P w .any b0 t v)
    (h : DataW.trod enc P w base spare held fuel t [v] = some x) : ∃ xs : List (List Int), Sli w [] s encL (.lit v) xs ∧ ∀ x ∈ xs, x.length = s ∧ ∀ n ∈ x, IntKind.i64.has n := by
  rcases Deep.open_slice ht h with ⟨hc, _⟩ | ⟨a, len, cap, m, n, D, Pl, hc, hb, hl, hm, hmm, rfl, hx⟩
  · cases hc
    exact ⟨[], .nil, fun x hx => by cases hx⟩
  · cases hc
    have hlm : len ≤ m := by rw [hmm]; split <;> omega
    have hblk : a.block < w.heap.size := by
      unfold Value.okWide at hv
      rw [ht] at hv
      unfold Cell.okWide at hv
      rw [ht] at hv
      unfold Cell.ok at hv
      rw [ht] at hv
      obtain ⟨_, _, _, _, row, cells, hsh, _⟩ := hv
      exact shape_lt hsh
    have hel : ∀ i, i < len → ∃ l : List Int, l.length = s ∧ (∀ n ∈ l, IntKind.i64.has n) ∧ ∀ (j : Nat) (v : Value), (encL l)[j]? = some v → w.cell? ((a.add (i * s)).add j) = some v ∧ v.oneCell' = true := by
      intro i hi
      obtain ⟨cs', h1, h2⟩ := hx i (by omega)
      rw [hs] at h1
      obtain ⟨_, hlen, hcell⟩ := World.cells?_some h1
      have hall : ∀ v ∈ cs', ∃ m, v = Value.int .i64 m ∧ IntKind.i64.has m := by
        intro v hv
        obtain ⟨j, hj⟩ := List.mem_iff_getElem?.1 hv
        have := okK_trod 20 e n cs' _ j v h2 hj
        rw [hk j (by have := getElem?_lt hj; omega)] at this
        exact this
      obtain ⟨h3, h4⟩ := intsOf_map hall
      refine ⟨intsOf cs', by simp [intsOf, hlen], h4, fun j v hj => ?_⟩
      rw [show encL (intsOf cs') = cs' from h3] at hj
      refine ⟨by rw [hcell j (by have := getElem?_lt hj; omega)]; exact hj, ?_⟩
      obtain ⟨m', rfl, _⟩ := hall v (List.mem_of_getElem? hj)
      rfl
    obtain ⟨f, hf⟩ := Deep.choose_lt (α := List Int) hel
    refine ⟨(List.range len).map f, .inn a len cap _ (by simp) hl hm hblk ?_, ?_⟩
    · intro i x hi j v hj
      rw [List.getElem?_map, Option.map_eq_some_iff] at hi
      obtain ⟨i', hi', rfl⟩ := hi
      have hi2 : i' = i ∧ i < len := by
        have h5 := getElem?_lt hi'
        rw [List.length_range] at h5
        rw [List.getElem?_range h5] at hi'
        exact ⟨(Option.some.inj hi').symm, h5⟩
      obtain ⟨rfl, h6⟩ := hi2
      exact (hf i' h6).2.2 j v hj
    · intro x hx'
      obtain ⟨i, hi, rfl⟩ := List.mem_map.1 hx'
      have h6 := List.mem_range.1 hi
      exact ⟨(hf i h6).1, (hf i h6).2.1⟩
theorem sli_max {s : Nat} {a : AV} {xs : List (List Int)} (h : Sli w [] s encL a xs) : xs.length ≤ maxLen := by
  cases h with
  | nil => exact Nat.zero_le _
  | inn ad n cap xs hn hc hm hb hx => omega
  | own b ver off n cap B xs hB => simp at hB
theorem sli_argT {t e : TypeId} {s : Nat} {v : Value} {d : DataW H} {ps : List MemPlace} {b0 : Nat} (ht : P.underlying t = some (.slice e)) (hs : P.cellsOf e = s) (hk : ∀ j, j < s → kindT P 20 e j = 0) (hv : Value.okWide P w .any b0 t v)
    (h : DataW.Trod enc P w base spare held t v d ps) : ∃ xs : List (List Int), Sli w [] s encL (.lit v) xs ∧ (∀ x ∈ xs, x.length = s ∧ ∀ n ∈ x, IntKind.i64.has n) ∧ xs.length ≤ maxLen := by
  obtain ⟨fuel, h⟩ := h
  have hc : v.cells.toList = [v] := by
    unfold Value.okWide at hv
    rw [ht] at hv
    unfold Cell.okWide at hv
    rw [ht] at hv
    unfold Cell.ok at hv
    rw [ht] at hv
    cases v <;> first | rfl | exact hv.elim
  rw [hc] at h
  obtain ⟨xs, h1, h2⟩ := sli_arg ht hs hk hv h
  exact ⟨xs, h1, h2, sli_max h1⟩
end
end Go.Proofs.Ytbbmlnaekefaaaa
end

section
/- The resolved code of the functions that are reached, and that it stands for the program's own. -/
set_option linter.unusedVariables false
namespace Go.Proofs.Ytbbmlnaekefaaaa
open Go Go.RowKit Go.Proofs.Ytbbmlnaekefaaaa.Abs
theorem mixed : Try.prog.follows .mixedOrders = true := by kernel_rfl
def r3 : RC := (.seq (.reg [.op (some 2) (.mv (.v (.lit (.bool false))))])
 (.seq (.reg [.op (some 3) (.mv (.v (.lit (.int .i64 (1048576)))))])
 (.seq (.reg [.op (some 14) (.mv (.t 0)),
  .op (some 15) (.mv (.t 3)),
  .op (some 16) (.call (.v (.lit (.func (.func 6) #[] #[]))) [(.t 14), (.t 15)]),
  .op (some 3) (.mv (.t 16))])
 (.seq (.seq (.reg [.op (some 17) (.mv (.t 3)),
  .op (some 18) (.binI .lss (.t 17) (.v (.lit (.int .i64 (0)))))])
 (.cond (.t 18)
 (.seq (.reg [.op (some 2) (.mv (.v (.lit (.bool true))))])
 .ret)
 .skip))
 (.seq (.reg [.op (some 20) (.mv (.t 0)),
  .op (some 21) (.call (.v (.lit (.func (.func 8) #[] #[]))) [(.t 20)]),
  .op (some 22) (.call (.v (.lit (.func (.func 7) #[] #[]))) [(.t 21)]),
  .op (some 19) (.mv (.t 22)),
  .op (some 23) (.ext (.t 19) 0),
  .op (some 24) (.ext (.t 19) 1),
  .op (some 4) (.mv (.t 23)),
  .op (some 5) (.mv (.t 24))])
 (.seq (.reg [.op (some 25) (.mv (.t 0)),
  .op (some 26) (.call (.v (.lit (.func (.func 8) #[] #[]))) [(.t 25)]),
  .op (some 6) (.mv (.t 26))])
 (.seq (.reg [.op (some 28) (.mv (.t 6)),
  .op (some 29) (.call (.v (.lit (.func (.func 9) #[] #[]))) [(.t 28)]),
  .op (some 27) (.mv (.t 29)),
  .op (some 30) (.ext (.t 27) 0),
  .op (some 31) (.ext (.t 27) 1),
  .op (some 7) (.mv (.t 30)),
  .op (some 8) (.mv (.t 31))])
 (.seq (.seq (.reg [.op (some 32) (.mv (.t 7)),
  .op (some 33) (.mv (.t 4)),
  .op (some 34) (.call (.v (.lit (.func (.func 10) #[] #[]))) [(.t 32), (.t 33)]),
  .op (some 35) (.un .not (.t 34)),
  .op (some 36) (.mv (.t 35)),
  .grp 36 false [((some 37), (.mv (.t 8))), ((some 38), (.mv (.t 5))), ((some 39), (.binB true (.t 37) (.t 38)))],
  .op (some 40) (.pick (.t 36) (.v (.lit (.bool true))) (.t 39))])
 (.cond (.t 40)
 (.seq (.reg [.op (some 2) (.mv (.v (.lit (.bool false))))])
 .ret)
 .skip))
 (.seq (.seq (.reg [.op (some 41) (.mv (.t 6)),
  .op (some 42) (.mv (.t 0)),
  .op (some 43) (.call (.v (.lit (.func (.func 8) #[] #[]))) [(.t 42)]),
  .op (some 44) (.call (.v (.lit (.func (.func 11) #[] #[]))) [(.t 41), (.t 43)]),
  .op (some 45) (.un .not (.t 44))])
 (.cond (.t 45)
 (.seq (.reg [.op (some 2) (.mv (.v (.lit (.bool false))))])
 .ret)
 .skip))
 (.seq (.reg [.op (some 9) (.mv (.v (.lit (.int .i64 (1)))))])
 (.seq (.reg [.op (some 46) (.mv (.t 6)),
  .op (some 47) (.mv (.t 9)),
  .op (some 48) (.call (.v (.lit (.func (.func 12) #[] #[]))) [(.t 46), (.t 47)]),
  .op (some 9) (.mv (.t 48))])
 (.seq (.seq (.reg [.op (some 49) (.mv (.t 9)),
  .op (some 50) (.binI .lss (.t 49) (.v (.lit (.int .i64 (0))))),
  .op (some 51) (.mv (.t 50)),
  .grp 51 false [((some 52), (.mv (.t 7))), ((some 53), (.mv (.t 4))), ((some 54), (.call (.v (.lit (.func (.func 10) #[] #[]))) [(.t 52), (.t 53)])), ((some 55), (.un .not (.t 54)))],
  .op (some 56) (.pick (.t 51) (.v (.lit (.bool true))) (.t 55)),
  .op (some 57) (.mv (.t 56)),
  .grp 57 false [((some 58), (.mv (.t 8))), ((some 59), (.mv (.t 5))), ((some 60), (.binB true (.t 58) (.t 59)))],
  .op (some 61) (.pick (.t 57) (.v (.lit (.bool true))) (.t 60))])
 (.cond (.t 61)
 (.seq (.reg [.op (some 2) (.mv (.v (.lit (.bool false))))])
 .ret)
 .skip))
 (.seq (.reg [.op (some 10) (.mv (.v (.lit (.int .i64 (1)))))])
 (.seq (.reg [.op (some 62) (.mv (.t 7)),
  .op (some 63) (.mv (.t 10)),
  .op (some 64) (.call (.v (.lit (.func (.func 13) #[] #[]))) [(.t 62), (.t 63)]),
  .op (some 10) (.mv (.t 64))])
 (.seq (.reg [.op (some 11) (.mv (.v (.lit (.int .i64 (1)))))])
 (.seq (.reg [.op (some 65) (.mv (.t 7)),
  .op (some 66) (.mv (.t 11)),
  .op (some 67) (.call (.v (.lit (.func (.func 14) #[] #[]))) [(.t 65), (.t 66)]),
  .op (some 11) (.mv (.t 67))])
 (.seq (.seq (.reg [.op (some 68) (.mv (.t 11)),
  .op (some 69) (.binI .lss (.t 68) (.v (.lit (.int .i64 (0)))))])
 (.cond (.t 69)
 (.seq (.reg [.op (some 2) (.mv (.v (.lit (.bool false))))])
 .ret)
 .skip))
 (.seq (.seq (.reg [.op (some 70) (.mv (.t 11)),
  .op (some 71) (.mv (.t 10)),
  .op (some 72) (.binI .neq (.t 70) (.t 71))])
 (.cond (.t 72)
 (.seq (.reg [.op (some 2) (.mv (.v (.lit (.bool false))))])
 .ret)
 .skip))
 (.seq (.reg [.op (some 74) (.mv (.t 0)),
  .op (some 75) (.call (.v (.lit (.func (.func 8) #[] #[]))) [(.t 74)]),
  .op (some 76) (.call (.v (.lit (.func (.func 9) #[] #[]))) [(.t 75)]),
  .op (some 73) (.mv (.t 76)),
  .op (some 77) (.ext (.t 73) 0),
  .op (some 78) (.ext (.t 73) 1),
  .op (some 12) (.mv (.t 77)),
  .op (some 13) (.mv (.t 78))])
 (.seq (.seq (.reg [.op (some 79) (.mv (.t 12)),
  .op (some 80) (.mv (.t 4)),
  .op (some 81) (.call (.v (.lit (.func (.func 10) #[] #[]))) [(.t 79), (.t 80)]),
  .op (some 82) (.un .not (.t 81)),
  .op (some 83) (.mv (.t 82)),
  .grp 83 false [((some 84), (.mv (.t 13))), ((some 85), (.mv (.t 5))), ((some 86), (.binB true (.t 84) (.t 85)))],
  .op (some 87) (.pick (.t 83) (.v (.lit (.bool true))) (.t 86))])
 (.cond (.t 87)
 (.seq (.reg [.op (some 2) (.mv (.v (.lit (.bool false))))])
 .ret)
 .skip))
 (.seq (.reg [.op (some 11) (.mv (.v (.lit (.int .i64 (1)))))])
 (.seq (.reg [.op (some 88) (.mv (.t 7)),
  .op (some 89) (.mv (.t 11)),
  .op (some 90) (.call (.v (.lit (.func (.func 14) #[] #[]))) [(.t 88), (.t 89)]),
  .op (some 11) (.mv (.t 90))])
 (.seq (.seq (.reg [.op (some 91) (.mv (.t 11)),
  .op (some 92) (.binI .lss (.t 91) (.v (.lit (.int .i64 (0)))))])
 (.cond (.t 92)
 (.seq (.reg [.op (some 2) (.mv (.v (.lit (.bool false))))])
 .ret)
 .skip))
 (.seq (.seq (.reg [.op (some 93) (.mv (.t 11)),
  .op (some 94) (.mv (.t 10)),
  .op (some 95) (.binI .neq (.t 93) (.t 94))])
 (.cond (.t 95)
 (.seq (.reg [.op (some 2) (.mv (.v (.lit (.bool false))))])
 .ret)
 .skip))
 (.seq (.reg [.op (some 2) (.mv (.v (.lit (.bool true))))])
 .ret)))))))))))))))))))))))))
def cut3 : Nat → Nat := fun id => 0
theorem k3 : (Try.f3.body.bind fun c => comp Try.prog Try.f3.ntmps cut3 c) = some r3 := by kernel_rfl
def r4 : RC := (.seq (.reg [.op (some 2) (.box 37 (.t 0)),
  .op (some 4) (.mv (.v (.lit (.bool false))))])
 (.seq (.reg [.op (some 5) (.mv (.v (.lit (.int .i64 (1048576)))))])
 (.seq (.reg [.op (some 11) (.mv (.t 1)),
  .op (some 12) (.mv (.t 5)),
  .op (some 13) (.call (.v (.lit (.func (.func 6) #[] #[]))) [(.t 11), (.t 12)]),
  .op (some 5) (.mv (.t 13))])
 (.seq (.seq (.reg [.op (some 14) (.mv (.t 5)),
  .op (some 15) (.binI .lss (.t 14) (.v (.lit (.int .i64 (0)))))])
 (.cond (.t 15)
 (.seq (.reg [.op (some 4) (.mv (.v (.lit (.bool true))))])
 .ret)
 .skip))
 (.seq (.reg [.op (some 17) (.load 36 true (.t 2)),
  .op (some 18) (.call (.v (.lit (.func (.func 16) #[] #[]))) [(.t 17)]),
  .op (some 19) (.mv (.t 1)),
  .op (some 20) (.call (.v (.lit (.func (.func 8) #[] #[]))) [(.t 19)]),
  .op (some 21) (.call (.v (.lit (.func (.func 15) #[] #[]))) [(.t 18), (.t 20)]),
  .op (some 16) (.mv (.t 21)),
  .op (some 22) (.ext (.t 16) 0),
  .op (some 23) (.ext (.t 16) 1),
  .op (some 6) (.mv (.t 22)),
  .op (some 7) (.mv (.t 23))])
 (.seq (.reg [.op (some 24) (.mv (.t 1)),
  .op (some 25) (.call (.v (.lit (.func (.func 8) #[] #[]))) [(.t 24)]),
  .op (some 8) (.mv (.t 25))])
 (.seq (.reg [.op (some 27) (.load 36 true (.t 2)),
  .op (some 28) (.call (.v (.lit (.func (.func 16) #[] #[]))) [(.t 27)]),
  .op (some 29) (.mv (.t 8)),
  .op (some 30) (.call (.v (.lit (.func (.func 17) #[] #[]))) [(.t 28), (.t 29)]),
  .op (some 26) (.mv (.t 30)),
  .op (some 31) (.ext (.t 26) 0),
  .op (some 32) (.ext (.t 26) 1),
  .op (some 9) (.mv (.t 31)),
  .op (some 10) (.mv (.t 32))])
 (.seq (.seq (.reg [.op (some 33) (.mv (.t 9)),
  .op (some 34) (.mv (.t 6)),
  .op (some 35) (.binI .neq (.t 33) (.t 34)),
  .op (some 36) (.mv (.t 35)),
  .grp 36 false [((some 37), (.mv (.t 10))), ((some 38), (.mv (.t 7))), ((some 39), (.binB true (.t 37) (.t 38)))],
  .op (some 40) (.pick (.t 36) (.v (.lit (.bool true))) (.t 39))])
 (.cond (.t 40)
 (.seq (.reg [.op (some 4) (.mv (.v (.lit (.bool false))))])
 .ret)
 .skip))
 (.seq (.seq (.reg [.op (some 41) (.mv (.t 8)),
  .op (some 42) (.mv (.t 1)),
  .op (some 43) (.call (.v (.lit (.func (.func 8) #[] #[]))) [(.t 42)]),
  .op (some 44) (.call (.v (.lit (.func (.func 11) #[] #[]))) [(.t 41), (.t 43)]),
  .op (some 45) (.un .not (.t 44))])
 (.cond (.t 45)
 (.seq (.reg [.op (some 4) (.mv (.v (.lit (.bool false))))])
 .ret)
 .skip))
 (.seq (.reg [.op (some 4) (.mv (.v (.lit (.bool true))))])
 .ret))))))))))
def rs4 : List RR := [.tmp 4]
def cut4 : Nat → Nat := fun id => 0
theorem k4 : (Try.f4.body.bind fun c => comp Try.prog Try.f4.ntmps cut4 c) = some r4 := by kernel_rfl
theorem by4 {W0 : World} {σ : List Blk} {args : List AV} {K : Cont} (hn : args.length ≤ 46) (h : rW Try.prog W0 σ.length r4 (initFr args) σ (finP W0 rs4 σ.length K)) : ACall Try.prog W0 4 args σ K :=
  ACall.introR mixed Try.func4 (by kernel_rfl) k4 (by kernel_rfl) hn h
def r5 : RC := (.seq (.reg [.op (some 2) (.box 37 (.t 0)),
  .op (some 4) (.mv (.v (.lit (.bool false))))])
 (.seq (.reg [.op (some 5) (.mv (.v (.lit (.int .i64 (1048576)))))])
 (.seq (.reg [.op (some 16) (.mv (.t 1)),
  .op (some 17) (.mv (.t 5)),
  .op (some 18) (.call (.v (.lit (.func (.func 6) #[] #[]))) [(.t 16), (.t 17)]),
  .op (some 5) (.mv (.t 18))])
 (.seq (.seq (.reg [.op (some 19) (.mv (.t 5)),
  .op (some 20) (.binI .lss (.t 19) (.v (.lit (.int .i64 (0)))))])
 (.cond (.t 20)
 (.seq (.reg [.op (some 4) (.mv (.v (.lit (.bool true))))])
 .ret)
 .skip))
 (.seq (.reg [.op (some 22) (.load 36 true (.t 2)),
  .op (some 23) (.call (.v (.lit (.func (.func 16) #[] #[]))) [(.t 22)]),
  .op (some 24) (.mv (.t 1)),
  .op (some 25) (.call (.v (.lit (.func (.func 8) #[] #[]))) [(.t 24)]),
  .op (some 26) (.call (.v (.lit (.func (.func 18) #[] #[]))) [(.t 23), (.t 25)]),
  .op (some 21) (.mv (.t 26)),
  .op (some 27) (.ext (.t 21) 0),
  .op (some 28) (.ext (.t 21) 1),
  .op (some 6) (.mv (.t 27)),
  .op (some 7) (.mv (.t 28))])
 (.seq (.reg [.op (some 29) (.mv (.t 1)),
  .op (some 30) (.call (.v (.lit (.func (.func 8) #[] #[]))) [(.t 29)]),
  .op (some 8) (.mv (.t 30))])
 (.seq (.reg [.op (some 32) (.load 36 true (.t 2)),
  .op (some 33) (.call (.v (.lit (.func (.func 16) #[] #[]))) [(.t 32)]),
  .op (some 34) (.mv (.t 8)),
  .op (some 35) (.call (.v (.lit (.func (.func 19) #[] #[]))) [(.t 33), (.t 34)]),
  .op (some 31) (.mv (.t 35)),
  .op (some 36) (.ext (.t 31) 0),
  .op (some 37) (.ext (.t 31) 1),
  .op (some 9) (.mv (.t 36)),
  .op (some 10) (.mv (.t 37))])
 (.seq (.seq (.reg [.op (some 38) (.mv (.t 9)),
  .op (some 39) (.mv (.t 6)),
  .op (some 40) (.call (.v (.lit (.func (.func 20) #[] #[]))) [(.t 38), (.t 39)]),
  .op (some 41) (.un .not (.t 40)),
  .op (some 42) (.mv (.t 41)),
  .grp 42 false [((some 43), (.mv (.t 10))), ((some 44), (.mv (.t 7))), ((some 45), (.binB true (.t 43) (.t 44)))],
  .op (some 46) (.pick (.t 42) (.v (.lit (.bool true))) (.t 45))])
 (.cond (.t 46)
 (.seq (.reg [.op (some 4) (.mv (.v (.lit (.bool false))))])
 .ret)
 .skip))
 (.seq (.seq (.reg [.op (some 47) (.mv (.t 8)),
  .op (some 48) (.mv (.t 1)),
  .op (some 49) (.call (.v (.lit (.func (.func 8) #[] #[]))) [(.t 48)]),
  .op (some 50) (.call (.v (.lit (.func (.func 11) #[] #[]))) [(.t 47), (.t 49)]),
  .op (some 51) (.un .not (.t 50))])
 (.cond (.t 51)
 (.seq (.reg [.op (some 4) (.mv (.v (.lit (.bool false))))])
 .ret)
 .skip))
 (.seq (.reg [.op (some 11) (.mv (.v (.lit (.int .i64 (1)))))])
 (.seq (.reg [.op (some 52) (.mv (.t 8)),
  .op (some 53) (.mv (.t 11)),
  .op (some 54) (.call (.v (.lit (.func (.func 12) #[] #[]))) [(.t 52), (.t 53)]),
  .op (some 11) (.mv (.t 54))])
 (.seq (.seq (.reg [.op (some 55) (.mv (.t 11)),
  .op (some 56) (.binI .lss (.t 55) (.v (.lit (.int .i64 (0))))),
  .op (some 57) (.mv (.t 56)),
  .grp 57 false [((some 58), (.mv (.t 9))), ((some 59), (.mv (.t 6))), ((some 60), (.call (.v (.lit (.func (.func 20) #[] #[]))) [(.t 58), (.t 59)])), ((some 61), (.un .not (.t 60)))],
  .op (some 62) (.pick (.t 57) (.v (.lit (.bool true))) (.t 61)),
  .op (some 63) (.mv (.t 62)),
  .grp 63 false [((some 64), (.mv (.t 10))), ((some 65), (.mv (.t 7))), ((some 66), (.binB true (.t 64) (.t 65)))],
  .op (some 67) (.pick (.t 63) (.v (.lit (.bool true))) (.t 66))])
 (.cond (.t 67)
 (.seq (.reg [.op (some 4) (.mv (.v (.lit (.bool false))))])
 .ret)
 .skip))
 (.seq (.reg [.op (some 12) (.mv (.v (.lit (.int .i64 (1)))))])
 (.seq (.reg [.op (some 68) (.mv (.t 9)),
  .op (some 69) (.mv (.t 12)),
  .op (some 70) (.call (.v (.lit (.func (.func 21) #[] #[]))) [(.t 68), (.t 69)]),
  .op (some 12) (.mv (.t 70))])
 (.seq (.reg [.op (some 13) (.mv (.v (.lit (.int .i64 (1)))))])
 (.seq (.reg [.op (some 71) (.mv (.t 9)),
  .op (some 72) (.mv (.t 13)),
  .op (some 73) (.call (.v (.lit (.func (.func 22) #[] #[]))) [(.t 71), (.t 72)]),
  .op (some 13) (.mv (.t 73))])
 (.seq (.seq (.reg [.op (some 74) (.mv (.t 13)),
  .op (some 75) (.binI .lss (.t 74) (.v (.lit (.int .i64 (0)))))])
 (.cond (.t 75)
 (.seq (.reg [.op (some 4) (.mv (.v (.lit (.bool false))))])
 .ret)
 .skip))
 (.seq (.seq (.reg [.op (some 76) (.mv (.t 13)),
  .op (some 77) (.mv (.t 12)),
  .op (some 78) (.binI .neq (.t 76) (.t 77))])
 (.cond (.t 78)
 (.seq (.reg [.op (some 4) (.mv (.v (.lit (.bool false))))])
 .ret)
 .skip))
 (.seq (.reg [.op (some 80) (.load 36 true (.t 2)),
  .op (some 81) (.call (.v (.lit (.func (.func 16) #[] #[]))) [(.t 80)]),
  .op (some 82) (.mv (.t 1)),
  .op (some 83) (.call (.v (.lit (.func (.func 8) #[] #[]))) [(.t 82)]),
  .op (some 84) (.call (.v (.lit (.func (.func 19) #[] #[]))) [(.t 81), (.t 83)]),
  .op (some 79) (.mv (.t 84)),
  .op (some 85) (.ext (.t 79) 0),
  .op (some 86) (.ext (.t 79) 1),
  .op (some 14) (.mv (.t 85)),
  .op (some 15) (.mv (.t 86))])
 (.seq (.seq (.reg [.op (some 87) (.mv (.t 14)),
  .op (some 88) (.mv (.t 6)),
  .op (some 89) (.call (.v (.lit (.func (.func 20) #[] #[]))) [(.t 87), (.t 88)]),
  .op (some 90) (.un .not (.t 89)),
  .op (some 91) (.mv (.t 90)),
  .grp 91 false [((some 92), (.mv (.t 15))), ((some 93), (.mv (.t 7))), ((some 94), (.binB true (.t 92) (.t 93)))],
  .op (some 95) (.pick (.t 91) (.v (.lit (.bool true))) (.t 94))])
 (.cond (.t 95)
 (.seq (.reg [.op (some 4) (.mv (.v (.lit (.bool false))))])
 .ret)
 .skip))
 (.seq (.reg [.op (some 13) (.mv (.v (.lit (.int .i64 (1)))))])
 (.seq (.reg [.op (some 96) (.mv (.t 9)),
  .op (some 97) (.mv (.t 13)),
  .op (some 98) (.call (.v (.lit (.func (.func 22) #[] #[]))) [(.t 96), (.t 97)]),
  .op (some 13) (.mv (.t 98))])
 (.seq (.seq (.reg [.op (some 99) (.mv (.t 13)),
  .op (some 100) (.binI .lss (.t 99) (.v (.lit (.int .i64 (0)))))])
 (.cond (.t 100)
 (.seq (.reg [.op (some 4) (.mv (.v (.lit (.bool false))))])
 .ret)
 .skip))
 (.seq (.seq (.reg [.op (some 101) (.mv (.t 13)),
  .op (some 102) (.mv (.t 12)),
  .op (some 103) (.binI .neq (.t 101) (.t 102))])
 (.cond (.t 103)
 (.seq (.reg [.op (some 4) (.mv (.v (.lit (.bool false))))])
 .ret)
 .skip))
 (.seq (.reg [.op (some 4) (.mv (.v (.lit (.bool true))))])
 .ret)))))))))))))))))))))))))
def rs5 : List RR := [.tmp 4]
def cut5 : Nat → Nat := fun id => 0
theorem k5 : (Try.f5.body.bind fun c => comp Try.prog Try.f5.ntmps cut5 c) = some r5 := by kernel_rfl
theorem by5 {W0 : World} {σ : List Blk} {args : List AV} {K : Cont} (hn : args.length ≤ 104) (h : rW Try.prog W0 σ.length r5 (initFr args) σ (finP W0 rs5 σ.length K)) : ACall Try.prog W0 5 args σ K :=
  ACall.introR mixed Try.func5 (by kernel_rfl) k5 (by kernel_rfl) hn h
def r6 : RC := (.seq (.reg [.op (some 4) (.mv (.v (.lit (.int .i64 (0)))))])
 (.seq (.reg [.op (some 5) (.mv (.t 1)),
  .op (some 6) (.mv (.t 0)),
  .op (some 7) (.lenL (.t 6)),
  .op (some 8) (.binI .sub (.t 5) (.t 7)),
  .op (some 1) (.mv (.t 8))])
 (.seq (.seq (.reg [.op (some 9) (.mv (.t 1)),
  .op (some 10) (.binI .lss (.t 9) (.v (.lit (.int .i64 (0)))))])
 (.cond (.t 10)
 (.seq (.reg [.op (some 4) (.mv (.v (.lit (.int .i64 (-1)))))])
 .ret)
 .skip))
 (.seq (.reg [.op (some 11) (.mv (.t 1)),
  .op (some 4) (.mv (.t 11))])
 .ret))))
def rs6 : List RR := [.tmp 4]
def cut6 : Nat → Nat := fun id => 0
theorem k6 : (Try.f6.body.bind fun c => comp Try.prog Try.f6.ntmps cut6 c) = some r6 := by kernel_rfl
theorem by6 {W0 : World} {σ : List Blk} {args : List AV} {K : Cont} (hn : args.length ≤ 12) (h : rW Try.prog W0 σ.length r6 (initFr args) σ (finP W0 rs6 σ.length K)) : ACall Try.prog W0 6 args σ K :=
  ACall.introR mixed Try.func6 (by kernel_rfl) k6 (by kernel_rfl) hn h
def r8 : RC := (.seq (.reg [.op (some 2) (.mv (.v (.lit (.slice none 0 0))))])
 (.seq (.reg [.op (some 5) (.mv (.t 0)),
  .op (some 6) (.lenL (.t 5)),
  .op (some 7) (.mkslice 56 9 72 (List.replicate 9 (.lit (.int .i64 (0)))) (.t 6) (.t 6)),
  .op (some 3) (.mv (.t 7))])
 (.seq (.seq (.reg [.op (some 4) (.mv (.v (.lit (.int .i64 (0)))))])
 (.block 0 (.loop (.seq (.seq (.reg [.op (some 8) (.mv (.t 4)),
  .op (some 9) (.mv (.t 0)),
  .op (some 10) (.lenL (.t 9)),
  .op (some 11) (.binI .lss (.t 8) (.t 10))])
 (.cond (.t 11)
 .skip
 (.exit 0)))
 (.seq (.block 1 (.reg [.op (some 14) (.mv (.t 3)),
  .op (some 15) (.mv (.t 4)),
  .op (some 16) (.mv (.t 0)),
  .op (some 17) (.mv (.t 4)),
  .op (some 18) (.iaddrS 9 (.t 16) (.t 17)),
  .op (some 19) (.load 9 true (.t 18)),
  .op (some 20) (.call (.v (.lit (.func (.func 27) #[] #[]))) [(.t 19)]),
  .op (some 21) (.iaddrS 9 (.t 14) (.t 15)),
  .op none (.store 9 (.t 21) (.t 20))]))
 (.reg [.op (some 12) (.mv (.t 4)),
  .op (some 13) (.binI .add (.t 12) (.v (.lit (.int .i64 (1))))),
  .op (some 4) (.mv (.t 13))]))))))
 (.seq (.reg [.op (some 22) (.mv (.t 3)),
  .op (some 2) (.mv (.t 22))])
 .ret))))
def rs8 : List RR := [.tmp 2]
def cut8 : Nat → Nat := fun id => 0
theorem k8 : (Try.f8.body.bind fun c => comp Try.prog Try.f8.ntmps cut8 c) = some r8 := by kernel_rfl
theorem by8 {W0 : World} {σ : List Blk} {args : List AV} {K : Cont} (hn : args.length ≤ 23) (h : rW Try.prog W0 σ.length r8 (initFr args) σ (finP W0 rs8 σ.length K)) : ACall Try.prog W0 8 args σ K :=
  ACall.introR mixed Try.func8 (by kernel_rfl) k8 (by kernel_rfl) hn h
def r11 : RC := (.seq (.reg [.op (some 4) (.mv (.v (.lit (.bool false))))])
 (.seq (.seq (.reg [.op (some 6) (.mv (.t 0)),
  .op (some 7) (.lenL (.t 6)),
  .op (some 8) (.mv (.t 1)),
  .op (some 9) (.lenL (.t 8)),
  .op (some 10) (.binI .neq (.t 7) (.t 9))])
 (.cond (.t 10)
 (.seq (.reg [.op (some 4) (.mv (.v (.lit (.bool false))))])
 .ret)
 .skip))
 (.seq (.seq (.reg [.op (some 5) (.mv (.v (.lit (.int .i64 (0)))))])
 (.block 0 (.loop (.seq (.seq (.reg [.op (some 11) (.mv (.t 5)),
  .op (some 12) (.mv (.t 0)),
  .op (some 13) (.lenL (.t 12)),
  .op (some 14) (.binI .lss (.t 11) (.t 13))])
 (.cond (.t 14)
 .skip
 (.exit 0)))
 (.seq (.block 1 (.seq (.draw [((some 17), (.mv (.t 0))), ((some 18), (.mv (.t 5))), ((some 19), (.iaddrS 9 (.t 17) (.t 18))), ((some 20), (.load 9 true (.t 19))), ((some 21), (.mv (.t 1))), ((some 22), (.mv (.t 5))), ((some 23), (.iaddrS 9 (.t 21) (.t 22))), ((some 24), (.load 9 true (.t 23))), ((some 25), (.call (.v (.lit (.func (.func 30) #[] #[]))) [(.t 20), (.t 24)])), ((some 26), (.un .not (.t 25)))] [])
 (.cond (.t 26)
 (.seq (.reg [.op (some 4) (.mv (.v (.lit (.bool false))))])
 .ret)
 .skip)))
 (.reg [.op (some 15) (.mv (.t 5)),
  .op (some 16) (.binI .add (.t 15) (.v (.lit (.int .i64 (1))))),
  .op (some 5) (.mv (.t 16))]))))))
 (.seq (.reg [.op (some 4) (.mv (.v (.lit (.bool true))))])
 .ret))))
def rs11 : List RR := [.tmp 4]
def cut11 : Nat → Nat := fun id => if id = 6 then 21 else 0
theorem k11 : (Try.f11.body.bind fun c => comp Try.prog Try.f11.ntmps cut11 c) = some r11 := by kernel_rfl
theorem by11 {W0 : World} {σ : List Blk} {args : List AV} {K : Cont} (hn : args.length ≤ 27) (h : rW Try.prog W0 σ.length r11 (initFr args) σ (finP W0 rs11 σ.length K)) : ACall Try.prog W0 11 args σ K :=
  ACall.introR mixed Try.func11 (by kernel_rfl) k11 (by kernel_rfl) hn h
def r12 : RC := (.seq (.reg [.op (some 4) (.mv (.v (.lit (.int .i64 (0)))))])
 (.seq (.seq (.reg [.op (some 5) (.mv (.v (.lit (.int .i64 (0)))))])
 (.block 0 (.loop (.seq (.seq (.reg [.op (some 8) (.mv (.t 5)),
  .op (some 9) (.mv (.t 0)),
  .op (some 10) (.lenL (.t 9)),
  .op (some 11) (.binI .lss (.t 8) (.t 10))])
 (.cond (.t 11)
 .skip
 (.exit 0)))
 (.seq (.block 1 (.seq (.reg [.op (some 14) (.mv (.t 0)),
  .op (some 15) (.mv (.t 5)),
  .op (some 16) (.mv (.t 1)),
  .op (some 17) (.iaddrS 9 (.t 14) (.t 15)),
  .op (some 18) (.faddr 0 (.t 17)),
  .op none (.store 1 (.t 18) (.t 16))])
 (.seq (.reg [.op (some 19) (.mv (.t 1)),
  .op (some 20) (.binI .add (.t 19) (.v (.lit (.int .i64 (1))))),
  .op (some 1) (.mv (.t 20))])
 (.seq (.seq (.reg [.op (some 6) (.mv (.v (.lit (.int .i64 (0)))))])
 (.block 2 (.loop (.seq (.seq (.reg [.op (some 21) (.mv (.t 6)),
  .op (some 22) (.binI .lss (.t 21) (.v (.lit (.int .i64 (6)))))])
 (.cond (.t 22)
 .skip
 (.exit 2)))
 (.seq (.block 3 (.seq (.reg [.op (some 25) (.mv (.t 0)),
  .op (some 26) (.mv (.t 5)),
  .op (some 27) (.mv (.t 6)),
  .op (some 28) (.mv (.t 1)),
  .op (some 29) (.iaddrS 9 (.t 25) (.t 26)),
  .op (some 30) (.faddr 1 (.t 29)),
  .op (some 31) (.faddr 0 (.t 30)),
  .op (some 32) (.iaddrA 6 1 (.t 31) (.t 27)),
  .op none (.store 1 (.t 32) (.t 28))])
 (.reg [.op (some 33) (.mv (.t 1)),
  .op (some 34) (.binI .add (.t 33) (.v (.lit (.int .i64 (1))))),
  .op (some 1) (.mv (.t 34))])))
 (.reg [.op (some 23) (.mv (.t 6)),
  .op (some 24) (.binI .add (.t 23) (.v (.lit (.int .i64 (1))))),
  .op (some 6) (.mv (.t 24))]))))))
 (.seq (.reg [.op (some 7) (.mv (.v (.lit (.int .i64 (0)))))])
 (.block 4 (.loop (.seq (.seq (.reg [.op (some 35) (.mv (.t 7)),
  .op (some 36) (.binI .lss (.t 35) (.v (.lit (.int .i64 (2)))))])
 (.cond (.t 36)
 .skip
 (.exit 4)))
 (.seq (.block 5 (.seq (.reg [.op (some 39) (.mv (.t 0)),
  .op (some 40) (.mv (.t 5)),
  .op (some 41) (.mv (.t 7)),
  .op (some 42) (.mv (.t 1)),
  .op (some 43) (.iaddrS 9 (.t 39) (.t 40)),
  .op (some 44) (.faddr 7 (.t 43)),
  .op (some 45) (.iaddrA 2 1 (.t 44) (.t 41)),
  .op none (.store 1 (.t 45) (.t 42))])
 (.reg [.op (some 46) (.mv (.t 1)),
  .op (some 47) (.binI .add (.t 46) (.v (.lit (.int .i64 (1))))),
  .op (some 1) (.mv (.t 47))])))
 (.reg [.op (some 37) (.mv (.t 7)),
  .op (some 38) (.binI .add (.t 37) (.v (.lit (.int .i64 (1))))),
  .op (some 7) (.mv (.t 38))]))))))))))
 (.reg [.op (some 12) (.mv (.t 5)),
  .op (some 13) (.binI .add (.t 12) (.v (.lit (.int .i64 (1))))),
  .op (some 5) (.mv (.t 13))]))))))
 (.seq (.reg [.op (some 48) (.mv (.t 1)),
  .op (some 4) (.mv (.t 48))])
 .ret)))
def rs12 : List RR := [.tmp 4]
def cut12 : Nat → Nat := fun id => 0
theorem k12 : (Try.f12.body.bind fun c => comp Try.prog Try.f12.ntmps cut12 c) = some r12 := by kernel_rfl
theorem by12 {W0 : World} {σ : List Blk} {args : List AV} {K : Cont} (hn : args.length ≤ 49) (h : rW Try.prog W0 σ.length r12 (initFr args) σ (finP W0 rs12 σ.length K)) : ACall Try.prog W0 12 args σ K :=
  ACall.introR mixed Try.func12 (by kernel_rfl) k12 (by kernel_rfl) hn h
def r15 : RC := (.seq (.reg [.op (some 2) (.box 40 (.t 0)),
  .op (some 4) (.mv (.v (.lit (.int .i64 (0))))),
  .op (some 5) (.mv (.v (.lit (.bool false))))])
 (.seq (.seq (.reg [.op (some 6) (.load 36 true (.t 2)),
  .op (some 7) (.call (.v (.lit (.func (.func 31) #[] #[]))) [(.t 6)]),
  .op (some 8) (.un .not (.t 7)),
  .op (some 9) (.mv (.t 8)),
  .grp 9 false [((some 10), (.mv (.t 1))), ((some 11), (.call (.v (.lit (.func (.func 23) #[] #[]))) [(.t 10)])), ((some 12), (.un .not (.t 11)))],
  .op (some 13) (.pick (.t 9) (.v (.lit (.bool true))) (.t 12))])
 (.cond (.t 13)
 (.seq (.reg [.op (some 4) (.mv (.v (.lit (.int .i64 (0))))),
  .op (some 5) (.mv (.v (.lit (.bool false))))])
 .ret)
 .skip))
 (.seq (.reg [.op (some 14) (.load 36 true (.t 2)),
  .op (some 15) (.mv (.t 1)),
  .op (some 16) (.call (.v (.lit (.func (.func 32) #[] #[]))) [(.t 14), (.t 15)]),
  .op (some 17) (.lenL (.t 16)),
  .op (some 4) (.mv (.t 17)),
  .op (some 5) (.mv (.v (.lit (.bool true))))])
 .ret)))
def rs15 : List RR := [.tmp 4, .tmp 5]
def cut15 : Nat → Nat := fun id => 0
theorem k15 : (Try.f15.body.bind fun c => comp Try.prog Try.f15.ntmps cut15 c) = some r15 := by kernel_rfl
theorem by15 {W0 : World} {σ : List Blk} {args : List AV} {K : Cont} (hn : args.length ≤ 18) (h : rW Try.prog W0 σ.length r15 (initFr args) σ (finP W0 rs15 σ.length K)) : ACall Try.prog W0 15 args σ K :=
  ACall.introR mixed Try.func15 (by kernel_rfl) k15 (by kernel_rfl) hn h
def r16 : RC := (.seq (.reg [.op (some 1) (.box 37 (.t 0)),
  .op (some 2) (.alloc 40 (List.replicate 36 (.lit (.int .i64 (0)))))])
 (.seq (.reg [.op (some 3) (.alloc 40 (List.replicate 36 (.lit (.int .i64 (0)))))])
 (.seq (.reg [.op (some 4) (.faddr 0 (.t 1)),
  .op (some 5) (.load 36 true (.t 4)),
  .op (some 6) (.call (.v (.lit (.func (.func 33) #[] #[]))) [(.t 5)]),
  .op (some 7) (.faddr 0 (.t 3)),
  .op none (.store 36 (.t 7) (.t 6))])
 (.seq (.reg [.op (some 8) (.load 36 true (.t 3)),
  .op none (.store 36 (.t 2) (.t 8))])
 .ret))))
def rs16 : List RR := [.cell 2 36 true]
def cut16 : Nat → Nat := fun id => 0
theorem k16 : (Try.f16.body.bind fun c => comp Try.prog Try.f16.ntmps cut16 c) = some r16 := by kernel_rfl
theorem by16 {W0 : World} {σ : List Blk} {args : List AV} {K : Cont} (hn : args.length ≤ 9) (h : rW Try.prog W0 σ.length r16 (initFr args) σ (finP W0 rs16 σ.length K)) : ACall Try.prog W0 16 args σ K :=
  ACall.introR mixed Try.func16 (by kernel_rfl) k16 (by kernel_rfl) hn h
def r17 : RC := (.seq (.reg [.op (some 2) (.box 40 (.t 0)),
  .op (some 4) (.mv (.v (.lit (.int .i64 (0))))),
  .op (some 5) (.mv (.v (.lit (.bool false))))])
 (.seq (.reg [.op (some 9) (.load 36 true (.t 2)),
  .op (some 10) (.mv (.t 1)),
  .op (some 11) (.call (.v (.lit (.func (.func 34) #[] #[]))) [(.t 9), (.t 10)]),
  .op (some 8) (.mv (.t 11)),
  .op (some 12) (.ext (.t 8) 0),
  .op (some 13) (.ext (.t 8) 1),
  .op (some 6) (.mv (.t 12)),
  .op (some 7) (.mv (.t 13))])
 (.seq (.reg [.op (some 14) (.mv (.t 6)),
  .op (some 15) (.lenL (.t 14)),
  .op (some 16) (.mv (.t 7)),
  .op (some 4) (.mv (.t 15)),
  .op (some 5) (.mv (.t 16))])
 .ret)))
def rs17 : List RR := [.tmp 4, .tmp 5]
def cut17 : Nat → Nat := fun id => 0
theorem k17 : (Try.f17.body.bind fun c => comp Try.prog Try.f17.ntmps cut17 c) = some r17 := by kernel_rfl
theorem by17 {W0 : World} {σ : List Blk} {args : List AV} {K : Cont} (hn : args.length ≤ 17) (h : rW Try.prog W0 σ.length r17 (initFr args) σ (finP W0 rs17 σ.length K)) : ACall Try.prog W0 17 args σ K :=
  ACall.introR mixed Try.func17 (by kernel_rfl) k17 (by kernel_rfl) hn h
def r18 : RC := (.seq (.reg [.op (some 2) (.box 40 (.t 0)),
  .op (some 4) (.mv (.v (.lit (.slice none 0 0)))),
  .op (some 5) (.mv (.v (.lit (.bool false))))])
 (.seq (.seq (.reg [.op (some 7) (.load 36 true (.t 2)),
  .op (some 8) (.call (.v (.lit (.func (.func 31) #[] #[]))) [(.t 7)]),
  .op (some 9) (.un .not (.t 8)),
  .op (some 10) (.mv (.t 9)),
  .grp 10 false [((some 11), (.mv (.t 1))), ((some 12), (.call (.v (.lit (.func (.func 23) #[] #[]))) [(.t 11)])), ((some 13), (.un .not (.t 12)))],
  .op (some 14) (.pick (.t 10) (.v (.lit (.bool true))) (.t 13))])
 (.cond (.t 14)
 (.seq (.reg [.op (some 15) (.bslice 3 1 0 [(.lit (.int .i64 (0)))] []),
  .op (some 4) (.mv (.t 15)),
  .op (some 5) (.mv (.v (.lit (.bool false))))])
 .ret)
 .skip))
 (.seq (.reg [.op (some 16) (.load 36 true (.t 2)),
  .op (some 17) (.mv (.t 1)),
  .op (some 18) (.call (.v (.lit (.func (.func 32) #[] #[]))) [(.t 16), (.t 17)]),
  .op (some 6) (.mv (.t 18))])
 (.seq (.seq (.reg [.op (some 19) (.mv (.t 6)),
  .op (some 20) (.lenL (.t 19)),
  .op (some 21) (.binI .eql (.t 20) (.v (.lit (.int .i64 (0)))))])
 (.cond (.t 21)
 (.seq (.reg [.op (some 22) (.bslice 3 1 0 [(.lit (.int .i64 (0)))] []),
  .op (some 4) (.mv (.t 22)),
  .op (some 5) (.mv (.v (.lit (.bool false))))])
 .ret)
 .skip))
 (.seq (.reg [.op (some 23) (.mv (.t 6)),
  .op (some 24) (.iaddrS 1 (.t 23) (.v (.lit (.int .i64 (0))))),
  .op (some 25) (.load 1 false (.t 24)),
  .op (some 4) (.mv (.t 25)),
  .op (some 5) (.mv (.v (.lit (.bool true))))])
 .ret)))))
def rs18 : List RR := [.tmp 4, .tmp 5]
def cut18 : Nat → Nat := fun id => 0
theorem k18 : (Try.f18.body.bind fun c => comp Try.prog Try.f18.ntmps cut18 c) = some r18 := by kernel_rfl
theorem by18 {W0 : World} {σ : List Blk} {args : List AV} {K : Cont} (hn : args.length ≤ 26) (h : rW Try.prog W0 σ.length r18 (initFr args) σ (finP W0 rs18 σ.length K)) : ACall Try.prog W0 18 args σ K :=
  ACall.introR mixed Try.func18 (by kernel_rfl) k18 (by kernel_rfl) hn h
def r19 : RC := (.seq (.reg [.op (some 2) (.box 40 (.t 0)),
  .op (some 4) (.mv (.v (.lit (.slice none 0 0)))),
  .op (some 5) (.mv (.v (.lit (.bool false))))])
 (.seq (.reg [.op (some 9) (.load 36 true (.t 2)),
  .op (some 10) (.mv (.t 1)),
  .op (some 11) (.call (.v (.lit (.func (.func 34) #[] #[]))) [(.t 9), (.t 10)]),
  .op (some 8) (.mv (.t 11)),
  .op (some 12) (.ext (.t 8) 0),
  .op (some 13) (.ext (.t 8) 1),
  .op (some 6) (.mv (.t 12)),
  .op (some 7) (.mv (.t 13))])
 (.seq (.seq (.reg [.op (some 14) (.mv (.t 7)),
  .op (some 15) (.un .not (.t 14)),
  .op (some 16) (.mv (.t 15)),
  .grp 16 false [((some 17), (.mv (.t 6))), ((some 18), (.lenL (.t 17))), ((some 19), (.binI .eql (.t 18) (.v (.lit (.int .i64 (0))))))],
  .op (some 20) (.pick (.t 16) (.v (.lit (.bool true))) (.t 19))])
 (.cond (.t 20)
 (.seq (.reg [.op (some 4) (.mv (.v (.lit (.slice none 0 0)))),
  .op (some 5) (.mv (.v (.lit (.bool false))))])
 .ret)
 .skip))
 (.seq (.reg [.op (some 21) (.mv (.t 6)),
  .op (some 22) (.iaddrS 1 (.t 21) (.v (.lit (.int .i64 (0))))),
  .op (some 23) (.load 1 false (.t 22)),
  .op (some 4) (.mv (.t 23)),
  .op (some 5) (.mv (.v (.lit (.bool true))))])
 .ret))))
def rs19 : List RR := [.tmp 4, .tmp 5]
def cut19 : Nat → Nat := fun id => 0
theorem k19 : (Try.f19.body.bind fun c => comp Try.prog Try.f19.ntmps cut19 c) = some r19 := by kernel_rfl
theorem by19 {W0 : World} {σ : List Blk} {args : List AV} {K : Cont} (hn : args.length ≤ 24) (h : rW Try.prog W0 σ.length r19 (initFr args) σ (finP W0 rs19 σ.length K)) : ACall Try.prog W0 19 args σ K :=
  ACall.introR mixed Try.func19 (by kernel_rfl) k19 (by kernel_rfl) hn h
def r20 : RC := (.seq (.reg [.op (some 4) (.mv (.v (.lit (.bool false))))])
 (.seq (.seq (.reg [.op (some 6) (.mv (.t 0)),
  .op (some 7) (.lenL (.t 6)),
  .op (some 8) (.mv (.t 1)),
  .op (some 9) (.lenL (.t 8)),
  .op (some 10) (.binI .neq (.t 7) (.t 9))])
 (.cond (.t 10)
 (.seq (.reg [.op (some 4) (.mv (.v (.lit (.bool false))))])
 .ret)
 .skip))
 (.seq (.seq (.reg [.op (some 5) (.mv (.v (.lit (.int .i64 (0)))))])
 (.block 0 (.loop (.seq (.seq (.reg [.op (some 11) (.mv (.t 5)),
  .op (some 12) (.mv (.t 0)),
  .op (some 13) (.lenL (.t 12)),
  .op (some 14) (.binI .lss (.t 11) (.t 13))])
 (.cond (.t 14)
 .skip
 (.exit 0)))
 (.seq (.block 1 (.seq (.draw [((some 17), (.mv (.t 0))), ((some 18), (.mv (.t 5))), ((some 19), (.iaddrS 1 (.t 17) (.t 18))), ((some 20), (.load 1 false (.t 19))), ((some 21), (.mv (.t 1))), ((some 22), (.mv (.t 5))), ((some 23), (.iaddrS 1 (.t 21) (.t 22))), ((some 24), (.load 1 false (.t 23))), ((some 25), (.binI .neq (.t 20) (.t 24)))] [])
 (.cond (.t 25)
 (.seq (.reg [.op (some 4) (.mv (.v (.lit (.bool false))))])
 .ret)
 .skip)))
 (.reg [.op (some 15) (.mv (.t 5)),
  .op (some 16) (.binI .add (.t 15) (.v (.lit (.int .i64 (1))))),
  .op (some 5) (.mv (.t 16))]))))))
 (.seq (.reg [.op (some 4) (.mv (.v (.lit (.bool true))))])
 .ret))))
def rs20 : List RR := [.tmp 4]
def cut20 : Nat → Nat := fun id => if id = 6 then 19 else 0
theorem k20 : (Try.f20.body.bind fun c => comp Try.prog Try.f20.ntmps cut20 c) = some r20 := by kernel_rfl
theorem by20 {W0 : World} {σ : List Blk} {args : List AV} {K : Cont} (hn : args.length ≤ 26) (h : rW Try.prog W0 σ.length r20 (initFr args) σ (finP W0 rs20 σ.length K)) : ACall Try.prog W0 20 args σ K :=
  ACall.introR mixed Try.func20 (by kernel_rfl) k20 (by kernel_rfl) hn h
def r21 : RC := (.seq (.reg [.op (some 4) (.mv (.v (.lit (.int .i64 (0)))))])
 (.seq (.seq (.reg [.op (some 5) (.mv (.v (.lit (.int .i64 (0)))))])
 (.block 0 (.loop (.seq (.seq (.reg [.op (some 6) (.mv (.t 5)),
  .op (some 7) (.mv (.t 0)),
  .op (some 8) (.lenL (.t 7)),
  .op (some 9) (.binI .lss (.t 6) (.t 8))])
 (.cond (.t 9)
 .skip
 (.exit 0)))
 (.seq (.block 1 (.seq (.reg [.op (some 12) (.mv (.t 0)),
  .op (some 13) (.mv (.t 5)),
  .op (some 14) (.mv (.t 1)),
  .op (some 15) (.iaddrS 1 (.t 12) (.t 13)),
  .op none (.store 1 (.t 15) (.t 14))])
 (.reg [.op (some 16) (.mv (.t 1)),
  .op (some 17) (.binI .add (.t 16) (.v (.lit (.int .i64 (1))))),
  .op (some 1) (.mv (.t 17))])))
 (.reg [.op (some 10) (.mv (.t 5)),
  .op (some 11) (.binI .add (.t 10) (.v (.lit (.int .i64 (1))))),
  .op (some 5) (.mv (.t 11))]))))))
 (.seq (.reg [.op (some 18) (.mv (.t 1)),
  .op (some 4) (.mv (.t 18))])
 .ret)))
def rs21 : List RR := [.tmp 4]
def cut21 : Nat → Nat := fun id => 0
theorem k21 : (Try.f21.body.bind fun c => comp Try.prog Try.f21.ntmps cut21 c) = some r21 := by kernel_rfl
theorem by21 {W0 : World} {σ : List Blk} {args : List AV} {K : Cont} (hn : args.length ≤ 19) (h : rW Try.prog W0 σ.length r21 (initFr args) σ (finP W0 rs21 σ.length K)) : ACall Try.prog W0 21 args σ K :=
  ACall.introR mixed Try.func21 (by kernel_rfl) k21 (by kernel_rfl) hn h
def r22 : RC := (.seq (.reg [.op (some 4) (.mv (.v (.lit (.int .i64 (0)))))])
 (.seq (.seq (.reg [.op (some 5) (.mv (.v (.lit (.int .i64 (0)))))])
 (.block 0 (.loop (.seq (.seq (.reg [.op (some 6) (.mv (.t 5)),
  .op (some 7) (.mv (.t 0)),
  .op (some 8) (.lenL (.t 7)),
  .op (some 9) (.binI .lss (.t 6) (.t 8))])
 (.cond (.t 9)
 .skip
 (.exit 0)))
 (.seq (.block 1 (.seq (.seq (.reg [.op (some 12) (.mv (.t 0)),
  .op (some 13) (.mv (.t 5)),
  .op (some 14) (.iaddrS 1 (.t 12) (.t 13)),
  .op (some 15) (.load 1 false (.t 14)),
  .op (some 16) (.mv (.t 1)),
  .op (some 17) (.binI .neq (.t 15) (.t 16))])
 (.cond (.t 17)
 (.seq (.reg [.op (some 4) (.mv (.v (.lit (.int .i64 (-1)))))])
 .ret)
 .skip))
 (.reg [.op (some 18) (.mv (.t 1)),
  .op (some 19) (.binI .add (.t 18) (.v (.lit (.int .i64 (1))))),
  .op (some 1) (.mv (.t 19))])))
 (.reg [.op (some 10) (.mv (.t 5)),
  .op (some 11) (.binI .add (.t 10) (.v (.lit (.int .i64 (1))))),
  .op (some 5) (.mv (.t 11))]))))))
 (.seq (.reg [.op (some 20) (.mv (.t 1)),
  .op (some 4) (.mv (.t 20))])
 .ret)))
def rs22 : List RR := [.tmp 4]
def cut22 : Nat → Nat := fun id => 0
theorem k22 : (Try.f22.body.bind fun c => comp Try.prog Try.f22.ntmps cut22 c) = some r22 := by kernel_rfl
theorem by22 {W0 : World} {σ : List Blk} {args : List AV} {K : Cont} (hn : args.length ≤ 21) (h : rW Try.prog W0 σ.length r22 (initFr args) σ (finP W0 rs22 σ.length K)) : ACall Try.prog W0 22 args σ K :=
  ACall.introR mixed Try.func22 (by kernel_rfl) k22 (by kernel_rfl) hn h
def r23 : RC := (.seq (.reg [.op (some 2) (.mv (.v (.lit (.bool false))))])
 (.seq (.seq (.reg [.op (some 3) (.mv (.v (.lit (.int .i64 (0)))))])
 (.block 0 (.loop (.seq (.seq (.reg [.op (some 4) (.mv (.t 3)),
  .op (some 5) (.mv (.t 0)),
  .op (some 6) (.lenL (.t 5)),
  .op (some 7) (.binI .lss (.t 4) (.t 6)),
  .op (some 8) (.mv (.t 7)),
  .grp 8 true [((some 9), (.mv (.t 3))), ((some 10), (.binI .leq (.t 9) (.v (.lit (.int .i64 (6))))))],
  .op (some 11) (.pick (.t 8) (.t 10) (.v (.lit (.bool false))))])
 (.cond (.t 11)
 .skip
 (.exit 0)))
 (.seq (.block 1 (.seq (.reg [.op (some 14) (.mv (.t 0)),
  .op (some 15) (.mv (.t 3)),
  .op (some 16) (.iaddrS 9 (.t 14) (.t 15)),
  .op (some 17) (.load 9 true (.t 16)),
  .op (some 18) (.call (.v (.lit (.func (.func 35) #[] #[]))) [(.t 17)]),
  .op (some 19) (.un .not (.t 18))])
 (.cond (.t 19)
 (.seq (.reg [.op (some 2) (.mv (.v (.lit (.bool false))))])
 .ret)
 .skip)))
 (.reg [.op (some 12) (.mv (.t 3)),
  .op (some 13) (.binI .add (.t 12) (.v (.lit (.int .i64 (1))))),
  .op (some 3) (.mv (.t 13))]))))))
 (.seq (.reg [.op (some 20) (.mv (.t 0)),
  .op (some 21) (.lenL (.t 20)),
  .op (some 22) (.binI .leq (.t 21) (.v (.lit (.int .i64 (6))))),
  .op (some 2) (.mv (.t 22))])
 .ret)))
def rs23 : List RR := [.tmp 2]
def cut23 : Nat → Nat := fun id => 0
theorem k23 : (Try.f23.body.bind fun c => comp Try.prog Try.f23.ntmps cut23 c) = some r23 := by kernel_rfl
theorem by23 {W0 : World} {σ : List Blk} {args : List AV} {K : Cont} (hn : args.length ≤ 23) (h : rW Try.prog W0 σ.length r23 (initFr args) σ (finP W0 rs23 σ.length K)) : ACall Try.prog W0 23 args σ K :=
  ACall.introR mixed Try.func23 (by kernel_rfl) k23 (by kernel_rfl) hn h
def r26 : RC := (.seq (.reg [.op (some 1) (.box 56 (.t 0)),
  .op (some 2) (.alloc 51 (List.replicate 6 (.lit (.int .i64 (0)))))])
 (.seq (.reg [.op (some 3) (.faddr 1 (.t 1)),
  .op (some 4) (.load 6 true (.t 3)),
  .op (some 5) (.faddr 7 (.t 1)),
  .op (some 6) (.load 2 true (.t 5)),
  .op (some 7) (.call (.v (.lit (.func (.func 36) #[] #[]))) [(.t 4), (.t 6)]),
  .op none (.store 6 (.t 2) (.t 7))])
 .ret))
def rs26 : List RR := [.cell 2 6 true]
def cut26 : Nat → Nat := fun id => 0
theorem k26 : (Try.f26.body.bind fun c => comp Try.prog Try.f26.ntmps cut26 c) = some r26 := by kernel_rfl
theorem by26 {W0 : World} {σ : List Blk} {args : List AV} {K : Cont} (hn : args.length ≤ 8) (h : rW Try.prog W0 σ.length r26 (initFr args) σ (finP W0 rs26 σ.length K)) : ACall Try.prog W0 26 args σ K :=
  ACall.introR mixed Try.func26 (by kernel_rfl) k26 (by kernel_rfl) hn h
def r27 : RC := (.seq (.reg [.op (some 1) (.box 60 (.t 0)),
  .op (some 2) (.alloc 56 (List.replicate 9 (.lit (.int .i64 (0)))))])
 (.seq (.reg [.op (some 3) (.alloc 56 (List.replicate 9 (.lit (.int .i64 (0)))))])
 (.seq (.reg [.op (some 4) (.faddr 0 (.t 1)),
  .op (some 5) (.load 1 false (.t 4)),
  .op (some 6) (.faddr 0 (.t 3)),
  .op none (.store 1 (.t 6) (.t 5))])
 (.seq (.reg [.op (some 7) (.faddr 1 (.t 1)),
  .op (some 8) (.load 6 true (.t 7)),
  .op (some 9) (.call (.v (.lit (.func (.func 37) #[] #[]))) [(.t 8)]),
  .op (some 10) (.faddr 1 (.t 3)),
  .op none (.store 6 (.t 10) (.t 9))])
 (.seq (.reg [.op (some 11) (.faddr 7 (.t 1)),
  .op (some 12) (.load 2 true (.t 11)),
  .op (some 13) (.call (.v (.lit (.func (.func 38) #[] #[]))) [(.t 12)]),
  .op (some 14) (.faddr 7 (.t 3)),
  .op none (.store 2 (.t 14) (.t 13))])
 (.seq (.reg [.op (some 15) (.load 9 true (.t 3)),
  .op none (.store 9 (.t 2) (.t 15))])
 .ret))))))
def rs27 : List RR := [.cell 2 9 true]
def cut27 : Nat → Nat := fun id => 0
theorem k27 : (Try.f27.body.bind fun c => comp Try.prog Try.f27.ntmps cut27 c) = some r27 := by kernel_rfl
theorem by27 {W0 : World} {σ : List Blk} {args : List AV} {K : Cont} (hn : args.length ≤ 16) (h : rW Try.prog W0 σ.length r27 (initFr args) σ (finP W0 rs27 σ.length K)) : ACall Try.prog W0 27 args σ K :=
  ACall.introR mixed Try.func27 (by kernel_rfl) k27 (by kernel_rfl) hn h
def r28 : RC := (.seq (.reg [.op (some 2) (.mv (.v (.lit (.slice none 0 0)))),
  .op (some 3) (.mv (.v (.lit (.bool false))))])
 (.seq (.reg [.op (some 9) (.bslice 67 2 0 [(.lit (.int .u64 (0))), (.lit (.int .i64 (0)))] []),
  .op (some 4) (.mv (.t 9))])
 (.seq (.seq (.reg [.op (some 10) (.mv (.t 0)),
  .op (some 11) (.lenL (.t 10)),
  .op (some 12) (.mv (.v (.lit (.int .i64 (0)))))])
 (.block 0 (.loop (.seq (.reg [.op (some 13) (.binI .lss (.t 12) (.t 11))])
 (.seq (.cond (.t 13)
 .skip
 (.exit 0))
 (.seq (.block 1 (.seq (.reg [.op (some 14) (.iaddrS 9 (.t 10) (.t 12)),
  .op (some 15) (.load 9 true (.t 14)),
  .op (some 6) (.alloc 56 (List.replicate 9 (.lit (.int .i64 (0))))),
  .op none (.store 9 (.t 6) (.t 15))])
 (.seq (.seq (.reg [.op (some 16) (.load 9 true (.t 6)),
  .op (some 17) (.call (.v (.lit (.func (.func 39) #[] #[]))) [(.t 16)]),
  .op (some 18) (.un .not (.t 17))])
 (.cond (.t 18)
 (.seq (.reg [.op (some 2) (.mv (.v (.lit (.slice none 0 0)))),
  .op (some 3) (.mv (.v (.lit (.bool false))))])
 .ret)
 .skip))
 (.seq (.reg [.op (some 20) (.faddr 1 (.t 6)),
  .op (some 21) (.load 6 true (.t 20)),
  .op (some 22) (.call (.v (.lit (.func (.func 40) #[] #[]))) [(.t 21)]),
  .op (some 19) (.mv (.t 22)),
  .op (some 23) (.ext (.t 19) 0),
  .op (some 24) (.ext (.t 19) 1),
  .op (some 7) (.mv (.t 23)),
  .op (some 8) (.mv (.t 24))])
 (.any false (.n ⟨none, (some 25), (.mv (.t 4))⟩
 (.n ⟨none, (some 26), (.mv (.t 7))⟩
 (.n ⟨none, (some 27), (.faddr 7 (.t 6))⟩
 (.n ⟨none, (some 28), (.load 2 true (.t 27))⟩
 (.n ⟨none, (some 29), (.call (.v (.lit (.func (.func 42) #[] #[]))) [(.t 28)])⟩
 (.n ⟨none, (some 30), (.call (.v (.lit (.func (.func 41) #[] #[]))) [(.t 26), (.t 29)])⟩
 (.n ⟨none, (some 31), (.faddr 0 (.t 6))⟩
 (.n ⟨none, (some 32), (.load 1 false (.t 31))⟩
 (.n ⟨none, (some 33), (.build [(.lit (.int .u64 (0))), (.lit (.int .i64 (0)))] [((0, 1), (.t 30)), ((1, 1), (.t 32))])⟩
 (.t ⟨none, (some 34), (.bslice 67 2 1 [(.lit (.int .u64 (0))), (.lit (.int .i64 (0)))] [(0, (.t 33))])⟩
 (.t ⟨none, (some 35), (.append 61 67 2 16 (.t 25) (.t 34))⟩
 (.n ⟨none, (some 4), (.mv (.t 35))⟩
 .fin)))))))))))))))))
 (.reg [.op (some 36) (.binI .add (.t 12) (.v (.lit (.int .i64 (1))))),
  .op (some 12) (.mv (.t 36))])))))))
 (.seq (.reg [.op (some 37) (.mv (.t 4)),
  .op (some 38) (.mv (.t 0)),
  .op (some 39) (.lenL (.t 38)),
  .op (some 40) (.binI .leq (.t 39) (.v (.lit (.int .i64 (6))))),
  .op (some 2) (.mv (.t 37)),
  .op (some 3) (.mv (.t 40))])
 .ret))))
def rs28 : List RR := [.tmp 2, .tmp 3]
def cut28 : Nat → Nat := fun id => if id = 8 then 1003072 else 0
theorem k28 : (Try.f28.body.bind fun c => comp Try.prog Try.f28.ntmps cut28 c) = some r28 := by kernel_rfl
theorem by28 {W0 : World} {σ : List Blk} {args : List AV} {K : Cont} (hn : args.length ≤ 41) (h : rW Try.prog W0 σ.length r28 (initFr args) σ (finP W0 rs28 σ.length K)) : ACall Try.prog W0 28 args σ K :=
  ACall.introR mixed Try.func28 (by kernel_rfl) k28 (by kernel_rfl) hn h
def r29 : RC := (.seq (.reg [.op (some 2) (.box 54 (.t 0)),
  .op (some 3) (.box 54 (.t 1)),
  .op (some 4) (.mv (.v (.lit (.bool false))))])
 (.seq (.seq (.reg [.op (some 5) (.mv (.v (.lit (.int .i64 (0)))))])
 (.block 0 (.loop (.seq (.seq (.reg [.op (some 6) (.mv (.t 5)),
  .op (some 7) (.binI .lss (.t 6) (.v (.lit (.int .i64 (2)))))])
 (.cond (.t 7)
 .skip
 (.exit 0)))
 (.seq (.block 1 (.seq (.draw [((some 10), (.mv (.t 5))), ((some 11), (.iaddrA 2 1 (.t 2) (.t 10))), ((some 12), (.load 1 false (.t 11))), ((some 13), (.mv (.t 5))), ((some 14), (.iaddrA 2 1 (.t 3) (.t 13))), ((some 15), (.load 1 false (.t 14))), ((some 16), (.binI .neq (.t 12) (.t 15)))] [])
 (.cond (.t 16)
 (.seq (.reg [.op (some 4) (.mv (.v (.lit (.bool false))))])
 .ret)
 .skip)))
 (.reg [.op (some 8) (.mv (.t 5)),
  .op (some 9) (.binI .add (.t 8) (.v (.lit (.int .i64 (1))))),
  .op (some 5) (.mv (.t 9))]))))))
 (.seq (.reg [.op (some 4) (.mv (.v (.lit (.bool true))))])
 .ret)))
def rs29 : List RR := [.tmp 4]
def cut29 : Nat → Nat := fun id => if id = 4 then 15 else 0
theorem k29 : (Try.f29.body.bind fun c => comp Try.prog Try.f29.ntmps cut29 c) = some r29 := by kernel_rfl
theorem by29 {W0 : World} {σ : List Blk} {args : List AV} {K : Cont} (hn : args.length ≤ 17) (h : rW Try.prog W0 σ.length r29 (initFr args) σ (finP W0 rs29 σ.length K)) : ACall Try.prog W0 29 args σ K :=
  ACall.introR mixed Try.func29 (by kernel_rfl) k29 (by kernel_rfl) hn h
def r30 : RC := (.seq (.reg [.op (some 2) (.box 56 (.t 0)),
  .op (some 3) (.box 56 (.t 1)),
  .op (some 4) (.mv (.v (.lit (.bool false))))])
 (.seq (.seq (.reg [.op (some 5) (.faddr 0 (.t 2)),
  .op (some 6) (.load 1 false (.t 5)),
  .op (some 7) (.faddr 0 (.t 3)),
  .op (some 8) (.load 1 false (.t 7)),
  .op (some 9) (.binI .neq (.t 6) (.t 8))])
 (.cond (.t 9)
 (.seq (.reg [.op (some 4) (.mv (.v (.lit (.bool false))))])
 .ret)
 .skip))
 (.seq (.seq (.reg [.op (some 10) (.faddr 1 (.t 2)),
  .op (some 11) (.load 6 true (.t 10)),
  .op (some 12) (.faddr 1 (.t 3)),
  .op (some 13) (.load 6 true (.t 12)),
  .op (some 14) (.call (.v (.lit (.func (.func 43) #[] #[]))) [(.t 11), (.t 13)]),
  .op (some 15) (.un .not (.t 14))])
 (.cond (.t 15)
 (.seq (.reg [.op (some 4) (.mv (.v (.lit (.bool false))))])
 .ret)
 .skip))
 (.seq (.seq (.reg [.op (some 16) (.faddr 7 (.t 2)),
  .op (some 17) (.load 2 true (.t 16)),
  .op (some 18) (.faddr 7 (.t 3)),
  .op (some 19) (.load 2 true (.t 18)),
  .op (some 20) (.call (.v (.lit (.func (.func 29) #[] #[]))) [(.t 17), (.t 19)]),
  .op (some 21) (.un .not (.t 20))])
 (.cond (.t 21)
 (.seq (.reg [.op (some 4) (.mv (.v (.lit (.bool false))))])
 .ret)
 .skip))
 (.seq (.reg [.op (some 4) (.mv (.v (.lit (.bool true))))])
 .ret)))))
def rs30 : List RR := [.tmp 4]
def cut30 : Nat → Nat := fun id => 0
theorem k30 : (Try.f30.body.bind fun c => comp Try.prog Try.f30.ntmps cut30 c) = some r30 := by kernel_rfl
theorem by30 {W0 : World} {σ : List Blk} {args : List AV} {K : Cont} (hn : args.length ≤ 22) (h : rW Try.prog W0 σ.length r30 (initFr args) σ (finP W0 rs30 σ.length K)) : ACall Try.prog W0 30 args σ K :=
  ACall.introR mixed Try.func30 (by kernel_rfl) k30 (by kernel_rfl) hn h
def r31 : RC := (.seq (.reg [.op (some 1) (.box 40 (.t 0)),
  .op (some 2) (.mv (.v (.lit (.bool false))))])
 (.seq (.seq (.reg [.op (some 3) (.mv (.v (.lit (.int .i64 (0)))))])
 (.block 0 (.loop (.seq (.seq (.reg [.op (some 5) (.mv (.t 3)),
  .op (some 6) (.binI .lss (.t 5) (.v (.lit (.int .i64 (6)))))])
 (.cond (.t 6)
 .skip
 (.exit 0)))
 (.seq (.block 1 (.seq (.reg [.op (some 4) (.mv (.v (.lit (.int .i64 (0)))))])
 (.block 2 (.loop (.seq (.seq (.reg [.op (some 9) (.mv (.t 4)),
  .op (some 10) (.binI .lss (.t 9) (.v (.lit (.int .i64 (6)))))])
 (.cond (.t 10)
 .skip
 (.exit 2)))
 (.seq (.block 3 (.seq (.reg [.op (some 13) (.mv (.t 3)),
  .op (some 14) (.mv (.t 4)),
  .op (some 15) (.faddr 0 (.t 1)),
  .op (some 16) (.iaddrA 6 6 (.t 15) (.t 13)),
  .op (some 17) (.iaddrA 6 1 (.t 16) (.t 14)),
  .op (some 18) (.load 1 false (.t 17)),
  .op (some 19) (.call (.v (.lit (.func (.func 44) #[] #[]))) [(.t 18), (.v (.lit (.int .i64 (0)))), (.v (.lit (.int .i64 (4))))]),
  .op (some 20) (.un .not (.t 19))])
 (.cond (.t 20)
 (.seq (.reg [.op (some 2) (.mv (.v (.lit (.bool false))))])
 .ret)
 .skip)))
 (.reg [.op (some 11) (.mv (.t 4)),
  .op (some 12) (.binI .add (.t 11) (.v (.lit (.int .i64 (1))))),
  .op (some 4) (.mv (.t 12))])))))))
 (.reg [.op (some 7) (.mv (.t 3)),
  .op (some 8) (.binI .add (.t 7) (.v (.lit (.int .i64 (1))))),
  .op (some 3) (.mv (.t 8))]))))))
 (.seq (.reg [.op (some 2) (.mv (.v (.lit (.bool true))))])
 .ret)))
def rs31 : List RR := [.tmp 2]
def cut31 : Nat → Nat := fun id => 0
theorem k31 : (Try.f31.body.bind fun c => comp Try.prog Try.f31.ntmps cut31 c) = some r31 := by kernel_rfl
theorem by31 {W0 : World} {σ : List Blk} {args : List AV} {K : Cont} (hn : args.length ≤ 21) (h : rW Try.prog W0 σ.length r31 (initFr args) σ (finP W0 rs31 σ.length K)) : ACall Try.prog W0 31 args σ K :=
  ACall.introR mixed Try.func31 (by kernel_rfl) k31 (by kernel_rfl) hn h
def r32 : RC := (.seq (.reg [.op (some 2) (.box 40 (.t 0)),
  .op (some 4) (.mv (.v (.lit (.slice none 0 0))))])
 (.seq (.reg [.op (some 8) (.bslice 43 1 0 [(.lit (.slice none 0 0))] []),
  .op (some 9) (.mv (.t 1)),
  .op (some 10) (.lenL (.t 9)),
  .op (some 11) (.call (.v (.lit (.func (.func 46) #[] #[]))) [(.t 10)]),
  .op (some 12) (.call (.v (.lit (.func (.func 45) #[] #[]))) [(.t 11)]),
  .op (some 5) (.mv (.t 8)),
  .op (some 6) (.mv (.t 12))])
 (.seq (.seq (.reg [.op (some 7) (.mv (.v (.lit (.int .i64 (0)))))])
 (.block 0 (.loop (.seq (.seq (.reg [.op (some 13) (.mv (.t 7)),
  .op (some 14) (.mv (.t 6)),
  .op (some 15) (.lenL (.t 14)),
  .op (some 16) (.binI .lss (.t 13) (.t 15))])
 (.cond (.t 16)
 .skip
 (.exit 0)))
 (.seq (.block 1 (.seq (.draw [((some 19), (.mv (.t 1))), ((some 20), (.mv (.t 6))), ((some 21), (.mv (.t 7))), ((some 22), (.iaddrS 1 (.t 20) (.t 21))), ((some 23), (.load 1 false (.t 22))), ((some 24), (.call (.v (.lit (.func (.func 47) #[] #[]))) [(.t 19), (.t 23)])), ((some 25), (.load 36 true (.t 2))), ((some 26), (.eqA false [.int, .int, .int, .int, .int, .int, .int, .int, .int, .int, .int, .int, .int, .int, .int, .int, .int, .int, .int, .int, .int, .int, .int, .int, .int, .int, .int, .int, .int, .int, .int, .int, .int, .int, .int, .int] (.t 24) (.t 25)))] [])
 (.cond (.t 26)
 (.reg [.op (some 27) (.mv (.t 5)),
  .op (some 28) (.mv (.t 6)),
  .op (some 29) (.mv (.t 7)),
  .op (some 30) (.iaddrS 1 (.t 28) (.t 29)),
  .op (some 31) (.load 1 false (.t 30)),
  .app (some 33) 32 43 1 24 (.t 27) 1 [(.lit (.slice none 0 0))] [(0, (.t 31))],
  .op (some 5) (.mv (.t 33))])
 .skip)))
 (.reg [.op (some 17) (.mv (.t 7)),
  .op (some 18) (.binI .add (.t 17) (.v (.lit (.int .i64 (1))))),
  .op (some 7) (.mv (.t 18))]))))))
 (.seq (.reg [.op (some 34) (.mv (.t 5)),
  .op (some 4) (.mv (.t 34))])
 .ret))))
def rs32 : List RR := [.tmp 4]
def cut32 : Nat → Nat := fun id => if id = 5 then 17 else 0
theorem k32 : (Try.f32.body.bind fun c => comp Try.prog Try.f32.ntmps cut32 c) = some r32 := by kernel_rfl
theorem by32 {W0 : World} {σ : List Blk} {args : List AV} {K : Cont} (hn : args.length ≤ 35) (h : rW Try.prog W0 σ.length r32 (initFr args) σ (finP W0 rs32 σ.length K)) : ACall Try.prog W0 32 args σ K :=
  ACall.introR mixed Try.func32 (by kernel_rfl) k32 (by kernel_rfl) hn h
def r33 : RC := (.seq (.reg [.op (some 1) (.box 35 (.t 0)),
  .op (some 2) (.alloc 35 (List.replicate 36 (.lit (.int .i64 (0)))))])
 (.seq (.reg [.op (some 3) (.alloc 35 (List.replicate 36 (.lit (.int .i64 (0)))))])
 (.seq (.seq (.reg [.op (some 4) (.mv (.v (.lit (.int .i64 (0)))))])
 (.block 0 (.loop (.seq (.seq (.reg [.op (some 5) (.mv (.t 4)),
  .op (some 6) (.binI .lss (.t 5) (.v (.lit (.int .i64 (6)))))])
 (.cond (.t 6)
 .skip
 (.exit 0)))
 (.seq (.block 1 (.reg [.op (some 9) (.mv (.t 4)),
  .op (some 10) (.mv (.t 4)),
  .op (some 11) (.iaddrA 6 6 (.t 1) (.t 10)),
  .op (some 12) (.load 6 true (.t 11)),
  .op (some 13) (.call (.v (.lit (.func (.func 48) #[] #[]))) [(.t 12)]),
  .op (some 14) (.iaddrA 6 6 (.t 3) (.t 9)),
  .op none (.store 6 (.t 14) (.t 13))]))
 (.reg [.op (some 7) (.mv (.t 4)),
  .op (some 8) (.binI .add (.t 7) (.v (.lit (.int .i64 (1))))),
  .op (some 4) (.mv (.t 8))]))))))
 (.seq (.reg [.op (some 15) (.load 36 true (.t 3)),
  .op none (.store 36 (.t 2) (.t 15))])
 .ret))))
def rs33 : List RR := [.cell 2 36 true]
def cut33 : Nat → Nat := fun id => 0
theorem k33 : (Try.f33.body.bind fun c => comp Try.prog Try.f33.ntmps cut33 c) = some r33 := by kernel_rfl
theorem by33 {W0 : World} {σ : List Blk} {args : List AV} {K : Cont} (hn : args.length ≤ 16) (h : rW Try.prog W0 σ.length r33 (initFr args) σ (finP W0 rs33 σ.length K)) : ACall Try.prog W0 33 args σ K :=
  ACall.introR mixed Try.func33 (by kernel_rfl) k33 (by kernel_rfl) hn h
def r34 : RC := (.seq (.reg [.op (some 2) (.box 40 (.t 0)),
  .op (some 4) (.mv (.v (.lit (.slice none 0 0)))),
  .op (some 5) (.mv (.v (.lit (.bool false))))])
 (.seq (.reg [.op (some 11) (.mv (.t 1)),
  .op (some 12) (.call (.v (.lit (.func (.func 28) #[] #[]))) [(.t 11)]),
  .op (some 10) (.mv (.t 12)),
  .op (some 13) (.ext (.t 10) 0),
  .op (some 14) (.ext (.t 10) 1),
  .op (some 6) (.alloc 61 [(.lit (.slice none 0 0))]),
  .op none (.store 1 (.t 6) (.t 13)),
  .op (some 7) (.mv (.t 14))])
 (.seq (.seq (.reg [.op (some 15) (.mv (.t 7)),
  .op (some 16) (.un .not (.t 15)),
  .op (some 17) (.mv (.t 16)),
  .grp 17 false [((some 18), (.load 36 true (.t 2))), ((some 19), (.call (.v (.lit (.func (.func 49) #[] #[]))) [(.t 18)])), ((some 20), (.un .not (.t 19)))],
  .op (some 21) (.pick (.t 17) (.v (.lit (.bool true))) (.t 20))])
 (.cond (.t 21)
 (.seq (.reg [.op (some 4) (.mv (.v (.lit (.slice none 0 0)))),
  .op (some 5) (.mv (.v (.lit (.bool false))))])
 .ret)
 .skip))
 (.seq (.reg [.op (some 22) (.bslice 43 1 0 [(.lit (.slice none 0 0))] []),
  .op (some 8) (.alloc 71 [(.lit (.slice none 0 0))]),
  .op none (.store 1 (.t 8) (.t 22))])
 (.seq (.reg [.op (some 9) (.alloc 90 [(.lit .nilFunc)])])
 (.seq (.reg [.op (some 23) (.mkfn (.func 50) [] [(.t 6), (.t 2), (.t 8), (.t 9)]),
  .op none (.store 1 (.t 9) (.t 23))])
 (.seq (.reg [.op (some 24) (.load 1 false (.t 9)),
  .op (some 25) (.bslice 3 1 0 [(.lit (.int .i64 (0)))] []),
  .op (some 26) (.call (.t 24) [(.t 25)])])
 (.seq (.reg [.op (some 27) (.load 1 false (.t 8)),
  .op (some 4) (.mv (.t 27)),
  .op (some 5) (.mv (.v (.lit (.bool true))))])
 .ret))))))))
def rs34 : List RR := [.tmp 4, .tmp 5]
def cut34 : Nat → Nat := fun id => 0
theorem k34 : (Try.f34.body.bind fun c => comp Try.prog Try.f34.ntmps cut34 c) = some r34 := by kernel_rfl
theorem by34 {W0 : World} {σ : List Blk} {args : List AV} {K : Cont} (hn : args.length ≤ 28) (h : rW Try.prog W0 σ.length r34 (initFr args) σ (finP W0 rs34 σ.length K)) : ACall Try.prog W0 34 args σ K :=
  ACall.introR mixed Try.func34 (by kernel_rfl) k34 (by kernel_rfl) hn h
def r35 : RC := (.seq (.reg [.op (some 1) (.box 56 (.t 0)),
  .op (some 2) (.mv (.v (.lit (.bool false))))])
 (.seq (.reg [.op (some 3) (.faddr 0 (.t 1)),
  .op (some 4) (.load 1 false (.t 3)),
  .op (some 5) (.call (.v (.lit (.func (.func 44) #[] #[]))) [(.t 4), (.v (.lit (.int .i64 (1)))), (.v (.lit (.int .i64 (4))))]),
  .op (some 6) (.mv (.t 5)),
  .grp 6 true [((some 7), (.faddr 1 (.t 1))), ((some 8), (.load 6 true (.t 7))), ((some 9), (.call (.v (.lit (.func (.func 55) #[] #[]))) [(.t 8)]))],
  .op (some 10) (.pick (.t 6) (.t 9) (.v (.lit (.bool false)))),
  .op (some 11) (.mv (.t 10)),
  .grp 11 true [((some 12), (.faddr 7 (.t 1))), ((some 13), (.load 2 true (.t 12))), ((some 14), (.call (.v (.lit (.func (.func 56) #[] #[]))) [(.t 13)]))],
  .op (some 15) (.pick (.t 11) (.t 14) (.v (.lit (.bool false)))),
  .op (some 2) (.mv (.t 15))])
 .ret))
def rs35 : List RR := [.tmp 2]
def cut35 : Nat → Nat := fun id => 0
theorem k35 : (Try.f35.body.bind fun c => comp Try.prog Try.f35.ntmps cut35 c) = some r35 := by kernel_rfl
theorem by35 {W0 : World} {σ : List Blk} {args : List AV} {K : Cont} (hn : args.length ≤ 16) (h : rW Try.prog W0 σ.length r35 (initFr args) σ (finP W0 rs35 σ.length K)) : ACall Try.prog W0 35 args σ K :=
  ACall.introR mixed Try.func35 (by kernel_rfl) k35 (by kernel_rfl) hn h
def r36 : RC := (.seq (.reg [.op (some 2) (.box 51 (.t 0)),
  .op (some 3) (.box 54 (.t 1)),
  .op (some 4) (.alloc 51 (List.replicate 6 (.lit (.int .i64 (0)))))])
 (.seq (.reg [.op (some 5) (.load 6 true (.t 2)),
  .op (some 6) (.iaddrA 2 1 (.t 3) (.v (.lit (.int .i64 (0))))),
  .op (some 7) (.load 1 false (.t 6)),
  .op (some 8) (.iaddrA 2 1 (.t 3) (.v (.lit (.int .i64 (1))))),
  .op (some 9) (.load 1 false (.t 8)),
  .op (some 10) (.call (.v (.lit (.func (.func 57) #[] #[]))) [(.t 5), (.t 7), (.t 9)]),
  .op none (.store 6 (.t 4) (.t 10))])
 .ret))
def rs36 : List RR := [.cell 4 6 true]
def cut36 : Nat → Nat := fun id => 0
theorem k36 : (Try.f36.body.bind fun c => comp Try.prog Try.f36.ntmps cut36 c) = some r36 := by kernel_rfl
theorem by36 {W0 : World} {σ : List Blk} {args : List AV} {K : Cont} (hn : args.length ≤ 11) (h : rW Try.prog W0 σ.length r36 (initFr args) σ (finP W0 rs36 σ.length K)) : ACall Try.prog W0 36 args σ K :=
  ACall.introR mixed Try.func36 (by kernel_rfl) k36 (by kernel_rfl) hn h
def r37 : RC := (.seq (.reg [.op (some 1) (.box 58 (.t 0)),
  .op (some 2) (.alloc 51 (List.replicate 6 (.lit (.int .i64 (0)))))])
 (.seq (.reg [.op (some 3) (.alloc 51 (List.replicate 6 (.lit (.int .i64 (0)))))])
 (.seq (.reg [.op (some 4) (.faddr 0 (.t 1)),
  .op (some 5) (.load 6 true (.t 4)),
  .op (some 6) (.call (.v (.lit (.func (.func 48) #[] #[]))) [(.t 5)]),
  .op (some 7) (.faddr 0 (.t 3)),
  .op none (.store 6 (.t 7) (.t 6))])
 (.seq (.reg [.op (some 8) (.load 6 true (.t 3)),
  .op none (.store 6 (.t 2) (.t 8))])
 .ret))))
def rs37 : List RR := [.cell 2 6 true]
def cut37 : Nat → Nat := fun id => 0
theorem k37 : (Try.f37.body.bind fun c => comp Try.prog Try.f37.ntmps cut37 c) = some r37 := by kernel_rfl
theorem by37 {W0 : World} {σ : List Blk} {args : List AV} {K : Cont} (hn : args.length ≤ 9) (h : rW Try.prog W0 σ.length r37 (initFr args) σ (finP W0 rs37 σ.length K)) : ACall Try.prog W0 37 args σ K :=
  ACall.introR mixed Try.func37 (by kernel_rfl) k37 (by kernel_rfl) hn h
def r38 : RC := (.seq (.reg [.op (some 1) (.box 54 (.t 0)),
  .op (some 2) (.alloc 54 [(.lit (.int .i64 (0))), (.lit (.int .i64 (0)))])])
 (.seq (.reg [.op (some 3) (.alloc 54 [(.lit (.int .i64 (0))), (.lit (.int .i64 (0)))])])
 (.seq (.seq (.reg [.op (some 4) (.mv (.v (.lit (.int .i64 (0)))))])
 (.block 0 (.loop (.seq (.seq (.reg [.op (some 5) (.mv (.t 4)),
  .op (some 6) (.binI .lss (.t 5) (.v (.lit (.int .i64 (2)))))])
 (.cond (.t 6)
 .skip
 (.exit 0)))
 (.seq (.block 1 (.reg [.op (some 9) (.mv (.t 4)),
  .op (some 10) (.mv (.t 4)),
  .op (some 11) (.iaddrA 2 1 (.t 1) (.t 10)),
  .op (some 12) (.load 1 false (.t 11)),
  .op (some 13) (.iaddrA 2 1 (.t 3) (.t 9)),
  .op none (.store 1 (.t 13) (.t 12))]))
 (.reg [.op (some 7) (.mv (.t 4)),
  .op (some 8) (.binI .add (.t 7) (.v (.lit (.int .i64 (1))))),
  .op (some 4) (.mv (.t 8))]))))))
 (.seq (.reg [.op (some 14) (.load 2 true (.t 3)),
  .op none (.store 2 (.t 2) (.t 14))])
 .ret))))
def rs38 : List RR := [.cell 2 2 true]
def cut38 : Nat → Nat := fun id => 0
theorem k38 : (Try.f38.body.bind fun c => comp Try.prog Try.f38.ntmps cut38 c) = some r38 := by kernel_rfl
theorem by38 {W0 : World} {σ : List Blk} {args : List AV} {K : Cont} (hn : args.length ≤ 15) (h : rW Try.prog W0 σ.length r38 (initFr args) σ (finP W0 rs38 σ.length K)) : ACall Try.prog W0 38 args σ K :=
  ACall.introR mixed Try.func38 (by kernel_rfl) k38 (by kernel_rfl) hn h
def r39 : RC := (.seq (.reg [.op (some 1) (.box 56 (.t 0)),
  .op (some 2) (.mv (.v (.lit (.bool false))))])
 (.seq (.reg [.op (some 3) (.faddr 0 (.t 1)),
  .op (some 4) (.load 1 false (.t 3)),
  .op (some 5) (.binI .geq (.t 4) (.v (.lit (.int .i64 (1))))),
  .op (some 6) (.mv (.t 5)),
  .grp 6 true [((some 7), (.faddr 0 (.t 1))), ((some 8), (.load 1 false (.t 7))), ((some 9), (.binI .leq (.t 8) (.v (.lit (.int .i64 (4))))))],
  .op (some 10) (.pick (.t 6) (.t 9) (.v (.lit (.bool false)))),
  .op (some 11) (.mv (.t 10)),
  .grp 11 true [((some 12), (.faddr 1 (.t 1))), ((some 13), (.load 6 true (.t 12))), ((some 14), (.call (.v (.lit (.func (.func 58) #[] #[]))) [(.t 13)]))],
  .op (some 15) (.pick (.t 11) (.t 14) (.v (.lit (.bool false)))),
  .op (some 16) (.mv (.t 15)),
  .grp 16 true [((some 17), (.faddr 7 (.t 1))), ((some 18), (.load 2 true (.t 17))), ((some 19), (.call (.v (.lit (.func (.func 59) #[] #[]))) [(.t 18)]))],
  .op (some 20) (.pick (.t 16) (.t 19) (.v (.lit (.bool false)))),
  .op (some 2) (.mv (.t 20))])
 .ret))
def rs39 : List RR := [.tmp 2]
def cut39 : Nat → Nat := fun id => 0
theorem k39 : (Try.f39.body.bind fun c => comp Try.prog Try.f39.ntmps cut39 c) = some r39 := by kernel_rfl
theorem by39 {W0 : World} {σ : List Blk} {args : List AV} {K : Cont} (hn : args.length ≤ 21) (h : rW Try.prog W0 σ.length r39 (initFr args) σ (finP W0 rs39 σ.length K)) : ACall Try.prog W0 39 args σ K :=
  ACall.introR mixed Try.func39 (by kernel_rfl) k39 (by kernel_rfl) hn h
def r40 : RC := (.seq (.reg [.op (some 1) (.box 51 (.t 0)),
  .op (some 2) (.mv (.v (.lit (.int .u64 (0))))),
  .op (some 3) (.mv (.v (.lit (.bool false))))])
 (.seq (.reg [.op (some 4) (.mv (.v (.lit (.int .u64 (0)))))])
 (.seq (.seq (.reg [.op (some 7) (.faddr 0 (.t 1)),
  .op (some 8) (.load 6 true (.t 7)),
  .op (some 9) (.mv (.v (.lit (.int .i64 (0)))))])
 (.block 0 (.loop (.seq (.reg [.op (some 10) (.binI .lss (.t 9) (.v (.lit (.int .i64 (6)))))])
 (.seq (.cond (.t 10)
 .skip
 (.exit 0))
 (.seq (.block 1 (.seq (.reg [.op (some 11) (.mv (.t 9)),
  .op (some 12) (.idxA 6 1 false (.t 8) (.t 9)),
  .op (some 5) (.mv (.t 11)),
  .op (some 6) (.mv (.t 12))])
 (.seq (.seq (.reg [.op (some 13) (.mv (.t 6)),
  .op (some 14) (.binI .lss (.t 13) (.v (.lit (.int .i64 (0))))),
  .op (some 15) (.mv (.t 14)),
  .grp 15 false [((some 16), (.mv (.t 6))), ((some 17), (.binI .gtr (.t 16) (.v (.lit (.int .i64 (63))))))],
  .op (some 18) (.pick (.t 15) (.v (.lit (.bool true))) (.t 17))])
 (.cond (.t 18)
 (.seq (.reg [.op (some 2) (.mv (.v (.lit (.int .u64 (0))))),
  .op (some 3) (.mv (.v (.lit (.bool false))))])
 .ret)
 .skip))
 (.reg [.op (some 19) (.mv (.t 4)),
  .op (some 20) (.mv (.t 6)),
  .op (some 21) (.conv .u64 (.t 20)),
  .op (some 22) (.mv (.t 5)),
  .op (some 23) (.binI .mul (.t 22) (.v (.lit (.int .i64 (6))))),
  .op (some 24) (.binI .shl (.t 21) (.t 23)),
  .op (some 25) (.binI .or (.t 19) (.t 24)),
  .op (some 4) (.mv (.t 25))]))))
 (.reg [.op (some 26) (.binI .add (.t 9) (.v (.lit (.int .i64 (1))))),
  .op (some 9) (.mv (.t 26))])))))))
 (.seq (.reg [.op (some 27) (.mv (.t 4)),
  .op (some 2) (.mv (.t 27)),
  .op (some 3) (.mv (.v (.lit (.bool true))))])
 .ret))))
def rs40 : List RR := [.tmp 2, .tmp 3]
def cut40 : Nat → Nat := fun id => 0
theorem k40 : (Try.f40.body.bind fun c => comp Try.prog Try.f40.ntmps cut40 c) = some r40 := by kernel_rfl
theorem by40 {W0 : World} {σ : List Blk} {args : List AV} {K : Cont} (hn : args.length ≤ 28) (h : rW Try.prog W0 σ.length r40 (initFr args) σ (finP W0 rs40 σ.length K)) : ACall Try.prog W0 40 args σ K :=
  ACall.introR mixed Try.func40 (by kernel_rfl) k40 (by kernel_rfl) hn h
def r41 : RC := (.seq (.reg [.op (some 4) (.mv (.v (.lit (.int .u64 (0)))))])
 (.seq (.reg [.op (some 5) (.mv (.t 0)),
  .op (some 6) (.mv (.t 1)),
  .op (some 7) (.binI .rem (.t 6) (.v (.lit (.int .i64 (6))))),
  .op (some 8) (.mv (.t 1)),
  .op (some 9) (.binI .quo (.t 8) (.v (.lit (.int .i64 (6))))),
  .op (some 10) (.call (.v (.lit (.func (.func 60) #[] #[]))) [(.t 5), (.t 7), (.t 9)]),
  .op (some 4) (.mv (.t 10))])
 .ret))
def rs41 : List RR := [.tmp 4]
def cut41 : Nat → Nat := fun id => 0
theorem k41 : (Try.f41.body.bind fun c => comp Try.prog Try.f41.ntmps cut41 c) = some r41 := by kernel_rfl
theorem by41 {W0 : World} {σ : List Blk} {args : List AV} {K : Cont} (hn : args.length ≤ 11) (h : rW Try.prog W0 σ.length r41 (initFr args) σ (finP W0 rs41 σ.length K)) : ACall Try.prog W0 41 args σ K :=
  ACall.introR mixed Try.func41 (by kernel_rfl) k41 (by kernel_rfl) hn h
def r42 : RC := (.seq (.reg [.op (some 1) (.box 54 (.t 0)),
  .op (some 2) (.mv (.v (.lit (.int .i64 (0)))))])
 (.seq (.reg [.op (some 3) (.iaddrA 2 1 (.t 1) (.v (.lit (.int .i64 (1))))),
  .op (some 4) (.load 1 false (.t 3)),
  .op (some 5) (.binI .mul (.t 4) (.v (.lit (.int .i64 (6))))),
  .op (some 6) (.iaddrA 2 1 (.t 1) (.v (.lit (.int .i64 (0))))),
  .op (some 7) (.load 1 false (.t 6)),
  .op (some 8) (.binI .add (.t 5) (.t 7)),
  .op (some 2) (.mv (.t 8))])
 .ret))
def rs42 : List RR := [.tmp 2]
def cut42 : Nat → Nat := fun id => 0
theorem k42 : (Try.f42.body.bind fun c => comp Try.prog Try.f42.ntmps cut42 c) = some r42 := by kernel_rfl
theorem by42 {W0 : World} {σ : List Blk} {args : List AV} {K : Cont} (hn : args.length ≤ 9) (h : rW Try.prog W0 σ.length r42 (initFr args) σ (finP W0 rs42 σ.length K)) : ACall Try.prog W0 42 args σ K :=
  ACall.introR mixed Try.func42 (by kernel_rfl) k42 (by kernel_rfl) hn h
def r43 : RC := (.seq (.reg [.op (some 2) (.box 51 (.t 0)),
  .op (some 3) (.box 51 (.t 1)),
  .op (some 4) (.mv (.v (.lit (.bool false))))])
 (.seq (.seq (.reg [.op (some 5) (.faddr 0 (.t 2)),
  .op (some 6) (.load 6 true (.t 5)),
  .op (some 7) (.faddr 0 (.t 3)),
  .op (some 8) (.load 6 true (.t 7)),
  .op (some 9) (.call (.v (.lit (.func (.func 61) #[] #[]))) [(.t 6), (.t 8)]),
  .op (some 10) (.un .not (.t 9))])
 (.cond (.t 10)
 (.seq (.reg [.op (some 4) (.mv (.v (.lit (.bool false))))])
 .ret)
 .skip))
 (.seq (.reg [.op (some 4) (.mv (.v (.lit (.bool true))))])
 .ret)))
def rs43 : List RR := [.tmp 4]
def cut43 : Nat → Nat := fun id => 0
theorem k43 : (Try.f43.body.bind fun c => comp Try.prog Try.f43.ntmps cut43 c) = some r43 := by kernel_rfl
theorem by43 {W0 : World} {σ : List Blk} {args : List AV} {K : Cont} (hn : args.length ≤ 11) (h : rW Try.prog W0 σ.length r43 (initFr args) σ (finP W0 rs43 σ.length K)) : ACall Try.prog W0 43 args σ K :=
  ACall.introR mixed Try.func43 (by kernel_rfl) k43 (by kernel_rfl) hn h
def r44 : RC := (.seq (.reg [.op (some 6) (.mv (.v (.lit (.bool false))))])
 (.seq (.reg [.op (some 7) (.mv (.t 0)),
  .op (some 8) (.mv (.t 1)),
  .op (some 9) (.binI .geq (.t 7) (.t 8)),
  .op (some 10) (.mv (.t 9)),
  .grp 10 true [((some 11), (.mv (.t 0))), ((some 12), (.mv (.t 2))), ((some 13), (.binI .leq (.t 11) (.t 12)))],
  .op (some 14) (.pick (.t 10) (.t 13) (.v (.lit (.bool false)))),
  .op (some 6) (.mv (.t 14))])
 .ret))
def rs44 : List RR := [.tmp 6]
def cut44 : Nat → Nat := fun id => 0
theorem k44 : (Try.f44.body.bind fun c => comp Try.prog Try.f44.ntmps cut44 c) = some r44 := by kernel_rfl
theorem by44 {W0 : World} {σ : List Blk} {args : List AV} {K : Cont} (hn : args.length ≤ 15) (h : rW Try.prog W0 σ.length r44 (initFr args) σ (finP W0 rs44 σ.length K)) : ACall Try.prog W0 44 args σ K :=
  ACall.introR mixed Try.func44 (by kernel_rfl) k44 (by kernel_rfl) hn h
def r45 : RC := (.seq (.reg [.op (some 2) (.mv (.v (.lit (.slice none 0 0))))])
 (.seq (.seq (.reg [.op (some 7) (.mv (.t 0)),
  .op (some 8) (.lenL (.t 7)),
  .op (some 9) (.binI .eql (.t 8) (.v (.lit (.int .i64 (0)))))])
 (.cond (.t 9)
 (.seq (.reg [.op (some 10) (.bslice 3 1 0 [(.lit (.int .i64 (0)))] []),
  .op (some 11) (.bslice 43 1 1 [(.lit (.slice none 0 0))] [(0, (.t 10))]),
  .op (some 2) (.mv (.t 11))])
 .ret)
 .skip))
 (.seq (.reg [.op (some 12) (.bslice 43 1 0 [(.lit (.slice none 0 0))] []),
  .op (some 3) (.mv (.t 12))])
 (.seq (.seq (.reg [.op (some 4) (.mv (.v (.lit (.int .i64 (0)))))])
 (.block 0 (.loop (.seq (.seq (.reg [.op (some 13) (.mv (.t 4)),
  .op (some 14) (.mv (.t 0)),
  .op (some 15) (.lenL (.t 14)),
  .op (some 16) (.binI .lss (.t 13) (.t 15))])
 (.cond (.t 16)
 .skip
 (.exit 0)))
 (.seq (.block 1 (.seq (.any true (.n ⟨none, (some 19), (.mv (.t 0))⟩
 (.n ⟨none, (some 20), (.mv (.t 4))⟩
 (.n ⟨none, (some 21), (.slice 1 (.t 19) none (some (.t 20)))⟩
 (.n ⟨none, (some 23), (.mv (.t 0))⟩
 (.n ⟨none, (some 24), (.mv (.t 4))⟩
 (.n ⟨none, (some 25), (.binI .add (.t 24) (.v (.lit (.int .i64 (1)))))⟩
 (.h ⟨none, (some 26), (.slice 1 (.t 23) (some (.t 25)) none)⟩
 (.t ⟨none, (some 22), (.call (.v (.lit (.func (.func 62) #[] #[]))) [(.t 21)])⟩
 (.t ⟨none, (some 27), (.append 43 3 1 8 (.t 22) (.t 26))⟩
 (.t ⟨none, (some 28), (.call (.v (.lit (.func (.func 45) #[] #[]))) [(.t 27)])⟩
 (.n ⟨none, (some 5), (.mv (.t 28))⟩
 .fin))))))))))))
 (.seq (.reg [.op (some 6) (.mv (.v (.lit (.int .i64 (0)))))])
 (.block 2 (.loop (.seq (.seq (.reg [.op (some 29) (.mv (.t 6)),
  .op (some 30) (.mv (.t 5)),
  .op (some 31) (.lenL (.t 30)),
  .op (some 32) (.binI .lss (.t 29) (.t 31))])
 (.cond (.t 32)
 .skip
 (.exit 2)))
 (.seq (.block 3 (.any true (.n ⟨none, (some 35), (.mv (.t 3))⟩
 (.n ⟨none, (some 36), (.mv (.t 0))⟩
 (.n ⟨none, (some 37), (.mv (.t 4))⟩
 (.n ⟨none, (some 38), (.iaddrS 1 (.t 36) (.t 37))⟩
 (.n ⟨none, (some 39), (.load 1 false (.t 38))⟩
 (.n ⟨none, (some 41), (.mv (.t 5))⟩
 (.n ⟨none, (some 42), (.mv (.t 6))⟩
 (.h ⟨none, (some 43), (.iaddrS 1 (.t 41) (.t 42))⟩
 (.h ⟨none, (some 44), (.load 1 false (.t 43))⟩
 (.t ⟨none, (some 40), (.bslice 3 1 1 [(.lit (.int .i64 (0)))] [(0, (.t 39))])⟩
 (.t ⟨none, (some 45), (.append 43 3 1 8 (.t 40) (.t 44))⟩
 (.t ⟨none, (some 46), (.bslice 43 1 1 [(.lit (.slice none 0 0))] [(0, (.t 45))])⟩
 (.u ⟨none, (some 47), (.append 71 43 1 24 (.t 35) (.t 46))⟩
 (.n ⟨none, (some 3), (.mv (.t 47))⟩
 .fin))))))))))))))))
 (.reg [.op (some 33) (.mv (.t 6)),
  .op (some 34) (.binI .add (.t 33) (.v (.lit (.int .i64 (1))))),
  .op (some 6) (.mv (.t 34))]))))))))
 (.reg [.op (some 17) (.mv (.t 4)),
  .op (some 18) (.binI .add (.t 17) (.v (.lit (.int .i64 (1))))),
  .op (some 4) (.mv (.t 18))]))))))
 (.seq (.reg [.op (some 48) (.mv (.t 3)),
  .op (some 2) (.mv (.t 48))])
 .ret)))))
def rs45 : List RR := [.tmp 2]
def cut45 : Nat → Nat := fun id => if id = 7 then 1001553 else if id = 11 then 151115727451828647852673 else 0
theorem k45 : (Try.f45.body.bind fun c => comp Try.prog Try.f45.ntmps cut45 c) = some r45 := by kernel_rfl
theorem by45 {W0 : World} {σ : List Blk} {args : List AV} {K : Cont} (hn : args.length ≤ 49) (h : rW Try.prog W0 σ.length r45 (initFr args) σ (finP W0 rs45 σ.length K)) : ACall Try.prog W0 45 args σ K :=
  ACall.introR mixed Try.func45 (by kernel_rfl) k45 (by kernel_rfl) hn h
def r46 : RC := (.seq (.reg [.op (some 2) (.mv (.v (.lit (.slice none 0 0))))])
 (.seq (.reg [.op (some 5) (.bslice 3 1 0 [(.lit (.int .i64 (0)))] []),
  .op (some 3) (.mv (.t 5))])
 (.seq (.seq (.reg [.op (some 4) (.mv (.v (.lit (.int .i64 (0)))))])
 (.block 0 (.loop (.seq (.seq (.reg [.op (some 6) (.mv (.t 4)),
  .op (some 7) (.mv (.t 0)),
  .op (some 8) (.binI .lss (.t 6) (.t 7))])
 (.cond (.t 8)
 .skip
 (.exit 0)))
 (.seq (.block 1 (.reg [.op (some 11) (.mv (.t 3)),
  .op (some 12) (.mv (.t 4)),
  .app (some 14) 13 3 1 8 (.t 11) 1 [(.lit (.int .i64 (0)))] [(0, (.t 12))],
  .op (some 3) (.mv (.t 14))]))
 (.reg [.op (some 9) (.mv (.t 4)),
  .op (some 10) (.binI .add (.t 9) (.v (.lit (.int .i64 (1))))),
  .op (some 4) (.mv (.t 10))]))))))
 (.seq (.reg [.op (some 15) (.mv (.t 3)),
  .op (some 2) (.mv (.t 15))])
 .ret))))
def rs46 : List RR := [.tmp 2]
def cut46 : Nat → Nat := fun id => 0
theorem k46 : (Try.f46.body.bind fun c => comp Try.prog Try.f46.ntmps cut46 c) = some r46 := by kernel_rfl
theorem by46 {W0 : World} {σ : List Blk} {args : List AV} {K : Cont} (hn : args.length ≤ 16) (h : rW Try.prog W0 σ.length r46 (initFr args) σ (finP W0 rs46 σ.length K)) : ACall Try.prog W0 46 args σ K :=
  ACall.introR mixed Try.func46 (by kernel_rfl) k46 (by kernel_rfl) hn h
def r47 : RC := (.seq (.reg [.op (some 4) (.alloc 40 (List.replicate 36 (.lit (.int .i64 (0)))))])
 (.seq (.reg [.op (some 7) (.build (List.replicate 36 (.lit (.int .i64 (0)))) []),
  .op (some 5) (.alloc 40 (List.replicate 36 (.lit (.int .i64 (0))))),
  .op none (.store 36 (.t 5) (.t 7))])
 (.seq (.seq (.reg [.op (some 6) (.mv (.v (.lit (.int .i64 (0)))))])
 (.block 0 (.loop (.seq (.seq (.reg [.op (some 8) (.mv (.t 6)),
  .op (some 9) (.mv (.t 1)),
  .op (some 10) (.lenL (.t 9)),
  .op (some 11) (.binI .lss (.t 8) (.t 10))])
 (.cond (.t 11)
 .skip
 (.exit 0)))
 (.seq (.block 1 (.draw [((some 14), (.load 36 true (.t 5))), ((some 15), (.mv (.t 0))), ((some 16), (.mv (.t 1))), ((some 17), (.mv (.t 6))), ((some 18), (.iaddrS 1 (.t 16) (.t 17))), ((some 19), (.load 1 false (.t 18))), ((some 20), (.iaddrS 9 (.t 15) (.t 19))), ((some 21), (.load 9 true (.t 20))), ((some 22), (.call (.v (.lit (.func (.func 63) #[] #[]))) [(.t 14), (.t 21)]))] [(none, (.store 36 (.t 5) (.t 22)))]))
 (.reg [.op (some 12) (.mv (.t 6)),
  .op (some 13) (.binI .add (.t 12) (.v (.lit (.int .i64 (1))))),
  .op (some 6) (.mv (.t 13))]))))))
 (.seq (.reg [.op (some 23) (.load 36 true (.t 5)),
  .op none (.store 36 (.t 4) (.t 23))])
 .ret))))
def rs47 : List RR := [.cell 4 36 true]
def cut47 : Nat → Nat := fun id => if id = 5 then 19 else 0
theorem k47 : (Try.f47.body.bind fun c => comp Try.prog Try.f47.ntmps cut47 c) = some r47 := by kernel_rfl
theorem by47 {W0 : World} {σ : List Blk} {args : List AV} {K : Cont} (hn : args.length ≤ 24) (h : rW Try.prog W0 σ.length r47 (initFr args) σ (finP W0 rs47 σ.length K)) : ACall Try.prog W0 47 args σ K :=
  ACall.introR mixed Try.func47 (by kernel_rfl) k47 (by kernel_rfl) hn h
def r48 : RC := (.seq (.reg [.op (some 1) (.box 34 (.t 0)),
  .op (some 2) (.alloc 34 (List.replicate 6 (.lit (.int .i64 (0)))))])
 (.seq (.reg [.op (some 3) (.alloc 34 (List.replicate 6 (.lit (.int .i64 (0)))))])
 (.seq (.seq (.reg [.op (some 4) (.mv (.v (.lit (.int .i64 (0)))))])
 (.block 0 (.loop (.seq (.seq (.reg [.op (some 5) (.mv (.t 4)),
  .op (some 6) (.binI .lss (.t 5) (.v (.lit (.int .i64 (6)))))])
 (.cond (.t 6)
 .skip
 (.exit 0)))
 (.seq (.block 1 (.reg [.op (some 9) (.mv (.t 4)),
  .op (some 10) (.mv (.t 4)),
  .op (some 11) (.iaddrA 6 1 (.t 1) (.t 10)),
  .op (some 12) (.load 1 false (.t 11)),
  .op (some 13) (.iaddrA 6 1 (.t 3) (.t 9)),
  .op none (.store 1 (.t 13) (.t 12))]))
 (.reg [.op (some 7) (.mv (.t 4)),
  .op (some 8) (.binI .add (.t 7) (.v (.lit (.int .i64 (1))))),
  .op (some 4) (.mv (.t 8))]))))))
 (.seq (.reg [.op (some 14) (.load 6 true (.t 3)),
  .op none (.store 6 (.t 2) (.t 14))])
 .ret))))
def rs48 : List RR := [.cell 2 6 true]
def cut48 : Nat → Nat := fun id => 0
theorem k48 : (Try.f48.body.bind fun c => comp Try.prog Try.f48.ntmps cut48 c) = some r48 := by kernel_rfl
theorem by48 {W0 : World} {σ : List Blk} {args : List AV} {K : Cont} (hn : args.length ≤ 15) (h : rW Try.prog W0 σ.length r48 (initFr args) σ (finP W0 rs48 σ.length K)) : ACall Try.prog W0 48 args σ K :=
  ACall.introR mixed Try.func48 (by kernel_rfl) k48 (by kernel_rfl) hn h
def r49 : RC := (.seq (.reg [.op (some 1) (.box 40 (.t 0)),
  .op (some 2) (.mv (.v (.lit (.bool false))))])
 (.seq (.seq (.reg [.op (some 7) (.faddr 0 (.t 1)),
  .op (some 8) (.load 36 true (.t 7)),
  .op (some 9) (.mv (.v (.lit (.int .i64 (0)))))])
 (.block 0 (.loop (.seq (.reg [.op (some 10) (.binI .lss (.t 9) (.v (.lit (.int .i64 (6)))))])
 (.seq (.cond (.t 10)
 .skip
 (.exit 0))
 (.seq (.block 1 (.seq (.reg [.op (some 11) (.idxA 6 6 true (.t 8) (.t 9)),
  .op (some 4) (.alloc 34 (List.replicate 6 (.lit (.int .i64 (0))))),
  .op none (.store 6 (.t 4) (.t 11))])
 (.seq (.reg [.op (some 12) (.load 6 true (.t 4)),
  .op (some 13) (.mv (.v (.lit (.int .i64 (0)))))])
 (.block 2 (.loop (.seq (.reg [.op (some 14) (.binI .lss (.t 13) (.v (.lit (.int .i64 (6)))))])
 (.seq (.cond (.t 14)
 .skip
 (.exit 2))
 (.seq (.block 3 (.seq (.reg [.op (some 15) (.idxA 6 1 false (.t 12) (.t 13)),
  .op (some 6) (.mv (.t 15))])
 (.seq (.reg [.op (some 16) (.mv (.t 6)),
  .op (some 17) (.binI .lss (.t 16) (.v (.lit (.int .i64 (0))))),
  .op (some 18) (.mv (.t 17)),
  .grp 18 false [((some 19), (.mv (.t 6))), ((some 20), (.binI .gtr (.t 19) (.v (.lit (.int .i64 (4))))))],
  .op (some 21) (.pick (.t 18) (.v (.lit (.bool true))) (.t 20))])
 (.cond (.t 21)
 (.seq (.reg [.op (some 2) (.mv (.v (.lit (.bool false))))])
 .ret)
 .skip))))
 (.reg [.op (some 22) (.binI .add (.t 13) (.v (.lit (.int .i64 (1))))),
  .op (some 13) (.mv (.t 22))])))))))))
 (.reg [.op (some 23) (.binI .add (.t 9) (.v (.lit (.int .i64 (1))))),
  .op (some 9) (.mv (.t 23))])))))))
 (.seq (.reg [.op (some 2) (.mv (.v (.lit (.bool true))))])
 .ret)))
def rs49 : List RR := [.tmp 2]
def cut49 : Nat → Nat := fun id => 0
theorem k49 : (Try.f49.body.bind fun c => comp Try.prog Try.f49.ntmps cut49 c) = some r49 := by kernel_rfl
theorem by49 {W0 : World} {σ : List Blk} {args : List AV} {K : Cont} (hn : args.length ≤ 24) (h : rW Try.prog W0 σ.length r49 (initFr args) σ (finP W0 rs49 σ.length K)) : ACall Try.prog W0 49 args σ K :=
  ACall.introR mixed Try.func49 (by kernel_rfl) k49 (by kernel_rfl) hn h
def r50 : RC := (.seq (.seq (.any true (.n ⟨none, (some 7), (.mv (.t 0))⟩
 (.n ⟨none, (some 8), (.lenL (.t 7))⟩
 (.n ⟨none, (some 9), (.load 1 false (.t 1))⟩
 (.n ⟨none, (some 10), (.lenL (.t 9))⟩
 (.n ⟨none, (some 11), (.binI .eql (.t 8) (.t 10))⟩
 (.n ⟨none, (some 12), (.mv (.t 11))⟩
 (.n ⟨(some (12, true)), (some 13), (.load 1 false (.t 1))⟩
 (.n ⟨(some (12, true)), (some 14), (.mv (.t 0))⟩
 (.h ⟨(some (12, true)), (some 17), (.load 36 true (.t 2))⟩
 (.t ⟨(some (12, true)), (some 15), (.call (.v (.lit (.func (.func 52) #[] #[]))) [(.t 13), (.t 14)])⟩
 (.n ⟨(some (12, true)), (some 16), (.call (.v (.lit (.func (.func 51) #[] #[]))) [(.t 15)])⟩
 (.n ⟨(some (12, true)), (some 18), (.eqA false [.int, .int, .int, .int, .int, .int, .int, .int, .int, .int, .int, .int, .int, .int, .int, .int, .int, .int, .int, .int, .int, .int, .int, .int, .int, .int, .int, .int, .int, .int, .int, .int, .int, .int, .int, .int] (.t 16) (.t 17))⟩
 (.n ⟨none, (some 19), (.pick (.t 12) (.t 18) (.v (.lit (.bool false))))⟩
 .fin))))))))))))))
 (.cond (.t 19)
 (.reg [.op (some 20) (.load 1 false (.t 3)),
  .op (some 21) (.mv (.t 0)),
  .app (some 23) 22 43 1 24 (.t 20) 1 [(.lit (.slice none 0 0))] [(0, (.t 21))],
  .op none (.store 1 (.t 3) (.t 23))])
 .skip))
 (.seq (.reg [.op (some 24) (.load 1 false (.t 1)),
  .op (some 25) (.lenL (.t 24)),
  .op (some 26) (.mv (.v (.lit (.int .i64 (0)))))])
 (.block 0 (.loop (.seq (.reg [.op (some 27) (.binI .lss (.t 26) (.t 25))])
 (.seq (.cond (.t 27)
 .skip
 (.exit 0))
 (.seq (.block 1 (.seq (.reg [.op (some 28) (.mv (.t 26)),
  .op (some 6) (.mv (.t 28))])
 (.seq (.reg [.op (some 29) (.mv (.t 0)),
  .op (some 30) (.mv (.t 6)),
  .op (some 31) (.call (.v (.lit (.func (.func 53) #[] #[]))) [(.t 29), (.t 30)]),
  .op (some 32) (.un .not (.t 31))])
 (.cond (.t 32)
 (.any true (.h ⟨none, (some 33), (.load 1 false (.t 4))⟩
 (.n ⟨none, (some 34), (.mv (.t 0))⟩
 (.n ⟨none, (some 36), (.mv (.t 6))⟩
 (.both (.t ⟨none, (some 35), (.call (.v (.lit (.func (.func 54) #[] #[]))) [(.t 34)])⟩
 (.t ⟨none, (some 37), (.bslice 3 1 1 [(.lit (.int .i64 (0)))] [(0, (.t 36))])⟩
 (.t ⟨none, (some 38), (.append 43 3 1 8 (.t 35) (.t 37))⟩
 (.u ⟨none, (some 39), (.call (.t 33) [(.t 38)])⟩
 .fin))))
 (.t ⟨none, (some 37), (.bslice 3 1 1 [(.lit (.int .i64 (0)))] [(0, (.t 36))])⟩
 (.t ⟨none, (some 35), (.call (.v (.lit (.func (.func 54) #[] #[]))) [(.t 34)])⟩
 (.t ⟨none, (some 38), (.append 43 3 1 8 (.t 35) (.t 37))⟩
 (.u ⟨none, (some 39), (.call (.t 33) [(.t 38)])⟩
 .fin)))))))))
 .skip))))
 (.reg [.op (some 40) (.binI .add (.t 26) (.v (.lit (.int .i64 (1))))),
  .op (some 26) (.mv (.t 40))]))))))))
def rs50 : List RR := []
def cut50 : Nat → Nat := fun id => if id = 0 then 1000513 else if id = 6 then 2361183241434823607081 else 0
theorem k50 : (Try.f50.body.bind fun c => comp Try.prog Try.f50.ntmps cut50 c) = some r50 := by kernel_rfl
def r51 : RC := (.seq (.reg [.op (some 2) (.alloc 40 (List.replicate 36 (.lit (.int .i64 (0)))))])
 (.seq (.reg [.op (some 8) (.build (List.replicate 36 (.lit (.int .i64 (0)))) []),
  .op (some 3) (.alloc 40 (List.replicate 36 (.lit (.int .i64 (0))))),
  .op none (.store 36 (.t 3) (.t 8))])
 (.seq (.seq (.reg [.op (some 9) (.mv (.t 0)),
  .op (some 10) (.lenL (.t 9)),
  .op (some 11) (.mv (.v (.lit (.int .i64 (0)))))])
 (.block 0 (.loop (.seq (.reg [.op (some 12) (.binI .lss (.t 11) (.t 10))])
 (.seq (.cond (.t 12)
 .skip
 (.exit 0))
 (.seq (.block 1 (.seq (.reg [.op (some 13) (.iaddrS 2 (.t 9) (.t 11)),
  .op (some 14) (.load 2 true (.t 13)),
  .op (some 5) (.alloc 67 [(.lit (.int .u64 (0))), (.lit (.int .i64 (0)))]),
  .op none (.store 2 (.t 5) (.t 14))])
 (.seq (.reg [.op (some 15) (.faddr 0 (.t 5)),
  .op (some 16) (.load 1 false (.t 15)),
  .op (some 17) (.call (.v (.lit (.func (.func 64) #[] #[]))) [(.t 16)]),
  .op (some 18) (.lenL (.t 17)),
  .op (some 19) (.mv (.v (.lit (.int .i64 (0)))))])
 (.block 2 (.loop (.seq (.reg [.op (some 20) (.binI .lss (.t 19) (.t 18))])
 (.seq (.cond (.t 20)
 .skip
 (.exit 2))
 (.seq (.block 3 (.seq (.reg [.op (some 21) (.iaddrS 1 (.t 17) (.t 19)),
  .op (some 22) (.load 1 false (.t 21)),
  .op (some 7) (.mv (.t 22))])
 (.quiet [.op (some 23) (.mv (.t 7)),
  .op (some 24) (.binI .quo (.t 23) (.v (.lit (.int .i64 (6))))),
  .op (some 25) (.mv (.t 7)),
  .op (some 26) (.binI .rem (.t 25) (.v (.lit (.int .i64 (6))))),
  .op (some 27) (.faddr 1 (.t 5)),
  .op (some 28) (.load 1 false (.t 27)),
  .op (some 29) (.faddr 0 (.t 3)),
  .op (some 30) (.iaddrA 6 6 (.t 29) (.t 24)),
  .op (some 31) (.iaddrA 6 1 (.t 30) (.t 26))] [.op none (.store 1 (.t 31) (.t 28))])))
 (.reg [.op (some 32) (.binI .add (.t 19) (.v (.lit (.int .i64 (1))))),
  .op (some 19) (.mv (.t 32))])))))))))
 (.reg [.op (some 33) (.binI .add (.t 11) (.v (.lit (.int .i64 (1))))),
  .op (some 11) (.mv (.t 33))])))))))
 (.seq (.reg [.op (some 34) (.load 36 true (.t 3)),
  .op none (.store 36 (.t 2) (.t 34))])
 .ret))))
def rs51 : List RR := [.cell 2 36 true]
def cut51 : Nat → Nat := fun id => if id = 8 then 18 else 0
theorem k51 : (Try.f51.body.bind fun c => comp Try.prog Try.f51.ntmps cut51 c) = some r51 := by kernel_rfl
theorem by51 {W0 : World} {σ : List Blk} {args : List AV} {K : Cont} (hn : args.length ≤ 35) (h : rW Try.prog W0 σ.length r51 (initFr args) σ (finP W0 rs51 σ.length K)) : ACall Try.prog W0 51 args σ K :=
  ACall.introR mixed Try.func51 (by kernel_rfl) k51 (by kernel_rfl) hn h
def r52 : RC := (.seq (.reg [.op (some 4) (.mv (.v (.lit (.slice none 0 0))))])
 (.seq (.reg [.op (some 8) (.bslice 67 2 0 [(.lit (.int .u64 (0))), (.lit (.int .i64 (0)))] []),
  .op (some 5) (.mv (.t 8))])
 (.seq (.seq (.reg [.op (some 9) (.mv (.t 1)),
  .op (some 10) (.lenL (.t 9)),
  .op (some 11) (.mv (.v (.lit (.int .i64 (0)))))])
 (.block 0 (.loop (.seq (.reg [.op (some 12) (.binI .lss (.t 11) (.t 10))])
 (.seq (.cond (.t 12)
 .skip
 (.exit 0))
 (.seq (.block 1 (.seq (.reg [.op (some 13) (.iaddrS 1 (.t 9) (.t 11)),
  .op (some 14) (.load 1 false (.t 13)),
  .op (some 7) (.mv (.t 14))])
 (.reg [.op (some 15) (.mv (.t 5)),
  .op (some 16) (.mv (.t 0)),
  .op (some 17) (.mv (.t 7)),
  .op (some 18) (.iaddrS 2 (.t 16) (.t 17)),
  .op (some 19) (.load 2 true (.t 18)),
  .app (some 21) 20 67 2 16 (.t 15) 1 [(.lit (.int .u64 (0))), (.lit (.int .i64 (0)))] [(0, (.t 19))],
  .op (some 5) (.mv (.t 21))])))
 (.reg [.op (some 22) (.binI .add (.t 11) (.v (.lit (.int .i64 (1))))),
  .op (some 11) (.mv (.t 22))])))))))
 (.seq (.reg [.op (some 23) (.mv (.t 5)),
  .op (some 4) (.mv (.t 23))])
 .ret))))
def rs52 : List RR := [.tmp 4]
def cut52 : Nat → Nat := fun id => 0
theorem k52 : (Try.f52.body.bind fun c => comp Try.prog Try.f52.ntmps cut52 c) = some r52 := by kernel_rfl
theorem by52 {W0 : World} {σ : List Blk} {args : List AV} {K : Cont} (hn : args.length ≤ 24) (h : rW Try.prog W0 σ.length r52 (initFr args) σ (finP W0 rs52 σ.length K)) : ACall Try.prog W0 52 args σ K :=
  ACall.introR mixed Try.func52 (by kernel_rfl) k52 (by kernel_rfl) hn h
def r53 : RC := (.seq (.reg [.op (some 4) (.mv (.v (.lit (.bool false))))])
 (.seq (.reg [.op (some 5) (.mv (.t 0)),
  .op (some 6) (.mv (.t 1)),
  .op (some 7) (.call (.v (.lit (.func (.func 65) #[] #[]))) [(.t 5), (.t 6)]),
  .op (some 8) (.binI .geq (.t 7) (.v (.lit (.int .i64 (0))))),
  .op (some 4) (.mv (.t 8))])
 .ret))
def rs53 : List RR := [.tmp 4]
def cut53 : Nat → Nat := fun id => 0
theorem k53 : (Try.f53.body.bind fun c => comp Try.prog Try.f53.ntmps cut53 c) = some r53 := by kernel_rfl
theorem by53 {W0 : World} {σ : List Blk} {args : List AV} {K : Cont} (hn : args.length ≤ 9) (h : rW Try.prog W0 σ.length r53 (initFr args) σ (finP W0 rs53 σ.length K)) : ACall Try.prog W0 53 args σ K :=
  ACall.introR mixed Try.func53 (by kernel_rfl) k53 (by kernel_rfl) hn h
def r54 : RC := (.seq (.reg [.op (some 2) (.mv (.v (.lit (.slice none 0 0))))])
 (.seq (.seq (.reg [.op (some 3) (.mv (.t 0)),
  .op (some 4) (.nilS false (.t 3))])
 (.cond (.t 4)
 (.seq (.reg [.op (some 2) (.mv (.v (.lit (.slice none 0 0))))])
 .ret)
 .skip))
 (.seq (.reg [.op (some 5) (.bslice 3 1 0 [(.lit (.int .i64 (0)))] []),
  .op (some 6) (.mv (.t 0)),
  .op (some 7) (.append 43 3 1 8 (.t 5) (.t 6)),
  .op (some 2) (.mv (.t 7))])
 .ret)))
def rs54 : List RR := [.tmp 2]
def cut54 : Nat → Nat := fun id => 0
theorem k54 : (Try.f54.body.bind fun c => comp Try.prog Try.f54.ntmps cut54 c) = some r54 := by kernel_rfl
theorem by54 {W0 : World} {σ : List Blk} {args : List AV} {K : Cont} (hn : args.length ≤ 8) (h : rW Try.prog W0 σ.length r54 (initFr args) σ (finP W0 rs54 σ.length K)) : ACall Try.prog W0 54 args σ K :=
  ACall.introR mixed Try.func54 (by kernel_rfl) k54 (by kernel_rfl) hn h
def r55 : RC := (.seq (.reg [.op (some 1) (.box 51 (.t 0)),
  .op (some 2) (.mv (.v (.lit (.bool false))))])
 (.seq (.seq (.reg [.op (some 3) (.mv (.v (.lit (.int .i64 (0)))))])
 (.block 0 (.loop (.seq (.seq (.reg [.op (some 4) (.mv (.t 3)),
  .op (some 5) (.binI .lss (.t 4) (.v (.lit (.int .i64 (6)))))])
 (.cond (.t 5)
 .skip
 (.exit 0)))
 (.seq (.block 1 (.seq (.reg [.op (some 8) (.mv (.t 3)),
  .op (some 9) (.faddr 0 (.t 1)),
  .op (some 10) (.iaddrA 6 1 (.t 9) (.t 8)),
  .op (some 11) (.load 1 false (.t 10)),
  .op (some 12) (.call (.v (.lit (.func (.func 44) #[] #[]))) [(.t 11), (.v (.lit (.int .i64 (0)))), (.v (.lit (.int .i64 (63))))]),
  .op (some 13) (.un .not (.t 12))])
 (.cond (.t 13)
 (.seq (.reg [.op (some 2) (.mv (.v (.lit (.bool false))))])
 .ret)
 .skip)))
 (.reg [.op (some 6) (.mv (.t 3)),
  .op (some 7) (.binI .add (.t 6) (.v (.lit (.int .i64 (1))))),
  .op (some 3) (.mv (.t 7))]))))))
 (.seq (.reg [.op (some 2) (.mv (.v (.lit (.bool true))))])
 .ret)))
def rs55 : List RR := [.tmp 2]
def cut55 : Nat → Nat := fun id => 0
theorem k55 : (Try.f55.body.bind fun c => comp Try.prog Try.f55.ntmps cut55 c) = some r55 := by kernel_rfl
theorem by55 {W0 : World} {σ : List Blk} {args : List AV} {K : Cont} (hn : args.length ≤ 14) (h : rW Try.prog W0 σ.length r55 (initFr args) σ (finP W0 rs55 σ.length K)) : ACall Try.prog W0 55 args σ K :=
  ACall.introR mixed Try.func55 (by kernel_rfl) k55 (by kernel_rfl) hn h
def r56 : RC := (.seq (.reg [.op (some 1) (.box 54 (.t 0)),
  .op (some 2) (.mv (.v (.lit (.bool false))))])
 (.seq (.reg [.op (some 3) (.iaddrA 2 1 (.t 1) (.v (.lit (.int .i64 (0))))),
  .op (some 4) (.load 1 false (.t 3)),
  .op (some 5) (.call (.v (.lit (.func (.func 44) #[] #[]))) [(.t 4), (.v (.lit (.int .i64 (0)))), (.v (.lit (.int .i64 (5))))]),
  .op (some 6) (.mv (.t 5)),
  .grp 6 true [((some 7), (.iaddrA 2 1 (.t 1) (.v (.lit (.int .i64 (1)))))), ((some 8), (.load 1 false (.t 7))), ((some 9), (.call (.v (.lit (.func (.func 44) #[] #[]))) [(.t 8), (.v (.lit (.int .i64 (0)))), (.v (.lit (.int .i64 (5))))]))],
  .op (some 10) (.pick (.t 6) (.t 9) (.v (.lit (.bool false)))),
  .op (some 2) (.mv (.t 10))])
 .ret))
def rs56 : List RR := [.tmp 2]
def cut56 : Nat → Nat := fun id => 0
theorem k56 : (Try.f56.body.bind fun c => comp Try.prog Try.f56.ntmps cut56 c) = some r56 := by kernel_rfl
theorem by56 {W0 : World} {σ : List Blk} {args : List AV} {K : Cont} (hn : args.length ≤ 11) (h : rW Try.prog W0 σ.length r56 (initFr args) σ (finP W0 rs56 σ.length K)) : ACall Try.prog W0 56 args σ K :=
  ACall.introR mixed Try.func56 (by kernel_rfl) k56 (by kernel_rfl) hn h
def r57 : RC := (.seq (.reg [.op (some 3) (.box 51 (.t 0)),
  .op (some 6) (.alloc 51 (List.replicate 6 (.lit (.int .i64 (0)))))])
 (.seq (.reg [.op (some 12) (.build (List.replicate 6 (.lit (.int .i64 (0)))) []),
  .op (some 13) (.mv (.t 1)),
  .op (some 14) (.call (.v (.lit (.func (.func 66) #[] #[]))) [(.t 13)]),
  .op (some 15) (.mv (.t 2)),
  .op (some 16) (.call (.v (.lit (.func (.func 66) #[] #[]))) [(.t 15)]),
  .op (some 7) (.alloc 51 (List.replicate 6 (.lit (.int .i64 (0))))),
  .op none (.store 6 (.t 7) (.t 12)),
  .op (some 8) (.mv (.t 14)),
  .op (some 9) (.mv (.t 16))])
 (.seq (.seq (.reg [.op (some 10) (.mv (.v (.lit (.int .i64 (0)))))])
 (.block 0 (.loop (.seq (.seq (.reg [.op (some 17) (.mv (.t 10)),
  .op (some 18) (.binI .lss (.t 17) (.v (.lit (.int .i64 (6)))))])
 (.cond (.t 18)
 .skip
 (.exit 0)))
 (.seq (.block 1 (.seq (.reg [.op (some 21) (.mv (.t 10)),
  .op (some 22) (.faddr 0 (.t 3)),
  .op (some 23) (.iaddrA 6 1 (.t 22) (.t 21)),
  .op (some 24) (.load 1 false (.t 23)),
  .op (some 11) (.mv (.t 24))])
 (.draw [((some 25), (.mv (.t 10))), ((some 26), (.mv (.t 9))), ((some 27), (.binI .add (.t 25) (.t 26))), ((some 28), (.binI .rem (.t 27) (.v (.lit (.int .i64 (6)))))), ((some 29), (.mv (.t 11))), ((some 30), (.mv (.t 8))), ((some 31), (.binI .shl (.t 29) (.t 30))), ((some 32), (.binI .and (.t 31) (.v (.lit (.int .i64 (63)))))), ((some 33), (.mv (.t 11))), ((some 34), (.mv (.t 8))), ((some 35), (.binI .sub (.v (.lit (.int .i64 (6)))) (.t 34))), ((some 36), (.binI .shr (.t 33) (.t 35))), ((some 37), (.binI .or (.t 32) (.t 36)))] [((some 38), (.faddr 0 (.t 7))), ((some 39), (.iaddrA 6 1 (.t 38) (.t 28))), (none, (.store 1 (.t 39) (.t 37)))])))
 (.reg [.op (some 19) (.mv (.t 10)),
  .op (some 20) (.binI .add (.t 19) (.v (.lit (.int .i64 (1))))),
  .op (some 10) (.mv (.t 20))]))))))
 (.seq (.reg [.op (some 40) (.load 6 true (.t 7)),
  .op none (.store 6 (.t 6) (.t 40))])
 .ret))))
def rs57 : List RR := [.cell 6 6 true]
def cut57 : Nat → Nat := fun id => if id = 6 then 27 else 0
theorem k57 : (Try.f57.body.bind fun c => comp Try.prog Try.f57.ntmps cut57 c) = some r57 := by kernel_rfl
theorem by57 {W0 : World} {σ : List Blk} {args : List AV} {K : Cont} (hn : args.length ≤ 41) (h : rW Try.prog W0 σ.length r57 (initFr args) σ (finP W0 rs57 σ.length K)) : ACall Try.prog W0 57 args σ K :=
  ACall.introR mixed Try.func57 (by kernel_rfl) k57 (by kernel_rfl) hn h
def r58 : RC := (.seq (.reg [.op (some 1) (.box 51 (.t 0)),
  .op (some 2) (.mv (.v (.lit (.bool false))))])
 (.seq (.reg [.op (some 6) (.load 6 true (.t 1)),
  .op (some 7) (.call (.v (.lit (.func (.func 40) #[] #[]))) [(.t 6)]),
  .op (some 5) (.mv (.t 7)),
  .op (some 8) (.ext (.t 5) 0),
  .op (some 9) (.ext (.t 5) 1),
  .op (some 3) (.mv (.t 8)),
  .op (some 4) (.mv (.t 9))])
 (.seq (.reg [.op (some 10) (.mv (.t 4)),
  .op (some 2) (.mv (.t 10))])
 .ret)))
def rs58 : List RR := [.tmp 2]
def cut58 : Nat → Nat := fun id => 0
theorem k58 : (Try.f58.body.bind fun c => comp Try.prog Try.f58.ntmps cut58 c) = some r58 := by kernel_rfl
theorem by58 {W0 : World} {σ : List Blk} {args : List AV} {K : Cont} (hn : args.length ≤ 11) (h : rW Try.prog W0 σ.length r58 (initFr args) σ (finP W0 rs58 σ.length K)) : ACall Try.prog W0 58 args σ K :=
  ACall.introR mixed Try.func58 (by kernel_rfl) k58 (by kernel_rfl) hn h
def r59 : RC := (.seq (.reg [.op (some 1) (.box 54 (.t 0)),
  .op (some 2) (.mv (.v (.lit (.bool false))))])
 (.seq (.reg [.op (some 3) (.iaddrA 2 1 (.t 1) (.v (.lit (.int .i64 (0))))),
  .op (some 4) (.load 1 false (.t 3)),
  .op (some 5) (.binI .geq (.t 4) (.v (.lit (.int .i64 (0))))),
  .op (some 6) (.mv (.t 5)),
  .grp 6 true [((some 7), (.iaddrA 2 1 (.t 1) (.v (.lit (.int .i64 (0)))))), ((some 8), (.load 1 false (.t 7))), ((some 9), (.binI .lss (.t 8) (.v (.lit (.int .i64 (6))))))],
  .op (some 10) (.pick (.t 6) (.t 9) (.v (.lit (.bool false)))),
  .op (some 11) (.mv (.t 10)),
  .grp 11 true [((some 12), (.iaddrA 2 1 (.t 1) (.v (.lit (.int .i64 (1)))))), ((some 13), (.load 1 false (.t 12))), ((some 14), (.binI .geq (.t 13) (.v (.lit (.int .i64 (0))))))],
  .op (some 15) (.pick (.t 11) (.t 14) (.v (.lit (.bool false)))),
  .op (some 16) (.mv (.t 15)),
  .grp 16 true [((some 17), (.iaddrA 2 1 (.t 1) (.v (.lit (.int .i64 (1)))))), ((some 18), (.load 1 false (.t 17))), ((some 19), (.binI .lss (.t 18) (.v (.lit (.int .i64 (6))))))],
  .op (some 20) (.pick (.t 16) (.t 19) (.v (.lit (.bool false)))),
  .op (some 2) (.mv (.t 20))])
 .ret))
def rs59 : List RR := [.tmp 2]
def cut59 : Nat → Nat := fun id => 0
theorem k59 : (Try.f59.body.bind fun c => comp Try.prog Try.f59.ntmps cut59 c) = some r59 := by kernel_rfl
theorem by59 {W0 : World} {σ : List Blk} {args : List AV} {K : Cont} (hn : args.length ≤ 21) (h : rW Try.prog W0 σ.length r59 (initFr args) σ (finP W0 rs59 σ.length K)) : ACall Try.prog W0 59 args σ K :=
  ACall.introR mixed Try.func59 (by kernel_rfl) k59 (by kernel_rfl) hn h
def r60 : RC := (.seq (.reg [.op (some 4) (.box 3 (.t 1)),
  .op (some 5) (.box 3 (.t 2)),
  .op (some 6) (.mv (.v (.lit (.int .u64 (0)))))])
 (.seq (.quiet [.op (some 7) (.load 1 false (.t 4)),
  .op (some 8) (.call (.v (.lit (.func (.func 67) #[] #[]))) [(.t 7)]),
  .op (some 9) (.load 1 false (.t 5)),
  .op (some 10) (.call (.v (.lit (.func (.func 67) #[] #[]))) [(.t 9)])] [.op none (.store 1 (.t 4) (.t 8)),
  .op none (.store 1 (.t 5) (.t 10))])
 (.seq (.reg [.op (some 11) (.mv (.t 0)),
  .op (some 12) (.mkfn (.func 69) [] [(.t 4), (.t 5)]),
  .op (some 13) (.call (.v (.lit (.func (.func 68) #[] #[]))) [(.t 11), (.t 12)]),
  .op (some 6) (.mv (.t 13))])
 .ret)))
def rs60 : List RR := [.tmp 6]
def cut60 : Nat → Nat := fun id => if id = 1 then 8 else 0
theorem k60 : (Try.f60.body.bind fun c => comp Try.prog Try.f60.ntmps cut60 c) = some r60 := by kernel_rfl
theorem by60 {W0 : World} {σ : List Blk} {args : List AV} {K : Cont} (hn : args.length ≤ 14) (h : rW Try.prog W0 σ.length r60 (initFr args) σ (finP W0 rs60 σ.length K)) : ACall Try.prog W0 60 args σ K :=
  ACall.introR mixed Try.func60 (by kernel_rfl) k60 (by kernel_rfl) hn h
def r61 : RC := (.seq (.reg [.op (some 2) (.box 34 (.t 0)),
  .op (some 3) (.box 34 (.t 1)),
  .op (some 4) (.mv (.v (.lit (.bool false))))])
 (.seq (.seq (.reg [.op (some 5) (.mv (.v (.lit (.int .i64 (0)))))])
 (.block 0 (.loop (.seq (.seq (.reg [.op (some 6) (.mv (.t 5)),
  .op (some 7) (.binI .lss (.t 6) (.v (.lit (.int .i64 (6)))))])
 (.cond (.t 7)
 .skip
 (.exit 0)))
 (.seq (.block 1 (.seq (.draw [((some 10), (.mv (.t 5))), ((some 11), (.iaddrA 6 1 (.t 2) (.t 10))), ((some 12), (.load 1 false (.t 11))), ((some 13), (.mv (.t 5))), ((some 14), (.iaddrA 6 1 (.t 3) (.t 13))), ((some 15), (.load 1 false (.t 14))), ((some 16), (.binI .neq (.t 12) (.t 15)))] [])
 (.cond (.t 16)
 (.seq (.reg [.op (some 4) (.mv (.v (.lit (.bool false))))])
 .ret)
 .skip)))
 (.reg [.op (some 8) (.mv (.t 5)),
  .op (some 9) (.binI .add (.t 8) (.v (.lit (.int .i64 (1))))),
  .op (some 5) (.mv (.t 9))]))))))
 (.seq (.reg [.op (some 4) (.mv (.v (.lit (.bool true))))])
 .ret)))
def rs61 : List RR := [.tmp 4]
def cut61 : Nat → Nat := fun id => if id = 4 then 15 else 0
theorem k61 : (Try.f61.body.bind fun c => comp Try.prog Try.f61.ntmps cut61 c) = some r61 := by kernel_rfl
theorem by61 {W0 : World} {σ : List Blk} {args : List AV} {K : Cont} (hn : args.length ≤ 17) (h : rW Try.prog W0 σ.length r61 (initFr args) σ (finP W0 rs61 σ.length K)) : ACall Try.prog W0 61 args σ K :=
  ACall.introR mixed Try.func61 (by kernel_rfl) k61 (by kernel_rfl) hn h
def r62 : RC := (.seq (.reg [.op (some 2) (.mv (.v (.lit (.slice none 0 0))))])
 (.seq (.reg [.op (some 3) (.bslice 3 1 0 [(.lit (.int .i64 (0)))] []),
  .op (some 4) (.mv (.t 0)),
  .op (some 5) (.append 43 3 1 8 (.t 3) (.t 4)),
  .op (some 2) (.mv (.t 5))])
 .ret))
def rs62 : List RR := [.tmp 2]
def cut62 : Nat → Nat := fun id => 0
theorem k62 : (Try.f62.body.bind fun c => comp Try.prog Try.f62.ntmps cut62 c) = some r62 := by kernel_rfl
theorem by62 {W0 : World} {σ : List Blk} {args : List AV} {K : Cont} (hn : args.length ≤ 6) (h : rW Try.prog W0 σ.length r62 (initFr args) σ (finP W0 rs62 σ.length K)) : ACall Try.prog W0 62 args σ K :=
  ACall.introR mixed Try.func62 (by kernel_rfl) k62 (by kernel_rfl) hn h
def r63 : RC := (.seq (.reg [.op (some 2) (.box 40 (.t 0)),
  .op (some 3) (.box 56 (.t 1)),
  .op (some 4) (.alloc 40 (List.replicate 36 (.lit (.int .i64 (0)))))])
 (.seq (.reg [.op (some 8) (.load 9 true (.t 3)),
  .op (some 9) (.call (.v (.lit (.func (.func 26) #[] #[]))) [(.t 8)]),
  .op (some 5) (.alloc 51 (List.replicate 6 (.lit (.int .i64 (0))))),
  .op none (.store 6 (.t 5) (.t 9))])
 (.seq (.seq (.reg [.op (some 6) (.mv (.v (.lit (.int .i64 (0)))))])
 (.block 0 (.loop (.seq (.seq (.reg [.op (some 10) (.mv (.t 6)),
  .op (some 11) (.binI .lss (.t 10) (.v (.lit (.int .i64 (6)))))])
 (.cond (.t 11)
 .skip
 (.exit 0)))
 (.seq (.block 1 (.seq (.reg [.op (some 7) (.mv (.v (.lit (.int .i64 (0)))))])
 (.block 2 (.loop (.seq (.seq (.reg [.op (some 14) (.mv (.t 7)),
  .op (some 15) (.binI .lss (.t 14) (.v (.lit (.int .i64 (6)))))])
 (.cond (.t 15)
 .skip
 (.exit 2)))
 (.seq (.block 3 (.seq (.reg [.op (some 18) (.load 6 true (.t 5)),
  .op (some 19) (.mv (.t 7)),
  .op (some 20) (.mv (.t 6)),
  .op (some 21) (.call (.v (.lit (.func (.func 70) #[] #[]))) [(.t 18), (.t 19), (.t 20)])])
 (.cond (.t 21)
 (.quiet [.op (some 22) (.mv (.t 6)),
  .op (some 23) (.mv (.t 7)),
  .op (some 24) (.faddr 0 (.t 3)),
  .op (some 25) (.load 1 false (.t 24)),
  .op (some 26) (.faddr 0 (.t 2)),
  .op (some 27) (.iaddrA 6 6 (.t 26) (.t 22)),
  .op (some 28) (.iaddrA 6 1 (.t 27) (.t 23))] [.op none (.store 1 (.t 28) (.t 25))])
 .skip)))
 (.reg [.op (some 16) (.mv (.t 7)),
  .op (some 17) (.binI .add (.t 16) (.v (.lit (.int .i64 (1))))),
  .op (some 7) (.mv (.t 17))])))))))
 (.reg [.op (some 12) (.mv (.t 6)),
  .op (some 13) (.binI .add (.t 12) (.v (.lit (.int .i64 (1))))),
  .op (some 6) (.mv (.t 13))]))))))
 (.seq (.reg [.op (some 29) (.load 36 true (.t 2)),
  .op none (.store 36 (.t 4) (.t 29))])
 .ret))))
def rs63 : List RR := [.cell 4 36 true]
def cut63 : Nat → Nat := fun id => if id = 9 then 14 else 0
theorem k63 : (Try.f63.body.bind fun c => comp Try.prog Try.f63.ntmps cut63 c) = some r63 := by kernel_rfl
theorem by63 {W0 : World} {σ : List Blk} {args : List AV} {K : Cont} (hn : args.length ≤ 30) (h : rW Try.prog W0 σ.length r63 (initFr args) σ (finP W0 rs63 σ.length K)) : ACall Try.prog W0 63 args σ K :=
  ACall.introR mixed Try.func63 (by kernel_rfl) k63 (by kernel_rfl) hn h
def r64 : RC := (.seq (.reg [.op (some 2) (.mv (.v (.lit (.slice none 0 0))))])
 (.seq (.reg [.op (some 5) (.bslice 3 1 0 [(.lit (.int .i64 (0)))] []),
  .op (some 3) (.mv (.t 5))])
 (.seq (.seq (.reg [.op (some 6) (.mv (.v (.lit (.int .i64 (0)))))])
 (.block 0 (.loop (.seq (.reg [.op (some 7) (.binI .lss (.t 6) (.v (.lit (.int .i64 (36)))))])
 (.seq (.cond (.t 7)
 .skip
 (.exit 0))
 (.seq (.block 1 (.seq (.reg [.op (some 8) (.mv (.t 6)),
  .op (some 4) (.mv (.t 8))])
 (.seq (.reg [.op (some 9) (.mv (.t 0)),
  .op (some 10) (.mv (.t 4)),
  .op (some 11) (.call (.v (.lit (.func (.func 71) #[] #[]))) [(.t 9), (.t 10)])])
 (.cond (.t 11)
 (.reg [.op (some 12) (.mv (.t 3)),
  .op (some 13) (.mv (.t 4)),
  .app (some 15) 14 3 1 8 (.t 12) 1 [(.lit (.int .i64 (0)))] [(0, (.t 13))],
  .op (some 3) (.mv (.t 15))])
 .skip))))
 (.reg [.op (some 16) (.binI .add (.t 6) (.v (.lit (.int .i64 (1))))),
  .op (some 6) (.mv (.t 16))])))))))
 (.seq (.reg [.op (some 17) (.mv (.t 3)),
  .op (some 2) (.mv (.t 17))])
 .ret))))
def rs64 : List RR := [.tmp 2]
def cut64 : Nat → Nat := fun id => 0
theorem k64 : (Try.f64.body.bind fun c => comp Try.prog Try.f64.ntmps cut64 c) = some r64 := by kernel_rfl
theorem by64 {W0 : World} {σ : List Blk} {args : List AV} {K : Cont} (hn : args.length ≤ 18) (h : rW Try.prog W0 σ.length r64 (initFr args) σ (finP W0 rs64 σ.length K)) : ACall Try.prog W0 64 args σ K :=
  ACall.introR mixed Try.func64 (by kernel_rfl) k64 (by kernel_rfl) hn h
def r65 : RC := (.seq (.reg [.op (some 4) (.mv (.v (.lit (.int .i64 (0)))))])
 (.seq (.seq (.reg [.op (some 6) (.mv (.t 0)),
  .op (some 7) (.lenL (.t 6)),
  .op (some 8) (.mv (.v (.lit (.int .i64 (0)))))])
 (.block 0 (.loop (.seq (.reg [.op (some 9) (.binI .lss (.t 8) (.t 7))])
 (.seq (.cond (.t 9)
 .skip
 (.exit 0))
 (.seq (.block 1 (.seq (.reg [.op (some 10) (.mv (.t 8)),
  .op (some 5) (.mv (.t 10))])
 (.seq (.reg [.op (some 11) (.mv (.t 1)),
  .op (some 12) (.mv (.t 0)),
  .op (some 13) (.mv (.t 5)),
  .op (some 14) (.iaddrS 1 (.t 12) (.t 13)),
  .op (some 15) (.load 1 false (.t 14)),
  .op (some 16) (.binI .eql (.t 11) (.t 15))])
 (.cond (.t 16)
 (.seq (.reg [.op (some 17) (.mv (.t 5)),
  .op (some 4) (.mv (.t 17))])
 .ret)
 .skip))))
 (.reg [.op (some 18) (.binI .add (.t 8) (.v (.lit (.int .i64 (1))))),
  .op (some 8) (.mv (.t 18))])))))))
 (.seq (.reg [.op (some 4) (.mv (.v (.lit (.int .i64 (-1)))))])
 .ret)))
def rs65 : List RR := [.tmp 4]
def cut65 : Nat → Nat := fun id => 0
theorem k65 : (Try.f65.body.bind fun c => comp Try.prog Try.f65.ntmps cut65 c) = some r65 := by kernel_rfl
theorem by65 {W0 : World} {σ : List Blk} {args : List AV} {K : Cont} (hn : args.length ≤ 19) (h : rW Try.prog W0 σ.length r65 (initFr args) σ (finP W0 rs65 σ.length K)) : ACall Try.prog W0 65 args σ K :=
  ACall.introR mixed Try.func65 (by kernel_rfl) k65 (by kernel_rfl) hn h
def r66 : RC := (.seq (.reg [.op (some 2) (.mv (.v (.lit (.int .i64 (0)))))])
 (.seq (.reg [.op (some 3) (.mv (.t 0)),
  .op (some 4) (.binI .rem (.t 3) (.v (.lit (.int .i64 (6))))),
  .op (some 5) (.binI .add (.t 4) (.v (.lit (.int .i64 (6))))),
  .op (some 6) (.binI .rem (.t 5) (.v (.lit (.int .i64 (6))))),
  .op (some 2) (.mv (.t 6))])
 .ret))
def rs66 : List RR := [.tmp 2]
def cut66 : Nat → Nat := fun id => 0
theorem k66 : (Try.f66.body.bind fun c => comp Try.prog Try.f66.ntmps cut66 c) = some r66 := by kernel_rfl
theorem by66 {W0 : World} {σ : List Blk} {args : List AV} {K : Cont} (hn : args.length ≤ 7) (h : rW Try.prog W0 σ.length r66 (initFr args) σ (finP W0 rs66 σ.length K)) : ACall Try.prog W0 66 args σ K :=
  ACall.introR mixed Try.func66 (by kernel_rfl) k66 (by kernel_rfl) hn h
def r67 : RC := (.seq (.reg [.op (some 2) (.mv (.v (.lit (.int .i64 (0)))))])
 (.seq (.reg [.op (some 3) (.mv (.t 0)),
  .op (some 4) (.binI .rem (.t 3) (.v (.lit (.int .i64 (6))))),
  .op (some 5) (.binI .add (.t 4) (.v (.lit (.int .i64 (6))))),
  .op (some 6) (.binI .rem (.t 5) (.v (.lit (.int .i64 (6))))),
  .op (some 2) (.mv (.t 6))])
 .ret))
def rs67 : List RR := [.tmp 2]
def cut67 : Nat → Nat := fun id => 0
theorem k67 : (Try.f67.body.bind fun c => comp Try.prog Try.f67.ntmps cut67 c) = some r67 := by kernel_rfl
theorem by67 {W0 : World} {σ : List Blk} {args : List AV} {K : Cont} (hn : args.length ≤ 7) (h : rW Try.prog W0 σ.length r67 (initFr args) σ (finP W0 rs67 σ.length K)) : ACall Try.prog W0 67 args σ K :=
  ACall.introR mixed Try.func67 (by kernel_rfl) k67 (by kernel_rfl) hn h
def r68 : RC := (.seq (.reg [.op (some 4) (.mv (.v (.lit (.int .u64 (0)))))])
 (.seq (.reg [.op (some 5) (.mv (.v (.lit (.int .u64 (0)))))])
 (.seq (.seq (.reg [.op (some 9) (.mv (.v (.lit (.int .i64 (0)))))])
 (.block 0 (.loop (.seq (.reg [.op (some 10) (.binI .lss (.t 9) (.v (.lit (.int .i64 (36)))))])
 (.seq (.cond (.t 10)
 .skip
 (.exit 0))
 (.seq (.block 1 (.seq (.reg [.op (some 11) (.mv (.t 9)),
  .op (some 6) (.mv (.t 11))])
 (.seq (.reg [.op (some 12) (.mv (.t 0)),
  .op (some 13) (.mv (.t 6)),
  .op (some 14) (.call (.v (.lit (.func (.func 71) #[] #[]))) [(.t 12), (.t 13)])])
 (.cond (.t 14)
 (.seq (.reg [.op (some 16) (.mv (.t 1)),
  .op (some 17) (.mv (.t 6)),
  .op (some 18) (.binI .rem (.t 17) (.v (.lit (.int .i64 (6))))),
  .op (some 19) (.mv (.t 6)),
  .op (some 20) (.binI .quo (.t 19) (.v (.lit (.int .i64 (6))))),
  .op (some 21) (.call (.t 16) [(.t 18), (.t 20)]),
  .op (some 15) (.mv (.t 21)),
  .op (some 22) (.ext (.t 15) 0),
  .op (some 23) (.ext (.t 15) 1),
  .op (some 7) (.mv (.t 22)),
  .op (some 8) (.mv (.t 23))])
 (.reg [.op (some 24) (.mv (.t 5)),
  .op (some 25) (.mv (.t 8)),
  .op (some 26) (.binI .mul (.t 25) (.v (.lit (.int .i64 (6))))),
  .op (some 27) (.mv (.t 7)),
  .op (some 28) (.binI .add (.t 26) (.t 27)),
  .op (some 29) (.binI .shl (.v (.lit (.int .u64 (1)))) (.t 28)),
  .op (some 30) (.binI .or (.t 24) (.t 29)),
  .op (some 5) (.mv (.t 30))]))
 .skip))))
 (.reg [.op (some 31) (.binI .add (.t 9) (.v (.lit (.int .i64 (1))))),
  .op (some 9) (.mv (.t 31))])))))))
 (.seq (.reg [.op (some 32) (.mv (.t 5)),
  .op (some 4) (.mv (.t 32))])
 .ret))))
def rs68 : List RR := [.tmp 4]
def cut68 : Nat → Nat := fun id => 0
theorem k68 : (Try.f68.body.bind fun c => comp Try.prog Try.f68.ntmps cut68 c) = some r68 := by kernel_rfl
theorem by68 {W0 : World} {σ : List Blk} {args : List AV} {K : Cont} (hn : args.length ≤ 33) (h : rW Try.prog W0 σ.length r68 (initFr args) σ (finP W0 rs68 σ.length K)) : ACall Try.prog W0 68 args σ K :=
  ACall.introR mixed Try.func68 (by kernel_rfl) k68 (by kernel_rfl) hn h
def r69 : RC := (.seq (.reg [.op (some 6) (.mv (.v (.lit (.int .i64 (0))))),
  .op (some 7) (.mv (.v (.lit (.int .i64 (0)))))])
 (.seq (.draw [((some 8), (.mv (.t 0))), ((some 9), (.load 1 false (.t 2))), ((some 10), (.binI .add (.t 8) (.t 9))), ((some 11), (.binI .rem (.t 10) (.v (.lit (.int .i64 (6)))))), ((some 12), (.mv (.t 1))), ((some 13), (.load 1 false (.t 3))), ((some 14), (.binI .add (.t 12) (.t 13))), ((some 15), (.binI .rem (.t 14) (.v (.lit (.int .i64 (6)))))), ((some 6), (.mv (.t 11))), ((some 7), (.mv (.t 15)))] [])
 .ret))
def rs69 : List RR := [.tmp 6, .tmp 7]
def cut69 : Nat → Nat := fun id => if id = 1 then 21 else 0
theorem k69 : (Try.f69.body.bind fun c => comp Try.prog Try.f69.ntmps cut69 c) = some r69 := by kernel_rfl
theorem by69 {W0 : World} {σ : List Blk} {args : List AV} {K : Cont} (hn : args.length ≤ 16) (h : rW Try.prog W0 σ.length r69 (initFr args) σ (finP W0 rs69 σ.length K)) : ACall Try.prog W0 69 args σ K :=
  ACall.introR mixed Try.func69 (by kernel_rfl) k69 (by kernel_rfl) hn h
def r70 : RC := (.seq (.reg [.op (some 3) (.box 51 (.t 0)),
  .op (some 6) (.mv (.v (.lit (.bool false))))])
 (.seq (.reg [.op (some 7) (.mv (.t 2)),
  .op (some 8) (.faddr 0 (.t 3)),
  .op (some 9) (.iaddrA 6 1 (.t 8) (.t 7)),
  .op (some 10) (.load 1 false (.t 9)),
  .op (some 11) (.mv (.t 1)),
  .op (some 12) (.binI .shr (.t 10) (.t 11)),
  .op (some 13) (.binI .and (.t 12) (.v (.lit (.int .i64 (1))))),
  .op (some 14) (.binI .eql (.t 13) (.v (.lit (.int .i64 (1))))),
  .op (some 6) (.mv (.t 14))])
 .ret))
def rs70 : List RR := [.tmp 6]
def cut70 : Nat → Nat := fun id => 0
theorem k70 : (Try.f70.body.bind fun c => comp Try.prog Try.f70.ntmps cut70 c) = some r70 := by kernel_rfl
theorem by70 {W0 : World} {σ : List Blk} {args : List AV} {K : Cont} (hn : args.length ≤ 15) (h : rW Try.prog W0 σ.length r70 (initFr args) σ (finP W0 rs70 σ.length K)) : ACall Try.prog W0 70 args σ K :=
  ACall.introR mixed Try.func70 (by kernel_rfl) k70 (by kernel_rfl) hn h
def r71 : RC := (.seq (.reg [.op (some 4) (.mv (.v (.lit (.bool false))))])
 (.seq (.reg [.op (some 5) (.mv (.t 0)),
  .op (some 6) (.mv (.t 1)),
  .op (some 7) (.binI .shr (.t 5) (.t 6)),
  .op (some 8) (.binI .and (.t 7) (.v (.lit (.int .u64 (1))))),
  .op (some 9) (.binI .eql (.t 8) (.v (.lit (.int .u64 (1))))),
  .op (some 4) (.mv (.t 9))])
 .ret))
def rs71 : List RR := [.tmp 4]
def cut71 : Nat → Nat := fun id => 0
theorem k71 : (Try.f71.body.bind fun c => comp Try.prog Try.f71.ntmps cut71 c) = some r71 := by kernel_rfl
theorem by71 {W0 : World} {σ : List Blk} {args : List AV} {K : Cont} (hn : args.length ≤ 10) (h : rW Try.prog W0 σ.length r71 (initFr args) σ (finP W0 rs71 σ.length K)) : ACall Try.prog W0 71 args σ K :=
  ACall.introR mixed Try.func71 (by kernel_rfl) k71 (by kernel_rfl) hn h
end Go.Proofs.Ytbbmlnaekefaaaa
end

section
/- Contracts of small functions: what they compute. -/
set_option linter.unusedVariables false
set_option linter.unusedSimpArgs false
namespace Go.Proofs.Ytbbmlnaekefaaaa
open Go Go.RowKit Go.Proofs.Ytbbmlnaekefaaaa.Abs
theorem fL_mk {l : List AV} {K : List AV → Prop} (h : K l) : fL l K := by rw [fL_eq]; exact h
def litAll : List AV → Bool
  | [] => true
  | .lit _ :: l => litAll l
  | _ :: _ => false
theorem det3_agg {σ : List Blk} : ∀ {cs : List AV}, litAll cs = true → det3 σ (.agg cs) := by
  intro cs h v hv
  induction cs with
  | nil => cases hv
  | cons a cs ih =>
    cases a with
    | lit x => cases hv with
      | head => exact trivial
      | tail _ hv => exact ih h hv
    | _ => cases h
abbrev I (n : Int) : AV := .lit (.int .i64 n)
abbrev Bo (b : Bool) : AV := .lit (.bool b)
abbrev St (s : ByteArray) : AV := .lit (.string s)
variable {W0 : World} {σ : List Blk}
def inB (x a b : Int) : Bool := decide (a ≤ x) && decide (x ≤ b)
theorem c_l1In (x a b : Int) (K : Cont) (h0 : K (Bo (inB x a b)) []) : ACall Try.prog W0 44 [I x, I a, I b] [] K := by
  refine by44 (Nat.le_of_ble_eq_true rfl) ?_
  repeat' ((conv => whnf); first | (refine Exists.intro ([] : List Nat) ?_) | (refine And.intro rfl ?_) | (refine And.intro (by decide +kernel) ?_) | (refine And.intro trivial ?_) | (refine Exists.intro _ (And.intro rfl (And.intro rfl (And.intro (Nat.le_of_ble_eq_true rfl) ?_)))) | (refine Exists.intro _ (And.intro rfl (And.intro rfl (And.intro rfl (And.intro (Nat.le_of_ble_eq_true rfl) ?_))))) | (refine And.intro (Exists.intro _ (And.intro rfl rfl)) ?_) | (exact fun hW => absurd hW (by decide +kernel)) | (intro hW; (try simp only [Bool.not_true, Bool.not_false, Bool.not_eq_true', Bool.not_eq_false', decide_eq_true_eq, decide_eq_false_iff_not, reduceCtorEq, Bool.true_eq_false, Bool.false_eq_true, mk_size, List.size_toArray, ByteArray.size_append, ByteArray.size_extract, List.length_cons, List.length_nil, ba_get, ba_empty, Int.toNat_natCast] at hW)) | (refine And.intro (?_ : _ → _) (?_ : _ → _)) | (refine FinR.drop 0 (Nat.zero_le _) (Closed.zero _) rfl ?_) | (refine FinR.keep ?_) | (refine And.intro (det3_agg rfl) ?_) | (refine fL_mk ?_) | (refine And.intro (by (try simp only [mk_size, List.size_toArray, ByteArray.size_append, ByteArray.size_extract, List.length_cons, List.length_nil]); omega) ?_) | (refine And.intro (by (try simp only [mk_size, List.size_toArray, ByteArray.size_append, ByteArray.size_extract, List.length_cons, List.length_nil, wrap64_eq]); omega) ?_) | fail)
  all_goals first | exact h0 | (refine Eq.mp (congrArg (fun v => K v []) ?_) h0; clear h0; simp_all [inB] <;> omega)
theorem d_l1In (x a b : Int) (K : Cont) (h0 : K (Bo (inB x a b)) σ) : ACall Try.prog W0 44 [I x, I a, I b] σ K :=
  ACall.lift rfl (fun _ => rfl) (fun W1 K _ h => c_l1In x a b K h) h0
abbrev Sh (a b c d e f : Int) : AV := .agg [I a, I b, I c, I d, I e, I f]
def shB6 (a b c d e f : Int) : Bool := inB a 0 63 && inB b 0 63 && inB c 0 63 && inB d 0 63 && inB e 0 63 && inB f 0 63
theorem c_l2Sheet (a b c d e f : Int) (K : Cont) (h0 : K (Bo (shB6 a b c d e f)) []) : ACall Try.prog W0 55 [Sh a b c d e f] [] K := by
  refine by55 (Nat.le_of_ble_eq_true rfl) ?_
  repeat' ((conv => whnf); first | (refine Exists.intro ([] : List Nat) ?_) | (refine And.intro rfl ?_) | (refine And.intro (by decide +kernel) ?_) | (refine And.intro trivial ?_) | (refine LoopR.unroll 7 ?_) | (refine d_l1In (h0 := ?_) ..) | (refine Exists.intro _ (And.intro (fun τ => callW_fn (d_l1In (h0 := And.intro rfl rfl) ..)) ?_)) | (refine Exists.intro _ (And.intro (callW_fn (d_l1In (h0 := And.intro rfl rfl) ..)) (And.intro trivial ?_))) | (refine Exists.intro _ (And.intro (callW_fn (d_l1In (h0 := And.intro rfl rfl) ..)) ?_)) | (refine Exists.intro _ (And.intro (fun τ _ => callW_fn (d_l1In (h0 := And.intro rfl rfl) ..)) ?_)) | (refine Exists.intro _ (And.intro rfl (And.intro rfl (And.intro (Nat.le_of_ble_eq_true rfl) ?_)))) | (refine Exists.intro _ (And.intro rfl (And.intro rfl (And.intro rfl (And.intro (Nat.le_of_ble_eq_true rfl) ?_))))) | (refine And.intro (Exists.intro _ (And.intro rfl rfl)) ?_) | (exact fun hW => absurd hW (by decide +kernel)) | (intro hW; (try simp only [Bool.not_true, Bool.not_false, Bool.not_eq_true', Bool.not_eq_false', decide_eq_true_eq, decide_eq_false_iff_not, reduceCtorEq, Bool.true_eq_false, Bool.false_eq_true, mk_size, List.size_toArray, ByteArray.size_append, ByteArray.size_extract, List.length_cons, List.length_nil, ba_get, ba_empty, Int.toNat_natCast] at hW)) | (refine And.intro (?_ : _ → _) (?_ : _ → _)) | (refine FinR.drop 0 (Nat.zero_le _) (Closed.zero _) rfl ?_) | (refine FinR.keep ?_) | (refine And.intro (det3_agg rfl) ?_) | (refine fL_mk ?_) | (refine And.intro (by (try simp only [mk_size, List.size_toArray, ByteArray.size_append, ByteArray.size_extract, List.length_cons, List.length_nil]); omega) ?_) | (refine And.intro (by (try simp only [mk_size, List.size_toArray, ByteArray.size_append, ByteArray.size_extract, List.length_cons, List.length_nil, wrap64_eq]); omega) ?_) | fail)
  all_goals first | exact h0 | (refine Eq.mp (congrArg (fun v => K v []) ?_) h0; clear h0; simp_all [shB6] <;> omega)
theorem d_l2Sheet (a b c d e f : Int) (K : Cont) (h0 : K (Bo (shB6 a b c d e f)) σ) : ACall Try.prog W0 55 [Sh a b c d e f] σ K :=
  ACall.lift rfl (fun _ => rfl) (fun W1 K _ h => c_l2Sheet a b c d e f K h) h0
theorem c_toIntA6 (a b c d e f : Int) (K : Cont) (h0 : K (Sh a b c d e f) []) : ACall Try.prog W0 48 [Sh a b c d e f] [] K := by
  refine by48 (Nat.le_of_ble_eq_true rfl) ?_
  repeat' ((conv => whnf); first | (refine Exists.intro ([] : List Nat) ?_) | (refine And.intro rfl ?_) | (refine And.intro (by decide +kernel) ?_) | (refine And.intro trivial ?_) | (refine LoopR.unroll 7 ?_) | (refine Exists.intro _ (And.intro rfl (And.intro rfl (And.intro (Nat.le_of_ble_eq_true rfl) ?_)))) | (refine Exists.intro _ (And.intro rfl (And.intro rfl (And.intro rfl (And.intro (Nat.le_of_ble_eq_true rfl) ?_))))) | (refine And.intro (Exists.intro _ (And.intro rfl rfl)) ?_) | (exact fun hW => absurd hW (by decide +kernel)) | (intro hW; (try simp only [Bool.not_true, Bool.not_false, Bool.not_eq_true', Bool.not_eq_false', decide_eq_true_eq, decide_eq_false_iff_not, reduceCtorEq, Bool.true_eq_false, Bool.false_eq_true, mk_size, List.size_toArray, ByteArray.size_append, ByteArray.size_extract, List.length_cons, List.length_nil, ba_get, ba_empty, Int.toNat_natCast] at hW)) | (refine And.intro (?_ : _ → _) (?_ : _ → _)) | (refine FinR.drop 0 (Nat.zero_le _) (Closed.zero _) rfl ?_) | (refine FinR.keep ?_) | (refine And.intro (det3_agg rfl) ?_) | (refine fL_mk ?_) | (refine And.intro (by (try simp only [mk_size, List.size_toArray, ByteArray.size_append, ByteArray.size_extract, List.length_cons, List.length_nil]); omega) ?_) | (refine And.intro (by (try simp only [mk_size, List.size_toArray, ByteArray.size_append, ByteArray.size_extract, List.length_cons, List.length_nil, wrap64_eq]); omega) ?_) | fail)
  all_goals first | exact h0 | (refine Eq.mp (congrArg (fun v => K v []) ?_) h0; clear h0; simp_all <;> omega)
theorem d_toIntA6 (a b c d e f : Int) (K : Cont) (h0 : K (Sh a b c d e f) σ) : ACall Try.prog W0 48 [Sh a b c d e f] σ K :=
  ACall.lift rfl (fun _ => rfl) (fun W1 K _ h => c_toIntA6 a b c d e f K h) h0
theorem c_toSheet (a b c d e f : Int) (K : Cont) (h0 : K (Sh a b c d e f) []) : ACall Try.prog W0 37 [Sh a b c d e f] [] K := by
  refine by37 (Nat.le_of_ble_eq_true rfl) ?_
  repeat' ((conv => whnf); first | (refine Exists.intro ([] : List Nat) ?_) | (refine And.intro rfl ?_) | (refine And.intro (by decide +kernel) ?_) | (refine And.intro trivial ?_) | (refine d_toIntA6 (h0 := ?_) ..) | (refine Exists.intro _ (And.intro (fun τ => callW_fn (d_toIntA6 (h0 := And.intro rfl rfl) ..)) ?_)) | (refine Exists.intro _ (And.intro (callW_fn (d_toIntA6 (h0 := And.intro rfl rfl) ..)) (And.intro trivial ?_))) | (refine Exists.intro _ (And.intro (callW_fn (d_toIntA6 (h0 := And.intro rfl rfl) ..)) ?_)) | (refine Exists.intro _ (And.intro (fun τ _ => callW_fn (d_toIntA6 (h0 := And.intro rfl rfl) ..)) ?_)) | (refine Exists.intro _ (And.intro rfl (And.intro rfl (And.intro (Nat.le_of_ble_eq_true rfl) ?_)))) | (refine Exists.intro _ (And.intro rfl (And.intro rfl (And.intro rfl (And.intro (Nat.le_of_ble_eq_true rfl) ?_))))) | (refine And.intro (Exists.intro _ (And.intro rfl rfl)) ?_) | (exact fun hW => absurd hW (by decide +kernel)) | (intro hW; (try simp only [Bool.not_true, Bool.not_false, Bool.not_eq_true', Bool.not_eq_false', decide_eq_true_eq, decide_eq_false_iff_not, reduceCtorEq, Bool.true_eq_false, Bool.false_eq_true, mk_size, List.size_toArray, ByteArray.size_append, ByteArray.size_extract, List.length_cons, List.length_nil, ba_get, ba_empty, Int.toNat_natCast] at hW)) | (refine And.intro (?_ : _ → _) (?_ : _ → _)) | (refine FinR.drop 0 (Nat.zero_le _) (Closed.zero _) rfl ?_) | (refine FinR.keep ?_) | (refine And.intro (det3_agg rfl) ?_) | (refine fL_mk ?_) | (refine And.intro (by (try simp only [mk_size, List.size_toArray, ByteArray.size_append, ByteArray.size_extract, List.length_cons, List.length_nil]); omega) ?_) | (refine And.intro (by (try simp only [mk_size, List.size_toArray, ByteArray.size_append, ByteArray.size_extract, List.length_cons, List.length_nil, wrap64_eq]); omega) ?_) | fail)
  all_goals first | exact h0 | (refine Eq.mp (congrArg (fun v => K v []) ?_) h0; clear h0; simp_all <;> omega)
theorem d_toSheet (a b c d e f : Int) (K : Cont) (h0 : K (Sh a b c d e f) σ) : ACall Try.prog W0 37 [Sh a b c d e f] σ K :=
  ACall.lift rfl (fun _ => rfl) (fun W1 K _ h => c_toSheet a b c d e f K h) h0
end Go.Proofs.Ytbbmlnaekefaaaa
end

section
/- Contracts: sheets and shops. -/
set_option linter.unusedVariables false
set_option linter.unusedSimpArgs false
namespace Go.Proofs.Ytbbmlnaekefaaaa
open Go Go.RowKit Go.Proofs.Ytbbmlnaekefaaaa.Abs
variable {W0 : World} {σ : List Blk}
abbrev U (n : Int) : AV := .lit (.int .u64 n)
def setI (a b c d e f : Int) : Int :=
  bOr .u64 (bOr .u64 (bOr .u64 (bOr .u64 (bOr .u64 (bOr .u64 0 (shL .u64 (IntKind.u64.wrap a) 0)) (shL .u64 (IntKind.u64.wrap b) 6)) (shL .u64 (IntKind.u64.wrap c) 12)) (shL .u64 (IntKind.u64.wrap d) 18)) (shL .u64 (IntKind.u64.wrap e) 24)) (shL .u64 (IntKind.u64.wrap f) 30)
def setR (a b c d e f : Int) : AV := .tup [U (if shB6 a b c d e f = true then setI a b c d e f else 0), Bo (shB6 a b c d e f)]
theorem c_setOf (a b c d e f : Int) (K : Cont) (h0 : K (setR a b c d e f) []) : ACall Try.prog W0 40 [Sh a b c d e f] [] K := by
  refine by40 (Nat.le_of_ble_eq_true rfl) ?_
  repeat' ((conv => whnf); first | (refine Exists.intro ([] : List Nat) ?_) | (refine And.intro rfl ?_) | (refine And.intro (by decide +kernel) ?_) | (refine And.intro trivial ?_) | (refine LoopR.unroll 7 ?_) | (refine Exists.intro _ (And.intro rfl (And.intro rfl (And.intro (Nat.le_of_ble_eq_true rfl) ?_)))) | (refine Exists.intro _ (And.intro rfl (And.intro rfl (And.intro rfl (And.intro (Nat.le_of_ble_eq_true rfl) ?_))))) | (refine And.intro (Exists.intro _ (And.intro rfl rfl)) ?_) | (exact fun hW => absurd hW (by decide +kernel)) | (intro hW; (try simp only [Bool.not_true, Bool.not_false, Bool.not_eq_true', Bool.not_eq_false', decide_eq_true_eq, decide_eq_false_iff_not, reduceCtorEq, Bool.true_eq_false, Bool.false_eq_true, mk_size, List.size_toArray, ByteArray.size_append, ByteArray.size_extract, List.length_cons, List.length_nil, ba_get, ba_empty, Int.toNat_natCast] at hW)) | (refine And.intro (?_ : _ → _) (?_ : _ → _)) | (refine FinR.drop 0 (Nat.zero_le _) (Closed.zero _) rfl ?_) | (refine FinR.keep ?_) | (refine And.intro (det3_agg rfl) ?_) | (refine fL_mk ?_) | (refine And.intro (by (try simp only [mk_size, List.size_toArray, ByteArray.size_append, ByteArray.size_extract, List.length_cons, List.length_nil]); omega) ?_) | (refine And.intro (by (try simp only [mk_size, List.size_toArray, ByteArray.size_append, ByteArray.size_extract, List.length_cons, List.length_nil, wrap64_eq]); omega) ?_) | fail)
  all_goals first
    | (have hs : shB6 a b c d e f = false := by (simp_all [shB6, inB] <;> omega)
       rw [setR, hs] at h0
       exact h0)
    | (have hs : shB6 a b c d e f = true := by (simp_all [shB6, inB] <;> omega)
       rw [setR, hs, if_pos rfl] at h0
       exact h0)
theorem d_setOf (a b c d e f : Int) (K : Cont) (h0 : K (setR a b c d e f) σ) : ACall Try.prog W0 40 [Sh a b c d e f] σ K :=
  ACall.lift rfl (fun _ => rfl) (fun W1 K _ h => c_setOf a b c d e f K h) h0
theorem c_IsSheet (a b c d e f : Int) (K : Cont) (h0 : K (Bo (shB6 a b c d e f)) []) : ACall Try.prog W0 58 [Sh a b c d e f] [] K := by
  refine by58 (Nat.le_of_ble_eq_true rfl) ?_
  repeat' ((conv => whnf); first | (refine Exists.intro ([] : List Nat) ?_) | (refine And.intro rfl ?_) | (refine And.intro (by decide +kernel) ?_) | (refine And.intro trivial ?_) | (refine d_setOf (h0 := ?_) ..) | (refine Exists.intro _ (And.intro (fun τ => callW_fn (d_setOf (h0 := And.intro rfl rfl) ..)) ?_)) | (refine Exists.intro _ (And.intro (callW_fn (d_setOf (h0 := And.intro rfl rfl) ..)) (And.intro trivial ?_))) | (refine Exists.intro _ (And.intro (callW_fn (d_setOf (h0 := And.intro rfl rfl) ..)) ?_)) | (refine Exists.intro _ (And.intro (fun τ _ => callW_fn (d_setOf (h0 := And.intro rfl rfl) ..)) ?_)) | (refine Exists.intro _ (And.intro rfl (And.intro rfl (And.intro (Nat.le_of_ble_eq_true rfl) ?_)))) | (refine Exists.intro _ (And.intro rfl (And.intro rfl (And.intro rfl (And.intro (Nat.le_of_ble_eq_true rfl) ?_))))) | (refine And.intro (Exists.intro _ (And.intro rfl rfl)) ?_) | (exact fun hW => absurd hW (by decide +kernel)) | (intro hW; (try simp only [Bool.not_true, Bool.not_false, Bool.not_eq_true', Bool.not_eq_false', decide_eq_true_eq, decide_eq_false_iff_not, reduceCtorEq, Bool.true_eq_false, Bool.false_eq_true, mk_size, List.size_toArray, ByteArray.size_append, ByteArray.size_extract, List.length_cons, List.length_nil, ba_get, ba_empty, Int.toNat_natCast] at hW)) | (refine And.intro (?_ : _ → _) (?_ : _ → _)) | (refine FinR.drop 0 (Nat.zero_le _) (Closed.zero _) rfl ?_) | (refine FinR.keep ?_) | (refine And.intro (det3_agg rfl) ?_) | (refine fL_mk ?_) | (refine And.intro (by (try simp only [mk_size, List.size_toArray, ByteArray.size_append, ByteArray.size_extract, List.length_cons, List.length_nil]); omega) ?_) | (refine And.intro (by (try simp only [mk_size, List.size_toArray, ByteArray.size_append, ByteArray.size_extract, List.length_cons, List.length_nil, wrap64_eq]); omega) ?_) | fail)
  all_goals first | exact h0 | (refine Eq.mp (congrArg (fun v => K v []) ?_) h0; clear h0; simp_all <;> omega)
theorem d_IsSheet (a b c d e f : Int) (K : Cont) (h0 : K (Bo (shB6 a b c d e f)) σ) : ACall Try.prog W0 58 [Sh a b c d e f] σ K :=
  ACall.lift rfl (fun _ => rfl) (fun W1 K _ h => c_IsSheet a b c d e f K h) h0
abbrev Sp (a b c d e f a' b' c' d' e' f' p q : Int) : AV := .agg [I a, I b, I c, I d, I e, I f, I a', I b', I c', I d', I e', I f', I p, I q]
end Go.Proofs.Ytbbmlnaekefaaaa
end

section
/- Contracts: new shops, and that two shops are the same. -/
set_option linter.unusedVariables false
set_option linter.unusedSimpArgs false
namespace Go.Proofs.Ytbbmlnaekefaaaa
open Go Go.RowKit Go.Proofs.Ytbbmlnaekefaaaa.Abs
variable {W0 : World} {σ : List Blk}
def eq6 (a b c d e f a' b' c' d' e' f' : Int) : Bool := decide (a = a') && decide (b = b') && decide (c = c') && decide (d = d') && decide (e = e') && decide (f = f')
theorem c_eqIntA6 (a b c d e f a' b' c' d' e' f' : Int) (K : Cont) (h0 : K (Bo (eq6 a b c d e f a' b' c' d' e' f')) []) : ACall Try.prog W0 61 [Sh a b c d e f, Sh a' b' c' d' e' f'] [] K := by
  refine by61 (Nat.le_of_ble_eq_true rfl) ?_
  repeat' ((conv => whnf); first | (refine Exists.intro ([] : List Nat) ?_) | (refine And.intro rfl ?_) | (refine And.intro (by decide +kernel) ?_) | (refine And.intro trivial ?_) | (refine LoopR.unroll 7 ?_) | (refine Exists.intro _ (And.intro rfl (And.intro rfl (And.intro (Nat.le_of_ble_eq_true rfl) ?_)))) | (refine Exists.intro _ (And.intro rfl (And.intro rfl (And.intro rfl (And.intro (Nat.le_of_ble_eq_true rfl) ?_))))) | (refine And.intro (Exists.intro _ (And.intro rfl rfl)) ?_) | (exact fun hW => absurd hW (by decide +kernel)) | (intro hW; (try simp only [Bool.not_true, Bool.not_false, Bool.not_eq_true', Bool.not_eq_false', decide_eq_true_eq, decide_eq_false_iff_not, reduceCtorEq, Bool.true_eq_false, Bool.false_eq_true, mk_size, List.size_toArray, ByteArray.size_append, ByteArray.size_extract, List.length_cons, List.length_nil, ba_get, ba_empty, Int.toNat_natCast] at hW)) | (refine And.intro (?_ : _ → _) (?_ : _ → _)) | (refine FinR.drop 0 (Nat.zero_le _) (Closed.zero _) rfl ?_) | (refine FinR.keep ?_) | (refine And.intro (det3_agg rfl) ?_) | (refine fL_mk ?_) | (refine And.intro (by (try simp only [mk_size, List.size_toArray, ByteArray.size_append, ByteArray.size_extract, List.length_cons, List.length_nil]); omega) ?_) | (refine And.intro (by (try simp only [mk_size, List.size_toArray, ByteArray.size_append, ByteArray.size_extract, List.length_cons, List.length_nil, wrap64_eq]); omega) ?_) | fail)
  all_goals first | exact h0 | (refine Eq.mp (congrArg (fun v => K v []) ?_) h0; clear h0; simp_all [eq6] <;> omega)
theorem d_eqIntA6 (a b c d e f a' b' c' d' e' f' : Int) (K : Cont) (h0 : K (Bo (eq6 a b c d e f a' b' c' d' e' f')) σ) : ACall Try.prog W0 61 [Sh a b c d e f, Sh a' b' c' d' e' f'] σ K :=
  ACall.lift rfl (fun _ => rfl) (fun W1 K _ h => c_eqIntA6 a b c d e f a' b' c' d' e' f' K h) h0
theorem c_eqSheet (a b c d e f a' b' c' d' e' f' : Int) (K : Cont) (h0 : K (Bo (eq6 a b c d e f a' b' c' d' e' f')) []) : ACall Try.prog W0 43 [Sh a b c d e f, Sh a' b' c' d' e' f'] [] K := by
  refine by43 (Nat.le_of_ble_eq_true rfl) ?_
  repeat' ((conv => whnf); first | (refine Exists.intro ([] : List Nat) ?_) | (refine And.intro rfl ?_) | (refine And.intro (by decide +kernel) ?_) | (refine And.intro trivial ?_) | (refine d_eqIntA6 (h0 := ?_) ..) | (refine Exists.intro _ (And.intro (fun τ => callW_fn (d_eqIntA6 (h0 := And.intro rfl rfl) ..)) ?_)) | (refine Exists.intro _ (And.intro (callW_fn (d_eqIntA6 (h0 := And.intro rfl rfl) ..)) (And.intro trivial ?_))) | (refine Exists.intro _ (And.intro (callW_fn (d_eqIntA6 (h0 := And.intro rfl rfl) ..)) ?_)) | (refine Exists.intro _ (And.intro (fun τ _ => callW_fn (d_eqIntA6 (h0 := And.intro rfl rfl) ..)) ?_)) | (refine Exists.intro _ (And.intro rfl (And.intro rfl (And.intro (Nat.le_of_ble_eq_true rfl) ?_)))) | (refine Exists.intro _ (And.intro rfl (And.intro rfl (And.intro rfl (And.intro (Nat.le_of_ble_eq_true rfl) ?_))))) | (refine And.intro (Exists.intro _ (And.intro rfl rfl)) ?_) | (exact fun hW => absurd hW (by decide +kernel)) | (intro hW; (try simp only [Bool.not_true, Bool.not_false, Bool.not_eq_true', Bool.not_eq_false', decide_eq_true_eq, decide_eq_false_iff_not, reduceCtorEq, Bool.true_eq_false, Bool.false_eq_true, mk_size, List.size_toArray, ByteArray.size_append, ByteArray.size_extract, List.length_cons, List.length_nil, ba_get, ba_empty, Int.toNat_natCast] at hW)) | (refine And.intro (?_ : _ → _) (?_ : _ → _)) | (refine FinR.drop 0 (Nat.zero_le _) (Closed.zero _) rfl ?_) | (refine FinR.keep ?_) | (refine And.intro (det3_agg rfl) ?_) | (refine fL_mk ?_) | (refine And.intro (by (try simp only [mk_size, List.size_toArray, ByteArray.size_append, ByteArray.size_extract, List.length_cons, List.length_nil]); omega) ?_) | (refine And.intro (by (try simp only [mk_size, List.size_toArray, ByteArray.size_append, ByteArray.size_extract, List.length_cons, List.length_nil, wrap64_eq]); omega) ?_) | fail)
  all_goals first | exact h0 | (refine Eq.mp (congrArg (fun v => K v []) ?_) h0; clear h0; simp_all <;> omega)
theorem d_eqSheet (a b c d e f a' b' c' d' e' f' : Int) (K : Cont) (h0 : K (Bo (eq6 a b c d e f a' b' c' d' e' f')) σ) : ACall Try.prog W0 43 [Sh a b c d e f, Sh a' b' c' d' e' f'] σ K :=
  ACall.lift rfl (fun _ => rfl) (fun W1 K _ h => c_eqSheet a b c d e f a' b' c' d' e' f' K h) h0
end Go.Proofs.Ytbbmlnaekefaaaa
end

section
/- Contracts: the laws of new shops and of new consoles. -/
set_option linter.unusedVariables false
set_option linter.unusedSimpArgs false
namespace Go.Proofs.Ytbbmlnaekefaaaa
open Go Go.RowKit Go.Proofs.Ytbbmlnaekefaaaa.Abs
variable {W0 : World} {σ : List Blk}
abbrev Co (a b c d e f a' b' c' d' e' f' p q : Int) (s t : ByteArray) (n : Int) : AV := .agg [I a, I b, I c, I d, I e, I f, I a', I b', I c', I d', I e', I f', I p, I q, St s, St t, I n]
end Go.Proofs.Ytbbmlnaekefaaaa
end

section
/- Plain laws: digits of numbers, and that the parallel count of bits counts them. -/
set_option linter.unusedVariables false
set_option linter.unusedSimpArgs false
namespace Go.Proofs.Ytbbmlnaekefaaaa
open Go Go.Proofs.Ytbbmlnaekefaaaa.Abs
theorem testBit_dig (k d x i : Nat) (hd : d < 2 ^ k) : (d + 2 ^ k * x).testBit i = if i < k then d.testBit i else x.testBit (i - k) := by
  rw [Nat.add_comm, Nat.testBit_two_pow_mul_add x hd i]
theorem lor_dig (k d e x y : Nat) (hd : d < 2 ^ k) (he : e < 2 ^ k) : (d + 2 ^ k * x) ||| (e + 2 ^ k * y) = (d ||| e) + 2 ^ k * (x ||| y) := by
  apply Nat.eq_of_testBit_eq
  intro i
  rw [Nat.testBit_or, testBit_dig k d x i hd, testBit_dig k e y i he, testBit_dig k (d ||| e) _ i (Nat.or_lt_two_pow hd he)]
  split <;> simp [Nat.testBit_or]
/-! ### the parallel count, byte by byte -/
def mk (m : Nat) : Nat → Nat
  | 0 => 0
  | n + 1 => m + 256 * mk m n
def s1 (n x : Nat) : Nat := ((x >>> 1) &&& mk 85 n) + (x &&& mk 85 n)
def s2 (n x : Nat) : Nat := ((x >>> 2) &&& mk 51 n) + (x &&& mk 51 n)
def b1 (d : Nat) : Nat := ((d >>> 1) &&& 85) + (d &&& 85)
def b2 (d : Nat) : Nat := ((d >>> 2) &&& 51) + (d &&& 51)
def b3 (d : Nat) : Nat := ((d >>> 4) + d) &&& 15
end Go.Proofs.Ytbbmlnaekefaaaa
end

section
/- Plain laws: operations on the machine's unsigned words, as numbers. -/
set_option linter.unusedVariables false
set_option linter.unusedSimpArgs false
namespace Go.Proofs.Ytbbmlnaekefaaaa
open Go Go.Proofs.Ytbbmlnaekefaaaa.Abs
theorem wrap_u64 (n : Nat) (h : n < 18446744073709551616) : IntKind.u64.wrap (n : Int) = (n : Int) := by
  simp [IntKind.wrap, IntKind.signed, IntKind.bits]
  omega
theorem wrap_i64 (n : Int) (h0 : -9223372036854775808 ≤ n) (h1 : n ≤ 9223372036854775807) : IntKind.i64.wrap n = n := by
  simp [IntKind.wrap, IntKind.signed, IntKind.bits]
  omega
theorem bAnd_u64 (n m : Nat) (hn : n < 18446744073709551616) (hm : m < 18446744073709551616) : bAnd .u64 n m = ((n &&& m : Nat) : Int) := by
  have h : n &&& m < 18446744073709551616 := Nat.lt_of_le_of_lt Nat.and_le_left hn
  have e : (BitVec.ofInt 64 (n : Int) &&& BitVec.ofInt 64 (m : Int)).toNat = n &&& m := by
    rw [BitVec.toNat_and, BitVec.ofInt_natCast, BitVec.ofInt_natCast, BitVec.toNat_ofNat, BitVec.toNat_ofNat, Nat.mod_eq_of_lt hn, Nat.mod_eq_of_lt hm]
  unfold bAnd
  rw [show IntKind.u64.bits = 64 from rfl, e]
  exact wrap_u64 _ h
theorem bOr_u64 (n m : Nat) (hn : n < 18446744073709551616) (hm : m < 18446744073709551616) : bOr .u64 n m = ((n ||| m : Nat) : Int) := by
  have h : n ||| m < 18446744073709551616 := Nat.or_lt_two_pow (n := 64) hn hm
  have e : (BitVec.ofInt 64 (n : Int) ||| BitVec.ofInt 64 (m : Int)).toNat = n ||| m := by
    rw [BitVec.toNat_or, BitVec.ofInt_natCast, BitVec.ofInt_natCast, BitVec.toNat_ofNat, BitVec.toNat_ofNat, Nat.mod_eq_of_lt hn, Nat.mod_eq_of_lt hm]
  unfold bOr
  rw [show IntKind.u64.bits = 64 from rfl, e]
  exact wrap_u64 _ h
theorem shR_u64 (n s : Nat) (hs : s ≤ 64) : shR .u64 n s = ((n >>> s : Nat) : Int) := by
  unfold shR
  rw [show IntKind.u64.bits = 64 from rfl, Int.toNat_natCast, Nat.min_eq_left hs, Nat.shiftRight_eq_div_pow, Int.fdiv_eq_ediv_of_nonneg _ (Int.le_of_lt (Int.pow_pos (by decide)))]
  simp
theorem shL_u64 (n s : Nat) (hs : s ≤ 64) (h : n * 2 ^ s < 18446744073709551616) : shL .u64 n s = ((n * 2 ^ s : Nat) : Int) := by
  unfold shL
  rw [show IntKind.u64.bits = 64 from rfl, Int.toNat_natCast, Nat.min_eq_left hs]
  have := wrap_u64 (n * 2 ^ s) h
  simpa using this
end Go.Proofs.Ytbbmlnaekefaaaa
end

section
/- Plain law: what the library's count of ones computes is the number of ones. -/
set_option linter.unusedVariables false
set_option linter.unusedSimpArgs false
namespace Go.Proofs.Ytbbmlnaekefaaaa
open Go Go.Proofs.Ytbbmlnaekefaaaa.Abs
def p1 (x : Int) : Int := IntKind.u64.wrap (bAnd .u64 (shR .u64 x 1) 6148914691236517205 + bAnd .u64 x 6148914691236517205)
def p2 (x : Int) : Int := IntKind.u64.wrap (bAnd .u64 (shR .u64 x 2) 3689348814741910323 + bAnd .u64 x 3689348814741910323)
def p3 (x : Int) : Int := bAnd .u64 (IntKind.u64.wrap (shR .u64 x 4 + x)) 1085102592571150095
def p4 (k : Int) (x : Int) : Int := IntKind.u64.wrap (x + shR .u64 x k)
end Go.Proofs.Ytbbmlnaekefaaaa
end

section
/- Contracts: the cells that sheet and stamp have in common. -/
set_option linter.unusedVariables false
set_option linter.unusedSimpArgs false
namespace Go.Proofs.Ytbbmlnaekefaaaa
open Go Go.RowKit Go.Proofs.Ytbbmlnaekefaaaa.Abs
variable {W0 : World} {σ : List Blk}
theorem inB_iff (x a b : Int) : inB x a b = true ↔ a ≤ x ∧ x ≤ b := by simp [inB]
/-- the rows of a sheet that is right, as numbers -/
theorem rows_of (a b c d e f : Int) (h : shB6 a b c d e f = true) : ∃ a0 b0 c0 d0 e0 f0 : Nat, a = a0 ∧ b = b0 ∧ c = c0 ∧ d = d0 ∧ e = e0 ∧ f = f0 ∧ a0 < 64 ∧ b0 < 64 ∧ c0 < 64 ∧ d0 < 64 ∧ e0 < 64 ∧ f0 < 64 := by
  simp only [shB6, Bool.and_eq_true, inB_iff] at h
  exact ⟨a.toNat, b.toNat, c.toNat, d.toNat, e.toNat, f.toNat, by omega, by omega, by omega, by omega, by omega, by omega, by omega, by omega, by omega, by omega, by omega, by omega⟩
/-- the number of a sheet's set -/
def setN (a b c d e f : Nat) : Nat := a + 64 * (b + 64 * (c + 64 * (d + 64 * (e + 64 * f))))
theorem wrapu (x : Nat) (h : x < 64) : IntKind.u64.wrap (x : Int) = x := wrap_u64 x (by omega)
theorem setI_nat (a b c d e f : Nat) (ha : a < 64) (hb : b < 64) (hc : c < 64) (hd : d < 64) (he : e < 64) (hf : f < 64) : setI a b c d e f = (setN a b c d e f : Nat) := by
  have or_step : ∀ k x y : Nat, x < 2 ^ k → k ≤ 30 → y < 64 → bOr .u64 (x : Int) (shL .u64 (IntKind.u64.wrap (y : Int)) ((k : Nat) : Int)) = ((x + 2 ^ k * y : Nat) : Int) := by
    intro k x y hx hk hy
    have hp : 2 ^ k ≤ 2 ^ 30 := Nat.pow_le_pow_right (by omega) hk
    have hy' : y * 2 ^ k ≤ 63 * 2 ^ 30 := Nat.mul_le_mul (by omega) hp
    rw [wrapu y hy, shL_u64 y k (by omega) (Nat.lt_of_le_of_lt hy' (by decide)), bOr_u64 _ _ (by omega) (Nat.lt_of_le_of_lt hy' (by decide))]
    have h1 := lor_dig k x 0 0 y hx (Nat.two_pow_pos k)
    rw [Nat.mul_zero, Nat.add_zero, Nat.zero_add, Nat.or_zero, Nat.zero_or] at h1
    rw [Nat.mul_comm y, h1]
  unfold setI setN
  have e0 : bOr .u64 0 (shL .u64 (IntKind.u64.wrap (a : Int)) 0) = ((a : Nat) : Int) := by
    have := or_step 0 0 a (by decide) (by omega) ha
    simpa using this
  rw [e0]
  have e1 := or_step 6 a b (by omega) (by omega) hb
  have e2 := or_step 12 _ c (show a + 2 ^ 6 * b < 2 ^ 12 by omega) (by omega) hc
  have e3 := or_step 18 _ d (show a + 2 ^ 6 * b + 2 ^ 12 * c < 2 ^ 18 by omega) (by omega) hd
  have e4 := or_step 24 _ e (show a + 2 ^ 6 * b + 2 ^ 12 * c + 2 ^ 18 * d < 2 ^ 24 by omega) (by omega) he
  have e5 := or_step 30 _ f (show a + 2 ^ 6 * b + 2 ^ 12 * c + 2 ^ 18 * d + 2 ^ 24 * e < 2 ^ 30 by omega) (by omega) hf
  rw [show (6 : Int) = ((6 : Nat) : Int) from rfl, e1, show (12 : Int) = ((12 : Nat) : Int) from rfl, e2, show (18 : Int) = ((18 : Nat) : Int) from rfl, e3, show (24 : Int) = ((24 : Nat) : Int) from rfl, e4, show (30 : Int) = ((30 : Nat) : Int) from rfl, e5]
  refine congrArg (fun n : Nat => (n : Int)) ?_
  omega
theorem setN_lt (a b c d e f : Nat) (ha : a < 64) (hb : b < 64) (hc : c < 64) (hd : d < 64) (he : e < 64) (hf : f < 64) : setN a b c d e f < 68719476736 := by unfold setN; omega
end Go.Proofs.Ytbbmlnaekefaaaa
end
