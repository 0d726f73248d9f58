import Derived.LoopN
import Derived.Test.YtcfkhiplmnamcaaRows
import Derived.WalkKit
import Derived.ProofKit
import Derived.OpenShut
import Derived.ShutString
import Derived.ChangeOld
import Derived.Below
import Derived.Deep.Slices
import Derived.Test.YtcfkhiplmnamcaaProg
import Derived.Test.YtcfkhiplmnamcaaZJ2
section
/- The abstract logic, part N: a function's resolved code; rounds of a loop; a function by its resolved code. -/
set_option linter.unusedVariables false
set_option linter.unusedSimpArgs false
namespace Go.Proofs.Ytcfkhiplmnamcaa.Abs
open Go Go.RowKit
inductive RC where
  | skip
  | seq (a b : RC)
  | cond (c : RA) (a b : RC)
  | block (id : Nat) (c : RC)
  | exit (id : Nat)
  | loop (c : RC)
  | ret
  | scope (c : RC)
  | reg (is : List RI)
  | quiet (head tail : List RI)
  | draw (head tail : DL)
  | any (nh : Bool) (p : PT)
  | dead
def roundsR (body : Fr → List Blk → CPost → Prop) (k : Nat) : Fr → List Blk → CPost → Prop :=
  Nat.rec (motive := fun _ => Fr → List Blk → CPost → Prop) (fun _ _ _ => False) (fun _ ih fr σ Q => body fr σ fun e fr' σ' => match e with
    | .normal => ih fr' σ' Q
    | e => Q e fr' σ') k
/-- A loop: so and so many rounds at most, or by what holds at each round's head. -/
inductive LoopR (b0 : Nat) (body : Fr → List Blk → CPost → Prop) (fr : Fr) (σ : List Blk) (Q : CPost) : Prop
  | unroll (k : Nat) (h : roundsR body k fr σ Q)
  | inv (h : LoopW b0 body fr σ Q)
def rW (P : Program) (W0 : World) (b0 : Nat) (r : RC) : Fr → List Blk → CPost → Prop :=
  RC.rec (motive := fun _ => Fr → List Blk → CPost → Prop)
    (fun fr σ Q => Q .normal fr σ)
    (fun _ _ ia ib fr σ Q => ia fr σ fun e fr σ => match e with
      | .normal => ib fr σ Q
      | e => Q e fr σ)
    (fun c _ _ ia ib fr σ Q => match c.ev fr with
      | .lit (.bool t) => (t = true → ia fr σ Q) ∧ (t = false → ib fr σ Q)
      | _ => False)
    (fun id _ ic fr σ Q => ic fr σ fun e fr σ => match e with
      | .exit i => if i = id then Q .normal fr σ else Q (.exit i) fr σ
      | e => Q e fr σ)
    (fun id fr σ Q => Q (.exit id) fr σ)
    (fun _ ic fr σ Q => LoopR b0 ic fr σ Q)
    (fun fr σ Q => Q .ret fr σ)
    (fun _ ic fr σ Q => ic fr σ fun e fr σ => match e with
      | .goto _ => False
      | e => Q e fr σ)
    (fun is fr σ Q => riW P W0 is fr σ (Q .normal))
    (fun head tail fr σ Q => qR P W0 head fr σ fun fr => riW P W0 tail fr σ (Q .normal))
    (fun head tail fr σ Q => hR P W0 head fr σ fun fr => runB P W0 tail fr σ (Q .normal))
    (fun nh p fr σ Q => anyR P W0 nh p fr σ (Q .normal))
    (fun _ _ _ => False) r
theorem rW_cond {P : Program} {W0 : World} {b0 : Nat} {c : RA} {a b : RC} {fr : Fr} {σ : List Blk} {Q : CPost} : rW P W0 b0 (.cond c a b) fr σ Q = match c.ev fr with
    | .lit (.bool t) => (t = true → rW P W0 b0 a fr σ Q) ∧ (t = false → rW P W0 b0 b fr σ Q)
    | _ => False := rfl
theorem rW_loop {P : Program} {W0 : World} {b0 : Nat} {c : RC} {fr : Fr} {σ : List Blk} {Q : CPost} : rW P W0 b0 (.loop c) fr σ Q = LoopR b0 (fun fr σ Q => rW P W0 b0 c fr σ Q) fr σ Q := rfl
/-- what is not served must not be reached -/
def orDead : Option RC → Option RC
  | none => some .dead
  | some r => some r
theorem orDead_inv {x : Option RC} {r : RC} (h : orDead x = some r) : r = .dead ∨ x = some r := by
  cases x with
  | none => exact .inl (by cases h; rfl)
  | some y => exact .inr h
def comp (P : Program) (n : Nat) (cuts : Nat → Nat) : Code → Option RC
  | .skip | .label _ => some .skip
  | .region id ops draw => orDead (match draw with
    | false => (compOps P n ops ops.toList).map .reg
    | true => if 1000000 ≤ cuts id then match compG P n ops ops.toList with
        | some L => (mkPlan ops L (fun i => ((cuts id - 1000000) / 2).testBit i) ((cuts id - 1000000) % 2 == 1) ops.size (Array.replicate ops.size false)).map (.any ((cuts id - 1000000) % 2 == 1))
        | none => none
      else if cuts id % 2 = 1 then match compD P n ops.toList with
        | some L => if cuts id / 2 ≤ L.length ∧ lexD ops L (cuts id / 2) (L.length - (cuts id / 2)) (cuts id / 2) 0 (Array.replicate ops.size false) = true then some (.draw (L.take (cuts id / 2)) (L.drop (cuts id / 2))) else none
        | none => none
      else if cuts id / 2 = 0 then (if Region.lexB .any ops = true then (compOps P n ops ops.toList).map fun h => .quiet h [] else none)
      else if Region.lexTailB .any ops (cuts id / 2) = true then match compOps P n ops (ops.toList.take (cuts id / 2)), compOps P n ops (ops.toList.drop (cuts id / 2)) with
        | some h, some t => some (.quiet h t)
        | _, _ => none
      else none)
  | .seq a b => match comp P n cuts a, comp P n cuts b with
    | some x, some y => some (.seq x y)
    | _, _ => none
  | .cond c a b => match comp P n cuts a, comp P n cuts b with
    | some x, some y => some (.cond (cA c) x y)
    | _, _ => none
  | .block id c => (comp P n cuts c).map (.block id)
  | .exit id => some (.exit id)
  | .loop c => (comp P n cuts c).map .loop
  | .ret => some .ret
  | .scope c => (comp P n cuts c).map .scope
  | _ => some .dead
section
variable {P : Program} {W0 : World} {ι0 : Loc} {σ0 : List Blk} {n : Nat} {cuts : Nat → Nat}
theorem comp_sound (hm : P.follows .mixedOrders = true) (hl0 : ι0.length = σ0.length) : ∀ (c : Code) (r : RC) (Q : CPost) (fr : Fr) (σ : List Blk) (ι : Loc) (a : Act) (w : World) (ds : List Deferred), comp P n cuts c = some r → rW P W0 σ0.length r fr σ Q →
    HRel W0 ι σ w → FRel ι σ n fr a → Ext ι0 σ0 ι σ → a.defers = ds → c.wp P (Lift W0 ι0 σ0 n ds Q) a w
  | .skip, r, Q, fr, σ, ι, a, w, ds, hc, h, hh, hf, hx, hd => by
    cases hc
    exact wp_skip ⟨ι, σ, fr, h, hh, hf, hx, hd⟩
  | .label _, r, Q, fr, σ, ι, a, w, ds, hc, h, hh, hf, hx, hd => by
    cases hc
    exact wp_label ⟨ι, σ, fr, h, hh, hf, hx, hd⟩
  | .exit id, r, Q, fr, σ, ι, a, w, ds, hc, h, hh, hf, hx, hd => by
    cases hc
    exact wp_exit ⟨ι, σ, fr, h, hh, hf, hx, hd⟩
  | .goto l, r, Q, fr, σ, ι, a, w, ds, hc, h, hh, hf, hx, hd => by cases hc; exact False.elim h
  | .ret, r, Q, fr, σ, ι, a, w, ds, hc, h, hh, hf, hx, hd => by
    cases hc
    exact wp_ret ⟨ι, σ, fr, h, hh, hf, hx, hd⟩
  | .refuse _, r, Q, fr, σ, ι, a, w, ds, hc, h, hh, hf, hx, hd => by cases hc; exact False.elim h
  | .rangeFunc _ _ _ _, r, Q, fr, σ, ι, a, w, ds, hc, h, hh, hf, hx, hd => by cases hc; exact False.elim h
  | .region id ops draw, r, Q, fr, σ, ι, a, w, ds, hc, h, hh, hf, hx, hd => by
    unfold comp at hc
    rcases orDead_inv hc with rfl | hc
    · exact False.elim h
    cases draw with
    | false =>
      dsimp only at hc
      obtain ⟨is, his, rfl⟩ := Option.map_eq_some_iff.1 hc
      exact wp_region_list (opsW_sound (fun _ _ hp => hp) _ none fr σ ι a w (compOps_sound _ _ _ fr σ (Nat.le_refl _) his h) hh hf hx hd (fun q hq => by cases hq))
    | true =>
      dsimp only at hc
      split at hc
      · split at hc
        · rename_i L hL
          revert hc
          generalize ((cuts id - 1000000) % 2 == 1) = nh
          generalize (fun i => ((cuts id - 1000000) / 2).testBit i) = T
          intro hc
          obtain ⟨p, hp, rfl⟩ := Option.map_eq_some_iff.1 hc
          exact wp_region_plan hm hL hp (fun _ _ hp => hp) h hh hf hx hd
        · cases hc
      split at hc
      · split at hc
        · rename_i L hL
          split at hc
          · rename_i hcond
            cases hc
            exact wp_region_lexD hm hL hcond.1 hcond.2 (fun _ _ hp => hp) h hh hf hx hd
          · cases hc
        · cases hc
      split at hc
      · split at hc
        · rename_i hB
          obtain ⟨is, his, rfl⟩ := Option.map_eq_some_iff.1 hc
          refine wp_region_quiet (C := HRel W0 ι σ) hm hB hh.drew ?_
          exact qW_sound (fun fr' a' hk hf' hd' w' hw' => ⟨ι, σ, fr', hk, hw', hf', hx, hd'⟩) hh _ _ _ (compOps_q _ _ _ his h) hf hd
        · cases hc
      · split at hc
        · rename_i hB
          split at hc
          · rename_i hd' tl h1 h2
            cases hc
            have hops : ops = ops.toList.toArray := by simp
            rw [hops]
            refine wp_region_head_tail (C := HRel W0 ι σ) (cuts id / 2) hm (by rw [← hops]; exact hB) hh.drew ?_
            rw [← hops]
            exact qW_sound (fun fr' a' hk hf' hd' w' hw' => opsW_sound (fun _ _ hp => hp) _ none fr' σ ι a' w' (compOps_sound _ _ _ fr' σ (Nat.le_refl _) h2 hk) hw' hf' hx hd' (fun q hq => by cases hq)) hh _ _ _ (compOps_q _ _ _ h1 h) hf hd
          · cases hc
        · cases hc
  | .seq x y, r, Q, fr, σ, ι, a, w, ds, hc, h, hh, hf, hx, hd => by
    unfold comp at hc
    split at hc
    · rename_i rx ry h1 h2
      cases hc
      refine wp_seq (wp_mono (comp_sound hm hl0 x rx _ fr σ ι a w ds h1 h hh hf hx hd) fun e a' w' hq => ?_)
      cases e with
      | normal =>
        obtain ⟨ι', σ', fr', hk, hh', hf', hx', hd'⟩ := hq
        exact comp_sound hm hl0 y ry Q fr' σ' ι' a' w' ds h2 hk hh' hf' hx' hd'
      | _ => exact hq
    · cases hc
  | .cond c x y, r, Q, fr, σ, ι, a, w, ds, hc, h, hh, hf, hx, hd => by
    unfold comp at hc
    split at hc
    · rename_i rx ry h1 h2
      cases hc
      rw [rW_cond] at h
      split at h
      · rename_i t ht
        rw [cA_ev] at ht
        have h1' := hf.eval c
        rw [ht] at h1'
        have e1 : a.eval c = .bool t := h1'
        exact wp_cond_split e1 (fun e => comp_sound hm hl0 x rx Q fr σ ι a w ds h1 (h.1 e) hh hf hx hd) (fun e => comp_sound hm hl0 y ry Q fr σ ι a w ds h2 (h.2 e) hh hf hx hd)
      · exact h.elim
    · cases hc
  | .block id c, r, Q, fr, σ, ι, a, w, ds, hc, h, hh, hf, hx, hd => by
    unfold comp at hc
    obtain ⟨rc, hrc, rfl⟩ := Option.map_eq_some_iff.1 hc
    refine wp_block (wp_mono (comp_sound hm hl0 c rc _ fr σ ι a w ds hrc h hh hf hx hd) fun e a' w' hq => ?_)
    cases e with
    | exit i =>
      obtain ⟨ι', σ', fr', hk, hrest⟩ := hq
      simp only [Exit.inBlock]
      by_cases hi : i = id
      · simp only [hi, if_true] at hk ⊢; exact ⟨ι', σ', fr', hk, hrest⟩
      · simp only [hi, if_false] at hk ⊢; exact ⟨ι', σ', fr', hk, hrest⟩
    | _ => exact hq
  | .scope c, r, Q, fr, σ, ι, a, w, ds, hc, h, hh, hf, hx, hd => by
    unfold comp at hc
    obtain ⟨rc, hrc, rfl⟩ := Option.map_eq_some_iff.1 hc
    refine wp_scope_straight (wp_mono (comp_sound hm hl0 c rc _ fr σ ι a w ds hrc h hh hf hx hd) fun e a' w' hq => ?_)
    cases e with
    | goto l => obtain ⟨ι', σ', fr', hk, hrest⟩ := hq; exact hk.elim
    | _ => exact hq
  | .loop c, r, Q, fr, σ, ι, a, w, ds, hc, h, hh, hf, hx, hd => by
    unfold comp at hc
    obtain ⟨rc, hrc, rfl⟩ := Option.map_eq_some_iff.1 hc
    rw [rW_loop] at h
    rcases h with ⟨k, h⟩ | ⟨⟨I, m, fr0, σ1, hfo, hI, round⟩⟩
    · refine wp_loop_rounds k ?_
      have key : ∀ k fr σ ι a w, roundsR (fun fr σ Q => rW P W0 σ0.length rc fr σ Q) k fr σ Q → HRel W0 ι σ w → FRel ι σ n fr a → Ext ι0 σ0 ι σ → a.defers = ds → Code.rounds P c (Lift W0 ι0 σ0 n ds Q) k a w := by
        intro k
        induction k with
        | zero => intro fr σ ι a w h _ _ _ _; exact h.elim
        | succ k ih =>
          intro fr σ ι a w h hh hf hx hd
          refine wp_mono (comp_sound hm hl0 c rc _ fr σ ι a w ds hrc h hh hf hx hd) fun e a' w' hq => ?_
          cases e with
          | normal =>
            obtain ⟨ι', σ', fr', hk, hh', hf', hx', hd'⟩ := hq
            exact ih fr' σ' ι' a' w' hk hh' hf' hx' hd'
          | _ => exact hq
      exact key k fr σ ι a w h hh hf hx hd
    · obtain ⟨ι1, hh1, hf1, hx1⟩ := hf.forget hfo hh hx hl0
      refine wp_loop_least (fun m a w => ∃ ι σ fr, I m fr σ ∧ HRel W0 ι σ w ∧ FRel ι σ n fr a ∧ Ext ι0 σ0 ι σ ∧ a.defers = ds) ⟨m, ι1, σ1, fr0, hI, hh1, hf1, hx1, hd⟩ fun m a w ⟨ι, σ, fr, hI, hh, hf, hx, hd⟩ => ?_
      refine wp_mono (comp_sound hm hl0 c rc _ fr σ ι a w ds hrc (round m fr σ hI) hh hf hx hd) fun e a' w' hq => ?_
      cases e with
      | normal =>
        obtain ⟨ι', σ', fr', ⟨m', fr'', σ'', hlt, hfo', hI'⟩, hh', hf', hx', hd'⟩ := hq
        obtain ⟨ι2, hh2, hf2, hx2⟩ := hf'.forget hfo' hh' hx' hl0
        exact ⟨m', hlt, ι2, σ'', fr'', hI', hh2, hf2, hx2, hd'⟩
      | _ => exact hq
end
/-! ### results -/
inductive RR where
  | tmp (t : Nat)
  | cell (a s : Nat) (g : Bool)
def compRes (P : Program) : List ResultVar → Option (List RR)
  | [] => some []
  | .tmp t :: rs => (compRes P rs).map (.tmp t :: ·)
  | .cell a t :: rs => match compOp P (.load t (.tmp a)), compRes P rs with
    | some (.load s g (.t a')), some l => if a' = a then some (.cell a s g :: l) else none
    | _, _ => none
def resR (W0 : World) (fr : Fr) (σ : List Blk) (l : List RR) : (List AV → Prop) → Prop :=
  List.rec (motive := fun _ => (List AV → Prop) → Prop) (fun K => K []) (fun r _ ih K => match r with
    | .tmp t => ih fun vs => fv (fr t) fun v => K (v :: vs)
    | .cell a s g => loadR W0 s g (fr a) σ fun v _ => ih fun vs => fv v fun v => K (v :: vs)) l
section
variable {W0 : World} {fr : Fr} {σ : List Blk} {rs : List RR} {K : List AV → Prop}
theorem resR_tmp {t : Nat} : resR W0 fr σ (.tmp t :: rs) K = resR W0 fr σ rs fun vs => fv (fr t) fun v => K (v :: vs) := rfl
theorem resR_cell {a s : Nat} {g : Bool} : resR W0 fr σ (.cell a s g :: rs) K = loadR W0 s g (fr a) σ fun v _ => resR W0 fr σ rs fun vs => fv v fun v => K (v :: vs) := rfl
end
theorem resR_sound {P : Program} {W0 : World} {fr : Fr} {σ : List Blk} : ∀ (rs : List ResultVar) (l : List RR) (K : List AV → Prop), compRes P rs = some l → resR W0 fr σ l K → resW P W0 fr σ rs K
  | [], l, K, hc, h => by
    simp only [compRes, Option.some.injEq] at hc; subst hc
    exact h
  | .tmp t :: rs, l, K, hc, h => by
    simp only [compRes] at hc
    obtain ⟨l', hl, rfl⟩ := Option.map_eq_some_iff.1 hc
    simp only [resR_tmp, fv_eq] at h
    exact resR_sound rs l' (fun vs => K (fr t :: vs)) hl h
  | .cell a t :: rs, l, K, hc, h => by
    simp only [compRes] at hc
    split at hc
    · rename_i s g a' l' h1 h2
      split at hc
      · rename_i ha
        subst ha
        cases hc
        simp only [resR_cell, fv_eq] at h
        obtain ⟨av, hk, h3⟩ := loadR_ld h
        have h4 : ropW P W0 (.load s g (.t a')) fr σ (fun v _ => resW P W0 fr σ rs fun vs => K (v :: vs)) := h3 (fun v _ => resW P W0 fr σ rs fun vs => K (v :: vs)) (resR_sound rs l' (fun vs => K (av :: vs)) h2 hk)
        exact compOp_sound h1 h4
      · cases hc
    · cases hc
/-- Behind a function: blocks that nothing leads to any more may be dropped. -/
inductive FinR (b0 : Nat) (K : Cont) (v : AV) (σ : List Blk) : Prop
  | keep (h : K v σ)
  | drop (k : Nat) (hk : b0 ≤ k) (hc : Closed k (σ.take k)) (hb : bel3 k v = true) (h : K v (σ.take k))
def tupR (vs : List AV) (K : AV → Prop) : Prop :=
  match vs with
  | [v] => K v
  | vs => match vs.all one2 with
    | true => K (.tup vs)
    | false => False
def finP (W0 : World) (rs : List RR) (b0 : Nat) (K : Cont) : CPost := fun e fr σ => match e with
  | .normal => resR W0 fr σ rs fun vs => tupR vs fun v => FinR b0 K v σ
  | .ret => resR W0 fr σ rs fun vs => tupR vs fun v => FinR b0 K v σ
  | _ => False
section
variable {P : Program} {W0 : World} {σ : List Blk}
theorem tupR_sound {vs : List AV} {K : AV → Prop} (h : tupR vs K) : ∃ v, tupA vs = some v ∧ K v := by
  unfold tupR at h
  unfold tupA
  split at h
  · exact ⟨_, rfl, h⟩
  · rename_i hne
    split at h
    · rename_i hall
      split
      · exact (hne _ rfl).elim
      · rw [if_pos hall]; exact ⟨_, rfl, h⟩
    · exact h.elim
theorem rel_initFr {ι : Loc} {fn : Func} {args : List AV} {vs : List Value} (hr : Rels (rel3 ι σ) args vs) (hn : args.length ≤ fn.ntmps) :
    FRel ι σ fn.ntmps (initFr args) ({ tmps := vs.toArray ++ Array.replicate (fn.ntmps - vs.toArray.size) undef, defers := [] } : Act) := by
  have hvl : vs.length = args.length := hr.1.symm
  refine ⟨by simp; omega, fun t => ?_⟩
  unfold initFr
  rcases Nat.lt_or_ge t args.length with ht | ht
  · have ha := List.getElem?_eq_getElem ht
    obtain ⟨b, hb', hab⟩ := hr.get ha
    have htl : t < vs.length := by omega
    have h1 : args.getD t .junk = args[t] := by simp [ht]
    have h2 : (vs.toArray ++ Array.replicate (fn.ntmps - vs.toArray.size) undef).getD t undef = b := by
      rw [Array.getD_eq_getD_getElem?, Array.getElem?_append_left (by simpa using htl)]
      simp [hb']
    show rel3 ι σ (args.getD t .junk) ((vs.toArray ++ Array.replicate (fn.ntmps - vs.toArray.size) undef).getD t undef)
    rw [h1, h2]; exact hab
  · have h1 : args.getD t .junk = .junk := by simp [ht]
    rw [h1]; exact trivial
/-- **A function by its resolved code.** -/
theorem ACall.introR {g : FuncId} {fn : Func} {r : RC} {rs : List RR} {args : List AV} {K : Cont} {cuts : Nat → Nat} (hm : P.follows .mixedOrders = true) (hf : P.funcs[g]? = some fn) (hname : (fn.name == "runtime.NumGoroutine") = false)
    (hc : (fn.body.bind fun c => comp P fn.ntmps cuts c) = some r) (hrs : compRes P fn.results.toList = some rs) (hn : args.length ≤ fn.ntmps)
    (h : rW P W0 σ.length r (initFr args) σ (finP W0 rs σ.length K)) : ACall P W0 g args σ K := by
  obtain ⟨c, hb, hc⟩ := Option.bind_eq_some_iff.1 hc
  refine ⟨by simp [callOK, hf, hname, hb], fun ι w vs hh hr => ?_⟩
  refine calls_of_wp hf hb (wp_mono (comp_sound (ι0 := ι) (σ0 := σ) hm hh.len c r _ (initFr args) σ ι _ w [] hc h hh (rel_initFr hr hn) (Ext.refl _ _) rfl) fun e a' w' hq => ?_)
  obtain ⟨ι', σ', fr', hfin, hh', hf', hx', hd'⟩ := hq
  have key : resR W0 fr' σ' rs (fun vs => tupR vs fun v => FinR σ.length K v σ') → bodyPost P fn (fun e w' => ∃ v ι' σ' av, e = .returned v ∧ K av σ' ∧ HRel W0 ι' σ' w' ∧ Ext ι σ ι' σ' ∧ rel3 ι' σ' av v) .normal a' w' := by
    intro hres
    have hres' := resR_sound _ _ _ hrs hres
    obtain ⟨vs', xs, hv, hrr, hrun⟩ := run_resList hf' hh' _ _ hres'
    obtain ⟨v, hv1, hv2⟩ := tupR_sound hv
    have hmm : (fn.results.mapM (resOne a'.tmps)).run P w' = .ok xs.toArray w' := by
      rw [Array.mapM_eq_mapM_toList]
      simp only [Sem.run_map, hrun, Result.andThen_ok]
    have h0 : (results fn a'.tmps).run P w' = .ok (if h : xs.toArray.size = 1 then xs.toArray[0] else .tuple xs.toArray) w' := by
      rw [results_eq]
      simp only [Sem.run_bind, Sem.run_pure, hmm, Result.andThen_ok]
    have hx : ∃ x, (results fn a'.tmps).run P w' = .ok x w' ∧ rel3 ι' σ' v x := by
      unfold tupA at hv1
      split at hv1
      · rename_i u
        cases hv1
        obtain ⟨b, m, rfl, h1, h2⟩ := hrr.uncons
        obtain rfl := h2.nil_inv
        exact ⟨b, by rw [h0]; rfl, h1⟩
      · rename_i hne
        split at hv1
        · rename_i hall
          cases hv1
          have hl : xs.toArray.size ≠ 1 := by
            have := hrr.1
            intro h1
            simp at h1
            rw [h1] at this
            match vs', this with
            | [u], _ => exact hne u rfl
          rw [dif_neg hl] at h0
          exact ⟨_, h0, xs, rfl, hrr.mono' fun a ha b hab => rel2_of_rel3 (List.all_eq_true.1 hall a ha) hab⟩
        · cases hv1
    obtain ⟨x, hrun', hrel⟩ := hx
    refine ⟨hd', x, hrun', ?_⟩
    cases hv2 with
    | keep hk => exact ⟨x, ι', σ', v, rfl, hk, hh', hx', hrel⟩
    | drop k hbk hcl hbel hk => exact ⟨x, ι'.take k, σ'.take k, v, rfl, hk, hh'.take hcl, hx'.take hh.len hbk, hrel.take hbel⟩
  cases e with
  | normal => exact key hfin
  | ret => exact key hfin
  | _ => exact hfin.elim
end
/-! ### a call among other blocks -/
def sh0 (k : Nat) : AV → AV
  | .ptr b ver off => .ptr (k + b) ver off
  | v => v
def sh1 (k : Nat) : AV → AV
  | .ptr b ver off => .ptr (k + b) ver off
  | .sl b ver off n c => .sl (k + b) ver off n c
  | .fn f first caps => .fn f (first.map (sh0 k)) (caps.map (sh0 k))
  | v => v
def sh2 (k : Nat) : AV → AV
  | .agg cs => .agg (cs.map (sh1 k))
  | v => sh1 k v
def sh3 (k : Nat) : AV → AV
  | .tup vs => .tup (vs.map (sh2 k))
  | v => sh2 k v
def shB (k : Nat) (σ : List Blk) : List Blk := σ.map fun B => { B with cells := B.cells.map (sh1 k) }
section
variable {P : Program} {W0 : World} {ι ι' : Loc} {σ σ' : List Blk} {w : World}
theorem get_sh {b : Nat} {B : Blk} (h : σ'[b]? = some B) : (σ ++ shB σ.length σ')[σ.length + b]? = some { B with cells := B.cells.map (sh1 σ.length) } := by
  rw [List.getElem?_append_right (by omega)]
  simp [shB, h]
theorem get_shI {b : Nat} {q : Nat × Nat} (hl : ι.length = σ.length) (h : ι'[b]? = some q) : (ι ++ ι')[σ.length + b]? = some q := by
  rw [List.getElem?_append_right (by omega), hl]
  simpa using h
theorem ptrRel.sh {b ver off : Nat} {x : Value} (hl : ι.length = σ.length) (h : ptrRel ι' σ' b ver off x) : ptrRel (ι ++ ι') (σ ++ shB σ.length σ') (σ.length + b) ver off x := by
  obtain ⟨B, hB, hv, h1, hc⟩ := h
  refine ⟨_, get_sh hB, hv, h1, fun e => ?_⟩
  obtain ⟨c, t, hi, he⟩ := hc e
  exact ⟨c, t, get_shI hl hi, he⟩
theorem slRel.sh {b ver off len cap : Nat} {x : Value} (hl : ι.length = σ.length) (h : slRel ι' σ' b ver off len cap x) : slRel (ι ++ ι') (σ ++ shB σ.length σ') (σ.length + b) ver off len cap x := by
  obtain ⟨B, hB, hv, h1, hc⟩ := h
  refine ⟨_, get_sh hB, hv, h1, fun e => ?_⟩
  obtain ⟨c, t, hi, he⟩ := hc e
  exact ⟨c, t, get_shI hl hi, he⟩
theorem Rels.mapL {α β γ : Type} {R : α → β → Prop} {R' : γ → β → Prop} {f : α → γ} {l : List α} {m : List β} (h : Rels R l m) (hr : ∀ a b, R a b → R' (f a) b) : Rels R' (l.map f) m :=
  ⟨by simp [h.1], fun i a b ha hb => by
    rw [List.getElem?_map] at ha
    obtain ⟨a', ha', rfl⟩ := Option.map_eq_some_iff.1 ha
    exact hr _ _ (h.2 i a' b ha' hb)⟩
theorem rel0.sh (hl : ι.length = σ.length) {v : AV} {x : Value} (h : rel0 ι' σ' v x) : rel0 (ι ++ ι') (σ ++ shB σ.length σ') (sh0 σ.length v) x := by
  cases v <;> first | exact h | exact ptrRel.sh hl h
theorem rel1.sh (hl : ι.length = σ.length) {v : AV} {x : Value} (h : rel1 ι' σ' v x) : rel1 (ι ++ ι') (σ ++ shB σ.length σ') (sh1 σ.length v) x := by
  cases v with
  | ptr b ver off => exact ptrRel.sh hl h
  | sl b ver off len cap => exact slRel.sh hl h
  | fn f first caps =>
    obtain ⟨l1, l2, e, h1, h2⟩ := h
    exact ⟨l1, l2, e, h1.mapL fun _ _ => rel0.sh hl, h2.mapL fun _ _ => rel0.sh hl⟩
  | _ => exact h
theorem crel.sh (hl : ι.length = σ.length) {v : AV} {x : Value} (h : crel ι' σ' v x) : crel (ι ++ ι') (σ ++ shB σ.length σ') (sh1 σ.length v) x := ⟨rel1.sh hl h.1, h.2⟩
theorem rel2.sh (hl : ι.length = σ.length) {v : AV} {x : Value} (h : rel2 ι' σ' v x) : rel2 (ι ++ ι') (σ ++ shB σ.length σ') (sh2 σ.length v) x := by
  cases v with
  | agg cs => obtain ⟨l, e, h1⟩ := h; exact ⟨l, e, h1.mapL fun _ _ => crel.sh hl⟩
  | ptr b ver off => exact ptrRel.sh hl h
  | sl b ver off len cap => exact slRel.sh hl h
  | fn f first caps => exact rel1.sh (v := .fn f first caps) hl h
  | _ => exact h
theorem rel3.sh (hl : ι.length = σ.length) {v : AV} {x : Value} (h : rel3 ι' σ' v x) : rel3 (ι ++ ι') (σ ++ shB σ.length σ') (sh3 σ.length v) x := by
  cases v with
  | tup vs => obtain ⟨l, e, h1⟩ := h; exact ⟨l, e, h1.mapL fun _ _ => rel2.sh hl⟩
  | agg cs => exact rel2.sh (v := .agg cs) hl h
  | ptr b ver off => exact ptrRel.sh hl h
  | sl b ver off len cap => exact slRel.sh hl h
  | fn f first caps => exact rel1.sh (v := .fn f first caps) hl h
  | _ => exact h
/-- an argument that leads to no own block -/
def pure1 : AV → Bool
  | .lit _ | .junk => true
  | .fn _ first caps => first.all (fun v => match v with | .lit _ => true | _ => false) && caps.all (fun v => match v with | .lit _ => true | _ => false)
  | _ => false
def pure3 : AV → Bool
  | .agg cs => cs.all (fun v => match v with | .lit _ => true | _ => false)
  | v => pure1 v
theorem rel3_pure {v : AV} {x : Value} (hp : pure3 v = true) (h : rel3 ι σ v x) : rel3 [] [] v x := by
  have l0 : ∀ {l : List AV} {m : List Value}, (l.all (fun v => match v with | .lit _ => true | _ => false)) = true → Rels (rel0 ι σ) l m → Rels (rel0 [] []) l m := fun ha hr => hr.mono' fun a hm b hab => by
    have := List.all_eq_true.1 ha a hm
    cases a <;> first | exact hab | (simp at this)
  cases v with
  | lit v => exact h
  | junk => exact trivial
  | fn f first caps =>
    simp only [pure3, pure1, Bool.and_eq_true] at hp
    obtain ⟨l1, l2, e, h1, h2⟩ := h
    exact ⟨l1, l2, e, l0 hp.1 h1, l0 hp.2 h2⟩
  | agg cs =>
    simp only [pure3] at hp
    obtain ⟨l, e, h1⟩ := h
    exact ⟨l, e, h1.mono' fun a hm b hab => by
      have := List.all_eq_true.1 hp a hm
      cases a <;> first | exact hab | (simp at this)⟩
  | ptr b ver off => simp [pure3, pure1] at hp
  | sl b ver off len cap => simp [pure3, pure1] at hp
  | tup vs => simp [pure3, pure1] at hp
theorem HRel.nil (w : World) : HRel w [] [] w :=
  ⟨Below.refl _ _, rfl, fun i j c t t' h => by simp at h, fun i c t h => by simp at h, fun i B c t h => by simp at h⟩
/-- new blocks beside those that were there -/
theorem HRel.beside {w' : World} (h : HRel W0 ι σ w) (h' : HRel w ι' σ' w') : HRel W0 (ι ++ ι') (σ ++ shB σ.length σ') w' ∧ Ext ι σ (ι ++ ι') (σ ++ shB σ.length σ') := by
  have hsz : w.heap.size ≤ w'.heap.size := h'.below.size
  have hW : W0.heap.size ≤ w.heap.size := h.below.size
  have hx : Ext ι σ (ι ++ ι') (σ ++ shB σ.length σ') := by
    refine ⟨by simp, fun i B B' hB hB' => ?_, fun i B B' hB hB' _ => ?_⟩
    · rw [List.getElem?_append_left (getElem?_lt hB), hB] at hB'
      cases hB'
      exact ⟨Nat.le_refl _, rfl, rfl⟩
    · exact List.getElem?_append_left (by rw [h.len]; exact getElem?_lt hB)
  refine ⟨⟨(h.below.trans (h'.below.mono hW)), by simp [h.len, h'.len, shB], ?_, ?_, ?_⟩, hx⟩
  · intro i j c t t' hi hj
    rw [List.getElem?_append] at hi hj
    split at hi <;> split at hj
    · exact h.inj i j c t t' hi hj
    · have := (h.dom i c t hi).2; have := (h'.dom _ c t' hj).1; omega
    · have := (h.dom j c t' hj).2; have := (h'.dom _ c t hi).1; omega
    · have := h'.inj _ _ c t t' hi hj; omega
  · intro i c t hi
    rw [List.getElem?_append] at hi
    split at hi
    · have := h.dom i c t hi; omega
    · have := h'.dom _ c t hi; omega
  · intro i B c t hB hi
    rw [List.getElem?_append] at hB hi
    rw [h.len] at hi
    split at hB
    · rename_i hlt
      rw [if_pos hlt] at hi
      obtain ⟨vs, rest, h1, h2, h3, h4⟩ := h.blk i B c t hB hi
      refine ⟨vs, rest, ?_, h2, h3.mono fun _ _ => crel.mono hx, h4⟩
      rw [h'.below.block c (h.dom i c t hi).2]; exact h1
    · rename_i hge
      rw [if_neg hge] at hi
      unfold shB at hB
      rw [List.getElem?_map] at hB
      obtain ⟨B', hB', rfl⟩ := Option.map_eq_some_iff.1 hB
      obtain ⟨vs, rest, h1, h2, h3, h4⟩ := h'.blk _ B' c t hB' hi
      exact ⟨vs, rest, h1, h2, h3.mapL fun _ _ => crel.sh h.len, h4⟩
/-- **A contract that knows no blocks holds beside any.** -/
theorem ACall.frame {g : FuncId} {args : List AV} {K0 K : Cont} (hp : args.all pure3 = true) (h : ∀ W1, Below W0.heap.size W0 W1 → ACall P W1 g args [] K0) (hk : ∀ v σ', K0 v σ' → K (sh3 σ.length v) (σ ++ shB σ.length σ')) :
    ACall P W0 g args σ K := by
  refine ⟨(h W0 (Below.refl _ _)).ok, fun ι w vs hh hr => ?_⟩
  have hr0 : Rels (rel3 [] []) args vs := hr.mono' fun a ha b hab => rel3_pure (List.all_eq_true.1 hp a ha) hab
  refine ((h w hh.below).run [] w vs (HRel.nil w) hr0).mono fun e w' ⟨v, ι', σ', av, he, hk0, h3, h4, h5⟩ => ?_
  obtain ⟨h6, h7⟩ := hh.beside h3
  exact ⟨v, _, _, _, he, hk _ _ hk0, h6, h7, rel3.sh hh.len h5⟩
/-- a contract whose result leads to no block -/
theorem ACall.lift {g : FuncId} {args : List AV} {r : AV} {K : Cont} (hp : args.all pure3 = true) (hs : ∀ k, sh3 k r = r) (h : ∀ (W1 : World) (K : Cont), Below W0.heap.size W0 W1 → K r [] → ACall P W1 g args [] K) (hk : K r σ) :
    ACall P W0 g args σ K :=
  ACall.frame (K0 := fun v σ' => v = r ∧ σ' = []) hp (fun W1 hb => h W1 _ hb ⟨rfl, rfl⟩) fun v σ' ⟨h1, h2⟩ => by
    subst h1; subst h2
    rw [hs]
    simpa [shB] using hk
theorem Closed.zero (σ : List Blk) : Closed 0 (σ.take 0) := by simp [Closed]
end
end Go.Proofs.Ytcfkhiplmnamcaa.Abs
end

section
/- From a contract to the statement: what came in, and what a law's call leaves. -/
set_option linter.unusedVariables false
set_option linter.unusedSimpArgs false
namespace Go.Proofs.Ytcfkhiplmnamcaa
open Go Go.RowKit Go.Proofs.Ytcfkhiplmnamcaa.Abs
theorem own : ownKnob Try.prog.godebug = none := by kernel_rfl
theorem laidOut : laidOutB Try.prog = true := by kernel_rfl
/-- what a law's call leaves -/
theorem law_calls {P : Program} {w : World} {g : FuncId} {avs : List AV} {vs : List Value} (h : ∀ K : Cont, K (.lit (.bool true)) [] → ACall P w g avs [] K) (hr : Rels (rel3 [] []) avs vs) :
    Calls P g vs.toArray w fun e w' => e = .returned (.bool true) ∧ Below w.heap.size w w' := by
  refine ((h (fun v σ' => v = .lit (.bool true)) rfl).run [] w vs (HRel.nil w) hr).mono fun e w' ⟨v, ι', σ', av, he, hk, hh, _, hrel⟩ => ?_
  subst hk
  have e1 : v = .bool true := hrel
  subst e1
  exact ⟨he, hh.below⟩
end Go.Proofs.Ytcfkhiplmnamcaa
end

section
/- The abstract logic, part R: a loop by the slots that live; contracts over 'Calls' as abstract calls; memory that came in. -/
set_option linter.unusedVariables false
set_option linter.unusedSimpArgs false
namespace Go.Proofs.Ytcfkhiplmnamcaa.Abs
open Go Go.RowKit
theorem mk_size (a : Array UInt8) : (ByteArray.mk a).size = a.size := rfl
/-- the bytes of a string -/
def tl (s : ByteArray) : List UInt8 := s.data.toList
theorem ba_get (s : ByteArray) (i : Nat) : s.data[i]?.getD 0 = (tl s).getD i 0 := by simp [List.getD, tl]
theorem ba_empty (s : ByteArray) : (s.toList == (⟨#[]⟩ : ByteArray).toList) = !decide ((1 : Int) ≤ (s.size : Nat)) := by
  rw [ByteArray.toList_eq, ByteArray.toList_eq]
  have h : s.size = s.data.toList.length := by show s.data.size = _; simp
  rw [h]
  cases s.data.toList <;> simp
  omega
theorem wrap64_eq (n : Int) : IntKind.i64.wrap n = (n + 9223372036854775808) % 18446744073709551616 - 9223372036854775808 := by
  unfold IntKind.wrap
  have e1 : IntKind.i64.bits = 64 := by decide
  have e2 : IntKind.i64.signed = true := by decide
  rw [e1, e2]
  have e3 : (2 : Int) ^ 64 = 18446744073709551616 := by decide
  have e4 : (2 : Int) ^ (64 - 1) = 9223372036854775808 := by decide
  simp only [e3, e4, Bool.true_and]
  split <;> (rename_i h; simp only [decide_eq_true_eq] at h; omega)
/-- a frame by the slots that are known -/
noncomputable def frL (l : List (Nat × AV)) : Fr := fun t => List.rec (motive := fun _ => AV) .junk (fun p _ ih => cond (Nat.beq t p.1) p.2 ih) l
def agr (l : List (Nat × AV)) (fr : Fr) : Prop := List.rec (motive := fun _ => Prop) True (fun p _ ih => fr p.1 = p.2 ∧ ih) l
theorem frL_cons {p : Nat × AV} {l : List (Nat × AV)} {t : Nat} : frL (p :: l) t = cond (Nat.beq t p.1) p.2 (frL l t) := rfl
theorem agr_cons {p : Nat × AV} {l : List (Nat × AV)} {fr : Fr} : agr (p :: l) fr = (fr p.1 = p.2 ∧ agr l fr) := rfl
theorem frL_agr {fr : Fr} : ∀ {l : List (Nat × AV)}, agr l fr → ∀ t, frL l t = .junk ∨ (frL l t = fr t ∧ ∃ p ∈ l, fr t = p.2)
  | [], _, t => .inl rfl
  | p :: l, h, t => by
    rw [agr_cons] at h
    rw [frL_cons]
    cases hb : Nat.beq t p.1 with
    | true =>
      have e : t = p.1 := Nat.eq_of_beq_eq_true hb
      right
      refine ⟨?_, p, List.mem_cons_self, ?_⟩ <;> rw [e, h.1]
      rfl
    | false =>
      rcases frL_agr h.2 t with h' | ⟨h', q, hq, hq'⟩
      · exact .inl h'
      · exact .inr ⟨h', q, List.mem_cons_of_mem _ hq, hq'⟩
/-- what becomes of the blocks at a loop's head: they stay, or those behind k are dropped -/
inductive Fgt (b0 : Nat) (l : List (Nat × AV)) (σ σ' : List Blk) : Prop
  | keep (h : σ' = σ)
  | drop (k : Nat) (hk : b0 ≤ k) (e : σ' = σ.take k) (hc : Closed k σ') (hb : l.all (fun p => bel3 k p.2) = true)
theorem Fgt.forget {b0 : Nat} {l : List (Nat × AV)} {σ σ' : List Blk} {fr : Fr} (h : Fgt b0 l σ σ') (ha : agr l fr) : Forget b0 fr σ (frL l) σ' := by
  cases h with
  | keep e => exact .inl ⟨e, fun t => (frL_agr ha t).imp id (·.1)⟩
  | drop k hk e hc hb =>
    refine .inr ⟨k, hk, e, hc, fun t => (frL_agr ha t).imp id fun ⟨h1, p, hp, h2⟩ => ⟨h1, ?_⟩⟩
    rw [h2]
    exact List.all_eq_true.1 hb p hp
/-- at the end of a round: the next round's head -/
structure Again {X : Type} (b0 : Nat) (sh : X → List (Nat × AV)) (st : X → List Blk) (inv : X → Prop) (m : X → Nat) (n : Nat) (fr : Fr) (σ : List Blk) : Prop where
  ex : ∃ m' fr'' σ'', m' < n ∧ Forget b0 fr σ fr'' σ'' ∧ ∃ y, fr'' = frL (sh y) ∧ σ'' = st y ∧ inv y ∧ m' = m y
theorem Again.go {X : Type} {b0 : Nat} {sh : X → List (Nat × AV)} {st : X → List Blk} {inv : X → Prop} {m : X → Nat} {n : Nat} {fr : Fr} {σ : List Blk} (x : X) (ha : agr (sh x) fr) (hg : Fgt b0 (sh x) σ (st x)) (hi : inv x) (hm : m x < n) :
    Again b0 sh st inv m n fr σ := ⟨m x, _, _, hm, hg.forget ha, x, rfl, rfl, hi, rfl⟩
/-- **A loop by the slots that live.** -/
theorem LoopR.live {X : Type} {b0 : Nat} {body : Fr → List Blk → CPost → Prop} {fr : Fr} {σ : List Blk} {Q : CPost} (sh : X → List (Nat × AV)) (st : X → List Blk) (inv : X → Prop) (m : X → Nat) (x0 : X)
    (hf : agr (sh x0) fr) (hσ : Fgt b0 (sh x0) σ (st x0)) (h0 : inv x0)
    (hb : ∀ x, inv x → body (frL (sh x)) (st x) fun e fr' σ' => match e with
      | .normal => Again b0 sh st inv m (m x) fr' σ'
      | e => Q e fr' σ') : LoopR b0 body fr σ Q := by
  refine LoopR.inv ⟨fun n fr' σ' => ∃ x, fr' = frL (sh x) ∧ σ' = st x ∧ inv x ∧ n = m x, m x0, frL (sh x0), st x0, hσ.forget hf, ⟨x0, rfl, rfl, h0, rfl⟩, ?_⟩
  rintro n fr' σ' ⟨x, rfl, rfl, hx, rfl⟩
  have h := hb x hx
  have e : (fun (e : Exit) (fr' : Fr) (σ' : List Blk) => (match e with | .normal => ∃ m' fr'' σ'', m' < m x ∧ Forget b0 fr' σ' fr'' σ'' ∧ (∃ y, fr'' = frL (sh y) ∧ σ'' = st y ∧ inv y ∧ m' = m y) | e => Q e fr' σ' : Prop))
      = (fun (e : Exit) (fr' : Fr) (σ' : List Blk) => (match e with | .normal => Again b0 sh st inv m (m x) fr' σ' | e => Q e fr' σ' : Prop)) := by
    funext e fr' σ'
    cases e with
    | normal => exact propext ⟨fun h => ⟨h⟩, fun h => h.ex⟩
    | _ => rfl
  exact Eq.mp (congrArg (fun k => body (frL (sh x)) (st x) k) e.symm) h
section
variable {P : Program} {W0 : World} {σ : List Blk} {K : Cont}
theorem HRel.after {ι : Loc} {w w' : World} (h : HRel W0 ι σ w) (hb : Below w.heap.size w w') : HRel W0 ι σ w' := by
  have h0 : HRel w [] [] w' := ⟨hb, rfl, fun i j c t t' h => by simp at h, fun i c t h => by simp at h, fun i B c t h => by simp at h⟩
  have h1 := (h.beside h0).1
  simpa [shB] using h1
theorem rels_lits_inv {ι : Loc} : ∀ {vs us : List Value}, Rels (rel3 ι σ) (vs.map AV.lit) us → us = vs
  | [], us, h => h.nil_inv
  | v :: vs, us, h => by
    obtain ⟨b, m, rfl, h1, h2⟩ := Rels.uncons h
    have e1 : b = v := h1
    rw [e1, rels_lits_inv h2]
/-- a contract over 'Calls' that leaves the memory below as it was: the result leads to no block -/
theorem ACall.ofCalls {g : FuncId} {vs : List Value} {r : AV} (hok : callOK P g = true) (hs : ∀ (ι : Loc) (σ : List Blk) (x : Value), rel3 [] [] r x → rel3 ι σ r x)
    (h : ∀ w, Below W0.heap.size W0 w → Calls P g vs.toArray w fun e w' => ∃ x, e = .returned x ∧ rel3 [] [] r x ∧ Below w.heap.size w w') (hk : K r σ) : ACall P W0 g (vs.map AV.lit) σ K := by
  refine ⟨hok, fun ι w us hh hr => ?_⟩
  rw [rels_lits_inv hr]
  refine (h w hh.below).mono fun e w' ⟨x, he, hx, hb⟩ => ?_
  exact ⟨x, ι, σ, r, he, hk, hh.after hb, Ext.refl _ _, hs _ _ _ hx⟩
theorem ACall.ofCalls1 {g : FuncId} {vs : List Value} {r : Value} (hok : callOK P g = true)
    (h : ∀ w, Below W0.heap.size W0 w → Calls P g vs.toArray w fun e w' => e = .returned r ∧ Below w.heap.size w w') (hk : K (.lit r) σ) : ACall P W0 g (vs.map AV.lit) σ K :=
  ACall.ofCalls (r := .lit r) hok (fun _ _ _ h => h) (fun w hw => (h w hw).mono fun e w' ⟨he, hb⟩ => ⟨r, he, rfl, hb⟩) hk
end
/-! ### memory that came in, and own memory, as lists -/
theorem add_add (a : Addr) (i j : Nat) : (a.add i).add j = a.add (i + j) := by
  unfold Addr.add
  by_cases h : i = 0
  · subst h; simp
  · by_cases h' : j = 0
    · subst h'; simp
    · simp [h, h']; omega
theorem add_block (a : Addr) (i : Nat) : (a.add i).block = a.block := by unfold Addr.add; split <;> rfl
/-- a slice whose elements are told by a list: it came in (or is nil), or it is the call's own -/
inductive Sli {α : Type} (W0 : World) (σ : List Blk) (s : Nat) (enc : α → List Value) : AV → List α → Prop
  | nil : Sli W0 σ s enc (.lit (.slice none 0 0)) []
  | inn (ad : Addr) (n cap : Nat) (xs : List α) (hn : n = xs.length) (hc : n ≤ cap) (hm : cap ≤ maxLen) (hb : ad.block < W0.heap.size)
      (hx : ∀ i x, xs[i]? = some x → ∀ j v, (enc x)[j]? = some v → W0.cell? ((ad.add (i * s)).add j) = some v ∧ v.oneCell' = true) : Sli W0 σ s enc (.lit (.slice (some ad) n cap)) xs
  | own (b ver off n cap : Nat) (B : Blk) (xs : List α) (hB : σ[b]? = some B) (hv : B.ver = ver) (hn : n = xs.length)
      (hx : ∀ i x, xs[i]? = some x → ∀ j v, (enc x)[j]? = some v → B.cells[off + i * s + j]? = some (.lit v)) : Sli W0 σ s enc (.sl b ver off n cap) xs
section
variable {P : Program} {W0 : World} {σ : List Blk} {K : Cont} {α : Type} {s : Nat} {enc : α → List Value}
theorem Sli.conc {a : AV} {xs : List α} {ι : Loc} {W1 : World} (h : Sli W0 σ s enc a xs) (hh : HRel W0 ι σ W1) (hr : ∃ x, rel3 ι σ a x) : ∃ a', (∀ x, rel3 ι σ a x → rel3 [] [] a' x) ∧ Sli W1 [] s enc a' xs := by
  cases h with
  | nil => exact ⟨.lit (.slice none 0 0), fun x hx => hx, .nil⟩
  | inn ad n cap xs hn hc hm hb hx =>
    refine ⟨.lit (.slice (some ad) n cap), fun x hx => hx, .inn ad n cap xs hn hc hm (Nat.lt_of_lt_of_le hb hh.below.size) fun i x hi j v hj => ?_⟩
    rw [hh.below.cell (p := (ad.add (i * s)).add j) (by rw [add_block, add_block]; exact hb)]
    exact hx i x hi j v hj
  | own b ver off n cap B xs hB hv hn hx =>
    obtain ⟨x0, h0⟩ := hr
    have h0' : slRel ι σ b ver off n cap x0 := h0
    obtain ⟨c, t, hi, rfl, hc, hm, _⟩ := slRel_now h0' hB hv
    refine ⟨.lit (.slice (some ⟨c, off, none⟩) n cap), fun x hx => ?_, .inn _ n cap xs hn hc hm (hh.dom b c t hi).2 fun i x hxi j v hj => ?_⟩
    · have hx' : slRel ι σ b ver off n cap x := hx
      obtain ⟨c', t', hi', rfl, _⟩ := slRel_now hx' hB hv
      rw [hi] at hi'; cases hi'; rfl
    · obtain ⟨vs, rest, h1, h2, h3, h4⟩ := hh.blk b B c t hB hi
      have hcell := hx i x hxi j v hj
      obtain ⟨y, hy, hyr⟩ := h3.get hcell
      have e1 : y = v := hyr.1
      subst e1
      rw [add_own, cell?_own h1]
      refine ⟨?_, hyr.2⟩
      rw [List.getElem?_append_left (getElem?_lt hy)]
      exact hy
/-- **A contract that knows no own blocks holds beside any; its arguments may be own slices.** -/
theorem ACall.frameA {g : FuncId} {args : List AV} {K0 K : Cont} (hok : callOK P g = true)
    (h : ∀ W1 ι (vs : List Value), HRel W0 ι σ W1 → Rels (rel3 ι σ) args vs → ∃ args', Rels (rel3 [] []) args' vs ∧ ACall P W1 g args' [] K0) (hk : ∀ v σ', K0 v σ' → K (sh3 σ.length v) (σ ++ shB σ.length σ')) :
    ACall P W0 g args σ K := by
  refine ⟨hok, fun ι w vs hh hr => ?_⟩
  obtain ⟨args', hr', hc⟩ := h w ι vs hh hr
  refine (hc.run [] w vs (HRel.nil w) hr').mono fun e w' ⟨v, ι', σ', av, he, hk0, h3, h4, h5⟩ => ?_
  obtain ⟨h6, h7⟩ := hh.beside h3
  exact ⟨v, _, _, _, he, hk _ _ hk0, h6, h7, rel3.sh hh.len h5⟩
/-- the arguments as the callee sees them -/
inductive Sees (W1 : World) (ι : Loc) (σ : List Blk) : List AV → List AV → Prop
  | nil : Sees W1 ι σ [] []
  | cons {a a' : AV} {l l' : List AV} (h : ∀ x, rel3 ι σ a x → rel3 [] [] a' x) (t : Sees W1 ι σ l l') : Sees W1 ι σ (a :: l) (a' :: l')
/-! ### loads of what came in -/
theorem ldIn {ad : Addr} {xs : List α} (hb : ad.block < W0.heap.size) (hx : ∀ i x, xs[i]? = some x → ∀ j v, (enc x)[j]? = some v → W0.cell? ((ad.add (i * s)).add j) = some v ∧ v.oneCell' = true)
    {k : Nat} {x : α} (hk : xs[k]? = some x) (hs : (enc x).length = s) {C : List Value → Prop} (h : C (enc x)) :
    ∃ cs : List Value, cs.length = s ∧ (∀ (j : Nat) (v : Value), cs[j]? = some v → W0.cell? ((ad.add (k * s)).add j) = some v ∧ v.oneCell' = true) ∧ (ad.add (k * s)).block < W0.heap.size ∧ C cs :=
  ⟨enc x, hs, hx k x hk, by rw [add_block]; exact hb, h⟩
theorem ldInF {ad : Addr} {xs : List α} (hb : ad.block < W0.heap.size) (hx : ∀ i x, xs[i]? = some x → ∀ j v, (enc x)[j]? = some v → W0.cell? ((ad.add (i * s)).add j) = some v ∧ v.oneCell' = true)
    {k : Nat} {x : α} (hk : xs[k]? = some x) (off n : Nat) (hs : (((enc x).drop off).take n).length = n) {C : List Value → Prop} (h : C (((enc x).drop off).take n)) :
    ∃ cs : List Value, cs.length = n ∧ (∀ (j : Nat) (v : Value), cs[j]? = some v → W0.cell? (((ad.add (k * s)).add off).add j) = some v ∧ v.oneCell' = true) ∧ ((ad.add (k * s)).add off).block < W0.heap.size ∧ C cs :=
  ⟨_, hs, (fun j v hj => by
    rw [List.getElem?_take] at hj
    split at hj
    · rw [List.getElem?_drop] at hj
      rw [add_add (ad.add (k * s)) off j]
      exact hx k x hk _ v hj
    · cases hj), by rw [add_block, add_block]; exact hb, h⟩
end
end Go.Proofs.Ytcfkhiplmnamcaa.Abs
end

section
/- From a contract to the statement: arguments of several kinds of cells. -/
set_option linter.unusedVariables false
set_option linter.unusedSimpArgs false
namespace Go.Proofs.Ytcfkhiplmnamcaa
open Go Go.RowKit Go.Proofs.Ytcfkhiplmnamcaa.Abs
def kOf : Option TypeDesc → Nat
  | some (.int .i64) => 0
  | some .string => 1
  | some .bool => 2
  | _ => 9
def okK (k : Nat) (x : Value) : Prop := match k with
  | 0 => ∃ m, x = .int .i64 m ∧ IntKind.i64.has m
  | 1 => ∃ s : ByteArray, x = .string s ∧ s.size ≤ 9223372036854775807
  | 2 => ∃ b, x = .bool b
  | _ => True
theorem okK_of_cell {P : Program} {w : World} {base : Nat} {u : TypeId} {v : Value} (hok : Cell.okWide P w .any base u v) : okK (kOf (P.underlying u)) v := by
  unfold Cell.okWide at hok
  cases hu : P.underlying u with
  | none => exact trivial
  | some d =>
    rw [hu] at hok
    cases d with
    | int k =>
      cases k with
      | i64 =>
        unfold Cell.ok at hok
        rw [hu] at hok
        cases v <;> simp at hok
        exact ⟨_, by rw [hok.1], hok.2⟩
      | _ => exact trivial
    | string =>
      unfold Cell.ok at hok
      rw [hu] at hok
      cases v with
      | string s =>
        have h1 : (s.size : Int) ≤ IntKind.i64.max := hok
        have h2 : IntKind.i64.max = 9223372036854775807 := by decide
        exact ⟨s, rfl, by omega⟩
      | _ => simp at hok
    | bool =>
      unfold Cell.ok at hok
      rw [hu] at hok
      cases v with
      | bool b => exact ⟨b, rfl⟩
      | _ => simp at hok
    | _ => exact trivial
theorem flat_of_okWide {P : Program} {w : World} {base n : Nat} {t : TypeId} {v : Value} {ks : List Nat} (ha : aggP P t = some true) (hs : P.cellsOf t = n)
    (hk : ((P.cellTypes P.depth t).map fun ts => ts.map fun u => kOf (P.underlying u)) = some ks) (hn : ks.length = n)
    (h : Value.okWide P w .any base t v) : ∃ l : List Value, l.length = n ∧ v = .agg l.toArray ∧ ∀ (i : Nat) (x : Value) (k : Nat), l[i]? = some x → ks[i]? = some k → okK k x := by
  obtain ⟨ts, hc, hks⟩ := Option.map_eq_some_iff.1 hk
  have hd : ∃ cs, v = .agg cs ∧ cs.size = P.cellsOf t ∧ Row.okWide P w .any base t cs := by
    unfold aggP at ha
    obtain ⟨d, hd, hg⟩ := Option.map_eq_some_iff.1 ha
    unfold Value.okWide at h
    rw [hd] at h
    cases d <;> first | exact h | (simp [isAggD] at hg)
  obtain ⟨cs, rfl, hsz, ts', hts, hn', hall⟩ := hd
  rw [hc] at hts; cases hts
  have hlen : ts.length = n := by rw [← hn, ← hks]; simp
  refine ⟨cs.toList, by simp [hsz, hs], by simp, fun i x k hx hk' => ?_⟩
  obtain ⟨u, hu, hok⟩ := hall i x (by simpa using hx)
  have hi : i < n := by
    have := (List.getElem?_eq_some_iff.1 hk').1
    omega
  rw [hlen, Nat.mod_eq_of_lt hi] at hu
  rw [← hks, List.getElem?_map, hu] at hk'
  cases hk'
  exact okK_of_cell hok
theorem cons_of_len {α : Type} {l : List α} {n : Nat} (h : l.length = n + 1) : ∃ a l', l = a :: l' ∧ l'.length = n := by
  cases l with
  | nil => simp at h
  | cons a l' => exact ⟨a, l', rfl, by simpa using h⟩
theorem nil_of_len {α : Type} {l : List α} (h : l.length = 0) : l = [] := List.length_eq_zero_iff.1 h
theorem rel_agg (l : List Value) (h : l.all (·.oneCell') = true) : rel3 [] [] (.agg (l.map AV.lit)) (.agg l.toArray) :=
  ⟨l, rfl, by simp, fun i a b ha hb => by
    rw [List.getElem?_map, hb] at ha
    cases ha
    exact ⟨rfl, List.all_eq_true.1 h b (List.mem_of_getElem? hb)⟩⟩
end Go.Proofs.Ytcfkhiplmnamcaa
end

section
/- From a contract to the statement: slices that came in. -/
set_option linter.unusedVariables false
set_option linter.unusedSimpArgs false
namespace Go.Proofs.Ytcfkhiplmnamcaa
open Go Go.RowKit Go.Proofs.Ytcfkhiplmnamcaa.Abs Go.ChangeShapes Go.WideShapes
/-- of which kind a cell of a type is -/
def kindT (P : Program) : Nat → TypeId → Nat → Nat
  | 0, _, _ => 9
  | d + 1, t, j => match P.underlying t with
    | some (.struct fs) => match fs.toList.find? (fun f => decide (f.offset ≤ j) && decide (j < f.offset + P.cellsOf f.type)) with
      | some f => kindT P d f.type (j - f.offset)
      | none => 9
    | some (.array n e) => if 0 < P.cellsOf e ∧ j / P.cellsOf e < n then kindT P d e (j % P.cellsOf e) else 9
    | u => kOf u
section
variable {H : Type} {enc : TypeId × Value → H} {P : Program} {w : World} {base : Nat} {spare : Nat → Bool} {held : Bool}
theorem okK_trod : ∀ (d : Nat) (t : TypeId) (fuel : Nat) (cs : List Value) (x : DataW H × List MemPlace) (j : Nat) (v : Value), DataW.trod enc P w base spare held fuel t cs = some x → cs[j]? = some v → okK (kindT P d t j) v
  | 0, _, _, _, _, _, _, _, _ => trivial
  | d + 1, t, fuel, cs, x, j, v, h, hj => by
    unfold kindT
    cases hu : P.underlying t with
    | none => exact trivial
    | some u =>
      cases u with
      | struct fs =>
        dsimp only
        cases hf : fs.toList.find? (fun f => decide (f.offset ≤ j) && decide (j < f.offset + P.cellsOf f.type)) with
        | none => exact trivial
        | some f =>
          dsimp only
          have h1 := List.find?_some hf
          simp only [Bool.and_eq_true, decide_eq_true_eq] at h1
          obtain ⟨i, hi⟩ := List.mem_iff_getElem?.1 (List.mem_of_find?_eq_some hf)
          obtain ⟨xs, n, rfl, rfl, hl, hxl, hall⟩ := DataW.trod_struct hu h
          have hi' : fs[i]? = some f := by simpa using hi
          have h2 := hall i f hi'
          have hlt : i < xs.length := by rw [hxl]; simpa using (getElem?_lt hi)
          rw [List.getElem?_eq_getElem hlt] at h2
          refine okK_trod d f.type n _ _ (j - f.offset) v h2 ?_
          rw [List.getElem?_take, if_pos (by omega), List.getElem?_drop, show f.offset + (j - f.offset) = j by omega]
          exact hj
      | array n e =>
        dsimp only
        split
        · rename_i hlt
          obtain ⟨xs, m, rfl, rfl, hl, hxl, hall⟩ := DataW.trod_array hu h
          have h2 := hall _ hlt.2
          rw [List.getElem?_eq_getElem (by rw [hxl]; exact hlt.2)] at h2
          refine okK_trod d e m _ _ (j % P.cellsOf e) v h2 ?_
          rw [List.getElem?_take, if_pos (Nat.mod_lt _ hlt.1), List.getElem?_drop, show j / P.cellsOf e * P.cellsOf e + j % P.cellsOf e = j by rw [Nat.mul_comm]; exact Nat.div_add_mod _ _]
          exact hj
        · exact trivial
      | int k =>
        cases k with
        | i64 =>
          obtain ⟨n, rfl, rfl, hw⟩ := DataW.trod_int hu h
          cases j with
          | zero =>
            simp at hj; subst hj
            simp only [Lit.wf, Bool.and_eq_true, decide_eq_true_eq] at hw
            exact ⟨n, rfl, hw⟩
          | succ j => simp at hj
        | _ => exact trivial
      | string =>
        obtain ⟨s, rfl, rfl, hs⟩ := DataW.trod_string hu h
        cases j with
        | zero =>
          simp at hj; subst hj
          exact ⟨s, rfl, hs⟩
        | succ j => simp at hj
      | bool =>
        obtain ⟨b, rfl, rfl⟩ := DataW.trod_bool hu h
        cases j with
        | zero =>
          simp at hj; subst hj
          exact ⟨b, rfl⟩
        | succ j => simp at hj
      | _ => exact trivial
theorem shape_lt {b : Nat} {r : TypeId × Nat} (h : w.shape? b = some r) : b < w.heap.size := by
  unfold World.shape? at h
  cases hb : w.heap[b]? with
  | none => rw [hb] at h; simp at h
  | some o => exact (Array.getElem?_eq_some_iff.1 hb).1
/-- the ints of an element's cells -/
def intsOf (cs : List Value) : List Int := cs.map fun v => match v with | .int _ m => m | _ => 0
theorem intsOf_map {cs : List Value} (h : ∀ v ∈ cs, ∃ m, v = Value.int .i64 m ∧ IntKind.i64.has m) : (intsOf cs).map (Value.int .i64) = cs ∧ ∀ n ∈ intsOf cs, IntKind.i64.has n := by
  induction cs with
  | nil => exact ⟨rfl, fun n hn => by cases hn⟩
  | cons v cs ih =>
    obtain ⟨m, rfl, hm⟩ := h v List.mem_cons_self
    obtain ⟨h1, h2⟩ := ih fun v hv => h v (List.mem_cons_of_mem _ hv)
    refine ⟨by show Value.int .i64 m :: (intsOf cs).map _ = _; rw [h1], fun n hn => ?_⟩
    rcases List.mem_cons.1 hn with rfl | hn
    · exact hm
    · exact h2 n hn
abbrev encL (l : List Int) : List Value := l.map (Value.int .i64)
theorem sli_arg {t e : TypeId} {s fuel : Nat} {v : Value} {x : DataW H × List MemPlace} {b0 : Nat} (ht : P.underlying t = some (.slice e)) (hs : P.cellsOf e = s) (hk : ∀ j, j < s → kindT P 20 e j = 0) (hv : Value.okWide P w .any b0 t v)
    (h : DataW.trod enc P w base spare held fuel t [v] = some x) : ∃ xs : List (List Int), Sli w [] s encL (.lit v) xs ∧ ∀ x ∈ xs, x.length = s ∧ ∀ n ∈ x, IntKind.i64.has n := by
  rcases Deep.open_slice ht h with ⟨hc, _⟩ | ⟨a, len, cap, m, n, D, Pl, hc, hb, hl, hm, hmm, rfl, hx⟩
  · cases hc
    exact ⟨[], .nil, fun x hx => by cases hx⟩
  · cases hc
    have hlm : len ≤ m := by rw [hmm]; split <;> omega
    have hblk : a.block < w.heap.size := by
      unfold Value.okWide at hv
      rw [ht] at hv
      unfold Cell.okWide at hv
      rw [ht] at hv
      unfold Cell.ok at hv
      rw [ht] at hv
      obtain ⟨_, _, _, _, row, cells, hsh, _⟩ := hv
      exact shape_lt hsh
    have hel : ∀ i, i < len → ∃ l : List Int, l.length = s ∧ (∀ n ∈ l, IntKind.i64.has n) ∧ ∀ (j : Nat) (v : Value), (encL l)[j]? = some v → w.cell? ((a.add (i * s)).add j) = some v ∧ v.oneCell' = true := by
      intro i hi
      obtain ⟨cs', h1, h2⟩ := hx i (by omega)
      rw [hs] at h1
      obtain ⟨_, hlen, hcell⟩ := World.cells?_some h1
      have hall : ∀ v ∈ cs', ∃ m, v = Value.int .i64 m ∧ IntKind.i64.has m := by
        intro v hv
        obtain ⟨j, hj⟩ := List.mem_iff_getElem?.1 hv
        have := okK_trod 20 e n cs' _ j v h2 hj
        rw [hk j (by have := getElem?_lt hj; omega)] at this
        exact this
      obtain ⟨h3, h4⟩ := intsOf_map hall
      refine ⟨intsOf cs', by simp [intsOf, hlen], h4, fun j v hj => ?_⟩
      rw [show encL (intsOf cs') = cs' from h3] at hj
      refine ⟨by rw [hcell j (by have := getElem?_lt hj; omega)]; exact hj, ?_⟩
      obtain ⟨m', rfl, _⟩ := hall v (List.mem_of_getElem? hj)
      rfl
    obtain ⟨f, hf⟩ := Deep.choose_lt (α := List Int) hel
    refine ⟨(List.range len).map f, .inn a len cap _ (by simp) hl hm hblk ?_, ?_⟩
    · intro i x hi j v hj
      rw [List.getElem?_map, Option.map_eq_some_iff] at hi
      obtain ⟨i', hi', rfl⟩ := hi
      have hi2 : i' = i ∧ i < len := by
        have h5 := getElem?_lt hi'
        rw [List.length_range] at h5
        rw [List.getElem?_range h5] at hi'
        exact ⟨(Option.some.inj hi').symm, h5⟩
      obtain ⟨rfl, h6⟩ := hi2
      exact (hf i' h6).2.2 j v hj
    · intro x hx'
      obtain ⟨i, hi, rfl⟩ := List.mem_map.1 hx'
      have h6 := List.mem_range.1 hi
      exact ⟨(hf i h6).1, (hf i h6).2.1⟩
theorem sli_max {s : Nat} {a : AV} {xs : List (List Int)} (h : Sli w [] s encL a xs) : xs.length ≤ maxLen := by
  cases h with
  | nil => exact Nat.zero_le _
  | inn ad n cap xs hn hc hm hb hx => omega
  | own b ver off n cap B xs hB => simp at hB
end
end Go.Proofs.Ytcfkhiplmnamcaa
end

section
/- From a contract to the statement: slices that came in inside a struct. -/
set_option linter.unusedVariables false
set_option linter.unusedSimpArgs false
namespace Go.Proofs.Ytcfkhiplmnamcaa
open Go Go.RowKit Go.Proofs.Ytcfkhiplmnamcaa.Abs Go.ChangeShapes Go.WideShapes
section
variable {H : Type} {enc : TypeId × Value → H} {P : Program} {w : World} {base : Nat} {spare : Nat → Bool} {held : Bool}
theorem sli_one {s : Nat} {v : Value} {xs : List (List Int)} (h : Sli w [] s encL (.lit v) xs) : v.oneCell' = true := by
  cases h with
  | nil => rfl
  | inn ad n cap xs hn hc hm hb hx => rfl
theorem sli_field {t e : TypeId} {s o i b0 : Nat} {fs : Array Field} {f : Field} {l : List Value} {x : Value} {d : DataW H} {ps : List MemPlace} (hu : P.underlying t = some (.struct fs)) (hi : fs[i]? = some f) (hft : P.underlying f.type = some (.slice e)) (ho : f.offset = o) (h1 : P.cellsOf f.type = 1) (hs : P.cellsOf e = s) (hk : ∀ j, j < s → kindT P 20 e j = 0)
    (hct : ((P.cellTypes P.depth t).map fun ts => ts[o]?) = some (some f.type)) (hv : Value.okWide P w .any b0 t (.agg l.toArray)) (h : DataW.Trod enc P w base spare held t (.agg l.toArray) d ps) (hx : l[o]? = some x) :
    ∃ xs : List (List Int), Sli w [] s encL (.lit x) xs ∧ (∀ x ∈ xs, x.length = s ∧ ∀ n ∈ x, IntKind.i64.has n) ∧ xs.length ≤ maxLen := by
  obtain ⟨fuel, h⟩ := h
  have hc : (Value.agg l.toArray).cells.toList = l := by simp [Value.cells]
  rw [hc] at h
  obtain ⟨zs, n, rfl, _, hl, hxl, hall⟩ := DataW.trod_struct hu h
  have h2 := hall i f hi
  have hlt : i < zs.length := by rw [hxl]; exact (Array.getElem?_eq_some_iff.1 hi).1
  rw [List.getElem?_eq_getElem hlt, ho, h1, List.drop_eq_getElem_cons (getElem?_lt hx), (List.getElem?_eq_some_iff.1 hx).2] at h2
  have h3 : DataW.trod enc P w base spare held n f.type [x] = some zs[i] := h2
  have hvx : Value.okWide P w .any b0 f.type x := by
    unfold Value.okWide at hv
    rw [hu] at hv
    obtain ⟨cs, hcs, hsz, ts', hts, hn', hallc⟩ := hv
    cases hcs
    obtain ⟨ts, hts2, ho2⟩ := Option.map_eq_some_iff.1 hct
    rw [hts2] at hts; cases hts
    obtain ⟨u, hu2, hok⟩ := hallc o x (by simpa using hx)
    have hol := getElem?_lt hx
    have hot := getElem?_lt ho2
    rw [Nat.mod_eq_of_lt hot, ho2] at hu2
    cases hu2
    unfold Value.okWide
    rw [hft]
    exact hok
  obtain ⟨xs, q1, q2⟩ := sli_arg hft hs hk hvx h3
  exact ⟨xs, q1, q2, sli_max q1⟩
/-- a field's type and place -/
def fieldAt (P : Program) (t : TypeId) (i : Nat) : Option (TypeId × Nat) :=
  match P.underlying t with
  | some (.struct fs) => (fs[i]?).map fun f => (f.type, f.offset)
  | _ => none
theorem sli_fieldT {t e ft : TypeId} {s o i b0 : Nat} {l : List Value} {x : Value} {d : DataW H} {ps : List MemPlace} (hfi : fieldAt P t i = some (ft, o)) (hft : P.underlying ft = some (.slice e)) (h1 : P.cellsOf ft = 1) (hs : P.cellsOf e = s) (hk : ∀ j, j < s → kindT P 20 e j = 0)
    (hct : ((P.cellTypes P.depth t).map fun ts => ts[o]?) = some (some ft)) (hv : Value.okWide P w .any b0 t (.agg l.toArray)) (h : DataW.Trod enc P w base spare held t (.agg l.toArray) d ps) (hx : l[o]? = some x) :
    ∃ xs : List (List Int), Sli w [] s encL (.lit x) xs ∧ (∀ x ∈ xs, x.length = s ∧ ∀ n ∈ x, IntKind.i64.has n) ∧ xs.length ≤ maxLen := by
  unfold fieldAt at hfi
  split at hfi
  · rename_i fs hu
    obtain ⟨f, hf, he⟩ := Option.map_eq_some_iff.1 hfi
    cases he
    exact sli_field hu hf hft rfl h1 hs hk hct hv h hx
  · cases hfi
end
end Go.Proofs.Ytcfkhiplmnamcaa
end

section
/- The resolved code of the functions that are reached, and that it stands for the program's own. -/
set_option linter.unusedVariables false
namespace Go.Proofs.Ytcfkhiplmnamcaa
open Go Go.RowKit Go.Proofs.Ytcfkhiplmnamcaa.Abs
theorem mixed : Try.prog.follows .mixedOrders = true := by kernel_rfl
def r3 : RC := (.seq (.reg [.op (some 2) (.box 28 (.t 0)),
  .op (some 3) (.box 28 (.t 1)),
  .op (some 4) (.mv (.v (.lit (.bool false))))])
 (.seq (.reg [.op (some 5) (.mv (.v (.lit (.int .i64 (1048576)))))])
 (.seq (.reg [.op (some 17) (.load 8 true (.t 2)),
  .op (some 18) (.mv (.t 5)),
  .op (some 19) (.call (.v (.lit (.func (.func 4) #[] #[]))) [(.t 17), (.t 18)]),
  .op (some 5) (.mv (.t 19))])
 (.seq (.seq (.reg [.op (some 20) (.mv (.t 5)),
  .op (some 21) (.binI .lss (.t 20) (.v (.lit (.int .i64 (0)))))])
 (.cond (.t 21)
 (.seq (.reg [.op (some 4) (.mv (.v (.lit (.bool true))))])
 .ret)
 .skip))
 (.seq (.reg [.op (some 22) (.load 8 true (.t 3)),
  .op (some 23) (.mv (.t 5)),
  .op (some 24) (.call (.v (.lit (.func (.func 4) #[] #[]))) [(.t 22), (.t 23)]),
  .op (some 5) (.mv (.t 24))])
 (.seq (.seq (.reg [.op (some 25) (.mv (.t 5)),
  .op (some 26) (.binI .lss (.t 25) (.v (.lit (.int .i64 (0)))))])
 (.cond (.t 26)
 (.seq (.reg [.op (some 4) (.mv (.v (.lit (.bool true))))])
 .ret)
 .skip))
 (.seq (.any true (.h ⟨none, (some 28), (.load 8 true (.t 2))⟩
 (.h ⟨none, (some 30), (.load 8 true (.t 3))⟩
 (.both (.t ⟨none, (some 29), (.call (.v (.lit (.func (.func 6) #[] #[]))) [(.t 28)])⟩
 (.both (.t ⟨none, (some 31), (.call (.v (.lit (.func (.func 6) #[] #[]))) [(.t 30)])⟩
 (.both (.t ⟨none, (some 32), (.call (.v (.lit (.func (.func 5) #[] #[]))) [(.t 29), (.t 31)])⟩
 (.n ⟨none, (some 27), (.mv (.t 32))⟩
 (.n ⟨none, (some 33), (.ext (.t 27) 0)⟩
 (.n ⟨none, (some 34), (.ext (.t 27) 1)⟩
 (.t ⟨none, (some 6), (.alloc 34 [(.lit (.int .i64 (0))), (.lit (.int .i64 (0))), (.lit (.int .i64 (0))), (.lit (.int .i64 (0))), (.lit (.int .i64 (0))), (.lit (.int .i64 (0))), (.lit (.slice none 0 0)), (.lit (.slice none 0 0))])⟩
 (.t ⟨none, none, (.store 8 (.t 6) (.t 33))⟩
 (.n ⟨none, (some 7), (.mv (.t 34))⟩
 .fin)))))))
 (.t ⟨none, (some 6), (.alloc 34 [(.lit (.int .i64 (0))), (.lit (.int .i64 (0))), (.lit (.int .i64 (0))), (.lit (.int .i64 (0))), (.lit (.int .i64 (0))), (.lit (.int .i64 (0))), (.lit (.slice none 0 0)), (.lit (.slice none 0 0))])⟩
 (.t ⟨none, (some 32), (.call (.v (.lit (.func (.func 5) #[] #[]))) [(.t 29), (.t 31)])⟩
 (.n ⟨none, (some 27), (.mv (.t 32))⟩
 (.n ⟨none, (some 33), (.ext (.t 27) 0)⟩
 (.n ⟨none, (some 34), (.ext (.t 27) 1)⟩
 (.t ⟨none, none, (.store 8 (.t 6) (.t 33))⟩
 (.n ⟨none, (some 7), (.mv (.t 34))⟩
 .fin)))))))))
 (.t ⟨none, (some 6), (.alloc 34 [(.lit (.int .i64 (0))), (.lit (.int .i64 (0))), (.lit (.int .i64 (0))), (.lit (.int .i64 (0))), (.lit (.int .i64 (0))), (.lit (.int .i64 (0))), (.lit (.slice none 0 0)), (.lit (.slice none 0 0))])⟩
 (.t ⟨none, (some 31), (.call (.v (.lit (.func (.func 6) #[] #[]))) [(.t 30)])⟩
 (.t ⟨none, (some 32), (.call (.v (.lit (.func (.func 5) #[] #[]))) [(.t 29), (.t 31)])⟩
 (.n ⟨none, (some 27), (.mv (.t 32))⟩
 (.n ⟨none, (some 33), (.ext (.t 27) 0)⟩
 (.n ⟨none, (some 34), (.ext (.t 27) 1)⟩
 (.t ⟨none, none, (.store 8 (.t 6) (.t 33))⟩
 (.n ⟨none, (some 7), (.mv (.t 34))⟩
 .fin))))))))))
 (.t ⟨none, (some 6), (.alloc 34 [(.lit (.int .i64 (0))), (.lit (.int .i64 (0))), (.lit (.int .i64 (0))), (.lit (.int .i64 (0))), (.lit (.int .i64 (0))), (.lit (.int .i64 (0))), (.lit (.slice none 0 0)), (.lit (.slice none 0 0))])⟩
 (.t ⟨none, (some 29), (.call (.v (.lit (.func (.func 6) #[] #[]))) [(.t 28)])⟩
 (.t ⟨none, (some 31), (.call (.v (.lit (.func (.func 6) #[] #[]))) [(.t 30)])⟩
 (.t ⟨none, (some 32), (.call (.v (.lit (.func (.func 5) #[] #[]))) [(.t 29), (.t 31)])⟩
 (.n ⟨none, (some 27), (.mv (.t 32))⟩
 (.n ⟨none, (some 33), (.ext (.t 27) 0)⟩
 (.n ⟨none, (some 34), (.ext (.t 27) 1)⟩
 (.t ⟨none, none, (.store 8 (.t 6) (.t 33))⟩
 (.n ⟨none, (some 7), (.mv (.t 34))⟩
 .fin)))))))))))))
 (.seq (.reg [.op (some 35) (.load 8 true (.t 2)),
  .op (some 36) (.call (.v (.lit (.func (.func 6) #[] #[]))) [(.t 35)]),
  .op (some 8) (.alloc 34 [(.lit (.int .i64 (0))), (.lit (.int .i64 (0))), (.lit (.int .i64 (0))), (.lit (.int .i64 (0))), (.lit (.int .i64 (0))), (.lit (.int .i64 (0))), (.lit (.slice none 0 0)), (.lit (.slice none 0 0))]),
  .op none (.store 8 (.t 8) (.t 36))])
 (.seq (.reg [.op (some 37) (.load 8 true (.t 3)),
  .op (some 38) (.call (.v (.lit (.func (.func 6) #[] #[]))) [(.t 37)]),
  .op (some 9) (.alloc 34 [(.lit (.int .i64 (0))), (.lit (.int .i64 (0))), (.lit (.int .i64 (0))), (.lit (.int .i64 (0))), (.lit (.int .i64 (0))), (.lit (.int .i64 (0))), (.lit (.slice none 0 0)), (.lit (.slice none 0 0))]),
  .op none (.store 8 (.t 9) (.t 38))])
 (.seq (.reg [.op (some 40) (.load 8 true (.t 8)),
  .op (some 41) (.load 8 true (.t 9)),
  .op (some 42) (.call (.v (.lit (.func (.func 7) #[] #[]))) [(.t 40), (.t 41)]),
  .op (some 39) (.mv (.t 42)),
  .op (some 43) (.ext (.t 39) 0),
  .op (some 44) (.ext (.t 39) 1),
  .op (some 10) (.alloc 34 [(.lit (.int .i64 (0))), (.lit (.int .i64 (0))), (.lit (.int .i64 (0))), (.lit (.int .i64 (0))), (.lit (.int .i64 (0))), (.lit (.int .i64 (0))), (.lit (.slice none 0 0)), (.lit (.slice none 0 0))]),
  .op none (.store 8 (.t 10) (.t 43)),
  .op (some 11) (.mv (.t 44))])
 (.seq (.seq (.reg [.op (some 45) (.load 8 true (.t 10)),
  .op (some 46) (.load 8 true (.t 6)),
  .op (some 47) (.call (.v (.lit (.func (.func 8) #[] #[]))) [(.t 45), (.t 46)]),
  .op (some 48) (.un .not (.t 47)),
  .op (some 49) (.mv (.t 48)),
  .grp 49 false [((some 50), (.mv (.t 11))), ((some 51), (.mv (.t 7))), ((some 52), (.binB true (.t 50) (.t 51)))],
  .op (some 53) (.pick (.t 49) (.v (.lit (.bool true))) (.t 52))])
 (.cond (.t 53)
 (.seq (.reg [.op (some 4) (.mv (.v (.lit (.bool false))))])
 .ret)
 .skip))
 (.seq (.seq (.any true (.h ⟨none, (some 54), (.load 8 true (.t 8))⟩
 (.n ⟨none, (some 55), (.load 8 true (.t 2))⟩
 (.t ⟨none, (some 56), (.call (.v (.lit (.func (.func 6) #[] #[]))) [(.t 55)])⟩
 (.n ⟨none, (some 57), (.call (.v (.lit (.func (.func 8) #[] #[]))) [(.t 54), (.t 56)])⟩
 (.n ⟨none, (some 58), (.un .not (.t 57))⟩
 .fin))))))
 (.cond (.t 58)
 (.seq (.reg [.op (some 4) (.mv (.v (.lit (.bool false))))])
 .ret)
 .skip))
 (.seq (.seq (.any true (.h ⟨none, (some 59), (.load 8 true (.t 9))⟩
 (.n ⟨none, (some 60), (.load 8 true (.t 3))⟩
 (.t ⟨none, (some 61), (.call (.v (.lit (.func (.func 6) #[] #[]))) [(.t 60)])⟩
 (.n ⟨none, (some 62), (.call (.v (.lit (.func (.func 8) #[] #[]))) [(.t 59), (.t 61)])⟩
 (.n ⟨none, (some 63), (.un .not (.t 62))⟩
 .fin))))))
 (.cond (.t 63)
 (.seq (.reg [.op (some 4) (.mv (.v (.lit (.bool false))))])
 .ret)
 .skip))
 (.seq (.reg [.op (some 12) (.mv (.v (.lit (.int .i64 (1)))))])
 (.seq (.reg [.op (some 64) (.load 8 true (.t 8)),
  .op (some 65) (.mv (.t 12)),
  .op (some 66) (.call (.v (.lit (.func (.func 9) #[] #[]))) [(.t 64), (.t 65)]),
  .op (some 12) (.mv (.t 66))])
 (.seq (.reg [.op (some 67) (.load 8 true (.t 9)),
  .op (some 68) (.mv (.t 12)),
  .op (some 69) (.call (.v (.lit (.func (.func 9) #[] #[]))) [(.t 67), (.t 68)]),
  .op (some 12) (.mv (.t 69))])
 (.seq (.seq (.reg [.op (some 70) (.mv (.t 12)),
  .op (some 71) (.binI .lss (.t 70) (.v (.lit (.int .i64 (0))))),
  .op (some 72) (.mv (.t 71)),
  .grp 72 false [((some 73), (.load 8 true (.t 10))), ((some 74), (.load 8 true (.t 6))), ((some 75), (.call (.v (.lit (.func (.func 8) #[] #[]))) [(.t 73), (.t 74)])), ((some 76), (.un .not (.t 75)))],
  .op (some 77) (.pick (.t 72) (.v (.lit (.bool true))) (.t 76)),
  .op (some 78) (.mv (.t 77)),
  .grp 78 false [((some 79), (.mv (.t 11))), ((some 80), (.mv (.t 7))), ((some 81), (.binB true (.t 79) (.t 80)))],
  .op (some 82) (.pick (.t 78) (.v (.lit (.bool true))) (.t 81))])
 (.cond (.t 82)
 (.seq (.reg [.op (some 4) (.mv (.v (.lit (.bool false))))])
 .ret)
 .skip))
 (.seq (.reg [.op (some 13) (.mv (.v (.lit (.int .i64 (1)))))])
 (.seq (.reg [.op (some 83) (.load 8 true (.t 10)),
  .op (some 84) (.mv (.t 13)),
  .op (some 85) (.call (.v (.lit (.func (.func 9) #[] #[]))) [(.t 83), (.t 84)]),
  .op (some 13) (.mv (.t 85))])
 (.seq (.reg [.op (some 14) (.mv (.v (.lit (.int .i64 (1)))))])
 (.seq (.reg [.op (some 86) (.load 8 true (.t 10)),
  .op (some 87) (.mv (.t 14)),
  .op (some 88) (.call (.v (.lit (.func (.func 10) #[] #[]))) [(.t 86), (.t 87)]),
  .op (some 14) (.mv (.t 88))])
 (.seq (.seq (.reg [.op (some 89) (.mv (.t 14)),
  .op (some 90) (.binI .lss (.t 89) (.v (.lit (.int .i64 (0)))))])
 (.cond (.t 90)
 (.seq (.reg [.op (some 4) (.mv (.v (.lit (.bool false))))])
 .ret)
 .skip))
 (.seq (.seq (.reg [.op (some 91) (.mv (.t 14)),
  .op (some 92) (.mv (.t 13)),
  .op (some 93) (.binI .neq (.t 91) (.t 92))])
 (.cond (.t 93)
 (.seq (.reg [.op (some 4) (.mv (.v (.lit (.bool false))))])
 .ret)
 .skip))
 (.seq (.any true (.h ⟨none, (some 95), (.load 8 true (.t 2))⟩
 (.h ⟨none, (some 97), (.load 8 true (.t 3))⟩
 (.both (.t ⟨none, (some 96), (.call (.v (.lit (.func (.func 6) #[] #[]))) [(.t 95)])⟩
 (.both (.t ⟨none, (some 98), (.call (.v (.lit (.func (.func 6) #[] #[]))) [(.t 97)])⟩
 (.both (.t ⟨none, (some 99), (.call (.v (.lit (.func (.func 7) #[] #[]))) [(.t 96), (.t 98)])⟩
 (.n ⟨none, (some 94), (.mv (.t 99))⟩
 (.n ⟨none, (some 100), (.ext (.t 94) 0)⟩
 (.n ⟨none, (some 101), (.ext (.t 94) 1)⟩
 (.t ⟨none, (some 15), (.alloc 34 [(.lit (.int .i64 (0))), (.lit (.int .i64 (0))), (.lit (.int .i64 (0))), (.lit (.int .i64 (0))), (.lit (.int .i64 (0))), (.lit (.int .i64 (0))), (.lit (.slice none 0 0)), (.lit (.slice none 0 0))])⟩
 (.t ⟨none, none, (.store 8 (.t 15) (.t 100))⟩
 (.n ⟨none, (some 16), (.mv (.t 101))⟩
 .fin)))))))
 (.t ⟨none, (some 15), (.alloc 34 [(.lit (.int .i64 (0))), (.lit (.int .i64 (0))), (.lit (.int .i64 (0))), (.lit (.int .i64 (0))), (.lit (.int .i64 (0))), (.lit (.int .i64 (0))), (.lit (.slice none 0 0)), (.lit (.slice none 0 0))])⟩
 (.t ⟨none, (some 99), (.call (.v (.lit (.func (.func 7) #[] #[]))) [(.t 96), (.t 98)])⟩
 (.n ⟨none, (some 94), (.mv (.t 99))⟩
 (.n ⟨none, (some 100), (.ext (.t 94) 0)⟩
 (.n ⟨none, (some 101), (.ext (.t 94) 1)⟩
 (.t ⟨none, none, (.store 8 (.t 15) (.t 100))⟩
 (.n ⟨none, (some 16), (.mv (.t 101))⟩
 .fin)))))))))
 (.t ⟨none, (some 15), (.alloc 34 [(.lit (.int .i64 (0))), (.lit (.int .i64 (0))), (.lit (.int .i64 (0))), (.lit (.int .i64 (0))), (.lit (.int .i64 (0))), (.lit (.int .i64 (0))), (.lit (.slice none 0 0)), (.lit (.slice none 0 0))])⟩
 (.t ⟨none, (some 98), (.call (.v (.lit (.func (.func 6) #[] #[]))) [(.t 97)])⟩
 (.t ⟨none, (some 99), (.call (.v (.lit (.func (.func 7) #[] #[]))) [(.t 96), (.t 98)])⟩
 (.n ⟨none, (some 94), (.mv (.t 99))⟩
 (.n ⟨none, (some 100), (.ext (.t 94) 0)⟩
 (.n ⟨none, (some 101), (.ext (.t 94) 1)⟩
 (.t ⟨none, none, (.store 8 (.t 15) (.t 100))⟩
 (.n ⟨none, (some 16), (.mv (.t 101))⟩
 .fin))))))))))
 (.t ⟨none, (some 15), (.alloc 34 [(.lit (.int .i64 (0))), (.lit (.int .i64 (0))), (.lit (.int .i64 (0))), (.lit (.int .i64 (0))), (.lit (.int .i64 (0))), (.lit (.int .i64 (0))), (.lit (.slice none 0 0)), (.lit (.slice none 0 0))])⟩
 (.t ⟨none, (some 96), (.call (.v (.lit (.func (.func 6) #[] #[]))) [(.t 95)])⟩
 (.t ⟨none, (some 98), (.call (.v (.lit (.func (.func 6) #[] #[]))) [(.t 97)])⟩
 (.t ⟨none, (some 99), (.call (.v (.lit (.func (.func 7) #[] #[]))) [(.t 96), (.t 98)])⟩
 (.n ⟨none, (some 94), (.mv (.t 99))⟩
 (.n ⟨none, (some 100), (.ext (.t 94) 0)⟩
 (.n ⟨none, (some 101), (.ext (.t 94) 1)⟩
 (.t ⟨none, none, (.store 8 (.t 15) (.t 100))⟩
 (.n ⟨none, (some 16), (.mv (.t 101))⟩
 .fin)))))))))))))
 (.seq (.seq (.reg [.op (some 102) (.load 8 true (.t 15)),
  .op (some 103) (.load 8 true (.t 6)),
  .op (some 104) (.call (.v (.lit (.func (.func 8) #[] #[]))) [(.t 102), (.t 103)]),
  .op (some 105) (.un .not (.t 104)),
  .op (some 106) (.mv (.t 105)),
  .grp 106 false [((some 107), (.mv (.t 16))), ((some 108), (.mv (.t 7))), ((some 109), (.binB true (.t 107) (.t 108)))],
  .op (some 110) (.pick (.t 106) (.v (.lit (.bool true))) (.t 109))])
 (.cond (.t 110)
 (.seq (.reg [.op (some 4) (.mv (.v (.lit (.bool false))))])
 .ret)
 .skip))
 (.seq (.reg [.op (some 14) (.mv (.v (.lit (.int .i64 (1)))))])
 (.seq (.reg [.op (some 111) (.load 8 true (.t 10)),
  .op (some 112) (.mv (.t 14)),
  .op (some 113) (.call (.v (.lit (.func (.func 10) #[] #[]))) [(.t 111), (.t 112)]),
  .op (some 14) (.mv (.t 113))])
 (.seq (.seq (.reg [.op (some 114) (.mv (.t 14)),
  .op (some 115) (.binI .lss (.t 114) (.v (.lit (.int .i64 (0)))))])
 (.cond (.t 115)
 (.seq (.reg [.op (some 4) (.mv (.v (.lit (.bool false))))])
 .ret)
 .skip))
 (.seq (.seq (.reg [.op (some 116) (.mv (.t 14)),
  .op (some 117) (.mv (.t 13)),
  .op (some 118) (.binI .neq (.t 116) (.t 117))])
 (.cond (.t 118)
 (.seq (.reg [.op (some 4) (.mv (.v (.lit (.bool false))))])
 .ret)
 .skip))
 (.seq (.reg [.op (some 4) (.mv (.v (.lit (.bool true))))])
 .ret))))))))))))))))))))))))))))))
def rs3 : List RR := [.tmp 4]
def cut3 : Nat → Nat := fun id => if id = 8 then 1001589 else if id = 14 then 1000009 else if id = 16 then 1000009 else if id = 31 then 1001589 else 0
theorem k3 : (Try.f3.body.bind fun c => comp Try.prog Try.f3.ntmps cut3 c) = some r3 := by kernel_rfl
theorem by3 {W0 : World} {σ : List Blk} {args : List AV} {K : Cont} (hn : args.length ≤ 119) (h : rW Try.prog W0 σ.length r3 (initFr args) σ (finP W0 rs3 σ.length K)) : ACall Try.prog W0 3 args σ K :=
  ACall.introR mixed Try.func3 (by kernel_rfl) k3 (by kernel_rfl) hn h
def r4 : RC := (.seq (.reg [.op (some 2) (.box 28 (.t 0)),
  .op (some 4) (.mv (.v (.lit (.int .i64 (0)))))])
 (.seq (.reg [.op (some 5) (.faddr 6 (.t 2)),
  .op (some 6) (.load 1 false (.t 5)),
  .op (some 7) (.mv (.t 1)),
  .op (some 8) (.call (.v (.lit (.func (.func 11) #[] #[]))) [(.t 6), (.t 7)]),
  .op (some 1) (.mv (.t 8))])
 (.seq (.seq (.reg [.op (some 9) (.mv (.t 1)),
  .op (some 10) (.binI .lss (.t 9) (.v (.lit (.int .i64 (0)))))])
 (.cond (.t 10)
 (.seq (.reg [.op (some 4) (.mv (.v (.lit (.int .i64 (-1)))))])
 .ret)
 .skip))
 (.seq (.reg [.op (some 11) (.faddr 7 (.t 2)),
  .op (some 12) (.load 1 false (.t 11)),
  .op (some 13) (.mv (.t 1)),
  .op (some 14) (.call (.v (.lit (.func (.func 12) #[] #[]))) [(.t 12), (.t 13)]),
  .op (some 1) (.mv (.t 14))])
 (.seq (.seq (.reg [.op (some 15) (.mv (.t 1)),
  .op (some 16) (.binI .lss (.t 15) (.v (.lit (.int .i64 (0)))))])
 (.cond (.t 16)
 (.seq (.reg [.op (some 4) (.mv (.v (.lit (.int .i64 (-1)))))])
 .ret)
 .skip))
 (.seq (.reg [.op (some 17) (.mv (.t 1)),
  .op (some 4) (.mv (.t 17))])
 .ret))))))
def rs4 : List RR := [.tmp 4]
def cut4 : Nat → Nat := fun id => 0
theorem k4 : (Try.f4.body.bind fun c => comp Try.prog Try.f4.ntmps cut4 c) = some r4 := by kernel_rfl
theorem by4 {W0 : World} {σ : List Blk} {args : List AV} {K : Cont} (hn : args.length ≤ 18) (h : rW Try.prog W0 σ.length r4 (initFr args) σ (finP W0 rs4 σ.length K)) : ACall Try.prog W0 4 args σ K :=
  ACall.introR mixed Try.func4 (by kernel_rfl) k4 (by kernel_rfl) hn h
def r5 : RC := (.seq (.reg [.op (some 2) (.box 34 (.t 0)),
  .op (some 3) (.box 34 (.t 1)),
  .op (some 4) (.alloc 34 [(.lit (.int .i64 (0))), (.lit (.int .i64 (0))), (.lit (.int .i64 (0))), (.lit (.int .i64 (0))), (.lit (.int .i64 (0))), (.lit (.int .i64 (0))), (.lit (.slice none 0 0)), (.lit (.slice none 0 0))]),
  .op (some 5) (.mv (.v (.lit (.bool false))))])
 (.seq (.seq (.reg [.op (some 8) (.load 8 true (.t 2)),
  .op (some 9) (.call (.v (.lit (.func (.func 13) #[] #[]))) [(.t 8)]),
  .op (some 10) (.un .not (.t 9)),
  .op (some 11) (.mv (.t 10)),
  .grp 11 false [((some 12), (.load 8 true (.t 3))), ((some 13), (.call (.v (.lit (.func (.func 13) #[] #[]))) [(.t 12)])), ((some 14), (.un .not (.t 13)))],
  .op (some 15) (.pick (.t 11) (.v (.lit (.bool true))) (.t 14)),
  .op (some 16) (.mv (.t 15)),
  .grp 16 false [((some 17), (.faddr 6 (.t 2))), ((some 18), (.load 1 false (.t 17))), ((some 19), (.lenL (.t 18))), ((some 20), (.faddr 6 (.t 3))), ((some 21), (.load 1 false (.t 20))), ((some 22), (.lenL (.t 21))), ((some 23), (.binI .neq (.t 19) (.t 22)))],
  .op (some 24) (.pick (.t 16) (.v (.lit (.bool true))) (.t 23)),
  .op (some 25) (.mv (.t 24)),
  .grp 25 false [((some 26), (.faddr 7 (.t 2))), ((some 27), (.load 1 false (.t 26))), ((some 28), (.lenL (.t 27))), ((some 29), (.faddr 7 (.t 3))), ((some 30), (.load 1 false (.t 29))), ((some 31), (.lenL (.t 30))), ((some 32), (.binI .add (.t 28) (.t 31))), ((some 33), (.binI .gtr (.t 32) (.v (.lit (.int .i64 (40))))))],
  .op (some 34) (.pick (.t 25) (.v (.lit (.bool true))) (.t 33))])
 (.cond (.t 34)
 (.seq (.reg [.op (some 35) (.build [(.lit (.int .i64 (0))), (.lit (.int .i64 (0))), (.lit (.int .i64 (0))), (.lit (.int .i64 (0))), (.lit (.int .i64 (0))), (.lit (.int .i64 (0))), (.lit (.slice none 0 0)), (.lit (.slice none 0 0))] []),
  .op none (.store 8 (.t 4) (.t 35)),
  .op (some 5) (.mv (.v (.lit (.bool false))))])
 .ret)
 .skip))
 (.seq (.seq (.reg [.op (some 6) (.mv (.v (.lit (.int .i64 (0)))))])
 (.block 0 (.loop (.seq (.seq (.reg [.op (some 36) (.mv (.t 6)),
  .op (some 37) (.faddr 6 (.t 2)),
  .op (some 38) (.load 1 false (.t 37)),
  .op (some 39) (.lenL (.t 38)),
  .op (some 40) (.binI .lss (.t 36) (.t 39))])
 (.cond (.t 40)
 .skip
 (.exit 0)))
 (.seq (.block 1 (.seq (.draw [((some 43), (.faddr 6 (.t 2))), ((some 44), (.load 1 false (.t 43))), ((some 45), (.mv (.t 6))), ((some 46), (.iaddrS 6 (.t 44) (.t 45))), ((some 47), (.load 6 true (.t 46))), ((some 48), (.faddr 6 (.t 3))), ((some 49), (.load 1 false (.t 48))), ((some 50), (.mv (.t 6))), ((some 51), (.iaddrS 6 (.t 49) (.t 50))), ((some 52), (.load 6 true (.t 51))), ((some 53), (.eqA true [.int, .int, .int, .int, .int, .int] (.t 47) (.t 52)))] [])
 (.cond (.t 53)
 (.seq (.reg [.op (some 54) (.build [(.lit (.int .i64 (0))), (.lit (.int .i64 (0))), (.lit (.int .i64 (0))), (.lit (.int .i64 (0))), (.lit (.int .i64 (0))), (.lit (.int .i64 (0))), (.lit (.slice none 0 0)), (.lit (.slice none 0 0))] []),
  .op none (.store 8 (.t 4) (.t 54)),
  .op (some 5) (.mv (.v (.lit (.bool false))))])
 .ret)
 .skip)))
 (.reg [.op (some 41) (.mv (.t 6)),
  .op (some 42) (.binI .add (.t 41) (.v (.lit (.int .i64 (1))))),
  .op (some 6) (.mv (.t 42))]))))))
 (.seq (.reg [.op (some 55) (.load 8 true (.t 2)),
  .op (some 56) (.faddr 7 (.t 2)),
  .op (some 57) (.load 1 false (.t 56)),
  .op (some 58) (.call (.v (.lit (.func (.func 14) #[] #[]))) [(.t 55), (.t 57)]),
  .op (some 7) (.alloc 34 [(.lit (.int .i64 (0))), (.lit (.int .i64 (0))), (.lit (.int .i64 (0))), (.lit (.int .i64 (0))), (.lit (.int .i64 (0))), (.lit (.int .i64 (0))), (.lit (.slice none 0 0)), (.lit (.slice none 0 0))]),
  .op none (.store 8 (.t 7) (.t 58))])
 (.seq (.reg [.op (some 59) (.faddr 7 (.t 7)),
  .op (some 60) (.load 1 false (.t 59)),
  .op (some 61) (.faddr 7 (.t 3)),
  .op (some 62) (.load 1 false (.t 61)),
  .op (some 63) (.append 32 53 4 32 (.t 60) (.t 62)),
  .op (some 64) (.faddr 7 (.t 7)),
  .op none (.store 1 (.t 64) (.t 63))])
 (.seq (.reg [.op (some 65) (.load 8 true (.t 7)),
  .op none (.store 8 (.t 4) (.t 65)),
  .op (some 5) (.mv (.v (.lit (.bool true))))])
 .ret))))))
def rs5 : List RR := [.cell 4 8 true, .tmp 5]
def cut5 : Nat → Nat := fun id => if id = 6 then 23 else 0
theorem k5 : (Try.f5.body.bind fun c => comp Try.prog Try.f5.ntmps cut5 c) = some r5 := by kernel_rfl
theorem by5 {W0 : World} {σ : List Blk} {args : List AV} {K : Cont} (hn : args.length ≤ 66) (h : rW Try.prog W0 σ.length r5 (initFr args) σ (finP W0 rs5 σ.length K)) : ACall Try.prog W0 5 args σ K :=
  ACall.introR mixed Try.func5 (by kernel_rfl) k5 (by kernel_rfl) hn h
def r6 : RC := (.seq (.reg [.op (some 1) (.box 28 (.t 0)),
  .op (some 2) (.alloc 34 [(.lit (.int .i64 (0))), (.lit (.int .i64 (0))), (.lit (.int .i64 (0))), (.lit (.int .i64 (0))), (.lit (.int .i64 (0))), (.lit (.int .i64 (0))), (.lit (.slice none 0 0)), (.lit (.slice none 0 0))])])
 (.seq (.reg [.op (some 3) (.alloc 34 [(.lit (.int .i64 (0))), (.lit (.int .i64 (0))), (.lit (.int .i64 (0))), (.lit (.int .i64 (0))), (.lit (.int .i64 (0))), (.lit (.int .i64 (0))), (.lit (.slice none 0 0)), (.lit (.slice none 0 0))])])
 (.seq (.reg [.op (some 4) (.faddr 0 (.t 1)),
  .op (some 5) (.load 6 true (.t 4)),
  .op (some 6) (.call (.v (.lit (.func (.func 15) #[] #[]))) [(.t 5)]),
  .op (some 7) (.faddr 0 (.t 3)),
  .op none (.store 6 (.t 7) (.t 6))])
 (.seq (.reg [.op (some 8) (.faddr 6 (.t 1)),
  .op (some 9) (.load 1 false (.t 8)),
  .op (some 10) (.call (.v (.lit (.func (.func 16) #[] #[]))) [(.t 9)]),
  .op (some 11) (.faddr 6 (.t 3)),
  .op none (.store 1 (.t 11) (.t 10))])
 (.seq (.reg [.op (some 12) (.faddr 7 (.t 1)),
  .op (some 13) (.load 1 false (.t 12)),
  .op (some 14) (.call (.v (.lit (.func (.func 17) #[] #[]))) [(.t 13)]),
  .op (some 15) (.faddr 7 (.t 3)),
  .op none (.store 1 (.t 15) (.t 14))])
 (.seq (.reg [.op (some 16) (.load 8 true (.t 3)),
  .op none (.store 8 (.t 2) (.t 16))])
 .ret))))))
def rs6 : List RR := [.cell 2 8 true]
def cut6 : Nat → Nat := fun id => 0
theorem k6 : (Try.f6.body.bind fun c => comp Try.prog Try.f6.ntmps cut6 c) = some r6 := by kernel_rfl
theorem by6 {W0 : World} {σ : List Blk} {args : List AV} {K : Cont} (hn : args.length ≤ 17) (h : rW Try.prog W0 σ.length r6 (initFr args) σ (finP W0 rs6 σ.length K)) : ACall Try.prog W0 6 args σ K :=
  ACall.introR mixed Try.func6 (by kernel_rfl) k6 (by kernel_rfl) hn h
def r7 : RC := (.seq (.reg [.op (some 2) (.box 34 (.t 0)),
  .op (some 3) (.box 34 (.t 1)),
  .op (some 4) (.alloc 34 [(.lit (.int .i64 (0))), (.lit (.int .i64 (0))), (.lit (.int .i64 (0))), (.lit (.int .i64 (0))), (.lit (.int .i64 (0))), (.lit (.int .i64 (0))), (.lit (.slice none 0 0)), (.lit (.slice none 0 0))]),
  .op (some 5) (.mv (.v (.lit (.bool false))))])
 (.seq (.seq (.reg [.op (some 6) (.load 8 true (.t 2)),
  .op (some 7) (.call (.v (.lit (.func (.func 18) #[] #[]))) [(.t 6)]),
  .op (some 8) (.un .not (.t 7)),
  .op (some 9) (.mv (.t 8)),
  .grp 9 false [((some 10), (.load 8 true (.t 3))), ((some 11), (.call (.v (.lit (.func (.func 18) #[] #[]))) [(.t 10)])), ((some 12), (.un .not (.t 11)))],
  .op (some 13) (.pick (.t 9) (.v (.lit (.bool true))) (.t 12)),
  .op (some 14) (.mv (.t 13)),
  .grp 14 false [((some 15), (.faddr 6 (.t 2))), ((some 16), (.load 1 false (.t 15))), ((some 17), (.faddr 6 (.t 3))), ((some 18), (.load 1 false (.t 17))), ((some 19), (.call (.v (.lit (.func (.func 19) #[] #[]))) [(.t 16), (.t 18)])), ((some 20), (.un .not (.t 19)))],
  .op (some 21) (.pick (.t 14) (.v (.lit (.bool true))) (.t 20)),
  .op (some 22) (.mv (.t 21)),
  .grp 22 false [((some 23), (.faddr 7 (.t 2))), ((some 24), (.load 1 false (.t 23))), ((some 25), (.lenL (.t 24))), ((some 26), (.faddr 7 (.t 3))), ((some 27), (.load 1 false (.t 26))), ((some 28), (.lenL (.t 27))), ((some 29), (.binI .add (.t 25) (.t 28))), ((some 30), (.binI .gtr (.t 29) (.v (.lit (.int .i64 (40))))))],
  .op (some 31) (.pick (.t 22) (.v (.lit (.bool true))) (.t 30))])
 (.cond (.t 31)
 (.seq (.reg [.op (some 32) (.build [(.lit (.int .i64 (0))), (.lit (.int .i64 (0))), (.lit (.int .i64 (0))), (.lit (.int .i64 (0))), (.lit (.int .i64 (0))), (.lit (.int .i64 (0))), (.lit (.slice none 0 0)), (.lit (.slice none 0 0))] []),
  .op none (.store 8 (.t 4) (.t 32)),
  .op (some 5) (.mv (.v (.lit (.bool false))))])
 .ret)
 .skip))
 (.seq (.any true (.h ⟨none, (some 33), (.load 8 true (.t 2))⟩
 (.n ⟨none, (some 34), (.faddr 7 (.t 2))⟩
 (.n ⟨none, (some 35), (.load 1 false (.t 34))⟩
 (.n ⟨none, (some 36), (.faddr 7 (.t 3))⟩
 (.n ⟨none, (some 37), (.load 1 false (.t 36))⟩
 (.t ⟨none, (some 38), (.bslice 32 1 2 [(.lit (.slice none 0 0))] [(0, (.t 35)), (1, (.t 37))])⟩
 (.t ⟨none, (some 39), (.call (.v (.lit (.func (.func 21) #[] #[]))) [(.t 38)])⟩
 (.t ⟨none, (some 40), (.call (.v (.lit (.func (.func 20) #[] #[]))) [(.t 33), (.t 39)])⟩
 (.t ⟨none, none, (.store 8 (.t 4) (.t 40))⟩
 (.n ⟨none, (some 5), (.mv (.v (.lit (.bool true))))⟩
 .fin)))))))))))
 .ret)))
def rs7 : List RR := [.cell 4 8 true, .tmp 5]
def cut7 : Nat → Nat := fun id => if id = 3 then 1000961 else 0
theorem k7 : (Try.f7.body.bind fun c => comp Try.prog Try.f7.ntmps cut7 c) = some r7 := by kernel_rfl
theorem by7 {W0 : World} {σ : List Blk} {args : List AV} {K : Cont} (hn : args.length ≤ 41) (h : rW Try.prog W0 σ.length r7 (initFr args) σ (finP W0 rs7 σ.length K)) : ACall Try.prog W0 7 args σ K :=
  ACall.introR mixed Try.func7 (by kernel_rfl) k7 (by kernel_rfl) hn h
def r8 : RC := (.seq (.reg [.op (some 2) (.box 34 (.t 0)),
  .op (some 3) (.box 34 (.t 1)),
  .op (some 4) (.mv (.v (.lit (.bool false))))])
 (.seq (.seq (.reg [.op (some 5) (.faddr 0 (.t 2)),
  .op (some 6) (.load 6 true (.t 5)),
  .op (some 7) (.faddr 0 (.t 3)),
  .op (some 8) (.load 6 true (.t 7)),
  .op (some 9) (.call (.v (.lit (.func (.func 22) #[] #[]))) [(.t 6), (.t 8)]),
  .op (some 10) (.un .not (.t 9))])
 (.cond (.t 10)
 (.seq (.reg [.op (some 4) (.mv (.v (.lit (.bool false))))])
 .ret)
 .skip))
 (.seq (.seq (.reg [.op (some 11) (.faddr 6 (.t 2)),
  .op (some 12) (.load 1 false (.t 11)),
  .op (some 13) (.faddr 6 (.t 3)),
  .op (some 14) (.load 1 false (.t 13)),
  .op (some 15) (.call (.v (.lit (.func (.func 23) #[] #[]))) [(.t 12), (.t 14)]),
  .op (some 16) (.un .not (.t 15))])
 (.cond (.t 16)
 (.seq (.reg [.op (some 4) (.mv (.v (.lit (.bool false))))])
 .ret)
 .skip))
 (.seq (.seq (.reg [.op (some 17) (.faddr 7 (.t 2)),
  .op (some 18) (.load 1 false (.t 17)),
  .op (some 19) (.faddr 7 (.t 3)),
  .op (some 20) (.load 1 false (.t 19)),
  .op (some 21) (.call (.v (.lit (.func (.func 24) #[] #[]))) [(.t 18), (.t 20)]),
  .op (some 22) (.un .not (.t 21))])
 (.cond (.t 22)
 (.seq (.reg [.op (some 4) (.mv (.v (.lit (.bool false))))])
 .ret)
 .skip))
 (.seq (.reg [.op (some 4) (.mv (.v (.lit (.bool true))))])
 .ret)))))
def rs8 : List RR := [.tmp 4]
def cut8 : Nat → Nat := fun id => 0
theorem k8 : (Try.f8.body.bind fun c => comp Try.prog Try.f8.ntmps cut8 c) = some r8 := by kernel_rfl
theorem by8 {W0 : World} {σ : List Blk} {args : List AV} {K : Cont} (hn : args.length ≤ 23) (h : rW Try.prog W0 σ.length r8 (initFr args) σ (finP W0 rs8 σ.length K)) : ACall Try.prog W0 8 args σ K :=
  ACall.introR mixed Try.func8 (by kernel_rfl) k8 (by kernel_rfl) hn h
def r9 : RC := (.seq (.reg [.op (some 2) (.box 34 (.t 0)),
  .op (some 4) (.mv (.v (.lit (.int .i64 (0)))))])
 (.seq (.reg [.op (some 5) (.faddr 6 (.t 2)),
  .op (some 6) (.load 1 false (.t 5)),
  .op (some 7) (.mv (.t 1)),
  .op (some 8) (.call (.v (.lit (.func (.func 25) #[] #[]))) [(.t 6), (.t 7)]),
  .op (some 1) (.mv (.t 8))])
 (.seq (.reg [.op (some 9) (.faddr 7 (.t 2)),
  .op (some 10) (.load 1 false (.t 9)),
  .op (some 11) (.mv (.t 1)),
  .op (some 12) (.call (.v (.lit (.func (.func 26) #[] #[]))) [(.t 10), (.t 11)]),
  .op (some 1) (.mv (.t 12))])
 (.seq (.reg [.op (some 13) (.mv (.t 1)),
  .op (some 4) (.mv (.t 13))])
 .ret))))
def rs9 : List RR := [.tmp 4]
def cut9 : Nat → Nat := fun id => 0
theorem k9 : (Try.f9.body.bind fun c => comp Try.prog Try.f9.ntmps cut9 c) = some r9 := by kernel_rfl
theorem by9 {W0 : World} {σ : List Blk} {args : List AV} {K : Cont} (hn : args.length ≤ 14) (h : rW Try.prog W0 σ.length r9 (initFr args) σ (finP W0 rs9 σ.length K)) : ACall Try.prog W0 9 args σ K :=
  ACall.introR mixed Try.func9 (by kernel_rfl) k9 (by kernel_rfl) hn h
def r10 : RC := (.seq (.reg [.op (some 2) (.box 34 (.t 0)),
  .op (some 4) (.mv (.v (.lit (.int .i64 (0)))))])
 (.seq (.reg [.op (some 5) (.faddr 6 (.t 2)),
  .op (some 6) (.load 1 false (.t 5)),
  .op (some 7) (.mv (.t 1)),
  .op (some 8) (.call (.v (.lit (.func (.func 27) #[] #[]))) [(.t 6), (.t 7)]),
  .op (some 1) (.mv (.t 8))])
 (.seq (.seq (.reg [.op (some 9) (.mv (.t 1)),
  .op (some 10) (.binI .lss (.t 9) (.v (.lit (.int .i64 (0)))))])
 (.cond (.t 10)
 (.seq (.reg [.op (some 4) (.mv (.v (.lit (.int .i64 (-1)))))])
 .ret)
 .skip))
 (.seq (.reg [.op (some 11) (.faddr 7 (.t 2)),
  .op (some 12) (.load 1 false (.t 11)),
  .op (some 13) (.mv (.t 1)),
  .op (some 14) (.call (.v (.lit (.func (.func 28) #[] #[]))) [(.t 12), (.t 13)]),
  .op (some 1) (.mv (.t 14))])
 (.seq (.seq (.reg [.op (some 15) (.mv (.t 1)),
  .op (some 16) (.binI .lss (.t 15) (.v (.lit (.int .i64 (0)))))])
 (.cond (.t 16)
 (.seq (.reg [.op (some 4) (.mv (.v (.lit (.int .i64 (-1)))))])
 .ret)
 .skip))
 (.seq (.reg [.op (some 17) (.mv (.t 1)),
  .op (some 4) (.mv (.t 17))])
 .ret))))))
def rs10 : List RR := [.tmp 4]
def cut10 : Nat → Nat := fun id => 0
theorem k10 : (Try.f10.body.bind fun c => comp Try.prog Try.f10.ntmps cut10 c) = some r10 := by kernel_rfl
theorem by10 {W0 : World} {σ : List Blk} {args : List AV} {K : Cont} (hn : args.length ≤ 18) (h : rW Try.prog W0 σ.length r10 (initFr args) σ (finP W0 rs10 σ.length K)) : ACall Try.prog W0 10 args σ K :=
  ACall.introR mixed Try.func10 (by kernel_rfl) k10 (by kernel_rfl) hn h
def r11 : RC := (.seq (.reg [.op (some 4) (.mv (.v (.lit (.int .i64 (0)))))])
 (.seq (.reg [.op (some 5) (.mv (.t 1)),
  .op (some 6) (.mv (.t 0)),
  .op (some 7) (.lenL (.t 6)),
  .op (some 8) (.binI .sub (.t 5) (.t 7)),
  .op (some 1) (.mv (.t 8))])
 (.seq (.seq (.reg [.op (some 9) (.mv (.t 1)),
  .op (some 10) (.binI .lss (.t 9) (.v (.lit (.int .i64 (0)))))])
 (.cond (.t 10)
 (.seq (.reg [.op (some 4) (.mv (.v (.lit (.int .i64 (-1)))))])
 .ret)
 .skip))
 (.seq (.reg [.op (some 11) (.mv (.t 1)),
  .op (some 4) (.mv (.t 11))])
 .ret))))
def rs11 : List RR := [.tmp 4]
def cut11 : Nat → Nat := fun id => 0
theorem k11 : (Try.f11.body.bind fun c => comp Try.prog Try.f11.ntmps cut11 c) = some r11 := by kernel_rfl
theorem by11 {W0 : World} {σ : List Blk} {args : List AV} {K : Cont} (hn : args.length ≤ 12) (h : rW Try.prog W0 σ.length r11 (initFr args) σ (finP W0 rs11 σ.length K)) : ACall Try.prog W0 11 args σ K :=
  ACall.introR mixed Try.func11 (by kernel_rfl) k11 (by kernel_rfl) hn h
def r12 : RC := (.seq (.reg [.op (some 4) (.mv (.v (.lit (.int .i64 (0)))))])
 (.seq (.reg [.op (some 5) (.mv (.t 1)),
  .op (some 6) (.mv (.t 0)),
  .op (some 7) (.lenL (.t 6)),
  .op (some 8) (.binI .sub (.t 5) (.t 7)),
  .op (some 1) (.mv (.t 8))])
 (.seq (.seq (.reg [.op (some 9) (.mv (.t 1)),
  .op (some 10) (.binI .lss (.t 9) (.v (.lit (.int .i64 (0)))))])
 (.cond (.t 10)
 (.seq (.reg [.op (some 4) (.mv (.v (.lit (.int .i64 (-1)))))])
 .ret)
 .skip))
 (.seq (.reg [.op (some 11) (.mv (.t 1)),
  .op (some 4) (.mv (.t 11))])
 .ret))))
def rs12 : List RR := [.tmp 4]
def cut12 : Nat → Nat := fun id => 0
theorem k12 : (Try.f12.body.bind fun c => comp Try.prog Try.f12.ntmps cut12 c) = some r12 := by kernel_rfl
theorem by12 {W0 : World} {σ : List Blk} {args : List AV} {K : Cont} (hn : args.length ≤ 12) (h : rW Try.prog W0 σ.length r12 (initFr args) σ (finP W0 rs12 σ.length K)) : ACall Try.prog W0 12 args σ K :=
  ACall.introR mixed Try.func12 (by kernel_rfl) k12 (by kernel_rfl) hn h
def r13 : RC := (.seq (.reg [.op (some 1) (.box 34 (.t 0)),
  .op (some 2) (.mv (.v (.lit (.bool false))))])
 (.seq (.seq (.reg [.op (some 5) (.faddr 0 (.t 1)),
  .op (some 6) (.load 6 true (.t 5)),
  .op (some 7) (.call (.v (.lit (.func (.func 29) #[] #[]))) [(.t 6)]),
  .op (some 8) (.un .not (.t 7)),
  .op (some 9) (.mv (.t 8)),
  .grp 9 false [((some 10), (.faddr 6 (.t 1))), ((some 11), (.load 1 false (.t 10))), ((some 12), (.lenL (.t 11))), ((some 13), (.binI .gtr (.t 12) (.v (.lit (.int .i64 (4))))))],
  .op (some 14) (.pick (.t 9) (.v (.lit (.bool true))) (.t 13)),
  .op (some 15) (.mv (.t 14)),
  .grp 15 false [((some 16), (.faddr 7 (.t 1))), ((some 17), (.load 1 false (.t 16))), ((some 18), (.lenL (.t 17))), ((some 19), (.binI .gtr (.t 18) (.v (.lit (.int .i64 (40))))))],
  .op (some 20) (.pick (.t 15) (.v (.lit (.bool true))) (.t 19))])
 (.cond (.t 20)
 (.seq (.reg [.op (some 2) (.mv (.v (.lit (.bool false))))])
 .ret)
 .skip))
 (.seq (.seq (.reg [.op (some 3) (.mv (.v (.lit (.int .i64 (0)))))])
 (.block 0 (.loop (.seq (.seq (.reg [.op (some 21) (.mv (.t 3)),
  .op (some 22) (.faddr 6 (.t 1)),
  .op (some 23) (.load 1 false (.t 22)),
  .op (some 24) (.lenL (.t 23)),
  .op (some 25) (.binI .lss (.t 21) (.t 24))])
 (.cond (.t 25)
 .skip
 (.exit 0)))
 (.seq (.block 1 (.seq (.reg [.op (some 28) (.faddr 6 (.t 1)),
  .op (some 29) (.load 1 false (.t 28)),
  .op (some 30) (.mv (.t 3)),
  .op (some 31) (.iaddrS 6 (.t 29) (.t 30)),
  .op (some 32) (.load 6 true (.t 31)),
  .op (some 33) (.call (.v (.lit (.func (.func 29) #[] #[]))) [(.t 32)]),
  .op (some 34) (.un .not (.t 33))])
 (.cond (.t 34)
 (.seq (.reg [.op (some 2) (.mv (.v (.lit (.bool false))))])
 .ret)
 .skip)))
 (.reg [.op (some 26) (.mv (.t 3)),
  .op (some 27) (.binI .add (.t 26) (.v (.lit (.int .i64 (1))))),
  .op (some 3) (.mv (.t 27))]))))))
 (.seq (.seq (.reg [.op (some 4) (.mv (.v (.lit (.int .i64 (0)))))])
 (.block 2 (.loop (.seq (.seq (.reg [.op (some 35) (.mv (.t 4)),
  .op (some 36) (.faddr 7 (.t 1)),
  .op (some 37) (.load 1 false (.t 36)),
  .op (some 38) (.lenL (.t 37)),
  .op (some 39) (.binI .lss (.t 35) (.t 38))])
 (.cond (.t 39)
 .skip
 (.exit 2)))
 (.seq (.block 3 (.seq (.draw [((some 42), (.faddr 7 (.t 1))), ((some 43), (.load 1 false (.t 42))), ((some 44), (.mv (.t 4))), ((some 45), (.iaddrS 4 (.t 43) (.t 44))), ((some 46), (.load 4 true (.t 45))), ((some 47), (.faddr 6 (.t 1))), ((some 48), (.load 1 false (.t 47))), ((some 49), (.lenL (.t 48))), ((some 50), (.call (.v (.lit (.func (.func 30) #[] #[]))) [(.t 46), (.t 49)])), ((some 51), (.un .not (.t 50)))] [])
 (.cond (.t 51)
 (.seq (.reg [.op (some 2) (.mv (.v (.lit (.bool false))))])
 .ret)
 .skip)))
 (.reg [.op (some 40) (.mv (.t 4)),
  .op (some 41) (.binI .add (.t 40) (.v (.lit (.int .i64 (1))))),
  .op (some 4) (.mv (.t 41))]))))))
 (.seq (.reg [.op (some 2) (.mv (.v (.lit (.bool true))))])
 .ret)))))
def rs13 : List RR := [.tmp 2]
def cut13 : Nat → Nat := fun id => if id = 11 then 21 else 0
theorem k13 : (Try.f13.body.bind fun c => comp Try.prog Try.f13.ntmps cut13 c) = some r13 := by kernel_rfl
theorem by13 {W0 : World} {σ : List Blk} {args : List AV} {K : Cont} (hn : args.length ≤ 52) (h : rW Try.prog W0 σ.length r13 (initFr args) σ (finP W0 rs13 σ.length K)) : ACall Try.prog W0 13 args σ K :=
  ACall.introR mixed Try.func13 (by kernel_rfl) k13 (by kernel_rfl) hn h
def r14 : RC := (.seq (.reg [.op (some 2) (.box 34 (.t 0)),
  .op (some 4) (.alloc 34 [(.lit (.int .i64 (0))), (.lit (.int .i64 (0))), (.lit (.int .i64 (0))), (.lit (.int .i64 (0))), (.lit (.int .i64 (0))), (.lit (.int .i64 (0))), (.lit (.slice none 0 0)), (.lit (.slice none 0 0))])])
 (.seq (.any true (.h ⟨none, (some 5), (.faddr 0 (.t 2))⟩
 (.h ⟨none, (some 6), (.load 6 true (.t 5))⟩
 (.h ⟨none, (some 8), (.faddr 6 (.t 2))⟩
 (.h ⟨none, (some 9), (.load 1 false (.t 8))⟩
 (.n ⟨none, (some 12), (.mv (.t 1))⟩
 (.both (.t ⟨none, (some 7), (.bslice 30 6 0 (List.replicate 6 (.lit (.int .i64 (0)))) [])⟩
 (.both (.t ⟨none, (some 10), (.append 31 30 6 48 (.t 7) (.t 9))⟩
 (.t ⟨none, (some 11), (.bslice 53 4 0 (List.replicate 4 (.lit (.int .i64 (0)))) [])⟩
 (.t ⟨none, (some 13), (.append 32 53 4 32 (.t 11) (.t 12))⟩
 (.n ⟨none, (some 14), (.build [(.lit (.int .i64 (0))), (.lit (.int .i64 (0))), (.lit (.int .i64 (0))), (.lit (.int .i64 (0))), (.lit (.int .i64 (0))), (.lit (.int .i64 (0))), (.lit (.slice none 0 0)), (.lit (.slice none 0 0))] [((0, 6), (.t 6)), ((6, 1), (.t 10)), ((7, 1), (.t 13))])⟩
 (.t ⟨none, none, (.store 8 (.t 4) (.t 14))⟩
 .fin)))))
 (.t ⟨none, (some 11), (.bslice 53 4 0 (List.replicate 4 (.lit (.int .i64 (0)))) [])⟩
 (.t ⟨none, (some 10), (.append 31 30 6 48 (.t 7) (.t 9))⟩
 (.t ⟨none, (some 13), (.append 32 53 4 32 (.t 11) (.t 12))⟩
 (.n ⟨none, (some 14), (.build [(.lit (.int .i64 (0))), (.lit (.int .i64 (0))), (.lit (.int .i64 (0))), (.lit (.int .i64 (0))), (.lit (.int .i64 (0))), (.lit (.int .i64 (0))), (.lit (.slice none 0 0)), (.lit (.slice none 0 0))] [((0, 6), (.t 6)), ((6, 1), (.t 10)), ((7, 1), (.t 13))])⟩
 (.t ⟨none, none, (.store 8 (.t 4) (.t 14))⟩
 .fin)))))))
 (.t ⟨none, (some 11), (.bslice 53 4 0 (List.replicate 4 (.lit (.int .i64 (0)))) [])⟩
 (.t ⟨none, (some 7), (.bslice 30 6 0 (List.replicate 6 (.lit (.int .i64 (0)))) [])⟩
 (.t ⟨none, (some 10), (.append 31 30 6 48 (.t 7) (.t 9))⟩
 (.t ⟨none, (some 13), (.append 32 53 4 32 (.t 11) (.t 12))⟩
 (.n ⟨none, (some 14), (.build [(.lit (.int .i64 (0))), (.lit (.int .i64 (0))), (.lit (.int .i64 (0))), (.lit (.int .i64 (0))), (.lit (.int .i64 (0))), (.lit (.int .i64 (0))), (.lit (.slice none 0 0)), (.lit (.slice none 0 0))] [((0, 6), (.t 6)), ((6, 1), (.t 10)), ((7, 1), (.t 13))])⟩
 (.t ⟨none, none, (.store 8 (.t 4) (.t 14))⟩
 .fin)))))))))))))
 .ret))
def rs14 : List RR := [.cell 4 8 true]
def cut14 : Nat → Nat := fun id => if id = 1 then 1002761 else 0
theorem k14 : (Try.f14.body.bind fun c => comp Try.prog Try.f14.ntmps cut14 c) = some r14 := by kernel_rfl
theorem by14 {W0 : World} {σ : List Blk} {args : List AV} {K : Cont} (hn : args.length ≤ 15) (h : rW Try.prog W0 σ.length r14 (initFr args) σ (finP W0 rs14 σ.length K)) : ACall Try.prog W0 14 args σ K :=
  ACall.introR mixed Try.func14 (by kernel_rfl) k14 (by kernel_rfl) hn h
def r15 : RC := (.seq (.reg [.op (some 1) (.box 24 (.t 0)),
  .op (some 2) (.alloc 30 (List.replicate 6 (.lit (.int .i64 (0)))))])
 (.seq (.reg [.op (some 3) (.alloc 30 (List.replicate 6 (.lit (.int .i64 (0)))))])
 (.seq (.reg [.op (some 4) (.faddr 0 (.t 1)),
  .op (some 5) (.load 6 true (.t 4)),
  .op (some 6) (.call (.v (.lit (.func (.func 31) #[] #[]))) [(.t 5)]),
  .op (some 7) (.faddr 0 (.t 3)),
  .op none (.store 6 (.t 7) (.t 6))])
 (.seq (.reg [.op (some 8) (.load 6 true (.t 3)),
  .op none (.store 6 (.t 2) (.t 8))])
 .ret))))
def rs15 : List RR := [.cell 2 6 true]
def cut15 : Nat → Nat := fun id => 0
theorem k15 : (Try.f15.body.bind fun c => comp Try.prog Try.f15.ntmps cut15 c) = some r15 := by kernel_rfl
theorem by15 {W0 : World} {σ : List Blk} {args : List AV} {K : Cont} (hn : args.length ≤ 9) (h : rW Try.prog W0 σ.length r15 (initFr args) σ (finP W0 rs15 σ.length K)) : ACall Try.prog W0 15 args σ K :=
  ACall.introR mixed Try.func15 (by kernel_rfl) k15 (by kernel_rfl) hn h
def r16 : RC := (.seq (.reg [.op (some 2) (.mv (.v (.lit (.slice none 0 0))))])
 (.seq (.reg [.op (some 5) (.mv (.t 0)),
  .op (some 6) (.lenL (.t 5)),
  .op (some 7) (.mkslice 30 6 48 (List.replicate 6 (.lit (.int .i64 (0)))) (.t 6) (.t 6)),
  .op (some 3) (.mv (.t 7))])
 (.seq (.seq (.reg [.op (some 4) (.mv (.v (.lit (.int .i64 (0)))))])
 (.block 0 (.loop (.seq (.seq (.reg [.op (some 8) (.mv (.t 4)),
  .op (some 9) (.mv (.t 0)),
  .op (some 10) (.lenL (.t 9)),
  .op (some 11) (.binI .lss (.t 8) (.t 10))])
 (.cond (.t 11)
 .skip
 (.exit 0)))
 (.seq (.block 1 (.reg [.op (some 14) (.mv (.t 3)),
  .op (some 15) (.mv (.t 4)),
  .op (some 16) (.mv (.t 0)),
  .op (some 17) (.mv (.t 4)),
  .op (some 18) (.iaddrS 6 (.t 16) (.t 17)),
  .op (some 19) (.load 6 true (.t 18)),
  .op (some 20) (.call (.v (.lit (.func (.func 15) #[] #[]))) [(.t 19)]),
  .op (some 21) (.iaddrS 6 (.t 14) (.t 15)),
  .op none (.store 6 (.t 21) (.t 20))]))
 (.reg [.op (some 12) (.mv (.t 4)),
  .op (some 13) (.binI .add (.t 12) (.v (.lit (.int .i64 (1))))),
  .op (some 4) (.mv (.t 13))]))))))
 (.seq (.reg [.op (some 22) (.mv (.t 3)),
  .op (some 2) (.mv (.t 22))])
 .ret))))
def rs16 : List RR := [.tmp 2]
def cut16 : Nat → Nat := fun id => 0
theorem k16 : (Try.f16.body.bind fun c => comp Try.prog Try.f16.ntmps cut16 c) = some r16 := by kernel_rfl
theorem by16 {W0 : World} {σ : List Blk} {args : List AV} {K : Cont} (hn : args.length ≤ 23) (h : rW Try.prog W0 σ.length r16 (initFr args) σ (finP W0 rs16 σ.length K)) : ACall Try.prog W0 16 args σ K :=
  ACall.introR mixed Try.func16 (by kernel_rfl) k16 (by kernel_rfl) hn h
def r17 : RC := (.seq (.reg [.op (some 2) (.mv (.v (.lit (.slice none 0 0))))])
 (.seq (.reg [.op (some 5) (.mv (.t 0)),
  .op (some 6) (.lenL (.t 5)),
  .op (some 7) (.mkslice 53 4 32 (List.replicate 4 (.lit (.int .i64 (0)))) (.t 6) (.t 6)),
  .op (some 3) (.mv (.t 7))])
 (.seq (.seq (.reg [.op (some 4) (.mv (.v (.lit (.int .i64 (0)))))])
 (.block 0 (.loop (.seq (.seq (.reg [.op (some 8) (.mv (.t 4)),
  .op (some 9) (.mv (.t 0)),
  .op (some 10) (.lenL (.t 9)),
  .op (some 11) (.binI .lss (.t 8) (.t 10))])
 (.cond (.t 11)
 .skip
 (.exit 0)))
 (.seq (.block 1 (.reg [.op (some 14) (.mv (.t 3)),
  .op (some 15) (.mv (.t 4)),
  .op (some 16) (.mv (.t 0)),
  .op (some 17) (.mv (.t 4)),
  .op (some 18) (.iaddrS 4 (.t 16) (.t 17)),
  .op (some 19) (.load 4 true (.t 18)),
  .op (some 20) (.call (.v (.lit (.func (.func 32) #[] #[]))) [(.t 19)]),
  .op (some 21) (.iaddrS 4 (.t 14) (.t 15)),
  .op none (.store 4 (.t 21) (.t 20))]))
 (.reg [.op (some 12) (.mv (.t 4)),
  .op (some 13) (.binI .add (.t 12) (.v (.lit (.int .i64 (1))))),
  .op (some 4) (.mv (.t 13))]))))))
 (.seq (.reg [.op (some 22) (.mv (.t 3)),
  .op (some 2) (.mv (.t 22))])
 .ret))))
def rs17 : List RR := [.tmp 2]
def cut17 : Nat → Nat := fun id => 0
theorem k17 : (Try.f17.body.bind fun c => comp Try.prog Try.f17.ntmps cut17 c) = some r17 := by kernel_rfl
theorem by17 {W0 : World} {σ : List Blk} {args : List AV} {K : Cont} (hn : args.length ≤ 23) (h : rW Try.prog W0 σ.length r17 (initFr args) σ (finP W0 rs17 σ.length K)) : ACall Try.prog W0 17 args σ K :=
  ACall.introR mixed Try.func17 (by kernel_rfl) k17 (by kernel_rfl) hn h
def r18 : RC := (.seq (.reg [.op (some 1) (.box 34 (.t 0)),
  .op (some 2) (.mv (.v (.lit (.bool false))))])
 (.seq (.reg [.op (some 6) (.load 8 true (.t 1)),
  .op (some 7) (.call (.v (.lit (.func (.func 33) #[] #[]))) [(.t 6)]),
  .op (some 5) (.mv (.t 7)),
  .op (some 8) (.ext (.t 5) 0),
  .op (some 9) (.ext (.t 5) 1),
  .op (some 3) (.mv (.t 8)),
  .op (some 4) (.mv (.t 9))])
 (.seq (.reg [.op (some 10) (.mv (.t 4)),
  .op (some 2) (.mv (.t 10))])
 .ret)))
def rs18 : List RR := [.tmp 2]
def cut18 : Nat → Nat := fun id => 0
theorem k18 : (Try.f18.body.bind fun c => comp Try.prog Try.f18.ntmps cut18 c) = some r18 := by kernel_rfl
theorem by18 {W0 : World} {σ : List Blk} {args : List AV} {K : Cont} (hn : args.length ≤ 11) (h : rW Try.prog W0 σ.length r18 (initFr args) σ (finP W0 rs18 σ.length K)) : ACall Try.prog W0 18 args σ K :=
  ACall.introR mixed Try.func18 (by kernel_rfl) k18 (by kernel_rfl) hn h
def r19 : RC := (.seq (.reg [.op (some 4) (.mv (.v (.lit (.bool false))))])
 (.seq (.seq (.reg [.op (some 6) (.mv (.t 0)),
  .op (some 7) (.lenL (.t 6)),
  .op (some 8) (.mv (.t 1)),
  .op (some 9) (.lenL (.t 8)),
  .op (some 10) (.binI .neq (.t 7) (.t 9))])
 (.cond (.t 10)
 (.seq (.reg [.op (some 4) (.mv (.v (.lit (.bool false))))])
 .ret)
 .skip))
 (.seq (.seq (.reg [.op (some 11) (.mv (.t 0)),
  .op (some 12) (.lenL (.t 11)),
  .op (some 13) (.mv (.v (.lit (.int .i64 (0)))))])
 (.block 0 (.loop (.seq (.reg [.op (some 14) (.binI .lss (.t 13) (.t 12))])
 (.seq (.cond (.t 14)
 .skip
 (.exit 0))
 (.seq (.block 1 (.seq (.reg [.op (some 15) (.mv (.t 13)),
  .op (some 5) (.mv (.t 15))])
 (.seq (.draw [((some 16), (.mv (.t 0))), ((some 17), (.mv (.t 5))), ((some 18), (.iaddrS 6 (.t 16) (.t 17))), ((some 19), (.load 6 true (.t 18))), ((some 20), (.mv (.t 1))), ((some 21), (.mv (.t 5))), ((some 22), (.iaddrS 6 (.t 20) (.t 21))), ((some 23), (.load 6 true (.t 22))), ((some 24), (.eqA true [.int, .int, .int, .int, .int, .int] (.t 19) (.t 23)))] [])
 (.cond (.t 24)
 (.seq (.reg [.op (some 4) (.mv (.v (.lit (.bool false))))])
 .ret)
 .skip))))
 (.reg [.op (some 25) (.binI .add (.t 13) (.v (.lit (.int .i64 (1))))),
  .op (some 13) (.mv (.t 25))])))))))
 (.seq (.reg [.op (some 4) (.mv (.v (.lit (.bool true))))])
 .ret))))
def rs19 : List RR := [.tmp 4]
def cut19 : Nat → Nat := fun id => if id = 6 then 19 else 0
theorem k19 : (Try.f19.body.bind fun c => comp Try.prog Try.f19.ntmps cut19 c) = some r19 := by kernel_rfl
theorem by19 {W0 : World} {σ : List Blk} {args : List AV} {K : Cont} (hn : args.length ≤ 26) (h : rW Try.prog W0 σ.length r19 (initFr args) σ (finP W0 rs19 σ.length K)) : ACall Try.prog W0 19 args σ K :=
  ACall.introR mixed Try.func19 (by kernel_rfl) k19 (by kernel_rfl) hn h
def r20 : RC := (.seq (.reg [.op (some 2) (.box 34 (.t 0)),
  .op (some 4) (.alloc 34 [(.lit (.int .i64 (0))), (.lit (.int .i64 (0))), (.lit (.int .i64 (0))), (.lit (.int .i64 (0))), (.lit (.int .i64 (0))), (.lit (.int .i64 (0))), (.lit (.slice none 0 0)), (.lit (.slice none 0 0))])])
 (.seq (.any true (.h ⟨none, (some 5), (.faddr 0 (.t 2))⟩
 (.h ⟨none, (some 6), (.load 6 true (.t 5))⟩
 (.n ⟨none, (some 7), (.faddr 6 (.t 2))⟩
 (.n ⟨none, (some 8), (.load 1 false (.t 7))⟩
 (.n ⟨none, (some 10), (.mv (.t 1))⟩
 (.t ⟨none, (some 9), (.call (.v (.lit (.func (.func 34) #[] #[]))) [(.t 8)])⟩
 (.t ⟨none, (some 11), (.call (.v (.lit (.func (.func 35) #[] #[]))) [(.t 10)])⟩
 (.n ⟨none, (some 12), (.build [(.lit (.int .i64 (0))), (.lit (.int .i64 (0))), (.lit (.int .i64 (0))), (.lit (.int .i64 (0))), (.lit (.int .i64 (0))), (.lit (.int .i64 (0))), (.lit (.slice none 0 0)), (.lit (.slice none 0 0))] [((0, 6), (.t 6)), ((6, 1), (.t 9)), ((7, 1), (.t 11))])⟩
 (.t ⟨none, none, (.store 8 (.t 4) (.t 12))⟩
 .fin))))))))))
 .ret))
def rs20 : List RR := [.cell 4 8 true]
def cut20 : Nat → Nat := fun id => if id = 1 then 1000673 else 0
theorem k20 : (Try.f20.body.bind fun c => comp Try.prog Try.f20.ntmps cut20 c) = some r20 := by kernel_rfl
theorem by20 {W0 : World} {σ : List Blk} {args : List AV} {K : Cont} (hn : args.length ≤ 13) (h : rW Try.prog W0 σ.length r20 (initFr args) σ (finP W0 rs20 σ.length K)) : ACall Try.prog W0 20 args σ K :=
  ACall.introR mixed Try.func20 (by kernel_rfl) k20 (by kernel_rfl) hn h
def r21 : RC := (.seq (.reg [.op (some 2) (.mv (.v (.lit (.slice none 0 0))))])
 (.seq (.reg [.op (some 3) (.mv (.v (.lit (.int .i64 (0)))))])
 (.seq (.seq (.reg [.op (some 9) (.mv (.t 0)),
  .op (some 10) (.lenL (.t 9)),
  .op (some 11) (.mv (.v (.lit (.int .i64 (0)))))])
 (.block 0 (.loop (.seq (.reg [.op (some 12) (.binI .lss (.t 11) (.t 10))])
 (.seq (.cond (.t 12)
 .skip
 (.exit 0))
 (.seq (.block 1 (.seq (.reg [.op (some 13) (.iaddrS 1 (.t 9) (.t 11)),
  .op (some 14) (.load 1 false (.t 13)),
  .op (some 5) (.mv (.t 14))])
 (.seq (.reg [.op (some 15) (.mv (.t 3)),
  .op (some 16) (.mv (.t 5)),
  .op (some 17) (.lenL (.t 16)),
  .op (some 18) (.binI .add (.t 15) (.t 17)),
  .op (some 3) (.mv (.t 18))])
 (.seq (.reg [.op (some 19) (.mv (.t 3)),
  .op (some 20) (.binI .lss (.t 19) (.v (.lit (.int .i64 (0)))))])
 (.cond (.t 20)
 .dead
 .skip)))))
 (.reg [.op (some 22) (.binI .add (.t 11) (.v (.lit (.int .i64 (1))))),
  .op (some 11) (.mv (.t 22))])))))))
 (.seq (.reg [.op (some 23) (.mv (.t 3)),
  .op (some 24) (.call (.v (.lit (.func (.func 36) #[] #[]))) [(.v (.lit (.slice none 0 0))), (.t 23)]),
  .op (some 6) (.mv (.t 24))])
 (.seq (.seq (.reg [.op (some 25) (.mv (.t 0)),
  .op (some 26) (.lenL (.t 25)),
  .op (some 27) (.mv (.v (.lit (.int .i64 (0)))))])
 (.block 2 (.loop (.seq (.reg [.op (some 28) (.binI .lss (.t 27) (.t 26))])
 (.seq (.cond (.t 28)
 .skip
 (.exit 2))
 (.seq (.block 3 (.seq (.reg [.op (some 29) (.iaddrS 1 (.t 25) (.t 27)),
  .op (some 30) (.load 1 false (.t 29)),
  .op (some 8) (.mv (.t 30))])
 (.reg [.op (some 31) (.mv (.t 6)),
  .op (some 32) (.mv (.t 8)),
  .op (some 33) (.append 32 53 4 32 (.t 31) (.t 32)),
  .op (some 6) (.mv (.t 33))])))
 (.reg [.op (some 34) (.binI .add (.t 27) (.v (.lit (.int .i64 (1))))),
  .op (some 27) (.mv (.t 34))])))))))
 (.seq (.reg [.op (some 35) (.mv (.t 6)),
  .op (some 2) (.mv (.t 35))])
 .ret))))))
def rs21 : List RR := [.tmp 2]
def cut21 : Nat → Nat := fun id => 0
theorem k21 : (Try.f21.body.bind fun c => comp Try.prog Try.f21.ntmps cut21 c) = some r21 := by kernel_rfl
theorem by21 {W0 : World} {σ : List Blk} {args : List AV} {K : Cont} (hn : args.length ≤ 36) (h : rW Try.prog W0 σ.length r21 (initFr args) σ (finP W0 rs21 σ.length K)) : ACall Try.prog W0 21 args σ K :=
  ACall.introR mixed Try.func21 (by kernel_rfl) k21 (by kernel_rfl) hn h
def r22 : RC := (.seq (.reg [.op (some 2) (.box 30 (.t 0)),
  .op (some 3) (.box 30 (.t 1)),
  .op (some 4) (.mv (.v (.lit (.bool false))))])
 (.seq (.seq (.reg [.op (some 5) (.faddr 0 (.t 2)),
  .op (some 6) (.load 6 true (.t 5)),
  .op (some 7) (.faddr 0 (.t 3)),
  .op (some 8) (.load 6 true (.t 7)),
  .op (some 9) (.call (.v (.lit (.func (.func 37) #[] #[]))) [(.t 6), (.t 8)]),
  .op (some 10) (.un .not (.t 9))])
 (.cond (.t 10)
 (.seq (.reg [.op (some 4) (.mv (.v (.lit (.bool false))))])
 .ret)
 .skip))
 (.seq (.reg [.op (some 4) (.mv (.v (.lit (.bool true))))])
 .ret)))
def rs22 : List RR := [.tmp 4]
def cut22 : Nat → Nat := fun id => 0
theorem k22 : (Try.f22.body.bind fun c => comp Try.prog Try.f22.ntmps cut22 c) = some r22 := by kernel_rfl
theorem by22 {W0 : World} {σ : List Blk} {args : List AV} {K : Cont} (hn : args.length ≤ 11) (h : rW Try.prog W0 σ.length r22 (initFr args) σ (finP W0 rs22 σ.length K)) : ACall Try.prog W0 22 args σ K :=
  ACall.introR mixed Try.func22 (by kernel_rfl) k22 (by kernel_rfl) hn h
def r23 : RC := (.seq (.reg [.op (some 4) (.mv (.v (.lit (.bool false))))])
 (.seq (.seq (.reg [.op (some 6) (.mv (.t 0)),
  .op (some 7) (.lenL (.t 6)),
  .op (some 8) (.mv (.t 1)),
  .op (some 9) (.lenL (.t 8)),
  .op (some 10) (.binI .neq (.t 7) (.t 9))])
 (.cond (.t 10)
 (.seq (.reg [.op (some 4) (.mv (.v (.lit (.bool false))))])
 .ret)
 .skip))
 (.seq (.seq (.reg [.op (some 5) (.mv (.v (.lit (.int .i64 (0)))))])
 (.block 0 (.loop (.seq (.seq (.reg [.op (some 11) (.mv (.t 5)),
  .op (some 12) (.mv (.t 0)),
  .op (some 13) (.lenL (.t 12)),
  .op (some 14) (.binI .lss (.t 11) (.t 13))])
 (.cond (.t 14)
 .skip
 (.exit 0)))
 (.seq (.block 1 (.seq (.draw [((some 17), (.mv (.t 0))), ((some 18), (.mv (.t 5))), ((some 19), (.iaddrS 6 (.t 17) (.t 18))), ((some 20), (.load 6 true (.t 19))), ((some 21), (.mv (.t 1))), ((some 22), (.mv (.t 5))), ((some 23), (.iaddrS 6 (.t 21) (.t 22))), ((some 24), (.load 6 true (.t 23))), ((some 25), (.call (.v (.lit (.func (.func 22) #[] #[]))) [(.t 20), (.t 24)])), ((some 26), (.un .not (.t 25)))] [])
 (.cond (.t 26)
 (.seq (.reg [.op (some 4) (.mv (.v (.lit (.bool false))))])
 .ret)
 .skip)))
 (.reg [.op (some 15) (.mv (.t 5)),
  .op (some 16) (.binI .add (.t 15) (.v (.lit (.int .i64 (1))))),
  .op (some 5) (.mv (.t 16))]))))))
 (.seq (.reg [.op (some 4) (.mv (.v (.lit (.bool true))))])
 .ret))))
def rs23 : List RR := [.tmp 4]
def cut23 : Nat → Nat := fun id => if id = 6 then 21 else 0
theorem k23 : (Try.f23.body.bind fun c => comp Try.prog Try.f23.ntmps cut23 c) = some r23 := by kernel_rfl
theorem by23 {W0 : World} {σ : List Blk} {args : List AV} {K : Cont} (hn : args.length ≤ 27) (h : rW Try.prog W0 σ.length r23 (initFr args) σ (finP W0 rs23 σ.length K)) : ACall Try.prog W0 23 args σ K :=
  ACall.introR mixed Try.func23 (by kernel_rfl) k23 (by kernel_rfl) hn h
def r24 : RC := (.seq (.reg [.op (some 4) (.mv (.v (.lit (.bool false))))])
 (.seq (.seq (.reg [.op (some 6) (.mv (.t 0)),
  .op (some 7) (.lenL (.t 6)),
  .op (some 8) (.mv (.t 1)),
  .op (some 9) (.lenL (.t 8)),
  .op (some 10) (.binI .neq (.t 7) (.t 9))])
 (.cond (.t 10)
 (.seq (.reg [.op (some 4) (.mv (.v (.lit (.bool false))))])
 .ret)
 .skip))
 (.seq (.seq (.reg [.op (some 5) (.mv (.v (.lit (.int .i64 (0)))))])
 (.block 0 (.loop (.seq (.seq (.reg [.op (some 11) (.mv (.t 5)),
  .op (some 12) (.mv (.t 0)),
  .op (some 13) (.lenL (.t 12)),
  .op (some 14) (.binI .lss (.t 11) (.t 13))])
 (.cond (.t 14)
 .skip
 (.exit 0)))
 (.seq (.block 1 (.seq (.draw [((some 17), (.mv (.t 0))), ((some 18), (.mv (.t 5))), ((some 19), (.iaddrS 4 (.t 17) (.t 18))), ((some 20), (.load 4 true (.t 19))), ((some 21), (.mv (.t 1))), ((some 22), (.mv (.t 5))), ((some 23), (.iaddrS 4 (.t 21) (.t 22))), ((some 24), (.load 4 true (.t 23))), ((some 25), (.call (.v (.lit (.func (.func 38) #[] #[]))) [(.t 20), (.t 24)])), ((some 26), (.un .not (.t 25)))] [])
 (.cond (.t 26)
 (.seq (.reg [.op (some 4) (.mv (.v (.lit (.bool false))))])
 .ret)
 .skip)))
 (.reg [.op (some 15) (.mv (.t 5)),
  .op (some 16) (.binI .add (.t 15) (.v (.lit (.int .i64 (1))))),
  .op (some 5) (.mv (.t 16))]))))))
 (.seq (.reg [.op (some 4) (.mv (.v (.lit (.bool true))))])
 .ret))))
def rs24 : List RR := [.tmp 4]
def cut24 : Nat → Nat := fun id => if id = 6 then 21 else 0
theorem k24 : (Try.f24.body.bind fun c => comp Try.prog Try.f24.ntmps cut24 c) = some r24 := by kernel_rfl
theorem by24 {W0 : World} {σ : List Blk} {args : List AV} {K : Cont} (hn : args.length ≤ 27) (h : rW Try.prog W0 σ.length r24 (initFr args) σ (finP W0 rs24 σ.length K)) : ACall Try.prog W0 24 args σ K :=
  ACall.introR mixed Try.func24 (by kernel_rfl) k24 (by kernel_rfl) hn h
def r25 : RC := (.seq (.reg [.op (some 4) (.mv (.v (.lit (.int .i64 (0)))))])
 (.seq (.seq (.reg [.op (some 5) (.mv (.v (.lit (.int .i64 (0)))))])
 (.block 0 (.loop (.seq (.seq (.reg [.op (some 7) (.mv (.t 5)),
  .op (some 8) (.mv (.t 0)),
  .op (some 9) (.lenL (.t 8)),
  .op (some 10) (.binI .lss (.t 7) (.t 9))])
 (.cond (.t 10)
 .skip
 (.exit 0)))
 (.seq (.block 1 (.seq (.reg [.op (some 6) (.mv (.v (.lit (.int .i64 (0)))))])
 (.block 2 (.loop (.seq (.seq (.reg [.op (some 13) (.mv (.t 6)),
  .op (some 14) (.binI .lss (.t 13) (.v (.lit (.int .i64 (6)))))])
 (.cond (.t 14)
 .skip
 (.exit 2)))
 (.seq (.block 3 (.seq (.reg [.op (some 17) (.mv (.t 0)),
  .op (some 18) (.mv (.t 5)),
  .op (some 19) (.mv (.t 6)),
  .op (some 20) (.mv (.t 1)),
  .op (some 21) (.iaddrS 6 (.t 17) (.t 18)),
  .op (some 22) (.faddr 0 (.t 21)),
  .op (some 23) (.iaddrA 6 1 (.t 22) (.t 19)),
  .op none (.store 1 (.t 23) (.t 20))])
 (.reg [.op (some 24) (.mv (.t 1)),
  .op (some 25) (.binI .add (.t 24) (.v (.lit (.int .i64 (1))))),
  .op (some 1) (.mv (.t 25))])))
 (.reg [.op (some 15) (.mv (.t 6)),
  .op (some 16) (.binI .add (.t 15) (.v (.lit (.int .i64 (1))))),
  .op (some 6) (.mv (.t 16))])))))))
 (.reg [.op (some 11) (.mv (.t 5)),
  .op (some 12) (.binI .add (.t 11) (.v (.lit (.int .i64 (1))))),
  .op (some 5) (.mv (.t 12))]))))))
 (.seq (.reg [.op (some 26) (.mv (.t 1)),
  .op (some 4) (.mv (.t 26))])
 .ret)))
def rs25 : List RR := [.tmp 4]
def cut25 : Nat → Nat := fun id => 0
theorem k25 : (Try.f25.body.bind fun c => comp Try.prog Try.f25.ntmps cut25 c) = some r25 := by kernel_rfl
theorem by25 {W0 : World} {σ : List Blk} {args : List AV} {K : Cont} (hn : args.length ≤ 27) (h : rW Try.prog W0 σ.length r25 (initFr args) σ (finP W0 rs25 σ.length K)) : ACall Try.prog W0 25 args σ K :=
  ACall.introR mixed Try.func25 (by kernel_rfl) k25 (by kernel_rfl) hn h
def r26 : RC := (.seq (.reg [.op (some 4) (.mv (.v (.lit (.int .i64 (0)))))])
 (.seq (.seq (.reg [.op (some 5) (.mv (.v (.lit (.int .i64 (0)))))])
 (.block 0 (.loop (.seq (.seq (.reg [.op (some 7) (.mv (.t 5)),
  .op (some 8) (.mv (.t 0)),
  .op (some 9) (.lenL (.t 8)),
  .op (some 10) (.binI .lss (.t 7) (.t 9))])
 (.cond (.t 10)
 .skip
 (.exit 0)))
 (.seq (.block 1 (.seq (.reg [.op (some 13) (.mv (.t 0)),
  .op (some 14) (.mv (.t 5)),
  .op (some 15) (.mv (.t 1)),
  .op (some 16) (.iaddrS 4 (.t 13) (.t 14)),
  .op (some 17) (.faddr 0 (.t 16)),
  .op none (.store 1 (.t 17) (.t 15))])
 (.seq (.reg [.op (some 18) (.mv (.t 1)),
  .op (some 19) (.binI .add (.t 18) (.v (.lit (.int .i64 (1))))),
  .op (some 1) (.mv (.t 19))])
 (.seq (.reg [.op (some 20) (.mv (.t 0)),
  .op (some 21) (.mv (.t 5)),
  .op (some 22) (.mv (.t 1)),
  .op (some 23) (.iaddrS 4 (.t 20) (.t 21)),
  .op (some 24) (.faddr 1 (.t 23)),
  .op none (.store 1 (.t 24) (.t 22))])
 (.seq (.reg [.op (some 25) (.mv (.t 1)),
  .op (some 26) (.binI .add (.t 25) (.v (.lit (.int .i64 (1))))),
  .op (some 1) (.mv (.t 26))])
 (.seq (.reg [.op (some 6) (.mv (.v (.lit (.int .i64 (0)))))])
 (.block 2 (.loop (.seq (.seq (.reg [.op (some 27) (.mv (.t 6)),
  .op (some 28) (.binI .lss (.t 27) (.v (.lit (.int .i64 (2)))))])
 (.cond (.t 28)
 .skip
 (.exit 2)))
 (.seq (.block 3 (.seq (.reg [.op (some 31) (.mv (.t 0)),
  .op (some 32) (.mv (.t 5)),
  .op (some 33) (.mv (.t 6)),
  .op (some 34) (.mv (.t 1)),
  .op (some 35) (.iaddrS 4 (.t 31) (.t 32)),
  .op (some 36) (.faddr 2 (.t 35)),
  .op (some 37) (.iaddrA 2 1 (.t 36) (.t 33)),
  .op none (.store 1 (.t 37) (.t 34))])
 (.reg [.op (some 38) (.mv (.t 1)),
  .op (some 39) (.binI .add (.t 38) (.v (.lit (.int .i64 (1))))),
  .op (some 1) (.mv (.t 39))])))
 (.reg [.op (some 29) (.mv (.t 6)),
  .op (some 30) (.binI .add (.t 29) (.v (.lit (.int .i64 (1))))),
  .op (some 6) (.mv (.t 30))])))))))))))
 (.reg [.op (some 11) (.mv (.t 5)),
  .op (some 12) (.binI .add (.t 11) (.v (.lit (.int .i64 (1))))),
  .op (some 5) (.mv (.t 12))]))))))
 (.seq (.reg [.op (some 40) (.mv (.t 1)),
  .op (some 4) (.mv (.t 40))])
 .ret)))
def rs26 : List RR := [.tmp 4]
def cut26 : Nat → Nat := fun id => 0
theorem k26 : (Try.f26.body.bind fun c => comp Try.prog Try.f26.ntmps cut26 c) = some r26 := by kernel_rfl
theorem by26 {W0 : World} {σ : List Blk} {args : List AV} {K : Cont} (hn : args.length ≤ 41) (h : rW Try.prog W0 σ.length r26 (initFr args) σ (finP W0 rs26 σ.length K)) : ACall Try.prog W0 26 args σ K :=
  ACall.introR mixed Try.func26 (by kernel_rfl) k26 (by kernel_rfl) hn h
def r27 : RC := (.seq (.reg [.op (some 4) (.mv (.v (.lit (.int .i64 (0)))))])
 (.seq (.seq (.reg [.op (some 5) (.mv (.v (.lit (.int .i64 (0)))))])
 (.block 0 (.loop (.seq (.seq (.reg [.op (some 7) (.mv (.t 5)),
  .op (some 8) (.mv (.t 0)),
  .op (some 9) (.lenL (.t 8)),
  .op (some 10) (.binI .lss (.t 7) (.t 9))])
 (.cond (.t 10)
 .skip
 (.exit 0)))
 (.seq (.block 1 (.seq (.reg [.op (some 6) (.mv (.v (.lit (.int .i64 (0)))))])
 (.block 2 (.loop (.seq (.seq (.reg [.op (some 13) (.mv (.t 6)),
  .op (some 14) (.binI .lss (.t 13) (.v (.lit (.int .i64 (6)))))])
 (.cond (.t 14)
 .skip
 (.exit 2)))
 (.seq (.block 3 (.seq (.seq (.reg [.op (some 17) (.mv (.t 0)),
  .op (some 18) (.mv (.t 5)),
  .op (some 19) (.mv (.t 6)),
  .op (some 20) (.iaddrS 6 (.t 17) (.t 18)),
  .op (some 21) (.faddr 0 (.t 20)),
  .op (some 22) (.iaddrA 6 1 (.t 21) (.t 19)),
  .op (some 23) (.load 1 false (.t 22)),
  .op (some 24) (.mv (.t 1)),
  .op (some 25) (.binI .neq (.t 23) (.t 24))])
 (.cond (.t 25)
 (.seq (.reg [.op (some 4) (.mv (.v (.lit (.int .i64 (-1)))))])
 .ret)
 .skip))
 (.reg [.op (some 26) (.mv (.t 1)),
  .op (some 27) (.binI .add (.t 26) (.v (.lit (.int .i64 (1))))),
  .op (some 1) (.mv (.t 27))])))
 (.reg [.op (some 15) (.mv (.t 6)),
  .op (some 16) (.binI .add (.t 15) (.v (.lit (.int .i64 (1))))),
  .op (some 6) (.mv (.t 16))])))))))
 (.reg [.op (some 11) (.mv (.t 5)),
  .op (some 12) (.binI .add (.t 11) (.v (.lit (.int .i64 (1))))),
  .op (some 5) (.mv (.t 12))]))))))
 (.seq (.reg [.op (some 28) (.mv (.t 1)),
  .op (some 4) (.mv (.t 28))])
 .ret)))
def rs27 : List RR := [.tmp 4]
def cut27 : Nat → Nat := fun id => 0
theorem k27 : (Try.f27.body.bind fun c => comp Try.prog Try.f27.ntmps cut27 c) = some r27 := by kernel_rfl
theorem by27 {W0 : World} {σ : List Blk} {args : List AV} {K : Cont} (hn : args.length ≤ 29) (h : rW Try.prog W0 σ.length r27 (initFr args) σ (finP W0 rs27 σ.length K)) : ACall Try.prog W0 27 args σ K :=
  ACall.introR mixed Try.func27 (by kernel_rfl) k27 (by kernel_rfl) hn h
def r28 : RC := (.seq (.reg [.op (some 4) (.mv (.v (.lit (.int .i64 (0)))))])
 (.seq (.seq (.reg [.op (some 5) (.mv (.v (.lit (.int .i64 (0)))))])
 (.block 0 (.loop (.seq (.seq (.reg [.op (some 7) (.mv (.t 5)),
  .op (some 8) (.mv (.t 0)),
  .op (some 9) (.lenL (.t 8)),
  .op (some 10) (.binI .lss (.t 7) (.t 9))])
 (.cond (.t 10)
 .skip
 (.exit 0)))
 (.seq (.block 1 (.seq (.seq (.reg [.op (some 13) (.mv (.t 0)),
  .op (some 14) (.mv (.t 5)),
  .op (some 15) (.iaddrS 4 (.t 13) (.t 14)),
  .op (some 16) (.faddr 0 (.t 15)),
  .op (some 17) (.load 1 false (.t 16)),
  .op (some 18) (.mv (.t 1)),
  .op (some 19) (.binI .neq (.t 17) (.t 18))])
 (.cond (.t 19)
 (.seq (.reg [.op (some 4) (.mv (.v (.lit (.int .i64 (-1)))))])
 .ret)
 .skip))
 (.seq (.reg [.op (some 20) (.mv (.t 1)),
  .op (some 21) (.binI .add (.t 20) (.v (.lit (.int .i64 (1))))),
  .op (some 1) (.mv (.t 21))])
 (.seq (.seq (.reg [.op (some 22) (.mv (.t 0)),
  .op (some 23) (.mv (.t 5)),
  .op (some 24) (.iaddrS 4 (.t 22) (.t 23)),
  .op (some 25) (.faddr 1 (.t 24)),
  .op (some 26) (.load 1 false (.t 25)),
  .op (some 27) (.mv (.t 1)),
  .op (some 28) (.binI .neq (.t 26) (.t 27))])
 (.cond (.t 28)
 (.seq (.reg [.op (some 4) (.mv (.v (.lit (.int .i64 (-1)))))])
 .ret)
 .skip))
 (.seq (.reg [.op (some 29) (.mv (.t 1)),
  .op (some 30) (.binI .add (.t 29) (.v (.lit (.int .i64 (1))))),
  .op (some 1) (.mv (.t 30))])
 (.seq (.reg [.op (some 6) (.mv (.v (.lit (.int .i64 (0)))))])
 (.block 2 (.loop (.seq (.seq (.reg [.op (some 31) (.mv (.t 6)),
  .op (some 32) (.binI .lss (.t 31) (.v (.lit (.int .i64 (2)))))])
 (.cond (.t 32)
 .skip
 (.exit 2)))
 (.seq (.block 3 (.seq (.seq (.reg [.op (some 35) (.mv (.t 0)),
  .op (some 36) (.mv (.t 5)),
  .op (some 37) (.mv (.t 6)),
  .op (some 38) (.iaddrS 4 (.t 35) (.t 36)),
  .op (some 39) (.faddr 2 (.t 38)),
  .op (some 40) (.iaddrA 2 1 (.t 39) (.t 37)),
  .op (some 41) (.load 1 false (.t 40)),
  .op (some 42) (.mv (.t 1)),
  .op (some 43) (.binI .neq (.t 41) (.t 42))])
 (.cond (.t 43)
 (.seq (.reg [.op (some 4) (.mv (.v (.lit (.int .i64 (-1)))))])
 .ret)
 .skip))
 (.reg [.op (some 44) (.mv (.t 1)),
  .op (some 45) (.binI .add (.t 44) (.v (.lit (.int .i64 (1))))),
  .op (some 1) (.mv (.t 45))])))
 (.reg [.op (some 33) (.mv (.t 6)),
  .op (some 34) (.binI .add (.t 33) (.v (.lit (.int .i64 (1))))),
  .op (some 6) (.mv (.t 34))])))))))))))
 (.reg [.op (some 11) (.mv (.t 5)),
  .op (some 12) (.binI .add (.t 11) (.v (.lit (.int .i64 (1))))),
  .op (some 5) (.mv (.t 12))]))))))
 (.seq (.reg [.op (some 46) (.mv (.t 1)),
  .op (some 4) (.mv (.t 46))])
 .ret)))
def rs28 : List RR := [.tmp 4]
def cut28 : Nat → Nat := fun id => 0
theorem k28 : (Try.f28.body.bind fun c => comp Try.prog Try.f28.ntmps cut28 c) = some r28 := by kernel_rfl
theorem by28 {W0 : World} {σ : List Blk} {args : List AV} {K : Cont} (hn : args.length ≤ 47) (h : rW Try.prog W0 σ.length r28 (initFr args) σ (finP W0 rs28 σ.length K)) : ACall Try.prog W0 28 args σ K :=
  ACall.introR mixed Try.func28 (by kernel_rfl) k28 (by kernel_rfl) hn h
def r29 : RC := (.seq (.reg [.op (some 1) (.box 30 (.t 0)),
  .op (some 2) (.mv (.v (.lit (.bool false))))])
 (.seq (.seq (.reg [.op (some 3) (.mv (.v (.lit (.int .i64 (0)))))])
 (.block 0 (.loop (.seq (.seq (.reg [.op (some 4) (.mv (.t 3)),
  .op (some 5) (.binI .lss (.t 4) (.v (.lit (.int .i64 (6)))))])
 (.cond (.t 5)
 .skip
 (.exit 0)))
 (.seq (.block 1 (.seq (.reg [.op (some 8) (.mv (.t 3)),
  .op (some 9) (.faddr 0 (.t 1)),
  .op (some 10) (.iaddrA 6 1 (.t 9) (.t 8)),
  .op (some 11) (.load 1 false (.t 10)),
  .op (some 12) (.call (.v (.lit (.func (.func 39) #[] #[]))) [(.t 11), (.v (.lit (.int .i64 (0)))), (.v (.lit (.int .i64 (63))))]),
  .op (some 13) (.un .not (.t 12))])
 (.cond (.t 13)
 (.seq (.reg [.op (some 2) (.mv (.v (.lit (.bool false))))])
 .ret)
 .skip)))
 (.reg [.op (some 6) (.mv (.t 3)),
  .op (some 7) (.binI .add (.t 6) (.v (.lit (.int .i64 (1))))),
  .op (some 3) (.mv (.t 7))]))))))
 (.seq (.reg [.op (some 2) (.mv (.v (.lit (.bool true))))])
 .ret)))
def rs29 : List RR := [.tmp 2]
def cut29 : Nat → Nat := fun id => 0
theorem k29 : (Try.f29.body.bind fun c => comp Try.prog Try.f29.ntmps cut29 c) = some r29 := by kernel_rfl
theorem by29 {W0 : World} {σ : List Blk} {args : List AV} {K : Cont} (hn : args.length ≤ 14) (h : rW Try.prog W0 σ.length r29 (initFr args) σ (finP W0 rs29 σ.length K)) : ACall Try.prog W0 29 args σ K :=
  ACall.introR mixed Try.func29 (by kernel_rfl) k29 (by kernel_rfl) hn h
def r30 : RC := (.seq (.reg [.op (some 2) (.box 53 (.t 0)),
  .op (some 4) (.mv (.v (.lit (.bool false))))])
 (.seq (.reg [.op (some 5) (.faddr 0 (.t 2)),
  .op (some 6) (.load 1 false (.t 5)),
  .op (some 7) (.call (.v (.lit (.func (.func 39) #[] #[]))) [(.t 6), (.v (.lit (.int .i64 (1)))), (.v (.lit (.int .i64 (3))))]),
  .op (some 8) (.mv (.t 7)),
  .grp 8 true [((some 9), (.faddr 1 (.t 2))), ((some 10), (.load 1 false (.t 9))), ((some 11), (.mv (.t 1))), ((some 12), (.binI .sub (.t 11) (.v (.lit (.int .i64 (1)))))), ((some 13), (.call (.v (.lit (.func (.func 39) #[] #[]))) [(.t 10), (.v (.lit (.int .i64 (0)))), (.t 12)]))],
  .op (some 14) (.pick (.t 8) (.t 13) (.v (.lit (.bool false)))),
  .op (some 15) (.mv (.t 14)),
  .grp 15 true [((some 16), (.faddr 2 (.t 2))), ((some 17), (.load 2 true (.t 16))), ((some 18), (.call (.v (.lit (.func (.func 40) #[] #[]))) [(.t 17)]))],
  .op (some 19) (.pick (.t 15) (.t 18) (.v (.lit (.bool false)))),
  .op (some 4) (.mv (.t 19))])
 .ret))
def rs30 : List RR := [.tmp 4]
def cut30 : Nat → Nat := fun id => 0
theorem k30 : (Try.f30.body.bind fun c => comp Try.prog Try.f30.ntmps cut30 c) = some r30 := by kernel_rfl
theorem by30 {W0 : World} {σ : List Blk} {args : List AV} {K : Cont} (hn : args.length ≤ 20) (h : rW Try.prog W0 σ.length r30 (initFr args) σ (finP W0 rs30 σ.length K)) : ACall Try.prog W0 30 args σ K :=
  ACall.introR mixed Try.func30 (by kernel_rfl) k30 (by kernel_rfl) hn h
def r31 : RC := (.seq (.reg [.op (some 1) (.box 22 (.t 0)),
  .op (some 2) (.alloc 22 (List.replicate 6 (.lit (.int .i64 (0)))))])
 (.seq (.reg [.op (some 3) (.alloc 22 (List.replicate 6 (.lit (.int .i64 (0)))))])
 (.seq (.seq (.reg [.op (some 4) (.mv (.v (.lit (.int .i64 (0)))))])
 (.block 0 (.loop (.seq (.seq (.reg [.op (some 5) (.mv (.t 4)),
  .op (some 6) (.binI .lss (.t 5) (.v (.lit (.int .i64 (6)))))])
 (.cond (.t 6)
 .skip
 (.exit 0)))
 (.seq (.block 1 (.reg [.op (some 9) (.mv (.t 4)),
  .op (some 10) (.mv (.t 4)),
  .op (some 11) (.iaddrA 6 1 (.t 1) (.t 10)),
  .op (some 12) (.load 1 false (.t 11)),
  .op (some 13) (.iaddrA 6 1 (.t 3) (.t 9)),
  .op none (.store 1 (.t 13) (.t 12))]))
 (.reg [.op (some 7) (.mv (.t 4)),
  .op (some 8) (.binI .add (.t 7) (.v (.lit (.int .i64 (1))))),
  .op (some 4) (.mv (.t 8))]))))))
 (.seq (.reg [.op (some 14) (.load 6 true (.t 3)),
  .op none (.store 6 (.t 2) (.t 14))])
 .ret))))
def rs31 : List RR := [.cell 2 6 true]
def cut31 : Nat → Nat := fun id => 0
theorem k31 : (Try.f31.body.bind fun c => comp Try.prog Try.f31.ntmps cut31 c) = some r31 := by kernel_rfl
theorem by31 {W0 : World} {σ : List Blk} {args : List AV} {K : Cont} (hn : args.length ≤ 15) (h : rW Try.prog W0 σ.length r31 (initFr args) σ (finP W0 rs31 σ.length K)) : ACall Try.prog W0 31 args σ K :=
  ACall.introR mixed Try.func31 (by kernel_rfl) k31 (by kernel_rfl) hn h
def r32 : RC := (.seq (.reg [.op (some 1) (.box 62 (.t 0)),
  .op (some 2) (.alloc 53 (List.replicate 4 (.lit (.int .i64 (0)))))])
 (.seq (.reg [.op (some 3) (.alloc 53 (List.replicate 4 (.lit (.int .i64 (0)))))])
 (.seq (.reg [.op (some 4) (.faddr 0 (.t 1)),
  .op (some 5) (.load 1 false (.t 4)),
  .op (some 6) (.faddr 0 (.t 3)),
  .op none (.store 1 (.t 6) (.t 5))])
 (.seq (.reg [.op (some 7) (.faddr 1 (.t 1)),
  .op (some 8) (.load 1 false (.t 7)),
  .op (some 9) (.faddr 1 (.t 3)),
  .op none (.store 1 (.t 9) (.t 8))])
 (.seq (.reg [.op (some 10) (.faddr 2 (.t 1)),
  .op (some 11) (.load 2 true (.t 10)),
  .op (some 12) (.call (.v (.lit (.func (.func 41) #[] #[]))) [(.t 11)]),
  .op (some 13) (.faddr 2 (.t 3)),
  .op none (.store 2 (.t 13) (.t 12))])
 (.seq (.reg [.op (some 14) (.load 4 true (.t 3)),
  .op none (.store 4 (.t 2) (.t 14))])
 .ret))))))
def rs32 : List RR := [.cell 2 4 true]
def cut32 : Nat → Nat := fun id => 0
theorem k32 : (Try.f32.body.bind fun c => comp Try.prog Try.f32.ntmps cut32 c) = some r32 := by kernel_rfl
theorem by32 {W0 : World} {σ : List Blk} {args : List AV} {K : Cont} (hn : args.length ≤ 15) (h : rW Try.prog W0 σ.length r32 (initFr args) σ (finP W0 rs32 σ.length K)) : ACall Try.prog W0 32 args σ K :=
  ACall.introR mixed Try.func32 (by kernel_rfl) k32 (by kernel_rfl) hn h
def r33 : RC := (.seq (.reg [.op (some 1) (.box 34 (.t 0)),
  .op (some 2) (.mv (.v (.lit (.pointer none)))),
  .op (some 3) (.mv (.v (.lit (.bool false))))])
 (.seq (.reg [.op (some 17) (.faddr 0 (.t 1)),
  .op (some 18) (.load 6 true (.t 17)),
  .op (some 19) (.call (.v (.lit (.func (.func 42) #[] #[]))) [(.t 18)]),
  .op (some 16) (.mv (.t 19)),
  .op (some 20) (.ext (.t 16) 0),
  .op (some 21) (.ext (.t 16) 1),
  .op (some 4) (.mv (.t 20)),
  .op (some 5) (.mv (.t 21))])
 (.seq (.seq (.reg [.op (some 22) (.mv (.t 5)),
  .op (some 23) (.un .not (.t 22)),
  .op (some 24) (.mv (.t 23)),
  .grp 24 false [((some 25), (.faddr 6 (.t 1))), ((some 26), (.load 1 false (.t 25))), ((some 27), (.lenL (.t 26))), ((some 28), (.binI .gtr (.t 27) (.v (.lit (.int .i64 (4))))))],
  .op (some 29) (.pick (.t 24) (.v (.lit (.bool true))) (.t 28)),
  .op (some 30) (.mv (.t 29)),
  .grp 30 false [((some 31), (.faddr 7 (.t 1))), ((some 32), (.load 1 false (.t 31))), ((some 33), (.lenL (.t 32))), ((some 34), (.binI .gtr (.t 33) (.v (.lit (.int .i64 (40))))))],
  .op (some 35) (.pick (.t 30) (.v (.lit (.bool true))) (.t 34))])
 (.cond (.t 35)
 (.seq (.reg [.op (some 2) (.mv (.v (.lit (.pointer none)))),
  .op (some 3) (.mv (.v (.lit (.bool false))))])
 .ret)
 .skip))
 (.seq (.reg [.op (some 36) (.bslice 76 1 0 [(.lit (.int .u64 (0)))] []),
  .op (some 6) (.mv (.t 36))])
 (.seq (.seq (.reg [.op (some 37) (.faddr 6 (.t 1)),
  .op (some 38) (.load 1 false (.t 37)),
  .op (some 39) (.lenL (.t 38)),
  .op (some 40) (.mv (.v (.lit (.int .i64 (0)))))])
 (.block 0 (.loop (.seq (.reg [.op (some 41) (.binI .lss (.t 40) (.t 39))])
 (.seq (.cond (.t 41)
 .skip
 (.exit 0))
 (.seq (.block 1 (.seq (.reg [.op (some 42) (.iaddrS 6 (.t 38) (.t 40)),
  .op (some 43) (.load 6 true (.t 42)),
  .op (some 8) (.alloc 30 (List.replicate 6 (.lit (.int .i64 (0))))),
  .op none (.store 6 (.t 8) (.t 43))])
 (.seq (.reg [.op (some 45) (.load 6 true (.t 8)),
  .op (some 46) (.call (.v (.lit (.func (.func 42) #[] #[]))) [(.t 45)]),
  .op (some 44) (.mv (.t 46)),
  .op (some 47) (.ext (.t 44) 0),
  .op (some 48) (.ext (.t 44) 1),
  .op (some 9) (.mv (.t 47)),
  .op (some 10) (.mv (.t 48))])
 (.seq (.seq (.reg [.op (some 49) (.mv (.t 10)),
  .op (some 50) (.un .not (.t 49))])
 (.cond (.t 50)
 (.seq (.reg [.op (some 2) (.mv (.v (.lit (.pointer none)))),
  .op (some 3) (.mv (.v (.lit (.bool false))))])
 .ret)
 .skip))
 (.reg [.op (some 51) (.mv (.t 6)),
  .op (some 52) (.mv (.t 9)),
  .app (some 54) 53 76 1 8 (.t 51) 1 [(.lit (.int .u64 (0)))] [(0, (.t 52))],
  .op (some 6) (.mv (.t 54))])))))
 (.reg [.op (some 55) (.binI .add (.t 40) (.v (.lit (.int .i64 (1))))),
  .op (some 40) (.mv (.t 55))])))))))
 (.seq (.reg [.op (some 56) (.mv (.t 4)),
  .op (some 57) (.build [(.lit (.int .u64 (0))), (.lit (.slice none 0 0))] [((0, 1), (.t 56))]),
  .op (some 58) (.box 82 (.t 57)),
  .op (some 11) (.mv (.t 58))])
 (.seq (.seq (.reg [.op (some 59) (.faddr 7 (.t 1)),
  .op (some 60) (.load 1 false (.t 59)),
  .op (some 61) (.lenL (.t 60)),
  .op (some 62) (.mv (.v (.lit (.int .i64 (0)))))])
 (.block 2 (.loop (.seq (.reg [.op (some 63) (.binI .lss (.t 62) (.t 61))])
 (.seq (.cond (.t 63)
 .skip
 (.exit 2))
 (.seq (.block 3 (.seq (.reg [.op (some 64) (.iaddrS 4 (.t 60) (.t 62)),
  .op (some 65) (.load 4 true (.t 64)),
  .op (some 13) (.alloc 53 (List.replicate 4 (.lit (.int .i64 (0))))),
  .op none (.store 4 (.t 13) (.t 65))])
 (.seq (.seq (.reg [.op (some 66) (.load 4 true (.t 13)),
  .op (some 67) (.mv (.t 6)),
  .op (some 68) (.lenL (.t 67)),
  .op (some 69) (.call (.v (.lit (.func (.func 43) #[] #[]))) [(.t 66), (.t 68)]),
  .op (some 70) (.un .not (.t 69))])
 (.cond (.t 70)
 (.seq (.reg [.op (some 2) (.mv (.v (.lit (.pointer none)))),
  .op (some 3) (.mv (.v (.lit (.bool false))))])
 .ret)
 .skip))
 (.seq (.draw [((some 71), (.mv (.t 6))), ((some 72), (.faddr 1 (.t 13))), ((some 73), (.load 1 false (.t 72))), ((some 74), (.iaddrS 1 (.t 71) (.t 73))), ((some 75), (.load 1 false (.t 74))), ((some 76), (.faddr 2 (.t 13))), ((some 77), (.load 2 true (.t 76))), ((some 78), (.call (.v (.lit (.func (.func 45) #[] #[]))) [(.t 77)])), ((some 79), (.call (.v (.lit (.func (.func 44) #[] #[]))) [(.t 75), (.t 78)]))] [((some 14), (.alloc 76 [(.lit (.int .u64 (0)))])), (none, (.store 1 (.t 14) (.t 79)))])
 (.seq (.reg [.op (some 80) (.build (List.replicate 4 (.lit .nilFunc)) [((0, 1), (.v (.lit .nilFunc))), ((1, 1), (.v (.lit (.func (.func 46) #[] #[])))), ((2, 1), (.v (.lit (.func (.func 47) #[] #[])))), ((3, 1), (.v (.lit (.func (.func 48) #[] #[]))))]),
  .op (some 81) (.faddr 0 (.t 13)),
  .op (some 82) (.load 1 false (.t 81)),
  .op (some 83) (.idxA 4 1 false (.t 80) (.t 82)),
  .op (some 15) (.alloc 85 [(.lit .nilFunc)]),
  .op none (.store 1 (.t 15) (.t 83))])
 (.reg [.op (some 84) (.mv (.t 11)),
  .op (some 85) (.mv (.t 11)),
  .op (some 86) (.nilck (.t 85)),
  .op (some 87) (.faddr 1 (.t 86)),
  .op (some 88) (.load 1 false (.t 87)),
  .op (some 89) (.mkfn (.func 49) [] [(.t 15), (.t 14)]),
  .app (some 91) 90 87 1 8 (.t 88) 1 [(.lit .nilFunc)] [(0, (.t 89))],
  .op (some 92) (.nilck (.t 84)),
  .op (some 93) (.faddr 1 (.t 92)),
  .op none (.store 1 (.t 93) (.t 91))]))))))
 (.reg [.op (some 94) (.binI .add (.t 62) (.v (.lit (.int .i64 (1))))),
  .op (some 62) (.mv (.t 94))])))))))
 (.seq (.reg [.op (some 95) (.mv (.t 11)),
  .op (some 2) (.mv (.t 95)),
  .op (some 3) (.mv (.v (.lit (.bool true))))])
 .ret))))))))
def rs33 : List RR := [.tmp 2, .tmp 3]
def cut33 : Nat → Nat := fun id => if id = 19 then 19 else 0
theorem k33 : (Try.f33.body.bind fun c => comp Try.prog Try.f33.ntmps cut33 c) = some r33 := by kernel_rfl
theorem by33 {W0 : World} {σ : List Blk} {args : List AV} {K : Cont} (hn : args.length ≤ 96) (h : rW Try.prog W0 σ.length r33 (initFr args) σ (finP W0 rs33 σ.length K)) : ACall Try.prog W0 33 args σ K :=
  ACall.introR mixed Try.func33 (by kernel_rfl) k33 (by kernel_rfl) hn h
def r34 : RC := (.seq (.reg [.op (some 2) (.mv (.v (.lit (.slice none 0 0))))])
 (.seq (.seq (.reg [.op (some 3) (.mv (.t 0)),
  .op (some 4) (.nilS false (.t 3))])
 (.cond (.t 4)
 (.seq (.reg [.op (some 2) (.mv (.v (.lit (.slice none 0 0))))])
 .ret)
 .skip))
 (.seq (.reg [.op (some 5) (.bslice 30 6 0 (List.replicate 6 (.lit (.int .i64 (0)))) []),
  .op (some 6) (.mv (.t 0)),
  .op (some 7) (.append 31 30 6 48 (.t 5) (.t 6)),
  .op (some 2) (.mv (.t 7))])
 .ret)))
def rs34 : List RR := [.tmp 2]
def cut34 : Nat → Nat := fun id => 0
theorem k34 : (Try.f34.body.bind fun c => comp Try.prog Try.f34.ntmps cut34 c) = some r34 := by kernel_rfl
theorem by34 {W0 : World} {σ : List Blk} {args : List AV} {K : Cont} (hn : args.length ≤ 8) (h : rW Try.prog W0 σ.length r34 (initFr args) σ (finP W0 rs34 σ.length K)) : ACall Try.prog W0 34 args σ K :=
  ACall.introR mixed Try.func34 (by kernel_rfl) k34 (by kernel_rfl) hn h
def r35 : RC := (.seq (.reg [.op (some 2) (.mv (.v (.lit (.slice none 0 0))))])
 (.seq (.seq (.reg [.op (some 3) (.mv (.t 0)),
  .op (some 4) (.nilS false (.t 3))])
 (.cond (.t 4)
 (.seq (.reg [.op (some 2) (.mv (.v (.lit (.slice none 0 0))))])
 .ret)
 .skip))
 (.seq (.reg [.op (some 5) (.bslice 53 4 0 (List.replicate 4 (.lit (.int .i64 (0)))) []),
  .op (some 6) (.mv (.t 0)),
  .op (some 7) (.append 32 53 4 32 (.t 5) (.t 6)),
  .op (some 2) (.mv (.t 7))])
 .ret)))
def rs35 : List RR := [.tmp 2]
def cut35 : Nat → Nat := fun id => 0
theorem k35 : (Try.f35.body.bind fun c => comp Try.prog Try.f35.ntmps cut35 c) = some r35 := by kernel_rfl
theorem by35 {W0 : World} {σ : List Blk} {args : List AV} {K : Cont} (hn : args.length ≤ 8) (h : rW Try.prog W0 σ.length r35 (initFr args) σ (finP W0 rs35 σ.length K)) : ACall Try.prog W0 35 args σ K :=
  ACall.introR mixed Try.func35 (by kernel_rfl) k35 (by kernel_rfl) hn h
def r37 : RC := (.seq (.reg [.op (some 2) (.box 22 (.t 0)),
  .op (some 3) (.box 22 (.t 1)),
  .op (some 4) (.mv (.v (.lit (.bool false))))])
 (.seq (.seq (.reg [.op (some 5) (.mv (.v (.lit (.int .i64 (0)))))])
 (.block 0 (.loop (.seq (.seq (.reg [.op (some 6) (.mv (.t 5)),
  .op (some 7) (.binI .lss (.t 6) (.v (.lit (.int .i64 (6)))))])
 (.cond (.t 7)
 .skip
 (.exit 0)))
 (.seq (.block 1 (.seq (.draw [((some 10), (.mv (.t 5))), ((some 11), (.iaddrA 6 1 (.t 2) (.t 10))), ((some 12), (.load 1 false (.t 11))), ((some 13), (.mv (.t 5))), ((some 14), (.iaddrA 6 1 (.t 3) (.t 13))), ((some 15), (.load 1 false (.t 14))), ((some 16), (.binI .neq (.t 12) (.t 15)))] [])
 (.cond (.t 16)
 (.seq (.reg [.op (some 4) (.mv (.v (.lit (.bool false))))])
 .ret)
 .skip)))
 (.reg [.op (some 8) (.mv (.t 5)),
  .op (some 9) (.binI .add (.t 8) (.v (.lit (.int .i64 (1))))),
  .op (some 5) (.mv (.t 9))]))))))
 (.seq (.reg [.op (some 4) (.mv (.v (.lit (.bool true))))])
 .ret)))
def rs37 : List RR := [.tmp 4]
def cut37 : Nat → Nat := fun id => if id = 4 then 15 else 0
theorem k37 : (Try.f37.body.bind fun c => comp Try.prog Try.f37.ntmps cut37 c) = some r37 := by kernel_rfl
theorem by37 {W0 : World} {σ : List Blk} {args : List AV} {K : Cont} (hn : args.length ≤ 17) (h : rW Try.prog W0 σ.length r37 (initFr args) σ (finP W0 rs37 σ.length K)) : ACall Try.prog W0 37 args σ K :=
  ACall.introR mixed Try.func37 (by kernel_rfl) k37 (by kernel_rfl) hn h
def r38 : RC := (.seq (.reg [.op (some 2) (.box 53 (.t 0)),
  .op (some 3) (.box 53 (.t 1)),
  .op (some 4) (.mv (.v (.lit (.bool false))))])
 (.seq (.seq (.reg [.op (some 5) (.faddr 0 (.t 2)),
  .op (some 6) (.load 1 false (.t 5)),
  .op (some 7) (.faddr 0 (.t 3)),
  .op (some 8) (.load 1 false (.t 7)),
  .op (some 9) (.binI .neq (.t 6) (.t 8))])
 (.cond (.t 9)
 (.seq (.reg [.op (some 4) (.mv (.v (.lit (.bool false))))])
 .ret)
 .skip))
 (.seq (.seq (.reg [.op (some 10) (.faddr 1 (.t 2)),
  .op (some 11) (.load 1 false (.t 10)),
  .op (some 12) (.faddr 1 (.t 3)),
  .op (some 13) (.load 1 false (.t 12)),
  .op (some 14) (.binI .neq (.t 11) (.t 13))])
 (.cond (.t 14)
 (.seq (.reg [.op (some 4) (.mv (.v (.lit (.bool false))))])
 .ret)
 .skip))
 (.seq (.seq (.reg [.op (some 15) (.faddr 2 (.t 2)),
  .op (some 16) (.load 2 true (.t 15)),
  .op (some 17) (.faddr 2 (.t 3)),
  .op (some 18) (.load 2 true (.t 17)),
  .op (some 19) (.call (.v (.lit (.func (.func 50) #[] #[]))) [(.t 16), (.t 18)]),
  .op (some 20) (.un .not (.t 19))])
 (.cond (.t 20)
 (.seq (.reg [.op (some 4) (.mv (.v (.lit (.bool false))))])
 .ret)
 .skip))
 (.seq (.reg [.op (some 4) (.mv (.v (.lit (.bool true))))])
 .ret)))))
def rs38 : List RR := [.tmp 4]
def cut38 : Nat → Nat := fun id => 0
theorem k38 : (Try.f38.body.bind fun c => comp Try.prog Try.f38.ntmps cut38 c) = some r38 := by kernel_rfl
theorem by38 {W0 : World} {σ : List Blk} {args : List AV} {K : Cont} (hn : args.length ≤ 21) (h : rW Try.prog W0 σ.length r38 (initFr args) σ (finP W0 rs38 σ.length K)) : ACall Try.prog W0 38 args σ K :=
  ACall.introR mixed Try.func38 (by kernel_rfl) k38 (by kernel_rfl) hn h
def r39 : RC := (.seq (.reg [.op (some 6) (.mv (.v (.lit (.bool false))))])
 (.seq (.reg [.op (some 7) (.mv (.t 0)),
  .op (some 8) (.mv (.t 1)),
  .op (some 9) (.binI .geq (.t 7) (.t 8)),
  .op (some 10) (.mv (.t 9)),
  .grp 10 true [((some 11), (.mv (.t 0))), ((some 12), (.mv (.t 2))), ((some 13), (.binI .leq (.t 11) (.t 12)))],
  .op (some 14) (.pick (.t 10) (.t 13) (.v (.lit (.bool false)))),
  .op (some 6) (.mv (.t 14))])
 .ret))
def rs39 : List RR := [.tmp 6]
def cut39 : Nat → Nat := fun id => 0
theorem k39 : (Try.f39.body.bind fun c => comp Try.prog Try.f39.ntmps cut39 c) = some r39 := by kernel_rfl
theorem by39 {W0 : World} {σ : List Blk} {args : List AV} {K : Cont} (hn : args.length ≤ 15) (h : rW Try.prog W0 σ.length r39 (initFr args) σ (finP W0 rs39 σ.length K)) : ACall Try.prog W0 39 args σ K :=
  ACall.introR mixed Try.func39 (by kernel_rfl) k39 (by kernel_rfl) hn h
def r40 : RC := (.seq (.reg [.op (some 1) (.box 51 (.t 0)),
  .op (some 2) (.mv (.v (.lit (.bool false))))])
 (.seq (.reg [.op (some 3) (.iaddrA 2 1 (.t 1) (.v (.lit (.int .i64 (0))))),
  .op (some 4) (.load 1 false (.t 3)),
  .op (some 5) (.call (.v (.lit (.func (.func 39) #[] #[]))) [(.t 4), (.v (.lit (.int .i64 (0)))), (.v (.lit (.int .i64 (5))))]),
  .op (some 6) (.mv (.t 5)),
  .grp 6 true [((some 7), (.iaddrA 2 1 (.t 1) (.v (.lit (.int .i64 (1)))))), ((some 8), (.load 1 false (.t 7))), ((some 9), (.call (.v (.lit (.func (.func 39) #[] #[]))) [(.t 8), (.v (.lit (.int .i64 (0)))), (.v (.lit (.int .i64 (5))))]))],
  .op (some 10) (.pick (.t 6) (.t 9) (.v (.lit (.bool false)))),
  .op (some 2) (.mv (.t 10))])
 .ret))
def rs40 : List RR := [.tmp 2]
def cut40 : Nat → Nat := fun id => 0
theorem k40 : (Try.f40.body.bind fun c => comp Try.prog Try.f40.ntmps cut40 c) = some r40 := by kernel_rfl
theorem by40 {W0 : World} {σ : List Blk} {args : List AV} {K : Cont} (hn : args.length ≤ 11) (h : rW Try.prog W0 σ.length r40 (initFr args) σ (finP W0 rs40 σ.length K)) : ACall Try.prog W0 40 args σ K :=
  ACall.introR mixed Try.func40 (by kernel_rfl) k40 (by kernel_rfl) hn h
def r41 : RC := (.seq (.reg [.op (some 1) (.box 51 (.t 0)),
  .op (some 2) (.alloc 51 [(.lit (.int .i64 (0))), (.lit (.int .i64 (0)))])])
 (.seq (.reg [.op (some 3) (.alloc 51 [(.lit (.int .i64 (0))), (.lit (.int .i64 (0)))])])
 (.seq (.seq (.reg [.op (some 4) (.mv (.v (.lit (.int .i64 (0)))))])
 (.block 0 (.loop (.seq (.seq (.reg [.op (some 5) (.mv (.t 4)),
  .op (some 6) (.binI .lss (.t 5) (.v (.lit (.int .i64 (2)))))])
 (.cond (.t 6)
 .skip
 (.exit 0)))
 (.seq (.block 1 (.reg [.op (some 9) (.mv (.t 4)),
  .op (some 10) (.mv (.t 4)),
  .op (some 11) (.iaddrA 2 1 (.t 1) (.t 10)),
  .op (some 12) (.load 1 false (.t 11)),
  .op (some 13) (.iaddrA 2 1 (.t 3) (.t 9)),
  .op none (.store 1 (.t 13) (.t 12))]))
 (.reg [.op (some 7) (.mv (.t 4)),
  .op (some 8) (.binI .add (.t 7) (.v (.lit (.int .i64 (1))))),
  .op (some 4) (.mv (.t 8))]))))))
 (.seq (.reg [.op (some 14) (.load 2 true (.t 3)),
  .op none (.store 2 (.t 2) (.t 14))])
 .ret))))
def rs41 : List RR := [.cell 2 2 true]
def cut41 : Nat → Nat := fun id => 0
theorem k41 : (Try.f41.body.bind fun c => comp Try.prog Try.f41.ntmps cut41 c) = some r41 := by kernel_rfl
theorem by41 {W0 : World} {σ : List Blk} {args : List AV} {K : Cont} (hn : args.length ≤ 15) (h : rW Try.prog W0 σ.length r41 (initFr args) σ (finP W0 rs41 σ.length K)) : ACall Try.prog W0 41 args σ K :=
  ACall.introR mixed Try.func41 (by kernel_rfl) k41 (by kernel_rfl) hn h
def r42 : RC := (.seq (.reg [.op (some 1) (.box 30 (.t 0)),
  .op (some 2) (.mv (.v (.lit (.int .u64 (0))))),
  .op (some 3) (.mv (.v (.lit (.bool false))))])
 (.seq (.reg [.op (some 4) (.mv (.v (.lit (.int .u64 (0)))))])
 (.seq (.seq (.reg [.op (some 7) (.faddr 0 (.t 1)),
  .op (some 8) (.load 6 true (.t 7)),
  .op (some 9) (.mv (.v (.lit (.int .i64 (0)))))])
 (.block 0 (.loop (.seq (.reg [.op (some 10) (.binI .lss (.t 9) (.v (.lit (.int .i64 (6)))))])
 (.seq (.cond (.t 10)
 .skip
 (.exit 0))
 (.seq (.block 1 (.seq (.reg [.op (some 11) (.mv (.t 9)),
  .op (some 12) (.idxA 6 1 false (.t 8) (.t 9)),
  .op (some 5) (.mv (.t 11)),
  .op (some 6) (.mv (.t 12))])
 (.seq (.seq (.reg [.op (some 13) (.mv (.t 6)),
  .op (some 14) (.binI .lss (.t 13) (.v (.lit (.int .i64 (0))))),
  .op (some 15) (.mv (.t 14)),
  .grp 15 false [((some 16), (.mv (.t 6))), ((some 17), (.binI .gtr (.t 16) (.v (.lit (.int .i64 (63))))))],
  .op (some 18) (.pick (.t 15) (.v (.lit (.bool true))) (.t 17))])
 (.cond (.t 18)
 (.seq (.reg [.op (some 2) (.mv (.v (.lit (.int .u64 (0))))),
  .op (some 3) (.mv (.v (.lit (.bool false))))])
 .ret)
 .skip))
 (.reg [.op (some 19) (.mv (.t 4)),
  .op (some 20) (.mv (.t 6)),
  .op (some 21) (.conv .u64 (.t 20)),
  .op (some 22) (.mv (.t 5)),
  .op (some 23) (.binI .mul (.t 22) (.v (.lit (.int .i64 (6))))),
  .op (some 24) (.binI .shl (.t 21) (.t 23)),
  .op (some 25) (.binI .or (.t 19) (.t 24)),
  .op (some 4) (.mv (.t 25))]))))
 (.reg [.op (some 26) (.binI .add (.t 9) (.v (.lit (.int .i64 (1))))),
  .op (some 9) (.mv (.t 26))])))))))
 (.seq (.reg [.op (some 27) (.mv (.t 4)),
  .op (some 2) (.mv (.t 27)),
  .op (some 3) (.mv (.v (.lit (.bool true))))])
 .ret))))
def rs42 : List RR := [.tmp 2, .tmp 3]
def cut42 : Nat → Nat := fun id => 0
theorem k42 : (Try.f42.body.bind fun c => comp Try.prog Try.f42.ntmps cut42 c) = some r42 := by kernel_rfl
theorem by42 {W0 : World} {σ : List Blk} {args : List AV} {K : Cont} (hn : args.length ≤ 28) (h : rW Try.prog W0 σ.length r42 (initFr args) σ (finP W0 rs42 σ.length K)) : ACall Try.prog W0 42 args σ K :=
  ACall.introR mixed Try.func42 (by kernel_rfl) k42 (by kernel_rfl) hn h
def r43 : RC := (.seq (.reg [.op (some 2) (.box 53 (.t 0)),
  .op (some 4) (.mv (.v (.lit (.bool false))))])
 (.seq (.reg [.op (some 5) (.faddr 0 (.t 2)),
  .op (some 6) (.load 1 false (.t 5)),
  .op (some 7) (.binI .geq (.t 6) (.v (.lit (.int .i64 (1))))),
  .op (some 8) (.mv (.t 7)),
  .grp 8 true [((some 9), (.faddr 0 (.t 2))), ((some 10), (.load 1 false (.t 9))), ((some 11), (.binI .leq (.t 10) (.v (.lit (.int .i64 (3))))))],
  .op (some 12) (.pick (.t 8) (.t 11) (.v (.lit (.bool false)))),
  .op (some 13) (.mv (.t 12)),
  .grp 13 true [((some 14), (.faddr 1 (.t 2))), ((some 15), (.load 1 false (.t 14))), ((some 16), (.binI .geq (.t 15) (.v (.lit (.int .i64 (0))))))],
  .op (some 17) (.pick (.t 13) (.t 16) (.v (.lit (.bool false)))),
  .op (some 18) (.mv (.t 17)),
  .grp 18 true [((some 19), (.faddr 1 (.t 2))), ((some 20), (.load 1 false (.t 19))), ((some 21), (.mv (.t 1))), ((some 22), (.binI .lss (.t 20) (.t 21)))],
  .op (some 23) (.pick (.t 18) (.t 22) (.v (.lit (.bool false)))),
  .op (some 24) (.mv (.t 23)),
  .grp 24 true [((some 25), (.faddr 2 (.t 2))), ((some 26), (.load 2 true (.t 25))), ((some 27), (.call (.v (.lit (.func (.func 51) #[] #[]))) [(.t 26)]))],
  .op (some 28) (.pick (.t 24) (.t 27) (.v (.lit (.bool false)))),
  .op (some 4) (.mv (.t 28))])
 .ret))
def rs43 : List RR := [.tmp 4]
def cut43 : Nat → Nat := fun id => 0
theorem k43 : (Try.f43.body.bind fun c => comp Try.prog Try.f43.ntmps cut43 c) = some r43 := by kernel_rfl
theorem by43 {W0 : World} {σ : List Blk} {args : List AV} {K : Cont} (hn : args.length ≤ 29) (h : rW Try.prog W0 σ.length r43 (initFr args) σ (finP W0 rs43 σ.length K)) : ACall Try.prog W0 43 args σ K :=
  ACall.introR mixed Try.func43 (by kernel_rfl) k43 (by kernel_rfl) hn h
def r44 : RC := (.seq (.reg [.op (some 4) (.mv (.v (.lit (.int .u64 (0)))))])
 (.seq (.reg [.op (some 5) (.mv (.t 0)),
  .op (some 6) (.mv (.t 1)),
  .op (some 7) (.binI .rem (.t 6) (.v (.lit (.int .i64 (6))))),
  .op (some 8) (.mv (.t 1)),
  .op (some 9) (.binI .quo (.t 8) (.v (.lit (.int .i64 (6))))),
  .op (some 10) (.call (.v (.lit (.func (.func 52) #[] #[]))) [(.t 5), (.t 7), (.t 9)]),
  .op (some 4) (.mv (.t 10))])
 .ret))
def rs44 : List RR := [.tmp 4]
def cut44 : Nat → Nat := fun id => 0
theorem k44 : (Try.f44.body.bind fun c => comp Try.prog Try.f44.ntmps cut44 c) = some r44 := by kernel_rfl
theorem by44 {W0 : World} {σ : List Blk} {args : List AV} {K : Cont} (hn : args.length ≤ 11) (h : rW Try.prog W0 σ.length r44 (initFr args) σ (finP W0 rs44 σ.length K)) : ACall Try.prog W0 44 args σ K :=
  ACall.introR mixed Try.func44 (by kernel_rfl) k44 (by kernel_rfl) hn h
def r45 : RC := (.seq (.reg [.op (some 1) (.box 51 (.t 0)),
  .op (some 2) (.mv (.v (.lit (.int .i64 (0)))))])
 (.seq (.reg [.op (some 3) (.iaddrA 2 1 (.t 1) (.v (.lit (.int .i64 (1))))),
  .op (some 4) (.load 1 false (.t 3)),
  .op (some 5) (.binI .mul (.t 4) (.v (.lit (.int .i64 (6))))),
  .op (some 6) (.iaddrA 2 1 (.t 1) (.v (.lit (.int .i64 (0))))),
  .op (some 7) (.load 1 false (.t 6)),
  .op (some 8) (.binI .add (.t 5) (.t 7)),
  .op (some 2) (.mv (.t 8))])
 .ret))
def rs45 : List RR := [.tmp 2]
def cut45 : Nat → Nat := fun id => 0
theorem k45 : (Try.f45.body.bind fun c => comp Try.prog Try.f45.ntmps cut45 c) = some r45 := by kernel_rfl
theorem by45 {W0 : World} {σ : List Blk} {args : List AV} {K : Cont} (hn : args.length ≤ 9) (h : rW Try.prog W0 σ.length r45 (initFr args) σ (finP W0 rs45 σ.length K)) : ACall Try.prog W0 45 args σ K :=
  ACall.introR mixed Try.func45 (by kernel_rfl) k45 (by kernel_rfl) hn h
def r50 : RC := (.seq (.reg [.op (some 2) (.box 51 (.t 0)),
  .op (some 3) (.box 51 (.t 1)),
  .op (some 4) (.mv (.v (.lit (.bool false))))])
 (.seq (.seq (.reg [.op (some 5) (.mv (.v (.lit (.int .i64 (0)))))])
 (.block 0 (.loop (.seq (.seq (.reg [.op (some 6) (.mv (.t 5)),
  .op (some 7) (.binI .lss (.t 6) (.v (.lit (.int .i64 (2)))))])
 (.cond (.t 7)
 .skip
 (.exit 0)))
 (.seq (.block 1 (.seq (.draw [((some 10), (.mv (.t 5))), ((some 11), (.iaddrA 2 1 (.t 2) (.t 10))), ((some 12), (.load 1 false (.t 11))), ((some 13), (.mv (.t 5))), ((some 14), (.iaddrA 2 1 (.t 3) (.t 13))), ((some 15), (.load 1 false (.t 14))), ((some 16), (.binI .neq (.t 12) (.t 15)))] [])
 (.cond (.t 16)
 (.seq (.reg [.op (some 4) (.mv (.v (.lit (.bool false))))])
 .ret)
 .skip)))
 (.reg [.op (some 8) (.mv (.t 5)),
  .op (some 9) (.binI .add (.t 8) (.v (.lit (.int .i64 (1))))),
  .op (some 5) (.mv (.t 9))]))))))
 (.seq (.reg [.op (some 4) (.mv (.v (.lit (.bool true))))])
 .ret)))
def rs50 : List RR := [.tmp 4]
def cut50 : Nat → Nat := fun id => if id = 4 then 15 else 0
theorem k50 : (Try.f50.body.bind fun c => comp Try.prog Try.f50.ntmps cut50 c) = some r50 := by kernel_rfl
theorem by50 {W0 : World} {σ : List Blk} {args : List AV} {K : Cont} (hn : args.length ≤ 17) (h : rW Try.prog W0 σ.length r50 (initFr args) σ (finP W0 rs50 σ.length K)) : ACall Try.prog W0 50 args σ K :=
  ACall.introR mixed Try.func50 (by kernel_rfl) k50 (by kernel_rfl) hn h
def r51 : RC := (.seq (.reg [.op (some 1) (.box 51 (.t 0)),
  .op (some 2) (.mv (.v (.lit (.bool false))))])
 (.seq (.reg [.op (some 3) (.iaddrA 2 1 (.t 1) (.v (.lit (.int .i64 (0))))),
  .op (some 4) (.load 1 false (.t 3)),
  .op (some 5) (.binI .geq (.t 4) (.v (.lit (.int .i64 (0))))),
  .op (some 6) (.mv (.t 5)),
  .grp 6 true [((some 7), (.iaddrA 2 1 (.t 1) (.v (.lit (.int .i64 (0)))))), ((some 8), (.load 1 false (.t 7))), ((some 9), (.binI .lss (.t 8) (.v (.lit (.int .i64 (6))))))],
  .op (some 10) (.pick (.t 6) (.t 9) (.v (.lit (.bool false)))),
  .op (some 11) (.mv (.t 10)),
  .grp 11 true [((some 12), (.iaddrA 2 1 (.t 1) (.v (.lit (.int .i64 (1)))))), ((some 13), (.load 1 false (.t 12))), ((some 14), (.binI .geq (.t 13) (.v (.lit (.int .i64 (0))))))],
  .op (some 15) (.pick (.t 11) (.t 14) (.v (.lit (.bool false)))),
  .op (some 16) (.mv (.t 15)),
  .grp 16 true [((some 17), (.iaddrA 2 1 (.t 1) (.v (.lit (.int .i64 (1)))))), ((some 18), (.load 1 false (.t 17))), ((some 19), (.binI .lss (.t 18) (.v (.lit (.int .i64 (6))))))],
  .op (some 20) (.pick (.t 16) (.t 19) (.v (.lit (.bool false)))),
  .op (some 2) (.mv (.t 20))])
 .ret))
def rs51 : List RR := [.tmp 2]
def cut51 : Nat → Nat := fun id => 0
theorem k51 : (Try.f51.body.bind fun c => comp Try.prog Try.f51.ntmps cut51 c) = some r51 := by kernel_rfl
theorem by51 {W0 : World} {σ : List Blk} {args : List AV} {K : Cont} (hn : args.length ≤ 21) (h : rW Try.prog W0 σ.length r51 (initFr args) σ (finP W0 rs51 σ.length K)) : ACall Try.prog W0 51 args σ K :=
  ACall.introR mixed Try.func51 (by kernel_rfl) k51 (by kernel_rfl) hn h
def r52 : RC := (.seq (.reg [.op (some 4) (.box 3 (.t 1)),
  .op (some 5) (.box 3 (.t 2)),
  .op (some 6) (.mv (.v (.lit (.int .u64 (0)))))])
 (.seq (.quiet [.op (some 7) (.load 1 false (.t 4)),
  .op (some 8) (.call (.v (.lit (.func (.func 53) #[] #[]))) [(.t 7)]),
  .op (some 9) (.load 1 false (.t 5)),
  .op (some 10) (.call (.v (.lit (.func (.func 53) #[] #[]))) [(.t 9)])] [.op none (.store 1 (.t 4) (.t 8)),
  .op none (.store 1 (.t 5) (.t 10))])
 (.seq (.reg [.op (some 11) (.mv (.t 0)),
  .op (some 12) (.mkfn (.func 55) [] [(.t 4), (.t 5)]),
  .op (some 13) (.call (.v (.lit (.func (.func 54) #[] #[]))) [(.t 11), (.t 12)]),
  .op (some 6) (.mv (.t 13))])
 .ret)))
def rs52 : List RR := [.tmp 6]
def cut52 : Nat → Nat := fun id => if id = 1 then 8 else 0
theorem k52 : (Try.f52.body.bind fun c => comp Try.prog Try.f52.ntmps cut52 c) = some r52 := by kernel_rfl
theorem by52 {W0 : World} {σ : List Blk} {args : List AV} {K : Cont} (hn : args.length ≤ 14) (h : rW Try.prog W0 σ.length r52 (initFr args) σ (finP W0 rs52 σ.length K)) : ACall Try.prog W0 52 args σ K :=
  ACall.introR mixed Try.func52 (by kernel_rfl) k52 (by kernel_rfl) hn h
def r53 : RC := (.seq (.reg [.op (some 2) (.mv (.v (.lit (.int .i64 (0)))))])
 (.seq (.reg [.op (some 3) (.mv (.t 0)),
  .op (some 4) (.binI .rem (.t 3) (.v (.lit (.int .i64 (6))))),
  .op (some 5) (.binI .add (.t 4) (.v (.lit (.int .i64 (6))))),
  .op (some 6) (.binI .rem (.t 5) (.v (.lit (.int .i64 (6))))),
  .op (some 2) (.mv (.t 6))])
 .ret))
def rs53 : List RR := [.tmp 2]
def cut53 : Nat → Nat := fun id => 0
theorem k53 : (Try.f53.body.bind fun c => comp Try.prog Try.f53.ntmps cut53 c) = some r53 := by kernel_rfl
theorem by53 {W0 : World} {σ : List Blk} {args : List AV} {K : Cont} (hn : args.length ≤ 7) (h : rW Try.prog W0 σ.length r53 (initFr args) σ (finP W0 rs53 σ.length K)) : ACall Try.prog W0 53 args σ K :=
  ACall.introR mixed Try.func53 (by kernel_rfl) k53 (by kernel_rfl) hn h
def r54 : RC := (.seq (.reg [.op (some 4) (.mv (.v (.lit (.int .u64 (0)))))])
 (.seq (.reg [.op (some 5) (.mv (.v (.lit (.int .u64 (0)))))])
 (.seq (.seq (.reg [.op (some 9) (.mv (.v (.lit (.int .i64 (0)))))])
 (.block 0 (.loop (.seq (.reg [.op (some 10) (.binI .lss (.t 9) (.v (.lit (.int .i64 (36)))))])
 (.seq (.cond (.t 10)
 .skip
 (.exit 0))
 (.seq (.block 1 (.seq (.reg [.op (some 11) (.mv (.t 9)),
  .op (some 6) (.mv (.t 11))])
 (.seq (.reg [.op (some 12) (.mv (.t 0)),
  .op (some 13) (.mv (.t 6)),
  .op (some 14) (.call (.v (.lit (.func (.func 56) #[] #[]))) [(.t 12), (.t 13)])])
 (.cond (.t 14)
 (.seq (.reg [.op (some 16) (.mv (.t 1)),
  .op (some 17) (.mv (.t 6)),
  .op (some 18) (.binI .rem (.t 17) (.v (.lit (.int .i64 (6))))),
  .op (some 19) (.mv (.t 6)),
  .op (some 20) (.binI .quo (.t 19) (.v (.lit (.int .i64 (6))))),
  .op (some 21) (.call (.t 16) [(.t 18), (.t 20)]),
  .op (some 15) (.mv (.t 21)),
  .op (some 22) (.ext (.t 15) 0),
  .op (some 23) (.ext (.t 15) 1),
  .op (some 7) (.mv (.t 22)),
  .op (some 8) (.mv (.t 23))])
 (.reg [.op (some 24) (.mv (.t 5)),
  .op (some 25) (.mv (.t 8)),
  .op (some 26) (.binI .mul (.t 25) (.v (.lit (.int .i64 (6))))),
  .op (some 27) (.mv (.t 7)),
  .op (some 28) (.binI .add (.t 26) (.t 27)),
  .op (some 29) (.binI .shl (.v (.lit (.int .u64 (1)))) (.t 28)),
  .op (some 30) (.binI .or (.t 24) (.t 29)),
  .op (some 5) (.mv (.t 30))]))
 .skip))))
 (.reg [.op (some 31) (.binI .add (.t 9) (.v (.lit (.int .i64 (1))))),
  .op (some 9) (.mv (.t 31))])))))))
 (.seq (.reg [.op (some 32) (.mv (.t 5)),
  .op (some 4) (.mv (.t 32))])
 .ret))))
def rs54 : List RR := [.tmp 4]
def cut54 : Nat → Nat := fun id => 0
theorem k54 : (Try.f54.body.bind fun c => comp Try.prog Try.f54.ntmps cut54 c) = some r54 := by kernel_rfl
theorem by54 {W0 : World} {σ : List Blk} {args : List AV} {K : Cont} (hn : args.length ≤ 33) (h : rW Try.prog W0 σ.length r54 (initFr args) σ (finP W0 rs54 σ.length K)) : ACall Try.prog W0 54 args σ K :=
  ACall.introR mixed Try.func54 (by kernel_rfl) k54 (by kernel_rfl) hn h
def r55 : RC := (.seq (.reg [.op (some 6) (.mv (.v (.lit (.int .i64 (0))))),
  .op (some 7) (.mv (.v (.lit (.int .i64 (0)))))])
 (.seq (.draw [((some 8), (.mv (.t 0))), ((some 9), (.load 1 false (.t 2))), ((some 10), (.binI .add (.t 8) (.t 9))), ((some 11), (.binI .rem (.t 10) (.v (.lit (.int .i64 (6)))))), ((some 12), (.mv (.t 1))), ((some 13), (.load 1 false (.t 3))), ((some 14), (.binI .add (.t 12) (.t 13))), ((some 15), (.binI .rem (.t 14) (.v (.lit (.int .i64 (6)))))), ((some 6), (.mv (.t 11))), ((some 7), (.mv (.t 15)))] [])
 .ret))
def rs55 : List RR := [.tmp 6, .tmp 7]
def cut55 : Nat → Nat := fun id => if id = 1 then 21 else 0
theorem k55 : (Try.f55.body.bind fun c => comp Try.prog Try.f55.ntmps cut55 c) = some r55 := by kernel_rfl
theorem by55 {W0 : World} {σ : List Blk} {args : List AV} {K : Cont} (hn : args.length ≤ 16) (h : rW Try.prog W0 σ.length r55 (initFr args) σ (finP W0 rs55 σ.length K)) : ACall Try.prog W0 55 args σ K :=
  ACall.introR mixed Try.func55 (by kernel_rfl) k55 (by kernel_rfl) hn h
def r56 : RC := (.seq (.reg [.op (some 4) (.mv (.v (.lit (.bool false))))])
 (.seq (.reg [.op (some 5) (.mv (.t 0)),
  .op (some 6) (.mv (.t 1)),
  .op (some 7) (.binI .shr (.t 5) (.t 6)),
  .op (some 8) (.binI .and (.t 7) (.v (.lit (.int .u64 (1))))),
  .op (some 9) (.binI .eql (.t 8) (.v (.lit (.int .u64 (1))))),
  .op (some 4) (.mv (.t 9))])
 .ret))
def rs56 : List RR := [.tmp 4]
def cut56 : Nat → Nat := fun id => 0
theorem k56 : (Try.f56.body.bind fun c => comp Try.prog Try.f56.ntmps cut56 c) = some r56 := by kernel_rfl
theorem by56 {W0 : World} {σ : List Blk} {args : List AV} {K : Cont} (hn : args.length ≤ 10) (h : rW Try.prog W0 σ.length r56 (initFr args) σ (finP W0 rs56 σ.length K)) : ACall Try.prog W0 56 args σ K :=
  ACall.introR mixed Try.func56 (by kernel_rfl) k56 (by kernel_rfl) hn h
end Go.Proofs.Ytcfkhiplmnamcaa
end

section
/- Contracts of small functions: what they compute. -/
set_option linter.unusedVariables false
set_option linter.unusedSimpArgs false
namespace Go.Proofs.Ytcfkhiplmnamcaa
open Go Go.RowKit Go.Proofs.Ytcfkhiplmnamcaa.Abs
theorem fL_mk {l : List AV} {K : List AV → Prop} (h : K l) : fL l K := by rw [fL_eq]; exact h
def litAll : List AV → Bool
  | [] => true
  | .lit _ :: l => litAll l
  | _ :: _ => false
theorem det3_agg {σ : List Blk} : ∀ {cs : List AV}, litAll cs = true → det3 σ (.agg cs) := by
  intro cs h v hv
  induction cs with
  | nil => cases hv
  | cons a cs ih =>
    cases a with
    | lit x => cases hv with
      | head => exact trivial
      | tail _ hv => exact ih h hv
    | _ => cases h
abbrev I (n : Int) : AV := .lit (.int .i64 n)
abbrev Bo (b : Bool) : AV := .lit (.bool b)
abbrev St (s : ByteArray) : AV := .lit (.string s)
variable {W0 : World} {σ : List Blk}
def inB (x a b : Int) : Bool := decide (a ≤ x) && decide (x ≤ b)
theorem c_l1In (x a b : Int) (K : Cont) (h0 : K (Bo (inB x a b)) []) : ACall Try.prog W0 39 [I x, I a, I b] [] K := by
  refine by39 (Nat.le_of_ble_eq_true rfl) ?_
  repeat' ((conv => whnf); first | (refine Exists.intro ([] : List Nat) ?_) | (refine And.intro rfl ?_) | (refine And.intro (by decide +kernel) ?_) | (refine And.intro trivial ?_) | (refine Exists.intro _ (And.intro rfl (And.intro rfl (And.intro (Nat.le_of_ble_eq_true rfl) ?_)))) | (refine Exists.intro _ (And.intro rfl (And.intro rfl (And.intro rfl (And.intro (Nat.le_of_ble_eq_true rfl) ?_))))) | (refine And.intro (Exists.intro _ (And.intro rfl rfl)) ?_) | (exact fun hW => absurd hW (by decide +kernel)) | (intro hW; (try simp only [Bool.not_true, Bool.not_false, Bool.not_eq_true', Bool.not_eq_false', decide_eq_true_eq, decide_eq_false_iff_not, reduceCtorEq, Bool.true_eq_false, Bool.false_eq_true, mk_size, List.size_toArray, ByteArray.size_append, ByteArray.size_extract, List.length_cons, List.length_nil, ba_get, ba_empty, Int.toNat_natCast] at hW)) | (refine And.intro (?_ : _ → _) (?_ : _ → _)) | (refine FinR.drop 0 (Nat.zero_le _) (Closed.zero _) rfl ?_) | (refine FinR.keep ?_) | (refine And.intro (det3_agg rfl) ?_) | (refine fL_mk ?_) | (refine And.intro (by (try simp only [mk_size, List.size_toArray, ByteArray.size_append, ByteArray.size_extract, List.length_cons, List.length_nil]); omega) ?_) | (refine And.intro (by (try simp only [mk_size, List.size_toArray, ByteArray.size_append, ByteArray.size_extract, List.length_cons, List.length_nil, wrap64_eq]); omega) ?_) | fail)
  all_goals first | exact h0 | (refine Eq.mp (congrArg (fun v => K v []) ?_) h0; clear h0; simp_all [inB] <;> omega)
theorem d_l1In (x a b : Int) (K : Cont) (h0 : K (Bo (inB x a b)) σ) : ACall Try.prog W0 39 [I x, I a, I b] σ K :=
  ACall.lift rfl (fun _ => rfl) (fun W1 K _ h => c_l1In x a b K h) h0
abbrev Sh (a b c d e f : Int) : AV := .agg [I a, I b, I c, I d, I e, I f]
def shB6 (a b c d e f : Int) : Bool := inB a 0 63 && inB b 0 63 && inB c 0 63 && inB d 0 63 && inB e 0 63 && inB f 0 63
theorem c_l2Sheet (a b c d e f : Int) (K : Cont) (h0 : K (Bo (shB6 a b c d e f)) []) : ACall Try.prog W0 29 [Sh a b c d e f] [] K := by
  refine by29 (Nat.le_of_ble_eq_true rfl) ?_
  repeat' ((conv => whnf); first | (refine Exists.intro ([] : List Nat) ?_) | (refine And.intro rfl ?_) | (refine And.intro (by decide +kernel) ?_) | (refine And.intro trivial ?_) | (refine LoopR.unroll 7 ?_) | (refine d_l1In (h0 := ?_) ..) | (refine Exists.intro _ (And.intro (fun τ => callW_fn (d_l1In (h0 := And.intro rfl rfl) ..)) ?_)) | (refine Exists.intro _ (And.intro (callW_fn (d_l1In (h0 := And.intro rfl rfl) ..)) (And.intro trivial ?_))) | (refine Exists.intro _ (And.intro (callW_fn (d_l1In (h0 := And.intro rfl rfl) ..)) ?_)) | (refine Exists.intro _ (And.intro (fun τ _ => callW_fn (d_l1In (h0 := And.intro rfl rfl) ..)) ?_)) | (refine Exists.intro _ (And.intro rfl (And.intro rfl (And.intro (Nat.le_of_ble_eq_true rfl) ?_)))) | (refine Exists.intro _ (And.intro rfl (And.intro rfl (And.intro rfl (And.intro (Nat.le_of_ble_eq_true rfl) ?_))))) | (refine And.intro (Exists.intro _ (And.intro rfl rfl)) ?_) | (exact fun hW => absurd hW (by decide +kernel)) | (intro hW; (try simp only [Bool.not_true, Bool.not_false, Bool.not_eq_true', Bool.not_eq_false', decide_eq_true_eq, decide_eq_false_iff_not, reduceCtorEq, Bool.true_eq_false, Bool.false_eq_true, mk_size, List.size_toArray, ByteArray.size_append, ByteArray.size_extract, List.length_cons, List.length_nil, ba_get, ba_empty, Int.toNat_natCast] at hW)) | (refine And.intro (?_ : _ → _) (?_ : _ → _)) | (refine FinR.drop 0 (Nat.zero_le _) (Closed.zero _) rfl ?_) | (refine FinR.keep ?_) | (refine And.intro (det3_agg rfl) ?_) | (refine fL_mk ?_) | (refine And.intro (by (try simp only [mk_size, List.size_toArray, ByteArray.size_append, ByteArray.size_extract, List.length_cons, List.length_nil]); omega) ?_) | (refine And.intro (by (try simp only [mk_size, List.size_toArray, ByteArray.size_append, ByteArray.size_extract, List.length_cons, List.length_nil, wrap64_eq]); omega) ?_) | fail)
  all_goals first | exact h0 | (refine Eq.mp (congrArg (fun v => K v []) ?_) h0; clear h0; simp_all [shB6] <;> omega)
theorem d_l2Sheet (a b c d e f : Int) (K : Cont) (h0 : K (Bo (shB6 a b c d e f)) σ) : ACall Try.prog W0 29 [Sh a b c d e f] σ K :=
  ACall.lift rfl (fun _ => rfl) (fun W1 K _ h => c_l2Sheet a b c d e f K h) h0
theorem c_toIntA6 (a b c d e f : Int) (K : Cont) (h0 : K (Sh a b c d e f) []) : ACall Try.prog W0 31 [Sh a b c d e f] [] K := by
  refine by31 (Nat.le_of_ble_eq_true rfl) ?_
  repeat' ((conv => whnf); first | (refine Exists.intro ([] : List Nat) ?_) | (refine And.intro rfl ?_) | (refine And.intro (by decide +kernel) ?_) | (refine And.intro trivial ?_) | (refine LoopR.unroll 7 ?_) | (refine Exists.intro _ (And.intro rfl (And.intro rfl (And.intro (Nat.le_of_ble_eq_true rfl) ?_)))) | (refine Exists.intro _ (And.intro rfl (And.intro rfl (And.intro rfl (And.intro (Nat.le_of_ble_eq_true rfl) ?_))))) | (refine And.intro (Exists.intro _ (And.intro rfl rfl)) ?_) | (exact fun hW => absurd hW (by decide +kernel)) | (intro hW; (try simp only [Bool.not_true, Bool.not_false, Bool.not_eq_true', Bool.not_eq_false', decide_eq_true_eq, decide_eq_false_iff_not, reduceCtorEq, Bool.true_eq_false, Bool.false_eq_true, mk_size, List.size_toArray, ByteArray.size_append, ByteArray.size_extract, List.length_cons, List.length_nil, ba_get, ba_empty, Int.toNat_natCast] at hW)) | (refine And.intro (?_ : _ → _) (?_ : _ → _)) | (refine FinR.drop 0 (Nat.zero_le _) (Closed.zero _) rfl ?_) | (refine FinR.keep ?_) | (refine And.intro (det3_agg rfl) ?_) | (refine fL_mk ?_) | (refine And.intro (by (try simp only [mk_size, List.size_toArray, ByteArray.size_append, ByteArray.size_extract, List.length_cons, List.length_nil]); omega) ?_) | (refine And.intro (by (try simp only [mk_size, List.size_toArray, ByteArray.size_append, ByteArray.size_extract, List.length_cons, List.length_nil, wrap64_eq]); omega) ?_) | fail)
  all_goals first | exact h0 | (refine Eq.mp (congrArg (fun v => K v []) ?_) h0; clear h0; simp_all <;> omega)
theorem d_toIntA6 (a b c d e f : Int) (K : Cont) (h0 : K (Sh a b c d e f) σ) : ACall Try.prog W0 31 [Sh a b c d e f] σ K :=
  ACall.lift rfl (fun _ => rfl) (fun W1 K _ h => c_toIntA6 a b c d e f K h) h0
theorem c_toSheet (a b c d e f : Int) (K : Cont) (h0 : K (Sh a b c d e f) []) : ACall Try.prog W0 15 [Sh a b c d e f] [] K := by
  refine by15 (Nat.le_of_ble_eq_true rfl) ?_
  repeat' ((conv => whnf); first | (refine Exists.intro ([] : List Nat) ?_) | (refine And.intro rfl ?_) | (refine And.intro (by decide +kernel) ?_) | (refine And.intro trivial ?_) | (refine d_toIntA6 (h0 := ?_) ..) | (refine Exists.intro _ (And.intro (fun τ => callW_fn (d_toIntA6 (h0 := And.intro rfl rfl) ..)) ?_)) | (refine Exists.intro _ (And.intro (callW_fn (d_toIntA6 (h0 := And.intro rfl rfl) ..)) (And.intro trivial ?_))) | (refine Exists.intro _ (And.intro (callW_fn (d_toIntA6 (h0 := And.intro rfl rfl) ..)) ?_)) | (refine Exists.intro _ (And.intro (fun τ _ => callW_fn (d_toIntA6 (h0 := And.intro rfl rfl) ..)) ?_)) | (refine Exists.intro _ (And.intro rfl (And.intro rfl (And.intro (Nat.le_of_ble_eq_true rfl) ?_)))) | (refine Exists.intro _ (And.intro rfl (And.intro rfl (And.intro rfl (And.intro (Nat.le_of_ble_eq_true rfl) ?_))))) | (refine And.intro (Exists.intro _ (And.intro rfl rfl)) ?_) | (exact fun hW => absurd hW (by decide +kernel)) | (intro hW; (try simp only [Bool.not_true, Bool.not_false, Bool.not_eq_true', Bool.not_eq_false', decide_eq_true_eq, decide_eq_false_iff_not, reduceCtorEq, Bool.true_eq_false, Bool.false_eq_true, mk_size, List.size_toArray, ByteArray.size_append, ByteArray.size_extract, List.length_cons, List.length_nil, ba_get, ba_empty, Int.toNat_natCast] at hW)) | (refine And.intro (?_ : _ → _) (?_ : _ → _)) | (refine FinR.drop 0 (Nat.zero_le _) (Closed.zero _) rfl ?_) | (refine FinR.keep ?_) | (refine And.intro (det3_agg rfl) ?_) | (refine fL_mk ?_) | (refine And.intro (by (try simp only [mk_size, List.size_toArray, ByteArray.size_append, ByteArray.size_extract, List.length_cons, List.length_nil]); omega) ?_) | (refine And.intro (by (try simp only [mk_size, List.size_toArray, ByteArray.size_append, ByteArray.size_extract, List.length_cons, List.length_nil, wrap64_eq]); omega) ?_) | fail)
  all_goals first | exact h0 | (refine Eq.mp (congrArg (fun v => K v []) ?_) h0; clear h0; simp_all <;> omega)
theorem d_toSheet (a b c d e f : Int) (K : Cont) (h0 : K (Sh a b c d e f) σ) : ACall Try.prog W0 15 [Sh a b c d e f] σ K :=
  ACall.lift rfl (fun _ => rfl) (fun W1 K _ h => c_toSheet a b c d e f K h) h0
end Go.Proofs.Ytcfkhiplmnamcaa
end

section
/- Contracts: sheets and shops. -/
set_option linter.unusedVariables false
set_option linter.unusedSimpArgs false
namespace Go.Proofs.Ytcfkhiplmnamcaa
open Go Go.RowKit Go.Proofs.Ytcfkhiplmnamcaa.Abs
variable {W0 : World} {σ : List Blk}
abbrev U (n : Int) : AV := .lit (.int .u64 n)
def setI (a b c d e f : Int) : Int :=
  bOr .u64 (bOr .u64 (bOr .u64 (bOr .u64 (bOr .u64 (bOr .u64 0 (shL .u64 (IntKind.u64.wrap a) 0)) (shL .u64 (IntKind.u64.wrap b) 6)) (shL .u64 (IntKind.u64.wrap c) 12)) (shL .u64 (IntKind.u64.wrap d) 18)) (shL .u64 (IntKind.u64.wrap e) 24)) (shL .u64 (IntKind.u64.wrap f) 30)
def setR (a b c d e f : Int) : AV := .tup [U (if shB6 a b c d e f = true then setI a b c d e f else 0), Bo (shB6 a b c d e f)]
theorem c_setOf (a b c d e f : Int) (K : Cont) (h0 : K (setR a b c d e f) []) : ACall Try.prog W0 42 [Sh a b c d e f] [] K := by
  refine by42 (Nat.le_of_ble_eq_true rfl) ?_
  repeat' ((conv => whnf); first | (refine Exists.intro ([] : List Nat) ?_) | (refine And.intro rfl ?_) | (refine And.intro (by decide +kernel) ?_) | (refine And.intro trivial ?_) | (refine LoopR.unroll 7 ?_) | (refine Exists.intro _ (And.intro rfl (And.intro rfl (And.intro (Nat.le_of_ble_eq_true rfl) ?_)))) | (refine Exists.intro _ (And.intro rfl (And.intro rfl (And.intro rfl (And.intro (Nat.le_of_ble_eq_true rfl) ?_))))) | (refine And.intro (Exists.intro _ (And.intro rfl rfl)) ?_) | (exact fun hW => absurd hW (by decide +kernel)) | (intro hW; (try simp only [Bool.not_true, Bool.not_false, Bool.not_eq_true', Bool.not_eq_false', decide_eq_true_eq, decide_eq_false_iff_not, reduceCtorEq, Bool.true_eq_false, Bool.false_eq_true, mk_size, List.size_toArray, ByteArray.size_append, ByteArray.size_extract, List.length_cons, List.length_nil, ba_get, ba_empty, Int.toNat_natCast] at hW)) | (refine And.intro (?_ : _ → _) (?_ : _ → _)) | (refine FinR.drop 0 (Nat.zero_le _) (Closed.zero _) rfl ?_) | (refine FinR.keep ?_) | (refine And.intro (det3_agg rfl) ?_) | (refine fL_mk ?_) | (refine And.intro (by (try simp only [mk_size, List.size_toArray, ByteArray.size_append, ByteArray.size_extract, List.length_cons, List.length_nil]); omega) ?_) | (refine And.intro (by (try simp only [mk_size, List.size_toArray, ByteArray.size_append, ByteArray.size_extract, List.length_cons, List.length_nil, wrap64_eq]); omega) ?_) | fail)
  all_goals first
    | (have hs : shB6 a b c d e f = false := by (simp_all [shB6, inB] <;> omega)
       rw [setR, hs] at h0
       exact h0)
    | (have hs : shB6 a b c d e f = true := by (simp_all [shB6, inB] <;> omega)
       rw [setR, hs, if_pos rfl] at h0
       exact h0)
abbrev Sp (a b c d e f a' b' c' d' e' f' p q : Int) : AV := .agg [I a, I b, I c, I d, I e, I f, I a', I b', I c', I d', I e', I f', I p, I q]
end Go.Proofs.Ytcfkhiplmnamcaa
end

section
/- Contracts: new shops, and that two shops are the same. -/
set_option linter.unusedVariables false
set_option linter.unusedSimpArgs false
namespace Go.Proofs.Ytcfkhiplmnamcaa
open Go Go.RowKit Go.Proofs.Ytcfkhiplmnamcaa.Abs
variable {W0 : World} {σ : List Blk}
def eq6 (a b c d e f a' b' c' d' e' f' : Int) : Bool := decide (a = a') && decide (b = b') && decide (c = c') && decide (d = d') && decide (e = e') && decide (f = f')
theorem c_eqIntA6 (a b c d e f a' b' c' d' e' f' : Int) (K : Cont) (h0 : K (Bo (eq6 a b c d e f a' b' c' d' e' f')) []) : ACall Try.prog W0 37 [Sh a b c d e f, Sh a' b' c' d' e' f'] [] K := by
  refine by37 (Nat.le_of_ble_eq_true rfl) ?_
  repeat' ((conv => whnf); first | (refine Exists.intro ([] : List Nat) ?_) | (refine And.intro rfl ?_) | (refine And.intro (by decide +kernel) ?_) | (refine And.intro trivial ?_) | (refine LoopR.unroll 7 ?_) | (refine Exists.intro _ (And.intro rfl (And.intro rfl (And.intro (Nat.le_of_ble_eq_true rfl) ?_)))) | (refine Exists.intro _ (And.intro rfl (And.intro rfl (And.intro rfl (And.intro (Nat.le_of_ble_eq_true rfl) ?_))))) | (refine And.intro (Exists.intro _ (And.intro rfl rfl)) ?_) | (exact fun hW => absurd hW (by decide +kernel)) | (intro hW; (try simp only [Bool.not_true, Bool.not_false, Bool.not_eq_true', Bool.not_eq_false', decide_eq_true_eq, decide_eq_false_iff_not, reduceCtorEq, Bool.true_eq_false, Bool.false_eq_true, mk_size, List.size_toArray, ByteArray.size_append, ByteArray.size_extract, List.length_cons, List.length_nil, ba_get, ba_empty, Int.toNat_natCast] at hW)) | (refine And.intro (?_ : _ → _) (?_ : _ → _)) | (refine FinR.drop 0 (Nat.zero_le _) (Closed.zero _) rfl ?_) | (refine FinR.keep ?_) | (refine And.intro (det3_agg rfl) ?_) | (refine fL_mk ?_) | (refine And.intro (by (try simp only [mk_size, List.size_toArray, ByteArray.size_append, ByteArray.size_extract, List.length_cons, List.length_nil]); omega) ?_) | (refine And.intro (by (try simp only [mk_size, List.size_toArray, ByteArray.size_append, ByteArray.size_extract, List.length_cons, List.length_nil, wrap64_eq]); omega) ?_) | fail)
  all_goals first | exact h0 | (refine Eq.mp (congrArg (fun v => K v []) ?_) h0; clear h0; simp_all [eq6] <;> omega)
theorem d_eqIntA6 (a b c d e f a' b' c' d' e' f' : Int) (K : Cont) (h0 : K (Bo (eq6 a b c d e f a' b' c' d' e' f')) σ) : ACall Try.prog W0 37 [Sh a b c d e f, Sh a' b' c' d' e' f'] σ K :=
  ACall.lift rfl (fun _ => rfl) (fun W1 K _ h => c_eqIntA6 a b c d e f a' b' c' d' e' f' K h) h0
theorem c_eqSheet (a b c d e f a' b' c' d' e' f' : Int) (K : Cont) (h0 : K (Bo (eq6 a b c d e f a' b' c' d' e' f')) []) : ACall Try.prog W0 22 [Sh a b c d e f, Sh a' b' c' d' e' f'] [] K := by
  refine by22 (Nat.le_of_ble_eq_true rfl) ?_
  repeat' ((conv => whnf); first | (refine Exists.intro ([] : List Nat) ?_) | (refine And.intro rfl ?_) | (refine And.intro (by decide +kernel) ?_) | (refine And.intro trivial ?_) | (refine d_eqIntA6 (h0 := ?_) ..) | (refine Exists.intro _ (And.intro (fun τ => callW_fn (d_eqIntA6 (h0 := And.intro rfl rfl) ..)) ?_)) | (refine Exists.intro _ (And.intro (callW_fn (d_eqIntA6 (h0 := And.intro rfl rfl) ..)) (And.intro trivial ?_))) | (refine Exists.intro _ (And.intro (callW_fn (d_eqIntA6 (h0 := And.intro rfl rfl) ..)) ?_)) | (refine Exists.intro _ (And.intro (fun τ _ => callW_fn (d_eqIntA6 (h0 := And.intro rfl rfl) ..)) ?_)) | (refine Exists.intro _ (And.intro rfl (And.intro rfl (And.intro (Nat.le_of_ble_eq_true rfl) ?_)))) | (refine Exists.intro _ (And.intro rfl (And.intro rfl (And.intro rfl (And.intro (Nat.le_of_ble_eq_true rfl) ?_))))) | (refine And.intro (Exists.intro _ (And.intro rfl rfl)) ?_) | (exact fun hW => absurd hW (by decide +kernel)) | (intro hW; (try simp only [Bool.not_true, Bool.not_false, Bool.not_eq_true', Bool.not_eq_false', decide_eq_true_eq, decide_eq_false_iff_not, reduceCtorEq, Bool.true_eq_false, Bool.false_eq_true, mk_size, List.size_toArray, ByteArray.size_append, ByteArray.size_extract, List.length_cons, List.length_nil, ba_get, ba_empty, Int.toNat_natCast] at hW)) | (refine And.intro (?_ : _ → _) (?_ : _ → _)) | (refine FinR.drop 0 (Nat.zero_le _) (Closed.zero _) rfl ?_) | (refine FinR.keep ?_) | (refine And.intro (det3_agg rfl) ?_) | (refine fL_mk ?_) | (refine And.intro (by (try simp only [mk_size, List.size_toArray, ByteArray.size_append, ByteArray.size_extract, List.length_cons, List.length_nil]); omega) ?_) | (refine And.intro (by (try simp only [mk_size, List.size_toArray, ByteArray.size_append, ByteArray.size_extract, List.length_cons, List.length_nil, wrap64_eq]); omega) ?_) | fail)
  all_goals first | exact h0 | (refine Eq.mp (congrArg (fun v => K v []) ?_) h0; clear h0; simp_all <;> omega)
theorem d_eqSheet (a b c d e f a' b' c' d' e' f' : Int) (K : Cont) (h0 : K (Bo (eq6 a b c d e f a' b' c' d' e' f')) σ) : ACall Try.prog W0 22 [Sh a b c d e f, Sh a' b' c' d' e' f'] σ K :=
  ACall.lift rfl (fun _ => rfl) (fun W1 K _ h => c_eqSheet a b c d e f a' b' c' d' e' f' K h) h0
end Go.Proofs.Ytcfkhiplmnamcaa
end

section
/- Contracts: the laws of new shops and of new consoles. -/
set_option linter.unusedVariables false
set_option linter.unusedSimpArgs false
namespace Go.Proofs.Ytcfkhiplmnamcaa
open Go Go.RowKit Go.Proofs.Ytcfkhiplmnamcaa.Abs
variable {W0 : World} {σ : List Blk}
abbrev Co (a b c d e f a' b' c' d' e' f' p q : Int) (s t : ByteArray) (n : Int) : AV := .agg [I a, I b, I c, I d, I e, I f, I a', I b', I c', I d', I e', I f', I p, I q, St s, St t, I n]
end Go.Proofs.Ytcfkhiplmnamcaa
end

section
/- Plain laws: digits of numbers, and that the parallel count of bits counts them. -/
set_option linter.unusedVariables false
set_option linter.unusedSimpArgs false
namespace Go.Proofs.Ytcfkhiplmnamcaa
open Go Go.Proofs.Ytcfkhiplmnamcaa.Abs
theorem testBit_dig (k d x i : Nat) (hd : d < 2 ^ k) : (d + 2 ^ k * x).testBit i = if i < k then d.testBit i else x.testBit (i - k) := by
  rw [Nat.add_comm, Nat.testBit_two_pow_mul_add x hd i]
theorem lor_dig (k d e x y : Nat) (hd : d < 2 ^ k) (he : e < 2 ^ k) : (d + 2 ^ k * x) ||| (e + 2 ^ k * y) = (d ||| e) + 2 ^ k * (x ||| y) := by
  apply Nat.eq_of_testBit_eq
  intro i
  rw [Nat.testBit_or, testBit_dig k d x i hd, testBit_dig k e y i he, testBit_dig k (d ||| e) _ i (Nat.or_lt_two_pow hd he)]
  split <;> simp [Nat.testBit_or]
/-! ### the parallel count, byte by byte -/
def mk (m : Nat) : Nat → Nat
  | 0 => 0
  | n + 1 => m + 256 * mk m n
def s1 (n x : Nat) : Nat := ((x >>> 1) &&& mk 85 n) + (x &&& mk 85 n)
def s2 (n x : Nat) : Nat := ((x >>> 2) &&& mk 51 n) + (x &&& mk 51 n)
def s3 (n x : Nat) : Nat := ((x >>> 4) + x) &&& mk 15 n
def b1 (d : Nat) : Nat := ((d >>> 1) &&& 85) + (d &&& 85)
def b2 (d : Nat) : Nat := ((d >>> 2) &&& 51) + (d &&& 51)
def b3 (d : Nat) : Nat := ((d >>> 4) + d) &&& 15
end Go.Proofs.Ytcfkhiplmnamcaa
end

section
/- Plain laws: operations on the machine's unsigned words, as numbers. -/
set_option linter.unusedVariables false
set_option linter.unusedSimpArgs false
namespace Go.Proofs.Ytcfkhiplmnamcaa
open Go Go.Proofs.Ytcfkhiplmnamcaa.Abs
theorem wrap_u64 (n : Nat) (h : n < 18446744073709551616) : IntKind.u64.wrap (n : Int) = (n : Int) := by
  simp [IntKind.wrap, IntKind.signed, IntKind.bits]
  omega
theorem wrap_i64 (n : Int) (h0 : -9223372036854775808 ≤ n) (h1 : n ≤ 9223372036854775807) : IntKind.i64.wrap n = n := by
  simp [IntKind.wrap, IntKind.signed, IntKind.bits]
  omega
theorem bAnd_u64 (n m : Nat) (hn : n < 18446744073709551616) (hm : m < 18446744073709551616) : bAnd .u64 n m = ((n &&& m : Nat) : Int) := by
  have h : n &&& m < 18446744073709551616 := Nat.lt_of_le_of_lt Nat.and_le_left hn
  have e : (BitVec.ofInt 64 (n : Int) &&& BitVec.ofInt 64 (m : Int)).toNat = n &&& m := by
    rw [BitVec.toNat_and, BitVec.ofInt_natCast, BitVec.ofInt_natCast, BitVec.toNat_ofNat, BitVec.toNat_ofNat, Nat.mod_eq_of_lt hn, Nat.mod_eq_of_lt hm]
  unfold bAnd
  rw [show IntKind.u64.bits = 64 from rfl, e]
  exact wrap_u64 _ h
theorem bOr_u64 (n m : Nat) (hn : n < 18446744073709551616) (hm : m < 18446744073709551616) : bOr .u64 n m = ((n ||| m : Nat) : Int) := by
  have h : n ||| m < 18446744073709551616 := Nat.or_lt_two_pow (n := 64) hn hm
  have e : (BitVec.ofInt 64 (n : Int) ||| BitVec.ofInt 64 (m : Int)).toNat = n ||| m := by
    rw [BitVec.toNat_or, BitVec.ofInt_natCast, BitVec.ofInt_natCast, BitVec.toNat_ofNat, BitVec.toNat_ofNat, Nat.mod_eq_of_lt hn, Nat.mod_eq_of_lt hm]
  unfold bOr
  rw [show IntKind.u64.bits = 64 from rfl, e]
  exact wrap_u64 _ h
theorem shR_u64 (n s : Nat) (hs : s ≤ 64) : shR .u64 n s = ((n >>> s : Nat) : Int) := by
  unfold shR
  rw [show IntKind.u64.bits = 64 from rfl, Int.toNat_natCast, Nat.min_eq_left hs, Nat.shiftRight_eq_div_pow, Int.fdiv_eq_ediv_of_nonneg _ (Int.le_of_lt (Int.pow_pos (by decide)))]
  simp
theorem shL_u64 (n s : Nat) (hs : s ≤ 64) (h : n * 2 ^ s < 18446744073709551616) : shL .u64 n s = ((n * 2 ^ s : Nat) : Int) := by
  unfold shL
  rw [show IntKind.u64.bits = 64 from rfl, Int.toNat_natCast, Nat.min_eq_left hs]
  have := wrap_u64 (n * 2 ^ s) h
  simpa using this
end Go.Proofs.Ytcfkhiplmnamcaa
end

section
/- Plain law: what the library's count of ones computes is the number of ones. -/
set_option linter.unusedVariables false
set_option linter.unusedSimpArgs false
namespace Go.Proofs.Ytcfkhiplmnamcaa
open Go Go.Proofs.Ytcfkhiplmnamcaa.Abs
def p1 (x : Int) : Int := IntKind.u64.wrap (bAnd .u64 (shR .u64 x 1) 6148914691236517205 + bAnd .u64 x 6148914691236517205)
def p2 (x : Int) : Int := IntKind.u64.wrap (bAnd .u64 (shR .u64 x 2) 3689348814741910323 + bAnd .u64 x 3689348814741910323)
def p3 (x : Int) : Int := bAnd .u64 (IntKind.u64.wrap (shR .u64 x 4 + x)) 1085102592571150095
def p4 (k : Int) (x : Int) : Int := IntKind.u64.wrap (x + shR .u64 x k)
end Go.Proofs.Ytcfkhiplmnamcaa
end

section
/- Contracts: the cells that sheet and stamp have in common. -/
set_option linter.unusedVariables false
set_option linter.unusedSimpArgs false
namespace Go.Proofs.Ytcfkhiplmnamcaa
open Go Go.RowKit Go.Proofs.Ytcfkhiplmnamcaa.Abs
variable {W0 : World} {σ : List Blk}
theorem inB_iff (x a b : Int) : inB x a b = true ↔ a ≤ x ∧ x ≤ b := by simp [inB]
/-- the rows of a sheet that is right, as numbers -/
theorem rows_of (a b c d e f : Int) (h : shB6 a b c d e f = true) : ∃ a0 b0 c0 d0 e0 f0 : Nat, a = a0 ∧ b = b0 ∧ c = c0 ∧ d = d0 ∧ e = e0 ∧ f = f0 ∧ a0 < 64 ∧ b0 < 64 ∧ c0 < 64 ∧ d0 < 64 ∧ e0 < 64 ∧ f0 < 64 := by
  simp only [shB6, Bool.and_eq_true, inB_iff] at h
  exact ⟨a.toNat, b.toNat, c.toNat, d.toNat, e.toNat, f.toNat, by omega, by omega, by omega, by omega, by omega, by omega, by omega, by omega, by omega, by omega, by omega, by omega⟩
/-- the number of a sheet's set -/
def setN (a b c d e f : Nat) : Nat := a + 64 * (b + 64 * (c + 64 * (d + 64 * (e + 64 * f))))
theorem wrapu (x : Nat) (h : x < 64) : IntKind.u64.wrap (x : Int) = x := wrap_u64 x (by omega)
theorem setI_nat (a b c d e f : Nat) (ha : a < 64) (hb : b < 64) (hc : c < 64) (hd : d < 64) (he : e < 64) (hf : f < 64) : setI a b c d e f = (setN a b c d e f : Nat) := by
  have or_step : ∀ k x y : Nat, x < 2 ^ k → k ≤ 30 → y < 64 → bOr .u64 (x : Int) (shL .u64 (IntKind.u64.wrap (y : Int)) ((k : Nat) : Int)) = ((x + 2 ^ k * y : Nat) : Int) := by
    intro k x y hx hk hy
    have hp : 2 ^ k ≤ 2 ^ 30 := Nat.pow_le_pow_right (by omega) hk
    have hy' : y * 2 ^ k ≤ 63 * 2 ^ 30 := Nat.mul_le_mul (by omega) hp
    rw [wrapu y hy, shL_u64 y k (by omega) (Nat.lt_of_le_of_lt hy' (by decide)), bOr_u64 _ _ (by omega) (Nat.lt_of_le_of_lt hy' (by decide))]
    have h1 := lor_dig k x 0 0 y hx (Nat.two_pow_pos k)
    rw [Nat.mul_zero, Nat.add_zero, Nat.zero_add, Nat.or_zero, Nat.zero_or] at h1
    rw [Nat.mul_comm y, h1]
  unfold setI setN
  have e0 : bOr .u64 0 (shL .u64 (IntKind.u64.wrap (a : Int)) 0) = ((a : Nat) : Int) := by
    have := or_step 0 0 a (by decide) (by omega) ha
    simpa using this
  rw [e0]
  have e1 := or_step 6 a b (by omega) (by omega) hb
  have e2 := or_step 12 _ c (show a + 2 ^ 6 * b < 2 ^ 12 by omega) (by omega) hc
  have e3 := or_step 18 _ d (show a + 2 ^ 6 * b + 2 ^ 12 * c < 2 ^ 18 by omega) (by omega) hd
  have e4 := or_step 24 _ e (show a + 2 ^ 6 * b + 2 ^ 12 * c + 2 ^ 18 * d < 2 ^ 24 by omega) (by omega) he
  have e5 := or_step 30 _ f (show a + 2 ^ 6 * b + 2 ^ 12 * c + 2 ^ 18 * d + 2 ^ 24 * e < 2 ^ 30 by omega) (by omega) hf
  rw [show (6 : Int) = ((6 : Nat) : Int) from rfl, e1, show (12 : Int) = ((12 : Nat) : Int) from rfl, e2, show (18 : Int) = ((18 : Nat) : Int) from rfl, e3, show (24 : Int) = ((24 : Nat) : Int) from rfl, e4, show (30 : Int) = ((30 : Nat) : Int) from rfl, e5]
  refine congrArg (fun n : Nat => (n : Int)) ?_
  omega
theorem setN_lt (a b c d e f : Nat) (ha : a < 64) (hb : b < 64) (hc : c < 64) (hd : d < 64) (he : e < 64) (hf : f < 64) : setN a b c d e f < 68719476736 := by unfold setN; omega
end Go.Proofs.Ytcfkhiplmnamcaa
end

section
/- Arithmetic: sets of cells as numbers; cells that go elsewhere; sheets by their sets. -/
set_option linter.unusedVariables false
set_option linter.unusedSimpArgs false
namespace Go.Proofs.Ytcfkhiplmnamcaa
open Go Go.RowKit Go.Proofs.Ytcfkhiplmnamcaa.Abs
/-- the cells that go where g tells -/
def mvN (g : Nat → Nat) (n : Nat) : Nat → Nat
  | 0 => 0
  | m + 1 => mvN g n m ||| (if n.testBit m then 2 ^ g m else 0)
theorem mvN_succ (g : Nat → Nat) (n m : Nat) : mvN g n (m + 1) = mvN g n m ||| (if n.testBit m then 2 ^ g m else 0) := rfl
theorem mvN_bit (g : Nat → Nat) (n j : Nat) : ∀ m, (mvN g n m).testBit j = true ↔ ∃ k, k < m ∧ n.testBit k = true ∧ g k = j
  | 0 => by simp [mvN]
  | m + 1 => by
    rw [mvN_succ, Nat.testBit_or, Bool.or_eq_true, mvN_bit g n j m]
    constructor
    · rintro (⟨k, h1, h2, h3⟩ | h)
      · exact ⟨k, by omega, h2, h3⟩
      · split at h
        · rename_i hm
          rw [Nat.testBit_two_pow] at h
          exact ⟨m, by omega, hm, by simpa using h⟩
        · simp at h
    · rintro ⟨k, h1, h2, h3⟩
      by_cases e : k = m
      · subst e
        right
        rw [if_pos h2, Nat.testBit_two_pow]
        simpa using h3
      · exact .inl ⟨k, by omega, h2, h3⟩
abbrev Perm (g h : Nat → Nat) : Prop := ∀ k, k < 36 → g k < 36 ∧ h k < 36 ∧ g (h k) = k ∧ h (g k) = k
theorem mvN_lt' {g : Nat → Nat} (hp : ∀ k, k < 36 → g k < 36) (n m : Nat) (hm : m ≤ 36) : mvN g n m < 2 ^ 36 := by
  refine Nat.lt_pow_two_of_testBit _ fun i hi => ?_
  rw [Bool.eq_false_iff]
  intro hc
  obtain ⟨k, k1, _, k3⟩ := (mvN_bit g n i m).1 hc
  have := hp k (by omega)
  omega
/-- a row of a set -/
def rowN (n i : Nat) : Nat := (n >>> (6 * i)) % 64
theorem rowN_lt (n i : Nat) : rowN n i < 64 := Nat.mod_lt _ (by decide)
abbrev ShN (n : Nat) : AV := Sh (rowN n 0 : Nat) (rowN n 1 : Nat) (rowN n 2 : Nat) (rowN n 3 : Nat) (rowN n 4 : Nat) (rowN n 5 : Nat)
theorem rowN_eq (n : Nat) : rowN n 0 = n % 64 ∧ rowN n 1 = n / 64 % 64 ∧ rowN n 2 = n / 4096 % 64 ∧ rowN n 3 = n / 262144 % 64 ∧ rowN n 4 = n / 16777216 % 64 ∧ rowN n 5 = n / 1073741824 % 64 := by
  refine ⟨?_, ?_, ?_, ?_, ?_, ?_⟩ <;> simp [rowN, Nat.shiftRight_eq_div_pow]
theorem setN_rows {n : Nat} (h : n < 2 ^ 36) : setN (rowN n 0) (rowN n 1) (rowN n 2) (rowN n 3) (rowN n 4) (rowN n 5) = n := by
  obtain ⟨e0, e1, e2, e3, e4, e5⟩ := rowN_eq n
  rw [e0, e1, e2, e3, e4, e5]; unfold setN; omega
theorem rows_setN {a b c d e f : Nat} (ha : a < 64) (hb : b < 64) (hc : c < 64) (hd : d < 64) (he : e < 64) (hf : f < 64) :
    rowN (setN a b c d e f) 0 = a ∧ rowN (setN a b c d e f) 1 = b ∧ rowN (setN a b c d e f) 2 = c ∧ rowN (setN a b c d e f) 3 = d ∧ rowN (setN a b c d e f) 4 = e ∧ rowN (setN a b c d e f) 5 = f := by
  obtain ⟨e0, e1, e2, e3, e4, e5⟩ := rowN_eq (setN a b c d e f)
  rw [e0, e1, e2, e3, e4, e5]; unfold setN; omega
theorem shN_of {a b c d e f : Int} (h : shB6 a b c d e f = true) : ∃ n, n < 2 ^ 36 ∧ (rowN n 0 : Nat) = a ∧ (rowN n 1 : Nat) = b ∧ (rowN n 2 : Nat) = c ∧ (rowN n 3 : Nat) = d ∧ (rowN n 4 : Nat) = e ∧ (rowN n 5 : Nat) = f := by
  obtain ⟨a0, b0, c0, d0, e0, f0, rfl, rfl, rfl, rfl, rfl, rfl, h1, h2, h3, h4, h5, h6⟩ := rows_of a b c d e f h
  obtain ⟨r0, r1, r2, r3, r4, r5⟩ := rows_setN h1 h2 h3 h4 h5 h6
  exact ⟨setN a0 b0 c0 d0 e0 f0, setN_lt _ _ _ _ _ _ h1 h2 h3 h4 h5 h6, by rw [r0], by rw [r1], by rw [r2], by rw [r3], by rw [r4], by rw [r5]⟩
theorem shB6_ShN (n : Nat) : shB6 (rowN n 0 : Nat) (rowN n 1 : Nat) (rowN n 2 : Nat) (rowN n 3 : Nat) (rowN n 4 : Nat) (rowN n 5 : Nat) = true := by
  have h := rowN_lt n
  have h0 := h 0; have h1 := h 1; have h2 := h 2; have h3 := h 3; have h4 := h 4; have h5 := h 5
  simp [shB6, inB]; omega
theorem setI_ShN {n : Nat} (h : n < 2 ^ 36) : setI (rowN n 0 : Nat) (rowN n 1 : Nat) (rowN n 2 : Nat) (rowN n 3 : Nat) (rowN n 4 : Nat) (rowN n 5 : Nat) = (n : Nat) := by
  rw [setI_nat _ _ _ _ _ _ (rowN_lt n 0) (rowN_lt n 1) (rowN_lt n 2) (rowN_lt n 3) (rowN_lt n 4) (rowN_lt n 5), setN_rows h]
/-- all cells -/
def fullN : Nat := 68719476735
/-! shifts -/
def shG (x y k : Nat) : Nat := (k / 6 + y) % 6 * 6 + (k % 6 + x) % 6
def shH (x y k : Nat) : Nat := (k / 6 + (6 - y)) % 6 * 6 + (k % 6 + (6 - x)) % 6
theorem sh_perm : ∀ x, x < 6 → ∀ y, y < 6 → Perm (shG x y) (shH x y) := by decide +kernel
end Go.Proofs.Ytcfkhiplmnamcaa
end
