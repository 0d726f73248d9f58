/- The abstract logic, part N: a function's resolved code; rounds of a loop; a function by its resolved code. -/
import Derived.Test.YtlmplfgnhibfcaaDoorAbsS
import Derived.LoopN
set_option linter.unusedVariables false
set_option linter.unusedSimpArgs false
namespace Go.Proofs.YtlmplfgnhibfcaaDoor.Abs
open Go Go.RowKit

inductive RC where
  | skip
  | seq (a b : RC)
  | cond (c : RA) (a b : RC)
  | block (id : Nat) (c : RC)
  | exit (id : Nat)
  | loop (c : RC)
  | ret
  | scope (c : RC)
  | reg (is : List RI)
  | quiet (head tail : List RI)
  | draw (head tail : DL)
  | any (nh : Bool) (p : PT)

def roundsR (body : Fr → List Blk → CPost → Prop) (k : Nat) : Fr → List Blk → CPost → Prop :=
  Nat.rec (motive := fun _ => Fr → List Blk → CPost → Prop) (fun _ _ _ => False) (fun _ ih fr σ Q => body fr σ fun e fr' σ' => match e with
    | .normal => ih fr' σ' Q
    | e => Q e fr' σ') k

/-- A loop: so and so many rounds at most, or by what holds at each round's head. -/
inductive LoopR (b0 : Nat) (body : Fr → List Blk → CPost → Prop) (fr : Fr) (σ : List Blk) (Q : CPost) : Prop
  | unroll (k : Nat) (h : roundsR body k fr σ Q)
  | inv (h : LoopW b0 body fr σ Q)

def rW (P : Program) (W0 : World) (b0 : Nat) (r : RC) : Fr → List Blk → CPost → Prop :=
  RC.rec (motive := fun _ => Fr → List Blk → CPost → Prop)
    (fun fr σ Q => Q .normal fr σ)
    (fun _ _ ia ib fr σ Q => ia fr σ fun e fr σ => match e with
      | .normal => ib fr σ Q
      | e => Q e fr σ)
    (fun c _ _ ia ib fr σ Q => match c.ev fr with
      | .lit (.bool t) => (t = true → ia fr σ Q) ∧ (t = false → ib fr σ Q)
      | _ => False)
    (fun id _ ic fr σ Q => ic fr σ fun e fr σ => match e with
      | .exit i => if i = id then Q .normal fr σ else Q (.exit i) fr σ
      | e => Q e fr σ)
    (fun id fr σ Q => Q (.exit id) fr σ)
    (fun _ ic fr σ Q => LoopR b0 ic fr σ Q)
    (fun fr σ Q => Q .ret fr σ)
    (fun _ ic fr σ Q => ic fr σ fun e fr σ => match e with
      | .goto _ => False
      | e => Q e fr σ)
    (fun is fr σ Q => riW P W0 is fr σ (Q .normal))
    (fun head tail fr σ Q => qR P W0 head fr σ fun fr => riW P W0 tail fr σ (Q .normal))
    (fun head tail fr σ Q => hR P W0 head fr σ fun fr => runB P W0 tail fr σ (Q .normal))
    (fun nh p fr σ Q => anyR P W0 nh p fr σ (Q .normal)) r
theorem rW_cond {P : Program} {W0 : World} {b0 : Nat} {c : RA} {a b : RC} {fr : Fr} {σ : List Blk} {Q : CPost} : rW P W0 b0 (.cond c a b) fr σ Q = match c.ev fr with
    | .lit (.bool t) => (t = true → rW P W0 b0 a fr σ Q) ∧ (t = false → rW P W0 b0 b fr σ Q)
    | _ => False := rfl
theorem rW_loop {P : Program} {W0 : World} {b0 : Nat} {c : RC} {fr : Fr} {σ : List Blk} {Q : CPost} : rW P W0 b0 (.loop c) fr σ Q = LoopR b0 (fun fr σ Q => rW P W0 b0 c fr σ Q) fr σ Q := rfl

def comp (P : Program) (n : Nat) (cuts : Nat → Nat) : Code → Option RC
  | .skip | .label _ => some .skip
  | .region id ops draw => match draw with
    | false => (compOps P n ops ops.toList).map .reg
    | true => if 1000000 ≤ cuts id then match compG P n ops ops.toList with
        | some L => (mkPlan ops L (fun i => ((cuts id - 1000000) / 2).testBit i) ((cuts id - 1000000) % 2 == 1) ops.size (Array.replicate ops.size false)).map (.any ((cuts id - 1000000) % 2 == 1))
        | none => none
      else if cuts id % 2 = 1 then match compD P n ops.toList with
        | some L => if cuts id / 2 ≤ L.length ∧ lexD ops L (cuts id / 2) (L.length - (cuts id / 2)) (cuts id / 2) 0 (Array.replicate ops.size false) = true then some (.draw (L.take (cuts id / 2)) (L.drop (cuts id / 2))) else none
        | none => none
      else if cuts id / 2 = 0 then (if Region.lexB .any ops = true then (compOps P n ops ops.toList).map fun h => .quiet h [] else none)
      else if Region.lexTailB .any ops (cuts id / 2) = true then match compOps P n ops (ops.toList.take (cuts id / 2)), compOps P n ops (ops.toList.drop (cuts id / 2)) with
        | some h, some t => some (.quiet h t)
        | _, _ => none
      else none
  | .seq a b => match comp P n cuts a, comp P n cuts b with
    | some x, some y => some (.seq x y)
    | _, _ => none
  | .cond c a b => match comp P n cuts a, comp P n cuts b with
    | some x, some y => some (.cond (cA c) x y)
    | _, _ => none
  | .block id c => (comp P n cuts c).map (.block id)
  | .exit id => some (.exit id)
  | .loop c => (comp P n cuts c).map .loop
  | .ret => some .ret
  | .scope c => (comp P n cuts c).map .scope
  | _ => none

section
variable {P : Program} {W0 : World} {ι0 : Loc} {σ0 : List Blk} {n : Nat} {cuts : Nat → Nat}

theorem comp_sound (hm : P.follows .mixedOrders = true) (hl0 : ι0.length = σ0.length) : ∀ (c : Code) (r : RC) (Q : CPost) (fr : Fr) (σ : List Blk) (ι : Loc) (a : Act) (w : World) (ds : List Deferred), comp P n cuts c = some r → rW P W0 σ0.length r fr σ Q →
    HRel W0 ι σ w → FRel ι σ n fr a → Ext ι0 σ0 ι σ → a.defers = ds → c.wp P (Lift W0 ι0 σ0 n ds Q) a w
  | .skip, r, Q, fr, σ, ι, a, w, ds, hc, h, hh, hf, hx, hd => by
    cases hc
    exact wp_skip ⟨ι, σ, fr, h, hh, hf, hx, hd⟩
  | .label _, r, Q, fr, σ, ι, a, w, ds, hc, h, hh, hf, hx, hd => by
    cases hc
    exact wp_label ⟨ι, σ, fr, h, hh, hf, hx, hd⟩
  | .exit id, r, Q, fr, σ, ι, a, w, ds, hc, h, hh, hf, hx, hd => by
    cases hc
    exact wp_exit ⟨ι, σ, fr, h, hh, hf, hx, hd⟩
  | .goto l, r, Q, fr, σ, ι, a, w, ds, hc, h, hh, hf, hx, hd => by cases hc
  | .ret, r, Q, fr, σ, ι, a, w, ds, hc, h, hh, hf, hx, hd => by
    cases hc
    exact wp_ret ⟨ι, σ, fr, h, hh, hf, hx, hd⟩
  | .refuse _, r, Q, fr, σ, ι, a, w, ds, hc, h, hh, hf, hx, hd => by cases hc
  | .rangeFunc _ _ _ _, r, Q, fr, σ, ι, a, w, ds, hc, h, hh, hf, hx, hd => by cases hc
  | .region id ops draw, r, Q, fr, σ, ι, a, w, ds, hc, h, hh, hf, hx, hd => by
    unfold comp at hc
    cases draw with
    | false =>
      dsimp only at hc
      obtain ⟨is, his, rfl⟩ := Option.map_eq_some_iff.1 hc
      exact wp_region_list (opsW_sound (fun _ _ hp => hp) _ none fr σ ι a w (compOps_sound _ _ _ fr σ (Nat.le_refl _) his h) hh hf hx hd (fun q hq => by cases hq))
    | true =>
      dsimp only at hc
      split at hc
      · split at hc
        · rename_i L hL
          revert hc
          generalize ((cuts id - 1000000) % 2 == 1) = nh
          generalize (fun i => ((cuts id - 1000000) / 2).testBit i) = T
          intro hc
          obtain ⟨p, hp, rfl⟩ := Option.map_eq_some_iff.1 hc
          exact wp_region_plan hm hL hp (fun _ _ hp => hp) h hh hf hx hd
        · cases hc
      split at hc
      · split at hc
        · rename_i L hL
          split at hc
          · rename_i hcond
            cases hc
            exact wp_region_lexD hm hL hcond.1 hcond.2 (fun _ _ hp => hp) h hh hf hx hd
          · cases hc
        · cases hc
      split at hc
      · split at hc
        · rename_i hB
          obtain ⟨is, his, rfl⟩ := Option.map_eq_some_iff.1 hc
          refine wp_region_quiet (C := HRel W0 ι σ) hm hB hh.drew ?_
          exact qW_sound (fun fr' a' hk hf' hd' w' hw' => ⟨ι, σ, fr', hk, hw', hf', hx, hd'⟩) hh _ _ _ (compOps_q _ _ _ his h) hf hd
        · cases hc
      · split at hc
        · rename_i hB
          split at hc
          · rename_i hd' tl h1 h2
            cases hc
            have hops : ops = ops.toList.toArray := by simp
            rw [hops]
            refine wp_region_head_tail (C := HRel W0 ι σ) (cuts id / 2) hm (by rw [← hops]; exact hB) hh.drew ?_
            rw [← hops]
            exact qW_sound (fun fr' a' hk hf' hd' w' hw' => opsW_sound (fun _ _ hp => hp) _ none fr' σ ι a' w' (compOps_sound _ _ _ fr' σ (Nat.le_refl _) h2 hk) hw' hf' hx hd' (fun q hq => by cases hq)) hh _ _ _ (compOps_q _ _ _ h1 h) hf hd
          · cases hc
        · cases hc
  | .seq x y, r, Q, fr, σ, ι, a, w, ds, hc, h, hh, hf, hx, hd => by
    unfold comp at hc
    split at hc
    · rename_i rx ry h1 h2
      cases hc
      refine wp_seq (wp_mono (comp_sound hm hl0 x rx _ fr σ ι a w ds h1 h hh hf hx hd) fun e a' w' hq => ?_)
      cases e with
      | normal =>
        obtain ⟨ι', σ', fr', hk, hh', hf', hx', hd'⟩ := hq
        exact comp_sound hm hl0 y ry Q fr' σ' ι' a' w' ds h2 hk hh' hf' hx' hd'
      | _ => exact hq
    · cases hc
  | .cond c x y, r, Q, fr, σ, ι, a, w, ds, hc, h, hh, hf, hx, hd => by
    unfold comp at hc
    split at hc
    · rename_i rx ry h1 h2
      cases hc
      rw [rW_cond] at h
      split at h
      · rename_i t ht
        rw [cA_ev] at ht
        have h1' := hf.eval c
        rw [ht] at h1'
        have e1 : a.eval c = .bool t := h1'
        exact wp_cond_split e1 (fun e => comp_sound hm hl0 x rx Q fr σ ι a w ds h1 (h.1 e) hh hf hx hd) (fun e => comp_sound hm hl0 y ry Q fr σ ι a w ds h2 (h.2 e) hh hf hx hd)
      · exact h.elim
    · cases hc
  | .block id c, r, Q, fr, σ, ι, a, w, ds, hc, h, hh, hf, hx, hd => by
    unfold comp at hc
    obtain ⟨rc, hrc, rfl⟩ := Option.map_eq_some_iff.1 hc
    refine wp_block (wp_mono (comp_sound hm hl0 c rc _ fr σ ι a w ds hrc h hh hf hx hd) fun e a' w' hq => ?_)
    cases e with
    | exit i =>
      obtain ⟨ι', σ', fr', hk, hrest⟩ := hq
      simp only [Exit.inBlock]
      by_cases hi : i = id
      · simp only [hi, if_true] at hk ⊢; exact ⟨ι', σ', fr', hk, hrest⟩
      · simp only [hi, if_false] at hk ⊢; exact ⟨ι', σ', fr', hk, hrest⟩
    | _ => exact hq
  | .scope c, r, Q, fr, σ, ι, a, w, ds, hc, h, hh, hf, hx, hd => by
    unfold comp at hc
    obtain ⟨rc, hrc, rfl⟩ := Option.map_eq_some_iff.1 hc
    refine wp_scope_straight (wp_mono (comp_sound hm hl0 c rc _ fr σ ι a w ds hrc h hh hf hx hd) fun e a' w' hq => ?_)
    cases e with
    | goto l => obtain ⟨ι', σ', fr', hk, hrest⟩ := hq; exact hk.elim
    | _ => exact hq
  | .loop c, r, Q, fr, σ, ι, a, w, ds, hc, h, hh, hf, hx, hd => by
    unfold comp at hc
    obtain ⟨rc, hrc, rfl⟩ := Option.map_eq_some_iff.1 hc
    rw [rW_loop] at h
    rcases h with ⟨k, h⟩ | ⟨⟨I, m, fr0, σ1, hfo, hI, round⟩⟩
    · refine wp_loop_rounds k ?_
      have key : ∀ k fr σ ι a w, roundsR (fun fr σ Q => rW P W0 σ0.length rc fr σ Q) k fr σ Q → HRel W0 ι σ w → FRel ι σ n fr a → Ext ι0 σ0 ι σ → a.defers = ds → Code.rounds P c (Lift W0 ι0 σ0 n ds Q) k a w := by
        intro k
        induction k with
        | zero => intro fr σ ι a w h _ _ _ _; exact h.elim
        | succ k ih =>
          intro fr σ ι a w h hh hf hx hd
          refine wp_mono (comp_sound hm hl0 c rc _ fr σ ι a w ds hrc h hh hf hx hd) fun e a' w' hq => ?_
          cases e with
          | normal =>
            obtain ⟨ι', σ', fr', hk, hh', hf', hx', hd'⟩ := hq
            exact ih fr' σ' ι' a' w' hk hh' hf' hx' hd'
          | _ => exact hq
      exact key k fr σ ι a w h hh hf hx hd
    · obtain ⟨ι1, hh1, hf1, hx1⟩ := hf.forget hfo hh hx hl0
      refine wp_loop_least (fun m a w => ∃ ι σ fr, I m fr σ ∧ HRel W0 ι σ w ∧ FRel ι σ n fr a ∧ Ext ι0 σ0 ι σ ∧ a.defers = ds) ⟨m, ι1, σ1, fr0, hI, hh1, hf1, hx1, hd⟩ fun m a w ⟨ι, σ, fr, hI, hh, hf, hx, hd⟩ => ?_
      refine wp_mono (comp_sound hm hl0 c rc _ fr σ ι a w ds hrc (round m fr σ hI) hh hf hx hd) fun e a' w' hq => ?_
      cases e with
      | normal =>
        obtain ⟨ι', σ', fr', ⟨m', fr'', σ'', hlt, hfo', hI'⟩, hh', hf', hx', hd'⟩ := hq
        obtain ⟨ι2, hh2, hf2, hx2⟩ := hf'.forget hfo' hh' hx' hl0
        exact ⟨m', hlt, ι2, σ'', fr'', hI', hh2, hf2, hx2, hd'⟩
      | _ => exact hq

end

/-! ### results -/
inductive RR where
  | tmp (t : Nat)
  | cell (a s : Nat) (g : Bool)
def compRes (P : Program) : List ResultVar → Option (List RR)
  | [] => some []
  | .tmp t :: rs => (compRes P rs).map (.tmp t :: ·)
  | .cell a t :: rs => match compOp P (.load t (.tmp a)), compRes P rs with
    | some (.load s g (.t a')), some l => if a' = a then some (.cell a s g :: l) else none
    | _, _ => none
def resR (W0 : World) (fr : Fr) (σ : List Blk) (l : List RR) : (List AV → Prop) → Prop :=
  List.rec (motive := fun _ => (List AV → Prop) → Prop) (fun K => K []) (fun r _ ih K => match r with
    | .tmp t => ih fun vs => fv (fr t) fun v => K (v :: vs)
    | .cell a s g => loadR W0 s g (fr a) σ fun v _ => ih fun vs => fv v fun v => K (v :: vs)) l
section
variable {W0 : World} {fr : Fr} {σ : List Blk} {rs : List RR} {K : List AV → Prop}
theorem resR_tmp {t : Nat} : resR W0 fr σ (.tmp t :: rs) K = resR W0 fr σ rs fun vs => fv (fr t) fun v => K (v :: vs) := rfl
theorem resR_cell {a s : Nat} {g : Bool} : resR W0 fr σ (.cell a s g :: rs) K = loadR W0 s g (fr a) σ fun v _ => resR W0 fr σ rs fun vs => fv v fun v => K (v :: vs) := rfl
end

theorem resR_sound {P : Program} {W0 : World} {fr : Fr} {σ : List Blk} : ∀ (rs : List ResultVar) (l : List RR) (K : List AV → Prop), compRes P rs = some l → resR W0 fr σ l K → resW P W0 fr σ rs K
  | [], l, K, hc, h => by
    simp only [compRes, Option.some.injEq] at hc; subst hc
    exact h
  | .tmp t :: rs, l, K, hc, h => by
    simp only [compRes] at hc
    obtain ⟨l', hl, rfl⟩ := Option.map_eq_some_iff.1 hc
    simp only [resR_tmp, fv_eq] at h
    exact resR_sound rs l' (fun vs => K (fr t :: vs)) hl h
  | .cell a t :: rs, l, K, hc, h => by
    simp only [compRes] at hc
    split at hc
    · rename_i s g a' l' h1 h2
      split at hc
      · rename_i ha
        subst ha
        cases hc
        simp only [resR_cell, fv_eq] at h
        obtain ⟨av, hk, h3⟩ := loadR_ld h
        have h4 : ropW P W0 (.load s g (.t a')) fr σ (fun v _ => resW P W0 fr σ rs fun vs => K (v :: vs)) := h3 (fun v _ => resW P W0 fr σ rs fun vs => K (v :: vs)) (resR_sound rs l' (fun vs => K (av :: vs)) h2 hk)
        exact compOp_sound h1 h4
      · cases hc
    · cases hc

/-- Behind a function: blocks that nothing leads to any more may be dropped. -/
inductive FinR (b0 : Nat) (K : Cont) (v : AV) (σ : List Blk) : Prop
  | keep (h : K v σ)
  | drop (k : Nat) (hk : b0 ≤ k) (hc : Closed k (σ.take k)) (hb : bel3 k v = true) (h : K v (σ.take k))

def tupR (vs : List AV) (K : AV → Prop) : Prop :=
  match vs with
  | [v] => K v
  | vs => match vs.all one2 with
    | true => K (.tup vs)
    | false => False

def finP (W0 : World) (rs : List RR) (b0 : Nat) (K : Cont) : CPost := fun e fr σ => match e with
  | .normal => resR W0 fr σ rs fun vs => tupR vs fun v => FinR b0 K v σ
  | .ret => resR W0 fr σ rs fun vs => tupR vs fun v => FinR b0 K v σ
  | _ => False

section
variable {P : Program} {W0 : World} {σ : List Blk}

theorem tupR_sound {vs : List AV} {K : AV → Prop} (h : tupR vs K) : ∃ v, tupA vs = some v ∧ K v := by
  unfold tupR at h
  unfold tupA
  split at h
  · exact ⟨_, rfl, h⟩
  · rename_i hne
    split at h
    · rename_i hall
      split
      · exact (hne _ rfl).elim
      · rw [if_pos hall]; exact ⟨_, rfl, h⟩
    · exact h.elim

theorem rel_initFr {ι : Loc} {fn : Func} {args : List AV} {vs : List Value} (hr : Rels (rel3 ι σ) args vs) (hn : args.length ≤ fn.ntmps) :
    FRel ι σ fn.ntmps (initFr args) ({ tmps := vs.toArray ++ Array.replicate (fn.ntmps - vs.toArray.size) undef, defers := [] } : Act) := by
  have hvl : vs.length = args.length := hr.1.symm
  refine ⟨by simp; omega, fun t => ?_⟩
  unfold initFr
  rcases Nat.lt_or_ge t args.length with ht | ht
  · have ha := List.getElem?_eq_getElem ht
    obtain ⟨b, hb', hab⟩ := hr.get ha
    have htl : t < vs.length := by omega
    have h1 : args.getD t .junk = args[t] := by simp [ht]
    have h2 : (vs.toArray ++ Array.replicate (fn.ntmps - vs.toArray.size) undef).getD t undef = b := by
      rw [Array.getD_eq_getD_getElem?, Array.getElem?_append_left (by simpa using htl)]
      simp [hb']
    show rel3 ι σ (args.getD t .junk) ((vs.toArray ++ Array.replicate (fn.ntmps - vs.toArray.size) undef).getD t undef)
    rw [h1, h2]; exact hab
  · have h1 : args.getD t .junk = .junk := by simp [ht]
    rw [h1]; exact trivial

/-- **A function by its resolved code.** -/
theorem ACall.introR {g : FuncId} {fn : Func} {r : RC} {rs : List RR} {args : List AV} {K : Cont} {cuts : Nat → Nat} (hm : P.follows .mixedOrders = true) (hf : P.funcs[g]? = some fn) (hname : (fn.name == "runtime.NumGoroutine") = false)
    (hc : (fn.body.bind fun c => comp P fn.ntmps cuts c) = some r) (hrs : compRes P fn.results.toList = some rs) (hn : args.length ≤ fn.ntmps)
    (h : rW P W0 σ.length r (initFr args) σ (finP W0 rs σ.length K)) : ACall P W0 g args σ K := by
  obtain ⟨c, hb, hc⟩ := Option.bind_eq_some_iff.1 hc
  refine ⟨by simp [callOK, hf, hname, hb], fun ι w vs hh hr => ?_⟩
  refine calls_of_wp hf hb (wp_mono (comp_sound (ι0 := ι) (σ0 := σ) hm hh.len c r _ (initFr args) σ ι _ w [] hc h hh (rel_initFr hr hn) (Ext.refl _ _) rfl) fun e a' w' hq => ?_)
  obtain ⟨ι', σ', fr', hfin, hh', hf', hx', hd'⟩ := hq
  have key : resR W0 fr' σ' rs (fun vs => tupR vs fun v => FinR σ.length K v σ') → bodyPost P fn (fun e w' => ∃ v ι' σ' av, e = .returned v ∧ K av σ' ∧ HRel W0 ι' σ' w' ∧ Ext ι σ ι' σ' ∧ rel3 ι' σ' av v) .normal a' w' := by
    intro hres
    have hres' := resR_sound _ _ _ hrs hres
    obtain ⟨vs', xs, hv, hrr, hrun⟩ := run_resList hf' hh' _ _ hres'
    obtain ⟨v, hv1, hv2⟩ := tupR_sound hv
    have hmm : (fn.results.mapM (resOne a'.tmps)).run P w' = .ok xs.toArray w' := by
      rw [Array.mapM_eq_mapM_toList]
      simp only [Sem.run_map, hrun, Result.andThen_ok]
    have h0 : (results fn a'.tmps).run P w' = .ok (if h : xs.toArray.size = 1 then xs.toArray[0] else .tuple xs.toArray) w' := by
      rw [results_eq]
      simp only [Sem.run_bind, Sem.run_pure, hmm, Result.andThen_ok]
    have hx : ∃ x, (results fn a'.tmps).run P w' = .ok x w' ∧ rel3 ι' σ' v x := by
      unfold tupA at hv1
      split at hv1
      · rename_i u
        cases hv1
        obtain ⟨b, m, rfl, h1, h2⟩ := hrr.uncons
        obtain rfl := h2.nil_inv
        exact ⟨b, by rw [h0]; rfl, h1⟩
      · rename_i hne
        split at hv1
        · rename_i hall
          cases hv1
          have hl : xs.toArray.size ≠ 1 := by
            have := hrr.1
            intro h1
            simp at h1
            rw [h1] at this
            match vs', this with
            | [u], _ => exact hne u rfl
          rw [dif_neg hl] at h0
          exact ⟨_, h0, xs, rfl, hrr.mono' fun a ha b hab => rel2_of_rel3 (List.all_eq_true.1 hall a ha) hab⟩
        · cases hv1
    obtain ⟨x, hrun', hrel⟩ := hx
    refine ⟨hd', x, hrun', ?_⟩
    cases hv2 with
    | keep hk => exact ⟨x, ι', σ', v, rfl, hk, hh', hx', hrel⟩
    | drop k hbk hcl hbel hk => exact ⟨x, ι'.take k, σ'.take k, v, rfl, hk, hh'.take hcl, hx'.take hh.len hbk, hrel.take hbel⟩
  cases e with
  | normal => exact key hfin
  | ret => exact key hfin
  | _ => exact hfin.elim
end

/-! ### a call among other blocks -/
def sh0 (k : Nat) : AV → AV
  | .ptr b ver off => .ptr (k + b) ver off
  | v => v
def sh1 (k : Nat) : AV → AV
  | .ptr b ver off => .ptr (k + b) ver off
  | .sl b ver off n c => .sl (k + b) ver off n c
  | .fn f first caps => .fn f (first.map (sh0 k)) (caps.map (sh0 k))
  | v => v
def sh2 (k : Nat) : AV → AV
  | .agg cs => .agg (cs.map (sh1 k))
  | v => sh1 k v
def sh3 (k : Nat) : AV → AV
  | .tup vs => .tup (vs.map (sh2 k))
  | v => sh2 k v
def shB (k : Nat) (σ : List Blk) : List Blk := σ.map fun B => { B with cells := B.cells.map (sh1 k) }

section
variable {P : Program} {W0 : World} {ι ι' : Loc} {σ σ' : List Blk} {w : World}

theorem get_sh {b : Nat} {B : Blk} (h : σ'[b]? = some B) : (σ ++ shB σ.length σ')[σ.length + b]? = some { B with cells := B.cells.map (sh1 σ.length) } := by
  rw [List.getElem?_append_right (by omega)]
  simp [shB, h]
theorem get_shI {b : Nat} {q : Nat × Nat} (hl : ι.length = σ.length) (h : ι'[b]? = some q) : (ι ++ ι')[σ.length + b]? = some q := by
  rw [List.getElem?_append_right (by omega), hl]
  simpa using h
theorem ptrRel.sh {b ver off : Nat} {x : Value} (hl : ι.length = σ.length) (h : ptrRel ι' σ' b ver off x) : ptrRel (ι ++ ι') (σ ++ shB σ.length σ') (σ.length + b) ver off x := by
  obtain ⟨B, hB, hv, h1, hc⟩ := h
  refine ⟨_, get_sh hB, hv, h1, fun e => ?_⟩
  obtain ⟨c, t, hi, he⟩ := hc e
  exact ⟨c, t, get_shI hl hi, he⟩
theorem slRel.sh {b ver off len cap : Nat} {x : Value} (hl : ι.length = σ.length) (h : slRel ι' σ' b ver off len cap x) : slRel (ι ++ ι') (σ ++ shB σ.length σ') (σ.length + b) ver off len cap x := by
  obtain ⟨B, hB, hv, h1, hc⟩ := h
  refine ⟨_, get_sh hB, hv, h1, fun e => ?_⟩
  obtain ⟨c, t, hi, he⟩ := hc e
  exact ⟨c, t, get_shI hl hi, he⟩
theorem Rels.mapL {α β γ : Type} {R : α → β → Prop} {R' : γ → β → Prop} {f : α → γ} {l : List α} {m : List β} (h : Rels R l m) (hr : ∀ a b, R a b → R' (f a) b) : Rels R' (l.map f) m :=
  ⟨by simp [h.1], fun i a b ha hb => by
    rw [List.getElem?_map] at ha
    obtain ⟨a', ha', rfl⟩ := Option.map_eq_some_iff.1 ha
    exact hr _ _ (h.2 i a' b ha' hb)⟩
theorem rel0.sh (hl : ι.length = σ.length) {v : AV} {x : Value} (h : rel0 ι' σ' v x) : rel0 (ι ++ ι') (σ ++ shB σ.length σ') (sh0 σ.length v) x := by
  cases v <;> first | exact h | exact ptrRel.sh hl h
theorem rel1.sh (hl : ι.length = σ.length) {v : AV} {x : Value} (h : rel1 ι' σ' v x) : rel1 (ι ++ ι') (σ ++ shB σ.length σ') (sh1 σ.length v) x := by
  cases v with
  | ptr b ver off => exact ptrRel.sh hl h
  | sl b ver off len cap => exact slRel.sh hl h
  | fn f first caps =>
    obtain ⟨l1, l2, e, h1, h2⟩ := h
    exact ⟨l1, l2, e, h1.mapL fun _ _ => rel0.sh hl, h2.mapL fun _ _ => rel0.sh hl⟩
  | _ => exact h
theorem crel.sh (hl : ι.length = σ.length) {v : AV} {x : Value} (h : crel ι' σ' v x) : crel (ι ++ ι') (σ ++ shB σ.length σ') (sh1 σ.length v) x := ⟨rel1.sh hl h.1, h.2⟩
theorem rel2.sh (hl : ι.length = σ.length) {v : AV} {x : Value} (h : rel2 ι' σ' v x) : rel2 (ι ++ ι') (σ ++ shB σ.length σ') (sh2 σ.length v) x := by
  cases v with
  | agg cs => obtain ⟨l, e, h1⟩ := h; exact ⟨l, e, h1.mapL fun _ _ => crel.sh hl⟩
  | ptr b ver off => exact ptrRel.sh hl h
  | sl b ver off len cap => exact slRel.sh hl h
  | fn f first caps => exact rel1.sh (v := .fn f first caps) hl h
  | _ => exact h
theorem rel3.sh (hl : ι.length = σ.length) {v : AV} {x : Value} (h : rel3 ι' σ' v x) : rel3 (ι ++ ι') (σ ++ shB σ.length σ') (sh3 σ.length v) x := by
  cases v with
  | tup vs => obtain ⟨l, e, h1⟩ := h; exact ⟨l, e, h1.mapL fun _ _ => rel2.sh hl⟩
  | agg cs => exact rel2.sh (v := .agg cs) hl h
  | ptr b ver off => exact ptrRel.sh hl h
  | sl b ver off len cap => exact slRel.sh hl h
  | fn f first caps => exact rel1.sh (v := .fn f first caps) hl h
  | _ => exact h

/-- an argument that leads to no own block -/
def pure1 : AV → Bool
  | .lit _ | .junk => true
  | .fn _ first caps => first.all (fun v => match v with | .lit _ => true | _ => false) && caps.all (fun v => match v with | .lit _ => true | _ => false)
  | _ => false
def pure3 : AV → Bool
  | .agg cs => cs.all (fun v => match v with | .lit _ => true | _ => false)
  | v => pure1 v

theorem rel3_pure {v : AV} {x : Value} (hp : pure3 v = true) (h : rel3 ι σ v x) : rel3 [] [] v x := by
  have l0 : ∀ {l : List AV} {m : List Value}, (l.all (fun v => match v with | .lit _ => true | _ => false)) = true → Rels (rel0 ι σ) l m → Rels (rel0 [] []) l m := fun ha hr => hr.mono' fun a hm b hab => by
    have := List.all_eq_true.1 ha a hm
    cases a <;> first | exact hab | (simp at this)
  cases v with
  | lit v => exact h
  | junk => exact trivial
  | fn f first caps =>
    simp only [pure3, pure1, Bool.and_eq_true] at hp
    obtain ⟨l1, l2, e, h1, h2⟩ := h
    exact ⟨l1, l2, e, l0 hp.1 h1, l0 hp.2 h2⟩
  | agg cs =>
    simp only [pure3] at hp
    obtain ⟨l, e, h1⟩ := h
    exact ⟨l, e, h1.mono' fun a hm b hab => by
      have := List.all_eq_true.1 hp a hm
      cases a <;> first | exact hab | (simp at this)⟩
  | ptr b ver off => simp [pure3, pure1] at hp
  | sl b ver off len cap => simp [pure3, pure1] at hp
  | tup vs => simp [pure3, pure1] at hp

theorem HRel.nil (w : World) : HRel w [] [] w :=
  ⟨Below.refl _ _, rfl, fun i j c t t' h => by simp at h, fun i c t h => by simp at h, fun i B c t h => by simp at h⟩

/-- new blocks beside those that were there -/
theorem HRel.beside {w' : World} (h : HRel W0 ι σ w) (h' : HRel w ι' σ' w') : HRel W0 (ι ++ ι') (σ ++ shB σ.length σ') w' ∧ Ext ι σ (ι ++ ι') (σ ++ shB σ.length σ') := by
  have hsz : w.heap.size ≤ w'.heap.size := h'.below.size
  have hW : W0.heap.size ≤ w.heap.size := h.below.size
  have hx : Ext ι σ (ι ++ ι') (σ ++ shB σ.length σ') := by
    refine ⟨by simp, fun i B B' hB hB' => ?_, fun i B B' hB hB' _ => ?_⟩
    · rw [List.getElem?_append_left (getElem?_lt hB), hB] at hB'
      cases hB'
      exact ⟨Nat.le_refl _, rfl, rfl⟩
    · exact List.getElem?_append_left (by rw [h.len]; exact getElem?_lt hB)
  refine ⟨⟨(h.below.trans (h'.below.mono hW)), by simp [h.len, h'.len, shB], ?_, ?_, ?_⟩, hx⟩
  · intro i j c t t' hi hj
    rw [List.getElem?_append] at hi hj
    split at hi <;> split at hj
    · exact h.inj i j c t t' hi hj
    · have := (h.dom i c t hi).2; have := (h'.dom _ c t' hj).1; omega
    · have := (h.dom j c t' hj).2; have := (h'.dom _ c t hi).1; omega
    · have := h'.inj _ _ c t t' hi hj; omega
  · intro i c t hi
    rw [List.getElem?_append] at hi
    split at hi
    · have := h.dom i c t hi; omega
    · have := h'.dom _ c t hi; omega
  · intro i B c t hB hi
    rw [List.getElem?_append] at hB hi
    rw [h.len] at hi
    split at hB
    · rename_i hlt
      rw [if_pos hlt] at hi
      obtain ⟨vs, rest, h1, h2, h3, h4⟩ := h.blk i B c t hB hi
      refine ⟨vs, rest, ?_, h2, h3.mono fun _ _ => crel.mono hx, h4⟩
      rw [h'.below.block c (h.dom i c t hi).2]; exact h1
    · rename_i hge
      rw [if_neg hge] at hi
      unfold shB at hB
      rw [List.getElem?_map] at hB
      obtain ⟨B', hB', rfl⟩ := Option.map_eq_some_iff.1 hB
      obtain ⟨vs, rest, h1, h2, h3, h4⟩ := h'.blk _ B' c t hB' hi
      exact ⟨vs, rest, h1, h2, h3.mapL fun _ _ => crel.sh h.len, h4⟩

/-- **A contract that knows no blocks holds beside any.** -/
theorem ACall.frame {g : FuncId} {args : List AV} {K0 K : Cont} (hp : args.all pure3 = true) (h : ∀ W1, Below W0.heap.size W0 W1 → ACall P W1 g args [] K0) (hk : ∀ v σ', K0 v σ' → K (sh3 σ.length v) (σ ++ shB σ.length σ')) :
    ACall P W0 g args σ K := by
  refine ⟨(h W0 (Below.refl _ _)).ok, fun ι w vs hh hr => ?_⟩
  have hr0 : Rels (rel3 [] []) args vs := hr.mono' fun a ha b hab => rel3_pure (List.all_eq_true.1 hp a ha) hab
  refine ((h w hh.below).run [] w vs (HRel.nil w) hr0).mono fun e w' ⟨v, ι', σ', av, he, hk0, h3, h4, h5⟩ => ?_
  obtain ⟨h6, h7⟩ := hh.beside h3
  exact ⟨v, _, _, _, he, hk _ _ hk0, h6, h7, rel3.sh hh.len h5⟩

/-- a contract whose result leads to no block -/
theorem ACall.lift {g : FuncId} {args : List AV} {r : AV} {K : Cont} (hp : args.all pure3 = true) (hs : ∀ k, sh3 k r = r) (h : ∀ (W1 : World) (K : Cont), Below W0.heap.size W0 W1 → K r [] → ACall P W1 g args [] K) (hk : K r σ) :
    ACall P W0 g args σ K :=
  ACall.frame (K0 := fun v σ' => v = r ∧ σ' = []) hp (fun W1 hb => h W1 _ hb ⟨rfl, rfl⟩) fun v σ' ⟨h1, h2⟩ => by
    subst h1; subst h2
    rw [hs]
    simpa [shB] using hk
theorem Closed.zero (σ : List Blk) : Closed 0 (σ.take 0) := by simp [Closed]
end
end Go.Proofs.YtlmplfgnhibfcaaDoor.Abs
