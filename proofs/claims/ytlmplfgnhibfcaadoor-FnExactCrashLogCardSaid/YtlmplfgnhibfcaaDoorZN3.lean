import Derived.LoopN
import Derived.Test.YtlmplfgnhibfcaaDoorRows
import Derived.WalkKit
import Derived.ProofKit
import Derived.OpenShut
import Derived.ShutString
import Derived.ChangeOld
import Derived.Below
import Derived.Test.YtlmplfgnhibfcaaDoorProg
import Derived.Lib.Strings
import Derived.Lib.Bytealg
import Derived.Lib.ItoaNum
import Derived.Test.YtlmplfgnhibfcaaDoorShelf
import Derived.Lib.LaidTab
import Derived.Lib.AppendIntMem
import Derived.Test.YtlmplfgnhibfcaaDoorZN2
section
/- The abstract logic, part N: a function's resolved code; rounds of a loop; a function by its resolved code. -/
set_option linter.unusedVariables false
set_option linter.unusedSimpArgs false
namespace Go.Proofs.YtlmplfgnhibfcaaDoor.Abs
open Go Go.RowKit
inductive RC where
  | skip
  | seq (a b : RC)
  | cond (c : RA) (a b : RC)
  | block (id : Nat) (c : RC)
  | exit (id : Nat)
  | loop (c : RC)
  | ret
  | scope (c : RC)
  | reg (is : List RI)
  | quiet (head tail : List RI)
  | draw (head tail : DL)
  | any (nh : Bool) (p : PT)
  | dead
def roundsR (body : Fr → List Blk → CPost → Prop) (k : Nat) : Fr → List Blk → CPost → Prop :=
  Nat.rec (motive := fun _ => Fr → List Blk → CPost → Prop) (fun _ _ _ => False) (fun _ ih fr σ Q => body fr σ fun e fr' σ' => match e with
    | .normal => ih fr' σ' Q
    | e => Q e fr' σ') k
/-- A loop: so and so many rounds at most, or by what holds at each round's head. -/
inductive LoopR (b0 : Nat) (body : Fr → List Blk → CPost → Prop) (fr : Fr) (σ : List Blk) (Q : CPost) : Prop
  | unroll (k : Nat) (h : roundsR body k fr σ Q)
  | inv (h : LoopW b0 body fr σ Q)
def rW (P : Program) (W0 : World) (b0 : Nat) (r : RC) : Fr → List Blk → CPost → Prop :=
  RC.rec (motive := fun _ => Fr → List Blk → CPost → Prop)
    (fun fr σ Q => Q .normal fr σ)
    (fun _ _ ia ib fr σ Q => ia fr σ fun e fr σ => match e with
      | .normal => ib fr σ Q
      | e => Q e fr σ)
    (fun c _ _ ia ib fr σ Q => match c.ev fr with
      | .lit (.bool t) => (t = true → ia fr σ Q) ∧ (t = false → ib fr σ Q)
      | _ => False)
    (fun id _ ic fr σ Q => ic fr σ fun e fr σ => match e with
      | .exit i => if i = id then Q .normal fr σ else Q (.exit i) fr σ
      | e => Q e fr σ)
    (fun id fr σ Q => Q (.exit id) fr σ)
    (fun _ ic fr σ Q => LoopR b0 ic fr σ Q)
    (fun fr σ Q => Q .ret fr σ)
    (fun _ ic fr σ Q => ic fr σ fun e fr σ => match e with
      | .goto _ => False
      | e => Q e fr σ)
    (fun is fr σ Q => riW P W0 is fr σ (Q .normal))
    (fun head tail fr σ Q => qR P W0 head fr σ fun fr => riW P W0 tail fr σ (Q .normal))
    (fun head tail fr σ Q => hR P W0 head fr σ fun fr => runB P W0 tail fr σ (Q .normal))
    (fun nh p fr σ Q => anyR P W0 nh p fr σ (Q .normal))
    (fun _ _ _ => False) r
theorem rW_cond {P : Program} {W0 : World} {b0 : Nat} {c : RA} {a b : RC} {fr : Fr} {σ : List Blk} {Q : CPost} : rW P W0 b0 (.cond c a b) fr σ Q = match c.ev fr with
    | .lit (.bool t) => (t = true → rW P W0 b0 a fr σ Q) ∧ (t = false → rW P W0 b0 b fr σ Q)
    | _ => False := rfl
theorem rW_loop {P : Program} {W0 : World} {b0 : Nat} {c : RC} {fr : Fr} {σ : List Blk} {Q : CPost} : rW P W0 b0 (.loop c) fr σ Q = LoopR b0 (fun fr σ Q => rW P W0 b0 c fr σ Q) fr σ Q := rfl
/-- what is not served must not be reached -/
def orDead : Option RC → Option RC
  | none => some .dead
  | some r => some r
theorem orDead_inv {x : Option RC} {r : RC} (h : orDead x = some r) : r = .dead ∨ x = some r := by
  cases x with
  | none => exact .inl (by cases h; rfl)
  | some y => exact .inr h
def comp (P : Program) (n : Nat) (cuts : Nat → Nat) : Code → Option RC
  | .skip | .label _ => some .skip
  | .region id ops draw => orDead (match draw with
    | false => (compOps P n ops ops.toList).map .reg
    | true => if 1000000 ≤ cuts id then match compG P n ops ops.toList with
        | some L => (mkPlan ops L (fun i => ((cuts id - 1000000) / 2).testBit i) ((cuts id - 1000000) % 2 == 1) ops.size (Array.replicate ops.size false)).map (.any ((cuts id - 1000000) % 2 == 1))
        | none => none
      else if cuts id % 2 = 1 then match compD P n ops.toList with
        | some L => if cuts id / 2 ≤ L.length ∧ lexD ops L (cuts id / 2) (L.length - (cuts id / 2)) (cuts id / 2) 0 (Array.replicate ops.size false) = true then some (.draw (L.take (cuts id / 2)) (L.drop (cuts id / 2))) else none
        | none => none
      else if cuts id / 2 = 0 then (if Region.lexB .any ops = true then (compOps P n ops ops.toList).map fun h => .quiet h [] else none)
      else if Region.lexTailB .any ops (cuts id / 2) = true then match compOps P n ops (ops.toList.take (cuts id / 2)), compOps P n ops (ops.toList.drop (cuts id / 2)) with
        | some h, some t => some (.quiet h t)
        | _, _ => none
      else none)
  | .seq a b => match comp P n cuts a, comp P n cuts b with
    | some x, some y => some (.seq x y)
    | _, _ => none
  | .cond c a b => match comp P n cuts a, comp P n cuts b with
    | some x, some y => some (.cond (cA c) x y)
    | _, _ => none
  | .block id c => (comp P n cuts c).map (.block id)
  | .exit id => some (.exit id)
  | .loop c => (comp P n cuts c).map .loop
  | .ret => some .ret
  | .scope c => (comp P n cuts c).map .scope
  | _ => some .dead
section
variable {P : Program} {W0 : World} {ι0 : Loc} {σ0 : List Blk} {n : Nat} {cuts : Nat → Nat}
theorem comp_sound (hm : P.follows .mixedOrders = true) (hl0 : ι0.length = σ0.length) : ∀ (c : Code) (r : RC) (Q : CPost) (fr : Fr) (σ : List Blk) (ι : Loc) (a : Act) (w : World) (ds : List Deferred), comp P n cuts c = some r → rW P W0 σ0.length r fr σ Q →
    HRel W0 ι σ w → FRel ι σ n fr a → Ext ι0 σ0 ι σ → a.defers = ds → c.wp P (Lift W0 ι0 σ0 n ds Q) a w
  | .skip, r, Q, fr, σ, ι, a, w, ds, hc, h, hh, hf, hx, hd => by
    cases hc
    exact wp_skip ⟨ι, σ, fr, h, hh, hf, hx, hd⟩
  | .label _, r, Q, fr, σ, ι, a, w, ds, hc, h, hh, hf, hx, hd => by
    cases hc
    exact wp_label ⟨ι, σ, fr, h, hh, hf, hx, hd⟩
  | .exit id, r, Q, fr, σ, ι, a, w, ds, hc, h, hh, hf, hx, hd => by
    cases hc
    exact wp_exit ⟨ι, σ, fr, h, hh, hf, hx, hd⟩
  | .goto l, r, Q, fr, σ, ι, a, w, ds, hc, h, hh, hf, hx, hd => by cases hc; exact False.elim h
  | .ret, r, Q, fr, σ, ι, a, w, ds, hc, h, hh, hf, hx, hd => by
    cases hc
    exact wp_ret ⟨ι, σ, fr, h, hh, hf, hx, hd⟩
  | .refuse _, r, Q, fr, σ, ι, a, w, ds, hc, h, hh, hf, hx, hd => by cases hc; exact False.elim h
  | .rangeFunc _ _ _ _, r, Q, fr, σ, ι, a, w, ds, hc, h, hh, hf, hx, hd => by cases hc; exact False.elim h
  | .region id ops draw, r, Q, fr, σ, ι, a, w, ds, hc, h, hh, hf, hx, hd => by
    unfold comp at hc
    rcases orDead_inv hc with rfl | hc
    · exact False.elim h
    cases draw with
    | false =>
      dsimp only at hc
      obtain ⟨is, his, rfl⟩ := Option.map_eq_some_iff.1 hc
      exact wp_region_list (opsW_sound (fun _ _ hp => hp) _ none fr σ ι a w (compOps_sound _ _ _ fr σ (Nat.le_refl _) his h) hh hf hx hd (fun q hq => by cases hq))
    | true =>
      dsimp only at hc
      split at hc
      · split at hc
        · rename_i L hL
          revert hc
          generalize ((cuts id - 1000000) % 2 == 1) = nh
          generalize (fun i => ((cuts id - 1000000) / 2).testBit i) = T
          intro hc
          obtain ⟨p, hp, rfl⟩ := Option.map_eq_some_iff.1 hc
          exact wp_region_plan hm hL hp (fun _ _ hp => hp) h hh hf hx hd
        · cases hc
      split at hc
      · split at hc
        · rename_i L hL
          split at hc
          · rename_i hcond
            cases hc
            exact wp_region_lexD hm hL hcond.1 hcond.2 (fun _ _ hp => hp) h hh hf hx hd
          · cases hc
        · cases hc
      split at hc
      · split at hc
        · rename_i hB
          obtain ⟨is, his, rfl⟩ := Option.map_eq_some_iff.1 hc
          refine wp_region_quiet (C := HRel W0 ι σ) hm hB hh.drew ?_
          exact qW_sound (fun fr' a' hk hf' hd' w' hw' => ⟨ι, σ, fr', hk, hw', hf', hx, hd'⟩) hh _ _ _ (compOps_q _ _ _ his h) hf hd
        · cases hc
      · split at hc
        · rename_i hB
          split at hc
          · rename_i hd' tl h1 h2
            cases hc
            have hops : ops = ops.toList.toArray := by simp
            rw [hops]
            refine wp_region_head_tail (C := HRel W0 ι σ) (cuts id / 2) hm (by rw [← hops]; exact hB) hh.drew ?_
            rw [← hops]
            exact qW_sound (fun fr' a' hk hf' hd' w' hw' => opsW_sound (fun _ _ hp => hp) _ none fr' σ ι a' w' (compOps_sound _ _ _ fr' σ (Nat.le_refl _) h2 hk) hw' hf' hx hd' (fun q hq => by cases hq)) hh _ _ _ (compOps_q _ _ _ h1 h) hf hd
          · cases hc
        · cases hc
  | .seq x y, r, Q, fr, σ, ι, a, w, ds, hc, h, hh, hf, hx, hd => by
    unfold comp at hc
    split at hc
    · rename_i rx ry h1 h2
      cases hc
      refine wp_seq (wp_mono (comp_sound hm hl0 x rx _ fr σ ι a w ds h1 h hh hf hx hd) fun e a' w' hq => ?_)
      cases e with
      | normal =>
        obtain ⟨ι', σ', fr', hk, hh', hf', hx', hd'⟩ := hq
        exact comp_sound hm hl0 y ry Q fr' σ' ι' a' w' ds h2 hk hh' hf' hx' hd'
      | _ => exact hq
    · cases hc
  | .cond c x y, r, Q, fr, σ, ι, a, w, ds, hc, h, hh, hf, hx, hd => by
    unfold comp at hc
    split at hc
    · rename_i rx ry h1 h2
      cases hc
      rw [rW_cond] at h
      split at h
      · rename_i t ht
        rw [cA_ev] at ht
        have h1' := hf.eval c
        rw [ht] at h1'
        have e1 : a.eval c = .bool t := h1'
        exact wp_cond_split e1 (fun e => comp_sound hm hl0 x rx Q fr σ ι a w ds h1 (h.1 e) hh hf hx hd) (fun e => comp_sound hm hl0 y ry Q fr σ ι a w ds h2 (h.2 e) hh hf hx hd)
      · exact h.elim
    · cases hc
  | .block id c, r, Q, fr, σ, ι, a, w, ds, hc, h, hh, hf, hx, hd => by
    unfold comp at hc
    obtain ⟨rc, hrc, rfl⟩ := Option.map_eq_some_iff.1 hc
    refine wp_block (wp_mono (comp_sound hm hl0 c rc _ fr σ ι a w ds hrc h hh hf hx hd) fun e a' w' hq => ?_)
    cases e with
    | exit i =>
      obtain ⟨ι', σ', fr', hk, hrest⟩ := hq
      simp only [Exit.inBlock]
      by_cases hi : i = id
      · simp only [hi, if_true] at hk ⊢; exact ⟨ι', σ', fr', hk, hrest⟩
      · simp only [hi, if_false] at hk ⊢; exact ⟨ι', σ', fr', hk, hrest⟩
    | _ => exact hq
  | .scope c, r, Q, fr, σ, ι, a, w, ds, hc, h, hh, hf, hx, hd => by
    unfold comp at hc
    obtain ⟨rc, hrc, rfl⟩ := Option.map_eq_some_iff.1 hc
    refine wp_scope_straight (wp_mono (comp_sound hm hl0 c rc _ fr σ ι a w ds hrc h hh hf hx hd) fun e a' w' hq => ?_)
    cases e with
    | goto l => obtain ⟨ι', σ', fr', hk, hrest⟩ := hq; exact hk.elim
    | _ => exact hq
  | .loop c, r, Q, fr, σ, ι, a, w, ds, hc, h, hh, hf, hx, hd => by
    unfold comp at hc
    obtain ⟨rc, hrc, rfl⟩ := Option.map_eq_some_iff.1 hc
    rw [rW_loop] at h
    rcases h with ⟨k, h⟩ | ⟨⟨I, m, fr0, σ1, hfo, hI, round⟩⟩
    · refine wp_loop_rounds k ?_
      have key : ∀ k fr σ ι a w, roundsR (fun fr σ Q => rW P W0 σ0.length rc fr σ Q) k fr σ Q → HRel W0 ι σ w → FRel ι σ n fr a → Ext ι0 σ0 ι σ → a.defers = ds → Code.rounds P c (Lift W0 ι0 σ0 n ds Q) k a w := by
        intro k
        induction k with
        | zero => intro fr σ ι a w h _ _ _ _; exact h.elim
        | succ k ih =>
          intro fr σ ι a w h hh hf hx hd
          refine wp_mono (comp_sound hm hl0 c rc _ fr σ ι a w ds hrc h hh hf hx hd) fun e a' w' hq => ?_
          cases e with
          | normal =>
            obtain ⟨ι', σ', fr', hk, hh', hf', hx', hd'⟩ := hq
            exact ih fr' σ' ι' a' w' hk hh' hf' hx' hd'
          | _ => exact hq
      exact key k fr σ ι a w h hh hf hx hd
    · obtain ⟨ι1, hh1, hf1, hx1⟩ := hf.forget hfo hh hx hl0
      refine wp_loop_least (fun m a w => ∃ ι σ fr, I m fr σ ∧ HRel W0 ι σ w ∧ FRel ι σ n fr a ∧ Ext ι0 σ0 ι σ ∧ a.defers = ds) ⟨m, ι1, σ1, fr0, hI, hh1, hf1, hx1, hd⟩ fun m a w ⟨ι, σ, fr, hI, hh, hf, hx, hd⟩ => ?_
      refine wp_mono (comp_sound hm hl0 c rc _ fr σ ι a w ds hrc (round m fr σ hI) hh hf hx hd) fun e a' w' hq => ?_
      cases e with
      | normal =>
        obtain ⟨ι', σ', fr', ⟨m', fr'', σ'', hlt, hfo', hI'⟩, hh', hf', hx', hd'⟩ := hq
        obtain ⟨ι2, hh2, hf2, hx2⟩ := hf'.forget hfo' hh' hx' hl0
        exact ⟨m', hlt, ι2, σ'', fr'', hI', hh2, hf2, hx2, hd'⟩
      | _ => exact hq
end
/-! ### results -/
inductive RR where
  | tmp (t : Nat)
  | cell (a s : Nat) (g : Bool)
def compRes (P : Program) : List ResultVar → Option (List RR)
  | [] => some []
  | .tmp t :: rs => (compRes P rs).map (.tmp t :: ·)
  | .cell a t :: rs => match compOp P (.load t (.tmp a)), compRes P rs with
    | some (.load s g (.t a')), some l => if a' = a then some (.cell a s g :: l) else none
    | _, _ => none
def resR (W0 : World) (fr : Fr) (σ : List Blk) (l : List RR) : (List AV → Prop) → Prop :=
  List.rec (motive := fun _ => (List AV → Prop) → Prop) (fun K => K []) (fun r _ ih K => match r with
    | .tmp t => ih fun vs => fv (fr t) fun v => K (v :: vs)
    | .cell a s g => loadR W0 s g (fr a) σ fun v _ => ih fun vs => fv v fun v => K (v :: vs)) l
section
variable {W0 : World} {fr : Fr} {σ : List Blk} {rs : List RR} {K : List AV → Prop}
theorem resR_tmp {t : Nat} : resR W0 fr σ (.tmp t :: rs) K = resR W0 fr σ rs fun vs => fv (fr t) fun v => K (v :: vs) := rfl
theorem resR_cell {a s : Nat} {g : Bool} : resR W0 fr σ (.cell a s g :: rs) K = loadR W0 s g (fr a) σ fun v _ => resR W0 fr σ rs fun vs => fv v fun v => K (v :: vs) := rfl
end
theorem resR_sound {P : Program} {W0 : World} {fr : Fr} {σ : List Blk} : ∀ (rs : List ResultVar) (l : List RR) (K : List AV → Prop), compRes P rs = some l → resR W0 fr σ l K → resW P W0 fr σ rs K
  | [], l, K, hc, h => by
    simp only [compRes, Option.some.injEq] at hc; subst hc
    exact h
  | .tmp t :: rs, l, K, hc, h => by
    simp only [compRes] at hc
    obtain ⟨l', hl, rfl⟩ := Option.map_eq_some_iff.1 hc
    simp only [resR_tmp, fv_eq] at h
    exact resR_sound rs l' (fun vs => K (fr t :: vs)) hl h
  | .cell a t :: rs, l, K, hc, h => by
    simp only [compRes] at hc
    split at hc
    · rename_i s g a' l' h1 h2
      split at hc
      · rename_i ha
        subst ha
        cases hc
        simp only [resR_cell, fv_eq] at h
        obtain ⟨av, hk, h3⟩ := loadR_ld h
        have h4 : ropW P W0 (.load s g (.t a')) fr σ (fun v _ => resW P W0 fr σ rs fun vs => K (v :: vs)) := h3 (fun v _ => resW P W0 fr σ rs fun vs => K (v :: vs)) (resR_sound rs l' (fun vs => K (av :: vs)) h2 hk)
        exact compOp_sound h1 h4
      · cases hc
    · cases hc
/-- Behind a function: blocks that nothing leads to any more may be dropped. -/
inductive FinR (b0 : Nat) (K : Cont) (v : AV) (σ : List Blk) : Prop
  | keep (h : K v σ)
  | drop (k : Nat) (hk : b0 ≤ k) (hc : Closed k (σ.take k)) (hb : bel3 k v = true) (h : K v (σ.take k))
def tupR (vs : List AV) (K : AV → Prop) : Prop :=
  match vs with
  | [v] => K v
  | vs => match vs.all one2 with
    | true => K (.tup vs)
    | false => False
def finP (W0 : World) (rs : List RR) (b0 : Nat) (K : Cont) : CPost := fun e fr σ => match e with
  | .normal => resR W0 fr σ rs fun vs => tupR vs fun v => FinR b0 K v σ
  | .ret => resR W0 fr σ rs fun vs => tupR vs fun v => FinR b0 K v σ
  | _ => False
section
variable {P : Program} {W0 : World} {σ : List Blk}
theorem tupR_sound {vs : List AV} {K : AV → Prop} (h : tupR vs K) : ∃ v, tupA vs = some v ∧ K v := by
  unfold tupR at h
  unfold tupA
  split at h
  · exact ⟨_, rfl, h⟩
  · rename_i hne
    split at h
    · rename_i hall
      split
      · exact (hne _ rfl).elim
      · rw [if_pos hall]; exact ⟨_, rfl, h⟩
    · exact h.elim
theorem rel_initFr {ι : Loc} {fn : Func} {args : List AV} {vs : List Value} (hr : Rels (rel3 ι σ) args vs) (hn : args.length ≤ fn.ntmps) :
    FRel ι σ fn.ntmps (initFr args) ({ tmps := vs.toArray ++ Array.replicate (fn.ntmps - vs.toArray.size) undef, defers := [] } : Act) := by
  have hvl : vs.length = args.length := hr.1.symm
  refine ⟨by simp; omega, fun t => ?_⟩
  unfold initFr
  rcases Nat.lt_or_ge t args.length with ht | ht
  · have ha := List.getElem?_eq_getElem ht
    obtain ⟨b, hb', hab⟩ := hr.get ha
    have htl : t < vs.length := by omega
    have h1 : args.getD t .junk = args[t] := by simp [ht]
    have h2 : (vs.toArray ++ Array.replicate (fn.ntmps - vs.toArray.size) undef).getD t undef = b := by
      rw [Array.getD_eq_getD_getElem?, Array.getElem?_append_left (by simpa using htl)]
      simp [hb']
    show rel3 ι σ (args.getD t .junk) ((vs.toArray ++ Array.replicate (fn.ntmps - vs.toArray.size) undef).getD t undef)
    rw [h1, h2]; exact hab
  · have h1 : args.getD t .junk = .junk := by simp [ht]
    rw [h1]; exact trivial
/-- **A function by its resolved code.** -/
theorem ACall.introR {g : FuncId} {fn : Func} {r : RC} {rs : List RR} {args : List AV} {K : Cont} {cuts : Nat → Nat} (hm : P.follows .mixedOrders = true) (hf : P.funcs[g]? = some fn) (hname : (fn.name == "runtime.NumGoroutine") = false)
    (hc : (fn.body.bind fun c => comp P fn.ntmps cuts c) = some r) (hrs : compRes P fn.results.toList = some rs) (hn : args.length ≤ fn.ntmps)
    (h : rW P W0 σ.length r (initFr args) σ (finP W0 rs σ.length K)) : ACall P W0 g args σ K := by
  obtain ⟨c, hb, hc⟩ := Option.bind_eq_some_iff.1 hc
  refine ⟨by simp [callOK, hf, hname, hb], fun ι w vs hh hr => ?_⟩
  refine calls_of_wp hf hb (wp_mono (comp_sound (ι0 := ι) (σ0 := σ) hm hh.len c r _ (initFr args) σ ι _ w [] hc h hh (rel_initFr hr hn) (Ext.refl _ _) rfl) fun e a' w' hq => ?_)
  obtain ⟨ι', σ', fr', hfin, hh', hf', hx', hd'⟩ := hq
  have key : resR W0 fr' σ' rs (fun vs => tupR vs fun v => FinR σ.length K v σ') → bodyPost P fn (fun e w' => ∃ v ι' σ' av, e = .returned v ∧ K av σ' ∧ HRel W0 ι' σ' w' ∧ Ext ι σ ι' σ' ∧ rel3 ι' σ' av v) .normal a' w' := by
    intro hres
    have hres' := resR_sound _ _ _ hrs hres
    obtain ⟨vs', xs, hv, hrr, hrun⟩ := run_resList hf' hh' _ _ hres'
    obtain ⟨v, hv1, hv2⟩ := tupR_sound hv
    have hmm : (fn.results.mapM (resOne a'.tmps)).run P w' = .ok xs.toArray w' := by
      rw [Array.mapM_eq_mapM_toList]
      simp only [Sem.run_map, hrun, Result.andThen_ok]
    have h0 : (results fn a'.tmps).run P w' = .ok (if h : xs.toArray.size = 1 then xs.toArray[0] else .tuple xs.toArray) w' := by
      rw [results_eq]
      simp only [Sem.run_bind, Sem.run_pure, hmm, Result.andThen_ok]
    have hx : ∃ x, (results fn a'.tmps).run P w' = .ok x w' ∧ rel3 ι' σ' v x := by
      unfold tupA at hv1
      split at hv1
      · rename_i u
        cases hv1
        obtain ⟨b, m, rfl, h1, h2⟩ := hrr.uncons
        obtain rfl := h2.nil_inv
        exact ⟨b, by rw [h0]; rfl, h1⟩
      · rename_i hne
        split at hv1
        · rename_i hall
          cases hv1
          have hl : xs.toArray.size ≠ 1 := by
            have := hrr.1
            intro h1
            simp at h1
            rw [h1] at this
            match vs', this with
            | [u], _ => exact hne u rfl
          rw [dif_neg hl] at h0
          exact ⟨_, h0, xs, rfl, hrr.mono' fun a ha b hab => rel2_of_rel3 (List.all_eq_true.1 hall a ha) hab⟩
        · cases hv1
    obtain ⟨x, hrun', hrel⟩ := hx
    refine ⟨hd', x, hrun', ?_⟩
    cases hv2 with
    | keep hk => exact ⟨x, ι', σ', v, rfl, hk, hh', hx', hrel⟩
    | drop k hbk hcl hbel hk => exact ⟨x, ι'.take k, σ'.take k, v, rfl, hk, hh'.take hcl, hx'.take hh.len hbk, hrel.take hbel⟩
  cases e with
  | normal => exact key hfin
  | ret => exact key hfin
  | _ => exact hfin.elim
end
/-! ### a call among other blocks -/
def sh0 (k : Nat) : AV → AV
  | .ptr b ver off => .ptr (k + b) ver off
  | v => v
def sh1 (k : Nat) : AV → AV
  | .ptr b ver off => .ptr (k + b) ver off
  | .sl b ver off n c => .sl (k + b) ver off n c
  | .fn f first caps => .fn f (first.map (sh0 k)) (caps.map (sh0 k))
  | v => v
def sh2 (k : Nat) : AV → AV
  | .agg cs => .agg (cs.map (sh1 k))
  | v => sh1 k v
def sh3 (k : Nat) : AV → AV
  | .tup vs => .tup (vs.map (sh2 k))
  | v => sh2 k v
def shB (k : Nat) (σ : List Blk) : List Blk := σ.map fun B => { B with cells := B.cells.map (sh1 k) }
section
variable {P : Program} {W0 : World} {ι ι' : Loc} {σ σ' : List Blk} {w : World}
theorem get_sh {b : Nat} {B : Blk} (h : σ'[b]? = some B) : (σ ++ shB σ.length σ')[σ.length + b]? = some { B with cells := B.cells.map (sh1 σ.length) } := by
  rw [List.getElem?_append_right (by omega)]
  simp [shB, h]
theorem get_shI {b : Nat} {q : Nat × Nat} (hl : ι.length = σ.length) (h : ι'[b]? = some q) : (ι ++ ι')[σ.length + b]? = some q := by
  rw [List.getElem?_append_right (by omega), hl]
  simpa using h
theorem ptrRel.sh {b ver off : Nat} {x : Value} (hl : ι.length = σ.length) (h : ptrRel ι' σ' b ver off x) : ptrRel (ι ++ ι') (σ ++ shB σ.length σ') (σ.length + b) ver off x := by
  obtain ⟨B, hB, hv, h1, hc⟩ := h
  refine ⟨_, get_sh hB, hv, h1, fun e => ?_⟩
  obtain ⟨c, t, hi, he⟩ := hc e
  exact ⟨c, t, get_shI hl hi, he⟩
theorem slRel.sh {b ver off len cap : Nat} {x : Value} (hl : ι.length = σ.length) (h : slRel ι' σ' b ver off len cap x) : slRel (ι ++ ι') (σ ++ shB σ.length σ') (σ.length + b) ver off len cap x := by
  obtain ⟨B, hB, hv, h1, hc⟩ := h
  refine ⟨_, get_sh hB, hv, h1, fun e => ?_⟩
  obtain ⟨c, t, hi, he⟩ := hc e
  exact ⟨c, t, get_shI hl hi, he⟩
theorem Rels.mapL {α β γ : Type} {R : α → β → Prop} {R' : γ → β → Prop} {f : α → γ} {l : List α} {m : List β} (h : Rels R l m) (hr : ∀ a b, R a b → R' (f a) b) : Rels R' (l.map f) m :=
  ⟨by simp [h.1], fun i a b ha hb => by
    rw [List.getElem?_map] at ha
    obtain ⟨a', ha', rfl⟩ := Option.map_eq_some_iff.1 ha
    exact hr _ _ (h.2 i a' b ha' hb)⟩
theorem rel0.sh (hl : ι.length = σ.length) {v : AV} {x : Value} (h : rel0 ι' σ' v x) : rel0 (ι ++ ι') (σ ++ shB σ.length σ') (sh0 σ.length v) x := by
  cases v <;> first | exact h | exact ptrRel.sh hl h
theorem rel1.sh (hl : ι.length = σ.length) {v : AV} {x : Value} (h : rel1 ι' σ' v x) : rel1 (ι ++ ι') (σ ++ shB σ.length σ') (sh1 σ.length v) x := by
  cases v with
  | ptr b ver off => exact ptrRel.sh hl h
  | sl b ver off len cap => exact slRel.sh hl h
  | fn f first caps =>
    obtain ⟨l1, l2, e, h1, h2⟩ := h
    exact ⟨l1, l2, e, h1.mapL fun _ _ => rel0.sh hl, h2.mapL fun _ _ => rel0.sh hl⟩
  | _ => exact h
theorem crel.sh (hl : ι.length = σ.length) {v : AV} {x : Value} (h : crel ι' σ' v x) : crel (ι ++ ι') (σ ++ shB σ.length σ') (sh1 σ.length v) x := ⟨rel1.sh hl h.1, h.2⟩
theorem rel2.sh (hl : ι.length = σ.length) {v : AV} {x : Value} (h : rel2 ι' σ' v x) : rel2 (ι ++ ι') (σ ++ shB σ.length σ') (sh2 σ.length v) x := by
  cases v with
  | agg cs => obtain ⟨l, e, h1⟩ := h; exact ⟨l, e, h1.mapL fun _ _ => crel.sh hl⟩
  | ptr b ver off => exact ptrRel.sh hl h
  | sl b ver off len cap => exact slRel.sh hl h
  | fn f first caps => exact rel1.sh (v := .fn f first caps) hl h
  | _ => exact h
theorem rel3.sh (hl : ι.length = σ.length) {v : AV} {x : Value} (h : rel3 ι' σ' v x) : rel3 (ι ++ ι') (σ ++ shB σ.length σ') (sh3 σ.length v) x := by
  cases v with
  | tup vs => obtain ⟨l, e, h1⟩ := h; exact ⟨l, e, h1.mapL fun _ _ => rel2.sh hl⟩
  | agg cs => exact rel2.sh (v := .agg cs) hl h
  | ptr b ver off => exact ptrRel.sh hl h
  | sl b ver off len cap => exact slRel.sh hl h
  | fn f first caps => exact rel1.sh (v := .fn f first caps) hl h
  | _ => exact h
/-- an argument that leads to no own block -/
def pure1 : AV → Bool
  | .lit _ | .junk => true
  | .fn _ first caps => first.all (fun v => match v with | .lit _ => true | _ => false) && caps.all (fun v => match v with | .lit _ => true | _ => false)
  | _ => false
def pure3 : AV → Bool
  | .agg cs => cs.all (fun v => match v with | .lit _ => true | _ => false)
  | v => pure1 v
theorem rel3_pure {v : AV} {x : Value} (hp : pure3 v = true) (h : rel3 ι σ v x) : rel3 [] [] v x := by
  have l0 : ∀ {l : List AV} {m : List Value}, (l.all (fun v => match v with | .lit _ => true | _ => false)) = true → Rels (rel0 ι σ) l m → Rels (rel0 [] []) l m := fun ha hr => hr.mono' fun a hm b hab => by
    have := List.all_eq_true.1 ha a hm
    cases a <;> first | exact hab | (simp at this)
  cases v with
  | lit v => exact h
  | junk => exact trivial
  | fn f first caps =>
    simp only [pure3, pure1, Bool.and_eq_true] at hp
    obtain ⟨l1, l2, e, h1, h2⟩ := h
    exact ⟨l1, l2, e, l0 hp.1 h1, l0 hp.2 h2⟩
  | agg cs =>
    simp only [pure3] at hp
    obtain ⟨l, e, h1⟩ := h
    exact ⟨l, e, h1.mono' fun a hm b hab => by
      have := List.all_eq_true.1 hp a hm
      cases a <;> first | exact hab | (simp at this)⟩
  | ptr b ver off => simp [pure3, pure1] at hp
  | sl b ver off len cap => simp [pure3, pure1] at hp
  | tup vs => simp [pure3, pure1] at hp
theorem HRel.nil (w : World) : HRel w [] [] w :=
  ⟨Below.refl _ _, rfl, fun i j c t t' h => by simp at h, fun i c t h => by simp at h, fun i B c t h => by simp at h⟩
/-- new blocks beside those that were there -/
theorem HRel.beside {w' : World} (h : HRel W0 ι σ w) (h' : HRel w ι' σ' w') : HRel W0 (ι ++ ι') (σ ++ shB σ.length σ') w' ∧ Ext ι σ (ι ++ ι') (σ ++ shB σ.length σ') := by
  have hsz : w.heap.size ≤ w'.heap.size := h'.below.size
  have hW : W0.heap.size ≤ w.heap.size := h.below.size
  have hx : Ext ι σ (ι ++ ι') (σ ++ shB σ.length σ') := by
    refine ⟨by simp, fun i B B' hB hB' => ?_, fun i B B' hB hB' _ => ?_⟩
    · rw [List.getElem?_append_left (getElem?_lt hB), hB] at hB'
      cases hB'
      exact ⟨Nat.le_refl _, rfl, rfl⟩
    · exact List.getElem?_append_left (by rw [h.len]; exact getElem?_lt hB)
  refine ⟨⟨(h.below.trans (h'.below.mono hW)), by simp [h.len, h'.len, shB], ?_, ?_, ?_⟩, hx⟩
  · intro i j c t t' hi hj
    rw [List.getElem?_append] at hi hj
    split at hi <;> split at hj
    · exact h.inj i j c t t' hi hj
    · have := (h.dom i c t hi).2; have := (h'.dom _ c t' hj).1; omega
    · have := (h.dom j c t' hj).2; have := (h'.dom _ c t hi).1; omega
    · have := h'.inj _ _ c t t' hi hj; omega
  · intro i c t hi
    rw [List.getElem?_append] at hi
    split at hi
    · have := h.dom i c t hi; omega
    · have := h'.dom _ c t hi; omega
  · intro i B c t hB hi
    rw [List.getElem?_append] at hB hi
    rw [h.len] at hi
    split at hB
    · rename_i hlt
      rw [if_pos hlt] at hi
      obtain ⟨vs, rest, h1, h2, h3, h4⟩ := h.blk i B c t hB hi
      refine ⟨vs, rest, ?_, h2, h3.mono fun _ _ => crel.mono hx, h4⟩
      rw [h'.below.block c (h.dom i c t hi).2]; exact h1
    · rename_i hge
      rw [if_neg hge] at hi
      unfold shB at hB
      rw [List.getElem?_map] at hB
      obtain ⟨B', hB', rfl⟩ := Option.map_eq_some_iff.1 hB
      obtain ⟨vs, rest, h1, h2, h3, h4⟩ := h'.blk _ B' c t hB' hi
      exact ⟨vs, rest, h1, h2, h3.mapL fun _ _ => crel.sh h.len, h4⟩
/-- **A contract that knows no blocks holds beside any.** -/
theorem ACall.frame {g : FuncId} {args : List AV} {K0 K : Cont} (hp : args.all pure3 = true) (h : ∀ W1, Below W0.heap.size W0 W1 → ACall P W1 g args [] K0) (hk : ∀ v σ', K0 v σ' → K (sh3 σ.length v) (σ ++ shB σ.length σ')) :
    ACall P W0 g args σ K := by
  refine ⟨(h W0 (Below.refl _ _)).ok, fun ι w vs hh hr => ?_⟩
  have hr0 : Rels (rel3 [] []) args vs := hr.mono' fun a ha b hab => rel3_pure (List.all_eq_true.1 hp a ha) hab
  refine ((h w hh.below).run [] w vs (HRel.nil w) hr0).mono fun e w' ⟨v, ι', σ', av, he, hk0, h3, h4, h5⟩ => ?_
  obtain ⟨h6, h7⟩ := hh.beside h3
  exact ⟨v, _, _, _, he, hk _ _ hk0, h6, h7, rel3.sh hh.len h5⟩
/-- a contract whose result leads to no block -/
theorem ACall.lift {g : FuncId} {args : List AV} {r : AV} {K : Cont} (hp : args.all pure3 = true) (hs : ∀ k, sh3 k r = r) (h : ∀ (W1 : World) (K : Cont), Below W0.heap.size W0 W1 → K r [] → ACall P W1 g args [] K) (hk : K r σ) :
    ACall P W0 g args σ K :=
  ACall.frame (K0 := fun v σ' => v = r ∧ σ' = []) hp (fun W1 hb => h W1 _ hb ⟨rfl, rfl⟩) fun v σ' ⟨h1, h2⟩ => by
    subst h1; subst h2
    rw [hs]
    simpa [shB] using hk
theorem Closed.zero (σ : List Blk) : Closed 0 (σ.take 0) := by simp [Closed]
end
end Go.Proofs.YtlmplfgnhibfcaaDoor.Abs
end

section
/- From a contract to the statement: what came in, and what a law's call leaves. -/
set_option linter.unusedVariables false
set_option linter.unusedSimpArgs false
namespace Go.Proofs.YtlmplfgnhibfcaaDoor
open Go Go.RowKit Go.Proofs.YtlmplfgnhibfcaaDoor.Abs
theorem own : ownKnob Tryd.prog.godebug = none := by kernel_rfl
theorem laidOut : laidOutB Tryd.prog = true := by kernel_rfl
/-- what a law's call leaves -/
theorem law_calls {P : Program} {w : World} {g : FuncId} {avs : List AV} {vs : List Value} (h : ∀ K : Cont, K (.lit (.bool true)) [] → ACall P w g avs [] K) (hr : Rels (rel3 [] []) avs vs) :
    Calls P g vs.toArray w fun e w' => e = .returned (.bool true) ∧ Below w.heap.size w w' := by
  refine ((h (fun v σ' => v = .lit (.bool true)) rfl).run [] w vs (HRel.nil w) hr).mono fun e w' ⟨v, ι', σ', av, he, hk, hh, _, hrel⟩ => ?_
  subst hk
  have e1 : v = .bool true := hrel
  subst e1
  exact ⟨he, hh.below⟩
end Go.Proofs.YtlmplfgnhibfcaaDoor
end

section
/- The abstract logic, part R: a loop by the slots that live; contracts over 'Calls' as abstract calls; memory that came in. -/
set_option linter.unusedVariables false
set_option linter.unusedSimpArgs false
namespace Go.Proofs.YtlmplfgnhibfcaaDoor.Abs
open Go Go.RowKit
theorem mk_size (a : Array UInt8) : (ByteArray.mk a).size = a.size := rfl
/-- the bytes of a string -/
def tl (s : ByteArray) : List UInt8 := s.data.toList
theorem tl_len (s : ByteArray) : (tl s).length = s.size := by show s.data.toList.length = s.data.size; simp
theorem ba_get (s : ByteArray) (i : Nat) : s.data[i]?.getD 0 = (tl s).getD i 0 := by simp [List.getD, tl]
theorem ba_empty (s : ByteArray) : (s.toList == (⟨#[]⟩ : ByteArray).toList) = !decide ((1 : Int) ≤ (s.size : Nat)) := by
  rw [ByteArray.toList_eq, ByteArray.toList_eq]
  have h : s.size = s.data.toList.length := by show s.data.size = _; simp
  rw [h]
  cases s.data.toList <;> simp
  omega
theorem wrap64_eq (n : Int) : IntKind.i64.wrap n = (n + 9223372036854775808) % 18446744073709551616 - 9223372036854775808 := by
  unfold IntKind.wrap
  have e1 : IntKind.i64.bits = 64 := by decide
  have e2 : IntKind.i64.signed = true := by decide
  rw [e1, e2]
  have e3 : (2 : Int) ^ 64 = 18446744073709551616 := by decide
  have e4 : (2 : Int) ^ (64 - 1) = 9223372036854775808 := by decide
  simp only [e3, e4, Bool.true_and]
  split <;> (rename_i h; simp only [decide_eq_true_eq] at h; omega)
/-- a frame by the slots that are known -/
noncomputable def frL (l : List (Nat × AV)) : Fr := fun t => List.rec (motive := fun _ => AV) .junk (fun p _ ih => cond (Nat.beq t p.1) p.2 ih) l
def agr (l : List (Nat × AV)) (fr : Fr) : Prop := List.rec (motive := fun _ => Prop) True (fun p _ ih => fr p.1 = p.2 ∧ ih) l
theorem frL_cons {p : Nat × AV} {l : List (Nat × AV)} {t : Nat} : frL (p :: l) t = cond (Nat.beq t p.1) p.2 (frL l t) := rfl
theorem agr_cons {p : Nat × AV} {l : List (Nat × AV)} {fr : Fr} : agr (p :: l) fr = (fr p.1 = p.2 ∧ agr l fr) := rfl
theorem frL_agr {fr : Fr} : ∀ {l : List (Nat × AV)}, agr l fr → ∀ t, frL l t = .junk ∨ (frL l t = fr t ∧ ∃ p ∈ l, fr t = p.2)
  | [], _, t => .inl rfl
  | p :: l, h, t => by
    rw [agr_cons] at h
    rw [frL_cons]
    cases hb : Nat.beq t p.1 with
    | true =>
      have e : t = p.1 := Nat.eq_of_beq_eq_true hb
      right
      refine ⟨?_, p, List.mem_cons_self, ?_⟩ <;> rw [e, h.1]
      rfl
    | false =>
      rcases frL_agr h.2 t with h' | ⟨h', q, hq, hq'⟩
      · exact .inl h'
      · exact .inr ⟨h', q, List.mem_cons_of_mem _ hq, hq'⟩
/-- what becomes of the blocks at a loop's head: they stay, or those behind k are dropped -/
inductive Fgt (b0 : Nat) (l : List (Nat × AV)) (σ σ' : List Blk) : Prop
  | keep (h : σ' = σ)
  | drop (k : Nat) (hk : b0 ≤ k) (e : σ' = σ.take k) (hc : Closed k σ') (hb : l.all (fun p => bel3 k p.2) = true)
theorem Fgt.forget {b0 : Nat} {l : List (Nat × AV)} {σ σ' : List Blk} {fr : Fr} (h : Fgt b0 l σ σ') (ha : agr l fr) : Forget b0 fr σ (frL l) σ' := by
  cases h with
  | keep e => exact .inl ⟨e, fun t => (frL_agr ha t).imp id (·.1)⟩
  | drop k hk e hc hb =>
    refine .inr ⟨k, hk, e, hc, fun t => (frL_agr ha t).imp id fun ⟨h1, p, hp, h2⟩ => ⟨h1, ?_⟩⟩
    rw [h2]
    exact List.all_eq_true.1 hb p hp
/-- at the end of a round: the next round's head -/
structure Again {X : Type} (b0 : Nat) (sh : X → List (Nat × AV)) (st : X → List Blk) (inv : X → Prop) (m : X → Nat) (n : Nat) (fr : Fr) (σ : List Blk) : Prop where
  ex : ∃ m' fr'' σ'', m' < n ∧ Forget b0 fr σ fr'' σ'' ∧ ∃ y, fr'' = frL (sh y) ∧ σ'' = st y ∧ inv y ∧ m' = m y
theorem Again.go {X : Type} {b0 : Nat} {sh : X → List (Nat × AV)} {st : X → List Blk} {inv : X → Prop} {m : X → Nat} {n : Nat} {fr : Fr} {σ : List Blk} (x : X) (ha : agr (sh x) fr) (hg : Fgt b0 (sh x) σ (st x)) (hi : inv x) (hm : m x < n) :
    Again b0 sh st inv m n fr σ := ⟨m x, _, _, hm, hg.forget ha, x, rfl, rfl, hi, rfl⟩
/-- **A loop by the slots that live.** -/
theorem LoopR.live {X : Type} {b0 : Nat} {body : Fr → List Blk → CPost → Prop} {fr : Fr} {σ : List Blk} {Q : CPost} (sh : X → List (Nat × AV)) (st : X → List Blk) (inv : X → Prop) (m : X → Nat) (x0 : X)
    (hf : agr (sh x0) fr) (hσ : Fgt b0 (sh x0) σ (st x0)) (h0 : inv x0)
    (hb : ∀ x, inv x → body (frL (sh x)) (st x) fun e fr' σ' => match e with
      | .normal => Again b0 sh st inv m (m x) fr' σ'
      | e => Q e fr' σ') : LoopR b0 body fr σ Q := by
  refine LoopR.inv ⟨fun n fr' σ' => ∃ x, fr' = frL (sh x) ∧ σ' = st x ∧ inv x ∧ n = m x, m x0, frL (sh x0), st x0, hσ.forget hf, ⟨x0, rfl, rfl, h0, rfl⟩, ?_⟩
  rintro n fr' σ' ⟨x, rfl, rfl, hx, rfl⟩
  have h := hb x hx
  have e : (fun (e : Exit) (fr' : Fr) (σ' : List Blk) => (match e with | .normal => ∃ m' fr'' σ'', m' < m x ∧ Forget b0 fr' σ' fr'' σ'' ∧ (∃ y, fr'' = frL (sh y) ∧ σ'' = st y ∧ inv y ∧ m' = m y) | e => Q e fr' σ' : Prop))
      = (fun (e : Exit) (fr' : Fr) (σ' : List Blk) => (match e with | .normal => Again b0 sh st inv m (m x) fr' σ' | e => Q e fr' σ' : Prop)) := by
    funext e fr' σ'
    cases e with
    | normal => exact propext ⟨fun h => ⟨h⟩, fun h => h.ex⟩
    | _ => rfl
  exact Eq.mp (congrArg (fun k => body (frL (sh x)) (st x) k) e.symm) h
section
variable {P : Program} {W0 : World} {σ : List Blk} {K : Cont}
theorem HRel.after {ι : Loc} {w w' : World} (h : HRel W0 ι σ w) (hb : Below w.heap.size w w') : HRel W0 ι σ w' := by
  have h0 : HRel w [] [] w' := ⟨hb, rfl, fun i j c t t' h => by simp at h, fun i c t h => by simp at h, fun i B c t h => by simp at h⟩
  have h1 := (h.beside h0).1
  simpa [shB] using h1
theorem rels_lits_inv {ι : Loc} : ∀ {vs us : List Value}, Rels (rel3 ι σ) (vs.map AV.lit) us → us = vs
  | [], us, h => h.nil_inv
  | v :: vs, us, h => by
    obtain ⟨b, m, rfl, h1, h2⟩ := Rels.uncons h
    have e1 : b = v := h1
    rw [e1, rels_lits_inv h2]
/-- a contract over 'Calls' that leaves the memory below as it was: the result leads to no block -/
theorem ACall.ofCalls {g : FuncId} {vs : List Value} {r : AV} (hok : callOK P g = true) (hs : ∀ (ι : Loc) (σ : List Blk) (x : Value), rel3 [] [] r x → rel3 ι σ r x)
    (h : ∀ w, Below W0.heap.size W0 w → Calls P g vs.toArray w fun e w' => ∃ x, e = .returned x ∧ rel3 [] [] r x ∧ Below w.heap.size w w') (hk : K r σ) : ACall P W0 g (vs.map AV.lit) σ K := by
  refine ⟨hok, fun ι w us hh hr => ?_⟩
  rw [rels_lits_inv hr]
  refine (h w hh.below).mono fun e w' ⟨x, he, hx, hb⟩ => ?_
  exact ⟨x, ι, σ, r, he, hk, hh.after hb, Ext.refl _ _, hs _ _ _ hx⟩
theorem ACall.ofCalls1 {g : FuncId} {vs : List Value} {r : Value} (hok : callOK P g = true)
    (h : ∀ w, Below W0.heap.size W0 w → Calls P g vs.toArray w fun e w' => e = .returned r ∧ Below w.heap.size w w') (hk : K (.lit r) σ) : ACall P W0 g (vs.map AV.lit) σ K :=
  ACall.ofCalls (r := .lit r) hok (fun _ _ _ h => h) (fun w hw => (h w hw).mono fun e w' ⟨he, hb⟩ => ⟨r, he, rfl, hb⟩) hk
end
theorem add_block (a : Addr) (i : Nat) : (a.add i).block = a.block := by unfold Addr.add; split <;> rfl
/-- a slice whose elements are told by a list: it came in (or is nil), or it is the call's own -/
inductive Sli {α : Type} (W0 : World) (σ : List Blk) (s : Nat) (enc : α → List Value) : AV → List α → Prop
  | nil : Sli W0 σ s enc (.lit (.slice none 0 0)) []
  | inn (ad : Addr) (n cap : Nat) (xs : List α) (hn : n = xs.length) (hc : n ≤ cap) (hm : cap ≤ maxLen) (hb : ad.block < W0.heap.size)
      (hx : ∀ i x, xs[i]? = some x → ∀ j v, (enc x)[j]? = some v → W0.cell? ((ad.add (i * s)).add j) = some v ∧ v.oneCell' = true) : Sli W0 σ s enc (.lit (.slice (some ad) n cap)) xs
  | own (b ver off n cap : Nat) (B : Blk) (xs : List α) (hB : σ[b]? = some B) (hv : B.ver = ver) (hn : n = xs.length)
      (hx : ∀ i x, xs[i]? = some x → ∀ j v, (enc x)[j]? = some v → B.cells[off + i * s + j]? = some (.lit v)) : Sli W0 σ s enc (.sl b ver off n cap) xs
section
variable {P : Program} {W0 : World} {σ : List Blk} {K : Cont} {α : Type} {s : Nat} {enc : α → List Value}
theorem Sli.conc {a : AV} {xs : List α} {ι : Loc} {W1 : World} (h : Sli W0 σ s enc a xs) (hh : HRel W0 ι σ W1) (hr : ∃ x, rel3 ι σ a x) : ∃ a', (∀ x, rel3 ι σ a x → rel3 [] [] a' x) ∧ Sli W1 [] s enc a' xs := by
  cases h with
  | nil => exact ⟨.lit (.slice none 0 0), fun x hx => hx, .nil⟩
  | inn ad n cap xs hn hc hm hb hx =>
    refine ⟨.lit (.slice (some ad) n cap), fun x hx => hx, .inn ad n cap xs hn hc hm (Nat.lt_of_lt_of_le hb hh.below.size) fun i x hi j v hj => ?_⟩
    rw [hh.below.cell (p := (ad.add (i * s)).add j) (by rw [add_block, add_block]; exact hb)]
    exact hx i x hi j v hj
  | own b ver off n cap B xs hB hv hn hx =>
    obtain ⟨x0, h0⟩ := hr
    have h0' : slRel ι σ b ver off n cap x0 := h0
    obtain ⟨c, t, hi, rfl, hc, hm, _⟩ := slRel_now h0' hB hv
    refine ⟨.lit (.slice (some ⟨c, off, none⟩) n cap), fun x hx => ?_, .inn _ n cap xs hn hc hm (hh.dom b c t hi).2 fun i x hxi j v hj => ?_⟩
    · have hx' : slRel ι σ b ver off n cap x := hx
      obtain ⟨c', t', hi', rfl, _⟩ := slRel_now hx' hB hv
      rw [hi] at hi'; cases hi'; rfl
    · obtain ⟨vs, rest, h1, h2, h3, h4⟩ := hh.blk b B c t hB hi
      have hcell := hx i x hxi j v hj
      obtain ⟨y, hy, hyr⟩ := h3.get hcell
      have e1 : y = v := hyr.1
      subst e1
      rw [add_own, cell?_own h1]
      refine ⟨?_, hyr.2⟩
      rw [List.getElem?_append_left (getElem?_lt hy)]
      exact hy
/-- **A contract that knows no own blocks holds beside any; its arguments may be own slices.** -/
theorem ACall.frameA {g : FuncId} {args : List AV} {K0 K : Cont} (hok : callOK P g = true)
    (h : ∀ W1 ι (vs : List Value), HRel W0 ι σ W1 → Rels (rel3 ι σ) args vs → ∃ args', Rels (rel3 [] []) args' vs ∧ ACall P W1 g args' [] K0) (hk : ∀ v σ', K0 v σ' → K (sh3 σ.length v) (σ ++ shB σ.length σ')) :
    ACall P W0 g args σ K := by
  refine ⟨hok, fun ι w vs hh hr => ?_⟩
  obtain ⟨args', hr', hc⟩ := h w ι vs hh hr
  refine (hc.run [] w vs (HRel.nil w) hr').mono fun e w' ⟨v, ι', σ', av, he, hk0, h3, h4, h5⟩ => ?_
  obtain ⟨h6, h7⟩ := hh.beside h3
  exact ⟨v, _, _, _, he, hk _ _ hk0, h6, h7, rel3.sh hh.len h5⟩
/-- the arguments as the callee sees them -/
inductive Sees (W1 : World) (ι : Loc) (σ : List Blk) : List AV → List AV → Prop
  | nil : Sees W1 ι σ [] []
  | cons {a a' : AV} {l l' : List AV} (h : ∀ x, rel3 ι σ a x → rel3 [] [] a' x) (t : Sees W1 ι σ l l') : Sees W1 ι σ (a :: l) (a' :: l')
/-! ### loads of what came in -/
theorem ldIn {ad : Addr} {xs : List α} (hb : ad.block < W0.heap.size) (hx : ∀ i x, xs[i]? = some x → ∀ j v, (enc x)[j]? = some v → W0.cell? ((ad.add (i * s)).add j) = some v ∧ v.oneCell' = true)
    {k : Nat} {x : α} (hk : xs[k]? = some x) (hs : (enc x).length = s) {C : List Value → Prop} (h : C (enc x)) :
    ∃ cs : List Value, cs.length = s ∧ (∀ (j : Nat) (v : Value), cs[j]? = some v → W0.cell? ((ad.add (k * s)).add j) = some v ∧ v.oneCell' = true) ∧ (ad.add (k * s)).block < W0.heap.size ∧ C cs :=
  ⟨enc x, hs, hx k x hk, by rw [add_block]; exact hb, h⟩
end
end Go.Proofs.YtlmplfgnhibfcaaDoor.Abs
end

section
/- From a contract to the statement: arguments of several kinds of cells. -/
set_option linter.unusedVariables false
set_option linter.unusedSimpArgs false
namespace Go.Proofs.YtlmplfgnhibfcaaDoor
open Go Go.RowKit Go.Proofs.YtlmplfgnhibfcaaDoor.Abs
def kOf : Option TypeDesc → Nat
  | some (.int .i64) => 0
  | some .string => 1
  | some .bool => 2
  | _ => 9
def okK (k : Nat) (x : Value) : Prop := match k with
  | 0 => ∃ m, x = .int .i64 m ∧ IntKind.i64.has m
  | 1 => ∃ s : ByteArray, x = .string s ∧ s.size ≤ 9223372036854775807
  | 2 => ∃ b, x = .bool b
  | _ => True
theorem okK_of_cell {P : Program} {w : World} {base : Nat} {u : TypeId} {v : Value} (hok : Cell.okWide P w .any base u v) : okK (kOf (P.underlying u)) v := by
  unfold Cell.okWide at hok
  cases hu : P.underlying u with
  | none => exact trivial
  | some d =>
    rw [hu] at hok
    cases d with
    | int k =>
      cases k with
      | i64 =>
        unfold Cell.ok at hok
        rw [hu] at hok
        cases v <;> simp at hok
        exact ⟨_, by rw [hok.1], hok.2⟩
      | _ => exact trivial
    | string =>
      unfold Cell.ok at hok
      rw [hu] at hok
      cases v with
      | string s =>
        have h1 : (s.size : Int) ≤ IntKind.i64.max := hok
        have h2 : IntKind.i64.max = 9223372036854775807 := by decide
        exact ⟨s, rfl, by omega⟩
      | _ => simp at hok
    | bool =>
      unfold Cell.ok at hok
      rw [hu] at hok
      cases v with
      | bool b => exact ⟨b, rfl⟩
      | _ => simp at hok
    | _ => exact trivial
theorem val_of_okWide {P : Program} {w : World} {base k : Nat} {t : TypeId} {v : Value} (ha : aggP P t = some false) (hk : kOf (P.underlying t) = k) (h : Value.okWide P w .any base t v) : okK k v := by
  subst hk
  refine okK_of_cell (base := base) (w := w) ?_
  unfold aggP at ha
  obtain ⟨d, hd, hg⟩ := Option.map_eq_some_iff.1 ha
  unfold Value.okWide at h
  rw [hd] at h
  cases d <;> first | exact h | (simp [isAggD] at hg)
theorem flat_of_okWide {P : Program} {w : World} {base n : Nat} {t : TypeId} {v : Value} {ks : List Nat} (ha : aggP P t = some true) (hs : P.cellsOf t = n)
    (hk : ((P.cellTypes P.depth t).map fun ts => ts.map fun u => kOf (P.underlying u)) = some ks) (hn : ks.length = n)
    (h : Value.okWide P w .any base t v) : ∃ l : List Value, l.length = n ∧ v = .agg l.toArray ∧ ∀ (i : Nat) (x : Value) (k : Nat), l[i]? = some x → ks[i]? = some k → okK k x := by
  obtain ⟨ts, hc, hks⟩ := Option.map_eq_some_iff.1 hk
  have hd : ∃ cs, v = .agg cs ∧ cs.size = P.cellsOf t ∧ Row.okWide P w .any base t cs := by
    unfold aggP at ha
    obtain ⟨d, hd, hg⟩ := Option.map_eq_some_iff.1 ha
    unfold Value.okWide at h
    rw [hd] at h
    cases d <;> first | exact h | (simp [isAggD] at hg)
  obtain ⟨cs, rfl, hsz, ts', hts, hn', hall⟩ := hd
  rw [hc] at hts; cases hts
  have hlen : ts.length = n := by rw [← hn, ← hks]; simp
  refine ⟨cs.toList, by simp [hsz, hs], by simp, fun i x k hx hk' => ?_⟩
  obtain ⟨u, hu, hok⟩ := hall i x (by simpa using hx)
  have hi : i < n := by
    have := (List.getElem?_eq_some_iff.1 hk').1
    omega
  rw [hlen, Nat.mod_eq_of_lt hi] at hu
  rw [← hks, List.getElem?_map, hu] at hk'
  cases hk'
  exact okK_of_cell hok
theorem cons_of_len {α : Type} {l : List α} {n : Nat} (h : l.length = n + 1) : ∃ a l', l = a :: l' ∧ l'.length = n := by
  cases l with
  | nil => simp at h
  | cons a l' => exact ⟨a, l', rfl, by simpa using h⟩
theorem nil_of_len {α : Type} {l : List α} (h : l.length = 0) : l = [] := List.length_eq_zero_iff.1 h
theorem rel_agg (l : List Value) (h : l.all (·.oneCell') = true) : rel3 [] [] (.agg (l.map AV.lit)) (.agg l.toArray) :=
  ⟨l, rfl, by simp, fun i a b ha hb => by
    rw [List.getElem?_map, hb] at ha
    cases ha
    exact ⟨rfl, List.all_eq_true.1 h b (List.mem_of_getElem? hb)⟩⟩
end Go.Proofs.YtlmplfgnhibfcaaDoor
end

section
/- The resolved code of the functions that are reached, and that it stands for the program's own. -/
set_option linter.unusedVariables false
namespace Go.Proofs.YtlmplfgnhibfcaaDoor
open Go Go.RowKit Go.Proofs.YtlmplfgnhibfcaaDoor.Abs
theorem mixed : Tryd.prog.follows .mixedOrders = true := by kernel_rfl
def r3 : RC := (.seq (.reg [.op (some 1) (.box 23 (.t 0)),
  .op (some 2) (.mv (.v (.lit (.bool false))))])
 (.seq (.reg [.op (some 3) (.mv (.v (.lit (.int .i64 (1048576)))))])
 (.seq (.reg [.op (some 12) (.load 3 true (.t 1)),
  .op (some 13) (.mv (.t 3)),
  .op (some 14) (.call (.v (.lit (.func (.func 5) #[] #[]))) [(.t 12), (.t 13)]),
  .op (some 3) (.mv (.t 14))])
 (.seq (.seq (.reg [.op (some 15) (.mv (.t 3)),
  .op (some 16) (.binI .lss (.t 15) (.v (.lit (.int .i64 (0)))))])
 (.cond (.t 16)
 (.seq (.reg [.op (some 2) (.mv (.v (.lit (.bool true))))])
 .ret)
 .skip))
 (.seq (.reg [.op (some 18) (.load 3 true (.t 1)),
  .op (some 19) (.call (.v (.lit (.func (.func 7) #[] #[]))) [(.t 18)]),
  .op (some 20) (.call (.v (.lit (.func (.func 6) #[] #[]))) [(.t 19)]),
  .op (some 17) (.mv (.t 20)),
  .op (some 21) (.ext (.t 17) 0),
  .op (some 22) (.ext (.t 17) 1),
  .op (some 4) (.mv (.t 21)),
  .op (some 5) (.mv (.t 22))])
 (.seq (.reg [.op (some 24) (.load 3 true (.t 1)),
  .op (some 25) (.call (.v (.lit (.func (.func 7) #[] #[]))) [(.t 24)]),
  .op (some 26) (.call (.v (.lit (.func (.func 8) #[] #[]))) [(.t 25)]),
  .op (some 23) (.mv (.t 26)),
  .op (some 27) (.ext (.t 23) 0),
  .op (some 28) (.ext (.t 23) 1),
  .op (some 6) (.mv (.t 27)),
  .op (some 7) (.mv (.t 28))])
 (.seq (.seq (.reg [.op (some 29) (.mv (.t 6)),
  .op (some 30) (.mv (.t 4)),
  .op (some 31) (.call (.v (.lit (.func (.func 9) #[] #[]))) [(.t 29), (.t 30)]),
  .op (some 32) (.un .not (.t 31)),
  .op (some 33) (.mv (.t 32)),
  .grp 33 false [((some 34), (.mv (.t 7))), ((some 35), (.mv (.t 5))), ((some 36), (.binB true (.t 34) (.t 35)))],
  .op (some 37) (.pick (.t 33) (.v (.lit (.bool true))) (.t 36))])
 (.cond (.t 37)
 (.seq (.reg [.op (some 2) (.mv (.v (.lit (.bool false))))])
 .ret)
 .skip))
 (.seq (.reg [.op (some 8) (.mv (.v (.lit (.int .i64 (1)))))])
 (.seq (.reg [.op (some 38) (.mv (.t 6)),
  .op (some 39) (.mv (.t 8)),
  .op (some 40) (.call (.v (.lit (.func (.func 10) #[] #[]))) [(.t 38), (.t 39)]),
  .op (some 8) (.mv (.t 40))])
 (.seq (.reg [.op (some 9) (.mv (.v (.lit (.int .i64 (1)))))])
 (.seq (.reg [.op (some 41) (.mv (.t 6)),
  .op (some 42) (.mv (.t 9)),
  .op (some 43) (.call (.v (.lit (.func (.func 11) #[] #[]))) [(.t 41), (.t 42)]),
  .op (some 9) (.mv (.t 43))])
 (.seq (.seq (.reg [.op (some 44) (.mv (.t 9)),
  .op (some 45) (.binI .lss (.t 44) (.v (.lit (.int .i64 (0)))))])
 (.cond (.t 45)
 (.seq (.reg [.op (some 2) (.mv (.v (.lit (.bool false))))])
 .ret)
 .skip))
 (.seq (.seq (.reg [.op (some 46) (.mv (.t 9)),
  .op (some 47) (.mv (.t 8)),
  .op (some 48) (.binI .neq (.t 46) (.t 47))])
 (.cond (.t 48)
 (.seq (.reg [.op (some 2) (.mv (.v (.lit (.bool false))))])
 .ret)
 .skip))
 (.seq (.reg [.op (some 50) (.load 3 true (.t 1)),
  .op (some 51) (.call (.v (.lit (.func (.func 7) #[] #[]))) [(.t 50)]),
  .op (some 52) (.call (.v (.lit (.func (.func 8) #[] #[]))) [(.t 51)]),
  .op (some 49) (.mv (.t 52)),
  .op (some 53) (.ext (.t 49) 0),
  .op (some 54) (.ext (.t 49) 1),
  .op (some 10) (.mv (.t 53)),
  .op (some 11) (.mv (.t 54))])
 (.seq (.seq (.reg [.op (some 55) (.mv (.t 10)),
  .op (some 56) (.mv (.t 4)),
  .op (some 57) (.call (.v (.lit (.func (.func 9) #[] #[]))) [(.t 55), (.t 56)]),
  .op (some 58) (.un .not (.t 57)),
  .op (some 59) (.mv (.t 58)),
  .grp 59 false [((some 60), (.mv (.t 11))), ((some 61), (.mv (.t 5))), ((some 62), (.binB true (.t 60) (.t 61)))],
  .op (some 63) (.pick (.t 59) (.v (.lit (.bool true))) (.t 62))])
 (.cond (.t 63)
 (.seq (.reg [.op (some 2) (.mv (.v (.lit (.bool false))))])
 .ret)
 .skip))
 (.seq (.reg [.op (some 9) (.mv (.v (.lit (.int .i64 (1)))))])
 (.seq (.reg [.op (some 64) (.mv (.t 6)),
  .op (some 65) (.mv (.t 9)),
  .op (some 66) (.call (.v (.lit (.func (.func 11) #[] #[]))) [(.t 64), (.t 65)]),
  .op (some 9) (.mv (.t 66))])
 (.seq (.seq (.reg [.op (some 67) (.mv (.t 9)),
  .op (some 68) (.binI .lss (.t 67) (.v (.lit (.int .i64 (0)))))])
 (.cond (.t 68)
 (.seq (.reg [.op (some 2) (.mv (.v (.lit (.bool false))))])
 .ret)
 .skip))
 (.seq (.seq (.reg [.op (some 69) (.mv (.t 9)),
  .op (some 70) (.mv (.t 8)),
  .op (some 71) (.binI .neq (.t 69) (.t 70))])
 (.cond (.t 71)
 (.seq (.reg [.op (some 2) (.mv (.v (.lit (.bool false))))])
 .ret)
 .skip))
 (.seq (.reg [.op (some 2) (.mv (.v (.lit (.bool true))))])
 .ret))))))))))))))))))))
def cut3 : Nat → Nat := fun id => 0
theorem k3 : (Tryd.f3.body.bind fun c => comp Tryd.prog Tryd.f3.ntmps cut3 c) = some r3 := by kernel_rfl
def r4 : RC := (.seq (.reg [.op (some 3) (.box 23 (.t 0)),
  .op (some 6) (.mv (.v (.lit (.bool false))))])
 (.seq (.reg [.op (some 7) (.mv (.v (.lit (.int .i64 (1048576)))))])
 (.seq (.reg [.op (some 12) (.load 3 true (.t 3)),
  .op (some 13) (.mv (.t 7)),
  .op (some 14) (.call (.v (.lit (.func (.func 5) #[] #[]))) [(.t 12), (.t 13)]),
  .op (some 7) (.mv (.t 14))])
 (.seq (.seq (.reg [.op (some 15) (.mv (.t 7)),
  .op (some 16) (.binI .lss (.t 15) (.v (.lit (.int .i64 (0)))))])
 (.cond (.t 16)
 (.seq (.reg [.op (some 6) (.mv (.v (.lit (.bool true))))])
 .ret)
 .skip))
 (.seq (.reg [.op (some 18) (.load 3 true (.t 3)),
  .op (some 19) (.call (.v (.lit (.func (.func 7) #[] #[]))) [(.t 18)]),
  .op (some 20) (.mv (.t 1)),
  .op (some 21) (.mv (.t 2)),
  .op (some 22) (.call (.v (.lit (.func (.func 12) #[] #[]))) [(.t 19), (.t 20), (.t 21)]),
  .op (some 17) (.mv (.t 22)),
  .op (some 23) (.ext (.t 17) 0),
  .op (some 24) (.ext (.t 17) 1),
  .op (some 8) (.mv (.t 23)),
  .op (some 9) (.mv (.t 24))])
 (.seq (.reg [.op (some 26) (.load 3 true (.t 3)),
  .op (some 27) (.call (.v (.lit (.func (.func 7) #[] #[]))) [(.t 26)]),
  .op (some 28) (.mv (.t 1)),
  .op (some 29) (.mv (.t 2)),
  .op (some 30) (.call (.v (.lit (.func (.func 13) #[] #[]))) [(.t 27), (.t 28), (.t 29)]),
  .op (some 25) (.mv (.t 30)),
  .op (some 31) (.ext (.t 25) 0),
  .op (some 32) (.ext (.t 25) 1),
  .op (some 10) (.mv (.t 31)),
  .op (some 11) (.mv (.t 32))])
 (.seq (.seq (.reg [.op (some 33) (.mv (.t 10)),
  .op (some 34) (.mv (.t 8)),
  .op (some 35) (.binS .neq (.t 33) (.t 34)),
  .op (some 36) (.mv (.t 35)),
  .grp 36 false [((some 37), (.mv (.t 11))), ((some 38), (.mv (.t 9))), ((some 39), (.binB true (.t 37) (.t 38)))],
  .op (some 40) (.pick (.t 36) (.v (.lit (.bool true))) (.t 39))])
 (.cond (.t 40)
 (.seq (.reg [.op (some 6) (.mv (.v (.lit (.bool false))))])
 .ret)
 .skip))
 (.seq (.reg [.op (some 6) (.mv (.v (.lit (.bool true))))])
 .ret))))))))
def rs4 : List RR := [.tmp 6]
def cut4 : Nat → Nat := fun id => 0
theorem k4 : (Tryd.f4.body.bind fun c => comp Tryd.prog Tryd.f4.ntmps cut4 c) = some r4 := by kernel_rfl
theorem by4 {W0 : World} {σ : List Blk} {args : List AV} {K : Cont} (hn : args.length ≤ 41) (h : rW Tryd.prog W0 σ.length r4 (initFr args) σ (finP W0 rs4 σ.length K)) : ACall Tryd.prog W0 4 args σ K :=
  ACall.introR mixed Tryd.func4 (by kernel_rfl) k4 (by kernel_rfl) hn h
def r5 : RC := (.seq (.reg [.op (some 2) (.box 23 (.t 0)),
  .op (some 4) (.mv (.v (.lit (.int .i64 (0)))))])
 (.seq (.reg [.op (some 5) (.mv (.t 1)),
  .op (some 6) (.faddr 0 (.t 2)),
  .op (some 7) (.load 1 false (.t 6)),
  .op (some 8) (.lenS (.t 7)),
  .op (some 9) (.binI .sub (.t 5) (.t 8)),
  .op (some 1) (.mv (.t 9))])
 (.seq (.seq (.reg [.op (some 10) (.mv (.t 1)),
  .op (some 11) (.binI .lss (.t 10) (.v (.lit (.int .i64 (0)))))])
 (.cond (.t 11)
 (.seq (.reg [.op (some 4) (.mv (.v (.lit (.int .i64 (-1)))))])
 .ret)
 .skip))
 (.seq (.reg [.op (some 12) (.mv (.t 1)),
  .op (some 13) (.faddr 1 (.t 2)),
  .op (some 14) (.load 1 false (.t 13)),
  .op (some 15) (.lenS (.t 14)),
  .op (some 16) (.binI .sub (.t 12) (.t 15)),
  .op (some 1) (.mv (.t 16))])
 (.seq (.seq (.reg [.op (some 17) (.mv (.t 1)),
  .op (some 18) (.binI .lss (.t 17) (.v (.lit (.int .i64 (0)))))])
 (.cond (.t 18)
 (.seq (.reg [.op (some 4) (.mv (.v (.lit (.int .i64 (-1)))))])
 .ret)
 .skip))
 (.seq (.reg [.op (some 19) (.mv (.t 1)),
  .op (some 4) (.mv (.t 19))])
 .ret))))))
def rs5 : List RR := [.tmp 4]
def cut5 : Nat → Nat := fun id => 0
theorem k5 : (Tryd.f5.body.bind fun c => comp Tryd.prog Tryd.f5.ntmps cut5 c) = some r5 := by kernel_rfl
theorem by5 {W0 : World} {σ : List Blk} {args : List AV} {K : Cont} (hn : args.length ≤ 20) (h : rW Tryd.prog W0 σ.length r5 (initFr args) σ (finP W0 rs5 σ.length K)) : ACall Tryd.prog W0 5 args σ K :=
  ACall.introR mixed Tryd.func5 (by kernel_rfl) k5 (by kernel_rfl) hn h
def r7 : RC := (.seq (.reg [.op (some 1) (.box 23 (.t 0)),
  .op (some 2) (.alloc 28 [(.lit (.string ⟨#[]⟩)), (.lit (.string ⟨#[]⟩)), (.lit (.int .i64 (0)))])])
 (.seq (.reg [.op (some 3) (.alloc 28 [(.lit (.string ⟨#[]⟩)), (.lit (.string ⟨#[]⟩)), (.lit (.int .i64 (0)))])])
 (.seq (.reg [.op (some 4) (.faddr 0 (.t 1)),
  .op (some 5) (.load 1 false (.t 4)),
  .op (some 6) (.faddr 0 (.t 3)),
  .op none (.store 1 (.t 6) (.t 5))])
 (.seq (.reg [.op (some 7) (.faddr 1 (.t 1)),
  .op (some 8) (.load 1 false (.t 7)),
  .op (some 9) (.faddr 1 (.t 3)),
  .op none (.store 1 (.t 9) (.t 8))])
 (.seq (.reg [.op (some 10) (.faddr 2 (.t 1)),
  .op (some 11) (.load 1 false (.t 10)),
  .op (some 12) (.faddr 2 (.t 3)),
  .op none (.store 1 (.t 12) (.t 11))])
 (.seq (.reg [.op (some 13) (.load 3 true (.t 3)),
  .op none (.store 3 (.t 2) (.t 13))])
 .ret))))))
def rs7 : List RR := [.cell 2 3 true]
def cut7 : Nat → Nat := fun id => 0
theorem k7 : (Tryd.f7.body.bind fun c => comp Tryd.prog Tryd.f7.ntmps cut7 c) = some r7 := by kernel_rfl
theorem by7 {W0 : World} {σ : List Blk} {args : List AV} {K : Cont} (hn : args.length ≤ 14) (h : rW Tryd.prog W0 σ.length r7 (initFr args) σ (finP W0 rs7 σ.length K)) : ACall Tryd.prog W0 7 args σ K :=
  ACall.introR mixed Tryd.func7 (by kernel_rfl) k7 (by kernel_rfl) hn h
def r12 : RC := (.seq (.reg [.op (some 3) (.box 28 (.t 0)),
  .op (some 6) (.mv (.v (.lit (.string ⟨#[]⟩)))),
  .op (some 7) (.mv (.v (.lit (.bool false))))])
 (.seq (.seq (.reg [.op (some 9) (.load 3 true (.t 3)),
  .op (some 10) (.call (.v (.lit (.func (.func 14) #[] #[]))) [(.t 9)]),
  .op (some 11) (.un .not (.t 10)),
  .op (some 12) (.mv (.t 11)),
  .grp 12 false [((some 13), (.mv (.t 1))), ((some 14), (.faddr 1 (.t 3))), ((some 15), (.load 1 false (.t 14))), ((some 16), (.lenS (.t 15))), ((some 17), (.call (.v (.lit (.func (.func 20) #[] #[]))) [(.t 13), (.v (.lit (.int .i64 (0)))), (.t 16)])), ((some 18), (.un .not (.t 17)))],
  .op (some 19) (.pick (.t 12) (.v (.lit (.bool true))) (.t 18))])
 (.cond (.t 19)
 (.seq (.reg [.op (some 6) (.mv (.v (.lit (.string ⟨#[]⟩)))),
  .op (some 7) (.mv (.v (.lit (.bool false))))])
 .ret)
 .skip))
 (.seq (.reg [.op (some 20) (.faddr 1 (.t 3)),
  .op (some 21) (.load 1 false (.t 20)),
  .op (some 22) (.mv (.t 1)),
  .op (some 23) (.sliceS (.t 21) none (some (.t 22))),
  .op (some 24) (.bytesR 5 (.t 23)),
  .op (some 8) (.mv (.t 24))])
 (.seq (.seq (.reg [.op (some 25) (.mv (.t 2)),
  .op (some 26) (.mv (.t 25)),
  .grp 26 true [((some 27), (.mv (.t 1))), ((some 28), (.binI .gtr (.t 27) (.v (.lit (.int .i64 (0))))))],
  .op (some 29) (.pick (.t 26) (.t 28) (.v (.lit (.bool false))))])
 (.cond (.t 29)
 (.reg [.op (some 30) (.mv (.t 8)),
  .op (some 31) (.mv (.t 1)),
  .op (some 32) (.binI .sub (.t 31) (.v (.lit (.int .i64 (1))))),
  .op (some 33) (.mv (.t 8)),
  .op (some 34) (.mv (.t 1)),
  .op (some 35) (.binI .sub (.t 34) (.v (.lit (.int .i64 (1))))),
  .op (some 36) (.iaddrS 1 (.t 33) (.t 35)),
  .op (some 37) (.load 1 false (.t 36)),
  .op (some 38) (.binI .sub (.v (.lit (.int .u8 (255)))) (.t 37)),
  .op (some 39) (.iaddrS 1 (.t 30) (.t 32)),
  .op none (.store 1 (.t 39) (.t 38))])
 .skip))
 (.seq (.reg [.op (some 40) (.faddr 0 (.t 3)),
  .op (some 41) (.load 1 false (.t 40)),
  .op (some 42) (.mv (.t 8)),
  .op (some 43) (.strL (.t 42)),
  .op (some 44) (.binS .add (.t 41) (.t 43)),
  .op (some 6) (.mv (.t 44)),
  .op (some 7) (.mv (.v (.lit (.bool true))))])
 .ret)))))
def rs12 : List RR := [.tmp 6, .tmp 7]
def cut12 : Nat → Nat := fun id => 0
theorem k12 : (Tryd.f12.body.bind fun c => comp Tryd.prog Tryd.f12.ntmps cut12 c) = some r12 := by kernel_rfl
theorem by12 {W0 : World} {σ : List Blk} {args : List AV} {K : Cont} (hn : args.length ≤ 45) (h : rW Tryd.prog W0 σ.length r12 (initFr args) σ (finP W0 rs12 σ.length K)) : ACall Tryd.prog W0 12 args σ K :=
  ACall.introR mixed Tryd.func12 (by kernel_rfl) k12 (by kernel_rfl) hn h
def r13 : RC := (.seq (.reg [.op (some 3) (.box 28 (.t 0)),
  .op (some 6) (.mv (.v (.lit (.string ⟨#[]⟩)))),
  .op (some 7) (.mv (.v (.lit (.bool false))))])
 (.seq (.seq (.reg [.op (some 9) (.load 3 true (.t 3)),
  .op (some 10) (.call (.v (.lit (.func (.func 16) #[] #[]))) [(.t 9)]),
  .op (some 11) (.un .not (.t 10)),
  .op (some 12) (.mv (.t 11)),
  .grp 12 false [((some 13), (.mv (.t 1))), ((some 14), (.binI .lss (.t 13) (.v (.lit (.int .i64 (0))))))],
  .op (some 15) (.pick (.t 12) (.v (.lit (.bool true))) (.t 14)),
  .op (some 16) (.mv (.t 15)),
  .grp 16 false [((some 17), (.mv (.t 1))), ((some 18), (.faddr 1 (.t 3))), ((some 19), (.load 1 false (.t 18))), ((some 20), (.lenS (.t 19))), ((some 21), (.binI .gtr (.t 17) (.t 20)))],
  .op (some 22) (.pick (.t 16) (.v (.lit (.bool true))) (.t 21))])
 (.cond (.t 22)
 (.seq (.reg [.op (some 6) (.mv (.v (.lit (.string ⟨#[]⟩)))),
  .op (some 7) (.mv (.v (.lit (.bool false))))])
 .ret)
 .skip))
 (.seq (.quiet [.op (some 23) (.faddr 0 (.t 3)),
  .op (some 24) (.load 1 false (.t 23)),
  .op (some 25) (.faddr 1 (.t 3)),
  .op (some 26) (.load 1 false (.t 25)),
  .op (some 27) (.mv (.t 1)),
  .op (some 28) (.sliceS (.t 26) none (some (.t 27))),
  .op (some 29) (.binS .add (.t 24) (.t 28))] [.op (some 30) (.bytesR 5 (.t 29)),
  .op (some 8) (.mv (.t 30))])
 (.seq (.seq (.reg [.op (some 31) (.mv (.t 2)),
  .op (some 32) (.mv (.t 31)),
  .grp 32 true [((some 33), (.mv (.t 1))), ((some 34), (.binI .gtr (.t 33) (.v (.lit (.int .i64 (0))))))],
  .op (some 35) (.pick (.t 32) (.t 34) (.v (.lit (.bool false))))])
 (.cond (.t 35)
 (.reg [.op (some 36) (.mv (.t 8)),
  .op (some 37) (.mv (.t 8)),
  .op (some 38) (.lenL (.t 37)),
  .op (some 39) (.binI .sub (.t 38) (.v (.lit (.int .i64 (1))))),
  .op (some 40) (.mv (.t 8)),
  .op (some 41) (.mv (.t 8)),
  .op (some 42) (.lenL (.t 41)),
  .op (some 43) (.binI .sub (.t 42) (.v (.lit (.int .i64 (1))))),
  .op (some 44) (.iaddrS 1 (.t 40) (.t 43)),
  .op (some 45) (.load 1 false (.t 44)),
  .op (some 46) (.binI .sub (.v (.lit (.int .u8 (255)))) (.t 45)),
  .op (some 47) (.iaddrS 1 (.t 36) (.t 39)),
  .op none (.store 1 (.t 47) (.t 46))])
 .skip))
 (.seq (.reg [.op (some 48) (.mv (.t 8)),
  .op (some 49) (.strL (.t 48)),
  .op (some 6) (.mv (.t 49)),
  .op (some 7) (.mv (.v (.lit (.bool true))))])
 .ret)))))
def rs13 : List RR := [.tmp 6, .tmp 7]
def cut13 : Nat → Nat := fun id => if id = 3 then 14 else 0
theorem k13 : (Tryd.f13.body.bind fun c => comp Tryd.prog Tryd.f13.ntmps cut13 c) = some r13 := by kernel_rfl
theorem by13 {W0 : World} {σ : List Blk} {args : List AV} {K : Cont} (hn : args.length ≤ 50) (h : rW Tryd.prog W0 σ.length r13 (initFr args) σ (finP W0 rs13 σ.length K)) : ACall Tryd.prog W0 13 args σ K :=
  ACall.introR mixed Tryd.func13 (by kernel_rfl) k13 (by kernel_rfl) hn h
def r14 : RC := (.seq (.reg [.op (some 1) (.box 28 (.t 0)),
  .op (some 2) (.mv (.v (.lit (.bool false))))])
 (.seq (.seq (.reg [.op (some 7) (.faddr 0 (.t 1)),
  .op (some 8) (.load 1 false (.t 7)),
  .op (some 9) (.lenS (.t 8)),
  .op (some 10) (.faddr 1 (.t 1)),
  .op (some 11) (.load 1 false (.t 10)),
  .op (some 12) (.lenS (.t 11)),
  .op (some 13) (.binI .add (.t 9) (.t 12)),
  .op (some 14) (.binI .gtr (.t 13) (.v (.lit (.int .i64 (30000)))))])
 (.cond (.t 14)
 (.seq (.reg [.op (some 2) (.mv (.v (.lit (.bool false))))])
 .ret)
 .skip))
 (.seq (.reg [.op (some 16) (.faddr 0 (.t 1)),
  .op (some 17) (.load 1 false (.t 16)),
  .op (some 18) (.faddr 1 (.t 1)),
  .op (some 19) (.load 1 false (.t 18)),
  .op (some 20) (.binS .add (.t 17) (.t 19)),
  .op (some 21) (.call (.v (.lit (.func (.func 15) #[] #[]))) [(.t 20)]),
  .op (some 15) (.mv (.t 21)),
  .op (some 22) (.ext (.t 15) 0),
  .op (some 23) (.ext (.t 15) 1),
  .op (some 3) (.mv (.t 22)),
  .op (some 4) (.mv (.t 23))])
 (.seq (.reg [.op (some 25) (.faddr 0 (.t 1)),
  .op (some 26) (.load 1 false (.t 25)),
  .op (some 27) (.call (.v (.lit (.func (.func 15) #[] #[]))) [(.t 26)]),
  .op (some 24) (.mv (.t 27)),
  .op (some 28) (.ext (.t 24) 0),
  .op (some 29) (.ext (.t 24) 1),
  .op (some 5) (.mv (.t 28)),
  .op (some 6) (.mv (.t 29))])
 (.seq (.reg [.op (some 30) (.mv (.t 4)),
  .op (some 31) (.faddr 0 (.t 1)),
  .op (some 32) (.load 1 false (.t 31)),
  .op (some 33) (.lenS (.t 32)),
  .op (some 34) (.faddr 1 (.t 1)),
  .op (some 35) (.load 1 false (.t 34)),
  .op (some 36) (.lenS (.t 35)),
  .op (some 37) (.binI .add (.t 33) (.t 36)),
  .op (some 38) (.binI .eql (.t 30) (.t 37)),
  .op (some 39) (.mv (.t 38)),
  .grp 39 true [((some 40), (.mv (.t 6))), ((some 41), (.faddr 0 (.t 1))), ((some 42), (.load 1 false (.t 41))), ((some 43), (.lenS (.t 42))), ((some 44), (.binI .eql (.t 40) (.t 43)))],
  .op (some 45) (.pick (.t 39) (.t 44) (.v (.lit (.bool false)))),
  .op (some 46) (.mv (.t 45)),
  .grp 46 true [((some 47), (.mv (.t 3))), ((some 48), (.lenL (.t 47))), ((some 49), (.faddr 2 (.t 1))), ((some 50), (.load 1 false (.t 49))), ((some 51), (.binI .eql (.t 48) (.t 50)))],
  .op (some 52) (.pick (.t 46) (.t 51) (.v (.lit (.bool false)))),
  .op (some 2) (.mv (.t 52))])
 .ret)))))
def rs14 : List RR := [.tmp 2]
def cut14 : Nat → Nat := fun id => 0
theorem k14 : (Tryd.f14.body.bind fun c => comp Tryd.prog Tryd.f14.ntmps cut14 c) = some r14 := by kernel_rfl
theorem by14 {W0 : World} {σ : List Blk} {args : List AV} {K : Cont} (hn : args.length ≤ 53) (h : rW Tryd.prog W0 σ.length r14 (initFr args) σ (finP W0 rs14 σ.length K)) : ACall Tryd.prog W0 14 args σ K :=
  ACall.introR mixed Tryd.func14 (by kernel_rfl) k14 (by kernel_rfl) hn h
def r15 : RC := (.seq (.reg [.op (some 2) (.mv (.v (.lit (.slice none 0 0)))),
  .op (some 3) (.mv (.v (.lit (.int .i64 (0)))))])
 (.seq (.reg [.op (some 9) (.bslice 44 2 0 [(.lit (.string ⟨#[]⟩)), (.lit (.string ⟨#[]⟩))] []),
  .op (some 4) (.mv (.t 9))])
 (.seq (.reg [.op (some 5) (.mv (.v (.lit (.int .i64 (0)))))])
 (.seq (.block 0 (.loop (.seq (.seq (.reg [.op (some 10) (.mv (.t 5)),
  .op (some 11) (.mv (.t 0)),
  .op (some 12) (.lenS (.t 11)),
  .op (some 13) (.binI .lss (.t 10) (.t 12)),
  .op (some 14) (.mv (.t 13)),
  .grp 14 true [((some 15), (.mv (.t 4))), ((some 16), (.lenL (.t 15))), ((some 17), (.binI .lss (.t 16) (.v (.lit (.int .i64 (60))))))],
  .op (some 18) (.pick (.t 14) (.t 17) (.v (.lit (.bool false))))])
 (.cond (.t 18)
 .skip
 (.exit 0)))
 (.block 1 (.seq (.reg [.op (some 19) (.mv (.t 0)),
  .op (some 20) (.mv (.t 5)),
  .op (some 21) (.sliceS (.t 19) (some (.t 20)) none),
  .op (some 22) (.call (.v (.lit (.func (.func 21) #[] #[]))) [(.t 21), (.v (.lit (.int .u8 (10))))]),
  .op (some 6) (.mv (.t 22))])
 (.seq (.reg [.op (some 24) (.mv (.t 6)),
  .op (some 25) (.iaddrS 1 (.t 24) (.v (.lit (.int .i64 (0))))),
  .op (some 26) (.load 1 false (.t 25)),
  .op (some 27) (.mv (.t 4)),
  .op (some 28) (.lenL (.t 27)),
  .op (some 29) (.call (.v (.lit (.func (.func 22) #[] #[]))) [(.t 26), (.t 28)]),
  .op (some 23) (.mv (.t 29)),
  .op (some 30) (.ext (.t 23) 0),
  .op (some 31) (.ext (.t 23) 1),
  .op (some 7) (.alloc 44 [(.lit (.string ⟨#[]⟩)), (.lit (.string ⟨#[]⟩))]),
  .op none (.store 2 (.t 7) (.t 30)),
  .op (some 8) (.mv (.t 31))])
 (.seq (.seq (.reg [.op (some 32) (.mv (.t 6)),
  .op (some 33) (.lenL (.t 32)),
  .op (some 34) (.binI .lss (.t 33) (.v (.lit (.int .i64 (2))))),
  .op (some 35) (.mv (.t 34)),
  .grp 35 false [((some 36), (.mv (.t 8))), ((some 37), (.un .not (.t 36)))],
  .op (some 38) (.pick (.t 35) (.v (.lit (.bool true))) (.t 37))])
 (.cond (.t 38)
 (.exit 0)
 .skip))
 (.seq (.reg [.op (some 39) (.mv (.t 4)),
  .op (some 40) (.load 2 true (.t 7)),
  .app (some 42) 41 44 2 32 (.t 39) 1 [(.lit (.string ⟨#[]⟩)), (.lit (.string ⟨#[]⟩))] [(0, (.t 40))],
  .op (some 4) (.mv (.t 42))])
 (.reg [.op (some 43) (.mv (.t 5)),
  .op (some 44) (.mv (.t 6)),
  .op (some 45) (.iaddrS 1 (.t 44) (.v (.lit (.int .i64 (0))))),
  .op (some 46) (.load 1 false (.t 45)),
  .op (some 47) (.lenS (.t 46)),
  .op (some 48) (.binI .add (.t 43) (.t 47)),
  .op (some 49) (.binI .add (.t 48) (.v (.lit (.int .i64 (1))))),
  .op (some 5) (.mv (.t 49))])))))))))
 (.seq (.reg [.op (some 50) (.mv (.t 4)),
  .op (some 51) (.mv (.t 5)),
  .op (some 2) (.mv (.t 50)),
  .op (some 3) (.mv (.t 51))])
 .ret)))))
def rs15 : List RR := [.tmp 2, .tmp 3]
def cut15 : Nat → Nat := fun id => 0
theorem k15 : (Tryd.f15.body.bind fun c => comp Tryd.prog Tryd.f15.ntmps cut15 c) = some r15 := by kernel_rfl
theorem by15 {W0 : World} {σ : List Blk} {args : List AV} {K : Cont} (hn : args.length ≤ 52) (h : rW Tryd.prog W0 σ.length r15 (initFr args) σ (finP W0 rs15 σ.length K)) : ACall Tryd.prog W0 15 args σ K :=
  ACall.introR mixed Tryd.func15 (by kernel_rfl) k15 (by kernel_rfl) hn h
def r16 : RC := (.seq (.reg [.op (some 1) (.box 28 (.t 0)),
  .op (some 2) (.mv (.v (.lit (.bool false))))])
 (.seq (.reg [.op (some 6) (.faddr 0 (.t 1)),
  .op (some 7) (.load 1 false (.t 6)),
  .op (some 8) (.lenS (.t 7)),
  .op (some 9) (.faddr 1 (.t 1)),
  .op (some 10) (.load 1 false (.t 9)),
  .op (some 11) (.lenS (.t 10)),
  .op (some 12) (.binI .add (.t 8) (.t 11)),
  .op (some 3) (.mv (.t 12))])
 (.seq (.seq (.reg [.op (some 13) (.mv (.t 3)),
  .op (some 14) (.binI .gtr (.t 13) (.v (.lit (.int .i64 (30000)))))])
 (.cond (.t 14)
 (.seq (.reg [.op (some 2) (.mv (.v (.lit (.bool false))))])
 .ret)
 .skip))
 (.seq (.reg [.op (some 16) (.faddr 0 (.t 1)),
  .op (some 17) (.load 1 false (.t 16)),
  .op (some 18) (.faddr 1 (.t 1)),
  .op (some 19) (.load 1 false (.t 18)),
  .op (some 20) (.binS .add (.t 17) (.t 19)),
  .op (some 21) (.call (.v (.lit (.func (.func 17) #[] #[]))) [(.t 20)]),
  .op (some 15) (.mv (.t 21)),
  .op (some 22) (.ext (.t 15) 0),
  .op (some 23) (.ext (.t 15) 1),
  .op (some 4) (.mv (.t 22)),
  .op (some 5) (.mv (.t 23))])
 (.seq (.reg [.op (some 24) (.mv (.t 5)),
  .op (some 25) (.mv (.t 4)),
  .op (some 26) (.lenL (.t 25)),
  .op (some 27) (.iaddrS 1 (.t 24) (.t 26)),
  .op (some 28) (.load 1 false (.t 27)),
  .op (some 29) (.mv (.t 3)),
  .op (some 30) (.binI .eql (.t 28) (.t 29)),
  .op (some 31) (.mv (.t 30)),
  .grp 31 true [((some 32), (.mv (.t 5))), ((some 33), (.faddr 0 (.t 1))), ((some 34), (.load 1 false (.t 33))), ((some 35), (.lenS (.t 34))), ((some 36), (.call (.v (.lit (.func (.func 23) #[] #[]))) [(.t 32), (.t 35)]))],
  .op (some 37) (.pick (.t 31) (.t 36) (.v (.lit (.bool false)))),
  .op (some 38) (.mv (.t 37)),
  .grp 38 true [((some 39), (.faddr 2 (.t 1))), ((some 40), (.load 1 false (.t 39))), ((some 41), (.mv (.t 4))), ((some 42), (.lenL (.t 41))), ((some 43), (.binI .eql (.t 40) (.t 42)))],
  .op (some 44) (.pick (.t 38) (.t 43) (.v (.lit (.bool false)))),
  .op (some 2) (.mv (.t 44))])
 .ret)))))
def rs16 : List RR := [.tmp 2]
def cut16 : Nat → Nat := fun id => 0
theorem k16 : (Tryd.f16.body.bind fun c => comp Tryd.prog Tryd.f16.ntmps cut16 c) = some r16 := by kernel_rfl
theorem by16 {W0 : World} {σ : List Blk} {args : List AV} {K : Cont} (hn : args.length ≤ 45) (h : rW Tryd.prog W0 σ.length r16 (initFr args) σ (finP W0 rs16 σ.length K)) : ACall Tryd.prog W0 16 args σ K :=
  ACall.introR mixed Tryd.func16 (by kernel_rfl) k16 (by kernel_rfl) hn h
def r17 : RC := (.seq (.reg [.op (some 2) (.mv (.v (.lit (.slice none 0 0)))),
  .op (some 3) (.mv (.v (.lit (.slice none 0 0))))])
 (.seq (.reg [.op (some 10) (.bslice 44 2 0 [(.lit (.string ⟨#[]⟩)), (.lit (.string ⟨#[]⟩))] []),
  .op (some 11) (.bslice 3 1 1 [(.lit (.int .i64 (0)))] [(0, (.v (.lit (.int .i64 (0)))))]),
  .op (some 4) (.mv (.t 10)),
  .op (some 5) (.mv (.t 11)),
  .op (some 6) (.mv (.v (.lit (.int .i64 (0)))))])
 (.block 0 (.loop (.block 1 (.seq (.reg [.op (some 13) (.mv (.t 0)),
  .op (some 14) (.mv (.t 6)),
  .op (some 15) (.sliceS (.t 13) (some (.t 14)) none),
  .op (some 16) (.mv (.t 4)),
  .op (some 17) (.lenL (.t 16)),
  .op (some 18) (.call (.v (.lit (.func (.func 24) #[] #[]))) [(.t 15), (.t 17)]),
  .op (some 12) (.mv (.t 18)),
  .op (some 19) (.ext (.t 12) 0),
  .op (some 20) (.ext (.t 12) 1),
  .op (some 21) (.ext (.t 12) 2),
  .op (some 7) (.alloc 44 [(.lit (.string ⟨#[]⟩)), (.lit (.string ⟨#[]⟩))]),
  .op none (.store 2 (.t 7) (.t 19)),
  .op (some 8) (.mv (.t 20)),
  .op (some 9) (.mv (.t 21))])
 (.seq (.seq (.reg [.op (some 22) (.mv (.t 9)),
  .op (some 23) (.un .not (.t 22))])
 (.cond (.t 23)
 (.seq (.reg [.op (some 24) (.mv (.t 4)),
  .op (some 25) (.mv (.t 5)),
  .op (some 2) (.mv (.t 24)),
  .op (some 3) (.mv (.t 25))])
 .ret)
 .skip))
 (.seq (.reg [.op (some 26) (.mv (.t 6)),
  .op (some 27) (.mv (.t 8)),
  .op (some 28) (.lenS (.t 27)),
  .op (some 29) (.binI .add (.t 26) (.t 28)),
  .op (some 6) (.mv (.t 29))])
 (.reg [.op (some 30) (.mv (.t 4)),
  .op (some 31) (.load 2 true (.t 7)),
  .app (some 33) 32 44 2 32 (.t 30) 1 [(.lit (.string ⟨#[]⟩)), (.lit (.string ⟨#[]⟩))] [(0, (.t 31))],
  .op (some 34) (.mv (.t 5)),
  .op (some 35) (.mv (.t 6)),
  .app (some 37) 36 3 1 8 (.t 34) 1 [(.lit (.int .i64 (0)))] [(0, (.t 35))],
  .op (some 4) (.mv (.t 33)),
  .op (some 5) (.mv (.t 37))])))))))))
def rs17 : List RR := [.tmp 2, .tmp 3]
def cut17 : Nat → Nat := fun id => 0
theorem k17 : (Tryd.f17.body.bind fun c => comp Tryd.prog Tryd.f17.ntmps cut17 c) = some r17 := by kernel_rfl
theorem by17 {W0 : World} {σ : List Blk} {args : List AV} {K : Cont} (hn : args.length ≤ 38) (h : rW Tryd.prog W0 σ.length r17 (initFr args) σ (finP W0 rs17 σ.length K)) : ACall Tryd.prog W0 17 args σ K :=
  ACall.introR mixed Tryd.func17 (by kernel_rfl) k17 (by kernel_rfl) hn h
def r20 : RC := (.seq (.reg [.op (some 6) (.mv (.v (.lit (.bool false))))])
 (.seq (.reg [.op (some 7) (.mv (.t 0)),
  .op (some 8) (.mv (.t 1)),
  .op (some 9) (.binI .geq (.t 7) (.t 8)),
  .op (some 10) (.mv (.t 9)),
  .grp 10 true [((some 11), (.mv (.t 0))), ((some 12), (.mv (.t 2))), ((some 13), (.binI .leq (.t 11) (.t 12)))],
  .op (some 14) (.pick (.t 10) (.t 13) (.v (.lit (.bool false)))),
  .op (some 6) (.mv (.t 14))])
 .ret))
def rs20 : List RR := [.tmp 6]
def cut20 : Nat → Nat := fun id => 0
theorem k20 : (Tryd.f20.body.bind fun c => comp Tryd.prog Tryd.f20.ntmps cut20 c) = some r20 := by kernel_rfl
theorem by20 {W0 : World} {σ : List Blk} {args : List AV} {K : Cont} (hn : args.length ≤ 15) (h : rW Tryd.prog W0 σ.length r20 (initFr args) σ (finP W0 rs20 σ.length K)) : ACall Tryd.prog W0 20 args σ K :=
  ACall.introR mixed Tryd.func20 (by kernel_rfl) k20 (by kernel_rfl) hn h
def r21 : RC := (.seq (.reg [.op (some 4) (.mv (.v (.lit (.slice none 0 0))))])
 (.seq (.reg [.op (some 8) (.bslice 9 1 0 [(.lit (.string ⟨#[]⟩))] []),
  .op (some 5) (.mv (.t 8))])
 (.seq (.reg [.op (some 6) (.mv (.v (.lit (.int .i64 (0)))))])
 (.seq (.seq (.reg [.op (some 7) (.mv (.v (.lit (.int .i64 (0)))))])
 (.block 0 (.loop (.seq (.seq (.reg [.op (some 9) (.mv (.t 7)),
  .op (some 10) (.mv (.t 0)),
  .op (some 11) (.lenS (.t 10)),
  .op (some 12) (.binI .lss (.t 9) (.t 11))])
 (.cond (.t 12)
 .skip
 (.exit 0)))
 (.seq (.block 1 (.seq (.reg [.op (some 15) (.mv (.t 0)),
  .op (some 16) (.mv (.t 7)),
  .op (some 17) (.idxS (.t 15) (.t 16)),
  .op (some 18) (.mv (.t 1)),
  .op (some 19) (.binI .eql (.t 17) (.t 18))])
 (.cond (.t 19)
 (.seq (.reg [.op (some 20) (.mv (.t 5)),
  .op (some 21) (.mv (.t 0)),
  .op (some 22) (.mv (.t 6)),
  .op (some 23) (.mv (.t 7)),
  .op (some 24) (.sliceS (.t 21) (some (.t 22)) (some (.t 23))),
  .app (some 26) 25 9 1 16 (.t 20) 1 [(.lit (.string ⟨#[]⟩))] [(0, (.t 24))],
  .op (some 5) (.mv (.t 26))])
 (.reg [.op (some 27) (.mv (.t 7)),
  .op (some 28) (.binI .add (.t 27) (.v (.lit (.int .i64 (1))))),
  .op (some 6) (.mv (.t 28))]))
 .skip)))
 (.reg [.op (some 13) (.mv (.t 7)),
  .op (some 14) (.binI .add (.t 13) (.v (.lit (.int .i64 (1))))),
  .op (some 7) (.mv (.t 14))]))))))
 (.seq (.reg [.op (some 29) (.mv (.t 5)),
  .op (some 30) (.mv (.t 0)),
  .op (some 31) (.mv (.t 6)),
  .op (some 32) (.sliceS (.t 30) (some (.t 31)) none),
  .app (some 34) 33 9 1 16 (.t 29) 1 [(.lit (.string ⟨#[]⟩))] [(0, (.t 32))],
  .op (some 4) (.mv (.t 34))])
 .ret)))))
def rs21 : List RR := [.tmp 4]
def cut21 : Nat → Nat := fun id => 0
theorem k21 : (Tryd.f21.body.bind fun c => comp Tryd.prog Tryd.f21.ntmps cut21 c) = some r21 := by kernel_rfl
theorem by21 {W0 : World} {σ : List Blk} {args : List AV} {K : Cont} (hn : args.length ≤ 35) (h : rW Tryd.prog W0 σ.length r21 (initFr args) σ (finP W0 rs21 σ.length K)) : ACall Tryd.prog W0 21 args σ K :=
  ACall.introR mixed Tryd.func21 (by kernel_rfl) k21 (by kernel_rfl) hn h
def r22 : RC := (.seq (.reg [.op (some 4) (.alloc 44 [(.lit (.string ⟨#[]⟩)), (.lit (.string ⟨#[]⟩))]),
  .op (some 5) (.mv (.v (.lit (.bool false))))])
 (.seq (.reg [.op (some 11) (.mv (.t 1)),
  .op (some 12) (.call (.v (.lit (.func (.func 25) #[] #[]))) [(.t 11)]),
  .op (some 13) (.binS .add (.t 12) (.v (.lit (.string ⟨#[32]⟩)))),
  .op (some 6) (.mv (.t 13))])
 (.seq (.reg [.op (some 14) (.mv (.t 0)),
  .op (some 15) (.call (.v (.lit (.func (.func 21) #[] #[]))) [(.t 14), (.v (.lit (.int .u8 (35))))]),
  .op (some 16) (.iaddrS 1 (.t 15) (.v (.lit (.int .i64 (0))))),
  .op (some 17) (.load 1 false (.t 16)),
  .op (some 7) (.mv (.t 17))])
 (.seq (.seq (.reg [.op (some 18) (.mv (.t 7)),
  .op (some 19) (.lenS (.t 18)),
  .op (some 20) (.mv (.t 6)),
  .op (some 21) (.lenS (.t 20)),
  .op (some 22) (.binI .lss (.t 19) (.t 21)),
  .op (some 23) (.mv (.t 22)),
  .grp 23 false [((some 24), (.mv (.t 7))), ((some 25), (.mv (.t 6))), ((some 26), (.lenS (.t 25))), ((some 27), (.sliceS (.t 24) none (some (.t 26)))), ((some 28), (.mv (.t 6))), ((some 29), (.binS .neq (.t 27) (.t 28)))],
  .op (some 30) (.pick (.t 23) (.v (.lit (.bool true))) (.t 29))])
 (.cond (.t 30)
 (.seq (.reg [.op (some 31) (.build [(.lit (.string ⟨#[]⟩)), (.lit (.string ⟨#[]⟩))] []),
  .op none (.store 2 (.t 4) (.t 31)),
  .op (some 5) (.mv (.v (.lit (.bool false))))])
 .ret)
 .skip))
 (.seq (.reg [.op (some 32) (.mv (.t 7)),
  .op (some 33) (.mv (.t 6)),
  .op (some 34) (.lenS (.t 33)),
  .op (some 35) (.sliceS (.t 32) (some (.t 34)) none),
  .op (some 8) (.mv (.t 35))])
 (.seq (.reg [.op (some 36) (.mv (.t 8)),
  .op (some 37) (.call (.v (.lit (.func (.func 21) #[] #[]))) [(.t 36), (.v (.lit (.int .u8 (64))))]),
  .op (some 38) (.iaddrS 1 (.t 37) (.v (.lit (.int .i64 (0))))),
  .op (some 39) (.load 1 false (.t 38)),
  .op (some 9) (.mv (.t 39))])
 (.seq (.seq (.reg [.op (some 40) (.mv (.t 9)),
  .op (some 41) (.lenS (.t 40)),
  .op (some 42) (.mv (.t 8)),
  .op (some 43) (.lenS (.t 42)),
  .op (some 44) (.binI .eql (.t 41) (.t 43))])
 (.cond (.t 44)
 (.seq (.reg [.op (some 45) (.build [(.lit (.string ⟨#[]⟩)), (.lit (.string ⟨#[]⟩))] []),
  .op none (.store 2 (.t 4) (.t 45)),
  .op (some 5) (.mv (.v (.lit (.bool false))))])
 .ret)
 .skip))
 (.seq (.reg [.op (some 46) (.mv (.t 9)),
  .op (some 47) (.mv (.t 8)),
  .op (some 48) (.mv (.t 9)),
  .op (some 49) (.lenS (.t 48)),
  .op (some 50) (.binI .add (.t 49) (.v (.lit (.int .i64 (1))))),
  .op (some 51) (.sliceS (.t 47) (some (.t 50)) none),
  .op (some 52) (.build [(.lit (.string ⟨#[]⟩)), (.lit (.string ⟨#[]⟩))] [((0, 1), (.t 46)), ((1, 1), (.t 51))]),
  .op (some 10) (.alloc 44 [(.lit (.string ⟨#[]⟩)), (.lit (.string ⟨#[]⟩))]),
  .op none (.store 2 (.t 10) (.t 52))])
 (.seq (.any false (.n ⟨none, (some 53), (.load 2 true (.t 10))⟩
 (.n ⟨none, (some 54), (.load 2 true (.t 10))⟩
 (.n ⟨none, (some 55), (.call (.v (.lit (.func (.func 26) #[] #[]))) [(.t 54)])⟩
 (.n ⟨none, (some 56), (.mv (.t 55))⟩
 (.n ⟨(some (56, true)), (some 57), (.mv (.t 1))⟩
 (.n ⟨(some (56, true)), (some 58), (.load 2 true (.t 10))⟩
 (.n ⟨(some (56, true)), (some 59), (.call (.v (.lit (.func (.func 27) #[] #[]))) [(.t 57), (.t 58)])⟩
 (.n ⟨(some (56, true)), (some 60), (.mv (.t 0))⟩
 (.n ⟨(some (56, true)), (some 61), (.binS .add (.t 60) (.v (.lit (.string ⟨#[10]⟩))))⟩
 (.n ⟨(some (56, true)), (some 62), (.binS .eql (.t 59) (.t 61))⟩
 (.n ⟨none, (some 63), (.pick (.t 56) (.t 62) (.v (.lit (.bool false))))⟩
 (.t ⟨none, none, (.store 2 (.t 4) (.t 53))⟩
 (.n ⟨none, (some 5), (.mv (.t 63))⟩
 .fin))))))))))))))
 .ret)))))))))
def rs22 : List RR := [.cell 4 2 true, .tmp 5]
def cut22 : Nat → Nat := fun id => if id = 10 then 1004096 else 0
theorem k22 : (Tryd.f22.body.bind fun c => comp Tryd.prog Tryd.f22.ntmps cut22 c) = some r22 := by kernel_rfl
theorem by22 {W0 : World} {σ : List Blk} {args : List AV} {K : Cont} (hn : args.length ≤ 64) (h : rW Tryd.prog W0 σ.length r22 (initFr args) σ (finP W0 rs22 σ.length K)) : ACall Tryd.prog W0 22 args σ K :=
  ACall.introR mixed Tryd.func22 (by kernel_rfl) k22 (by kernel_rfl) hn h
def r23 : RC := (.seq (.reg [.op (some 4) (.mv (.v (.lit (.bool false))))])
 (.seq (.reg [.op (some 5) (.mv (.t 0)),
  .op (some 6) (.mv (.t 1)),
  .op (some 7) (.call (.v (.lit (.func (.func 28) #[] #[]))) [(.t 5), (.t 6)]),
  .op (some 8) (.binI .geq (.t 7) (.v (.lit (.int .i64 (0))))),
  .op (some 4) (.mv (.t 8))])
 .ret))
def rs23 : List RR := [.tmp 4]
def cut23 : Nat → Nat := fun id => 0
theorem k23 : (Tryd.f23.body.bind fun c => comp Tryd.prog Tryd.f23.ntmps cut23 c) = some r23 := by kernel_rfl
theorem by23 {W0 : World} {σ : List Blk} {args : List AV} {K : Cont} (hn : args.length ≤ 9) (h : rW Tryd.prog W0 σ.length r23 (initFr args) σ (finP W0 rs23 σ.length K)) : ACall Tryd.prog W0 23 args σ K :=
  ACall.introR mixed Tryd.func23 (by kernel_rfl) k23 (by kernel_rfl) hn h
def r24 : RC := (.seq (.reg [.op (some 4) (.alloc 44 [(.lit (.string ⟨#[]⟩)), (.lit (.string ⟨#[]⟩))]),
  .op (some 5) (.mv (.v (.lit (.string ⟨#[]⟩)))),
  .op (some 6) (.mv (.v (.lit (.bool false))))])
 (.seq (.reg [.op (some 21) (.mv (.t 0)),
  .op (some 22) (.call (.v (.lit (.func (.func 29) #[] #[]))) [(.t 21), (.v (.lit (.string ⟨#[10]⟩)))]),
  .op (some 20) (.mv (.t 22)),
  .op (some 23) (.ext (.t 20) 0),
  .op (some 24) (.ext (.t 20) 1),
  .op (some 25) (.ext (.t 20) 2),
  .op (some 7) (.mv (.t 23)),
  .op (some 8) (.mv (.t 24)),
  .op (some 9) (.mv (.t 25))])
 (.seq (.reg [.op (some 27) (.mv (.t 7)),
  .op (some 28) (.call (.v (.lit (.func (.func 30) #[] #[]))) [(.t 27)]),
  .op (some 26) (.mv (.t 28)),
  .op (some 29) (.ext (.t 26) 0),
  .op (some 30) (.ext (.t 26) 1),
  .op (some 10) (.mv (.t 29)),
  .op (some 11) (.mv (.t 30))])
 (.seq (.seq (.reg [.op (some 31) (.mv (.t 9)),
  .op (some 32) (.un .not (.t 31)),
  .op (some 33) (.mv (.t 32)),
  .grp 33 false [((some 34), (.mv (.t 11))), ((some 35), (.un .not (.t 34)))],
  .op (some 36) (.pick (.t 33) (.v (.lit (.bool true))) (.t 35))])
 (.cond (.t 36)
 (.seq (.reg [.op (some 37) (.build [(.lit (.string ⟨#[]⟩)), (.lit (.string ⟨#[]⟩))] []),
  .op none (.store 2 (.t 4) (.t 37)),
  .op (some 5) (.mv (.v (.lit (.string ⟨#[]⟩)))),
  .op (some 6) (.mv (.v (.lit (.bool false))))])
 .ret)
 .skip))
 (.seq (.reg [.op (some 39) (.mv (.t 10)),
  .op (some 40) (.call (.v (.lit (.func (.func 29) #[] #[]))) [(.t 39), (.v (.lit (.string ⟨#[32]⟩)))]),
  .op (some 38) (.mv (.t 40)),
  .op (some 41) (.ext (.t 38) 0),
  .op (some 42) (.ext (.t 38) 1),
  .op (some 43) (.ext (.t 38) 2),
  .op (some 12) (.mv (.t 41)),
  .op (some 13) (.mv (.t 42)),
  .op (some 14) (.mv (.t 43))])
 (.seq (.reg [.op (some 45) (.mv (.t 13)),
  .op (some 46) (.call (.v (.lit (.func (.func 29) #[] #[]))) [(.t 45), (.v (.lit (.string ⟨#[64]⟩)))]),
  .op (some 44) (.mv (.t 46)),
  .op (some 47) (.ext (.t 44) 0),
  .op (some 48) (.ext (.t 44) 1),
  .op (some 49) (.ext (.t 44) 2),
  .op (some 15) (.mv (.t 47)),
  .op (some 16) (.mv (.t 48)),
  .op (some 17) (.mv (.t 49))])
 (.seq (.reg [.op (some 50) (.mv (.t 15)),
  .op (some 51) (.mv (.t 16)),
  .op (some 52) (.build [(.lit (.string ⟨#[]⟩)), (.lit (.string ⟨#[]⟩))] [((0, 1), (.t 50)), ((1, 1), (.t 51))]),
  .op (some 18) (.alloc 44 [(.lit (.string ⟨#[]⟩)), (.lit (.string ⟨#[]⟩))]),
  .op none (.store 2 (.t 18) (.t 52))])
 (.seq (.reg [.op (some 54) (.mv (.t 1)),
  .op (some 55) (.load 2 true (.t 18)),
  .op (some 56) (.call (.v (.lit (.func (.func 31) #[] #[]))) [(.t 54), (.t 55)]),
  .op (some 53) (.mv (.t 56)),
  .op (some 57) (.ext (.t 53) 0),
  .op (some 58) (.ext (.t 53) 1),
  .op (some 19) (.mv (.t 57)),
  .op (some 11) (.mv (.t 58))])
 (.seq (.any false (.n ⟨none, (some 59), (.load 2 true (.t 18))⟩
 (.n ⟨none, (some 60), (.mv (.t 19))⟩
 (.n ⟨none, (some 61), (.mv (.t 11))⟩
 (.n ⟨none, (some 62), (.mv (.t 61))⟩
 (.n ⟨(some (62, true)), (some 63), (.mv (.t 0))⟩
 (.n ⟨(some (62, true)), (some 64), (.mv (.t 19))⟩
 (.n ⟨(some (62, true)), (some 65), (.call (.v (.lit (.func (.func 32) #[] #[]))) [(.t 63), (.t 64)])⟩
 (.n ⟨none, (some 66), (.pick (.t 62) (.t 65) (.v (.lit (.bool false))))⟩
 (.t ⟨none, none, (.store 2 (.t 4) (.t 59))⟩
 (.n ⟨none, (some 5), (.mv (.t 60))⟩
 (.n ⟨none, (some 6), (.mv (.t 66))⟩
 .fin))))))))))))
 .ret)))))))))
def rs24 : List RR := [.cell 4 2 true, .tmp 5, .tmp 6]
def cut24 : Nat → Nat := fun id => if id = 9 then 1000512 else 0
theorem k24 : (Tryd.f24.body.bind fun c => comp Tryd.prog Tryd.f24.ntmps cut24 c) = some r24 := by kernel_rfl
theorem by24 {W0 : World} {σ : List Blk} {args : List AV} {K : Cont} (hn : args.length ≤ 67) (h : rW Tryd.prog W0 σ.length r24 (initFr args) σ (finP W0 rs24 σ.length K)) : ACall Tryd.prog W0 24 args σ K :=
  ACall.introR mixed Tryd.func24 (by kernel_rfl) k24 (by kernel_rfl) hn h
def r25 : RC := (.seq (.reg [.op (some 2) (.mv (.v (.lit (.string ⟨#[]⟩))))])
 (.seq (.seq (.reg [.op (some 3) (.mv (.t 0)),
  .op (some 4) (.binI .lss (.t 3) (.v (.lit (.int .i64 (0)))))])
 (.cond (.t 4)
 (.seq (.seq (.reg [.op (some 5) (.mv (.t 0)),
  .op (some 6) (.binI .gtr (.t 5) (.v (.lit (.int .i64 (-10)))))])
 (.cond (.t 6)
 (.seq (.reg [.op (some 7) (.mv (.t 0)),
  .op (some 8) (.un .neg (.t 7)),
  .op (some 9) (.call (.v (.lit (.func (.func 25) #[] #[]))) [(.t 8)]),
  .op (some 10) (.binS .add (.v (.lit (.string ⟨#[45]⟩))) (.t 9)),
  .op (some 2) (.mv (.t 10))])
 .ret)
 .skip))
 (.seq (.reg [.op (some 11) (.mv (.t 0)),
  .op (some 12) (.binI .quo (.t 11) (.v (.lit (.int .i64 (10))))),
  .op (some 13) (.call (.v (.lit (.func (.func 25) #[] #[]))) [(.t 12)]),
  .op (some 14) (.mv (.t 0)),
  .op (some 15) (.binI .rem (.t 14) (.v (.lit (.int .i64 (10))))),
  .op (some 16) (.un .neg (.t 15)),
  .op (some 17) (.call (.v (.lit (.func (.func 25) #[] #[]))) [(.t 16)]),
  .op (some 18) (.binS .add (.t 13) (.t 17)),
  .op (some 2) (.mv (.t 18))])
 .ret))
 .skip))
 (.seq (.seq (.reg [.op (some 19) (.mv (.t 0)),
  .op (some 20) (.binI .lss (.t 19) (.v (.lit (.int .i64 (10)))))])
 (.cond (.t 20)
 (.seq (.reg [.op (some 21) (.mv (.t 0)),
  .op (some 22) (.mv (.t 0)),
  .op (some 23) (.binI .add (.t 22) (.v (.lit (.int .i64 (1))))),
  .op (some 24) (.sliceS (.v (.lit (.string ⟨#[48, 49, 50, 51, 52, 53, 54, 55, 56, 57]⟩))) (some (.t 21)) (some (.t 23))),
  .op (some 2) (.mv (.t 24))])
 .ret)
 .skip))
 (.seq (.draw [((some 25), (.mv (.t 0))), ((some 26), (.binI .quo (.t 25) (.v (.lit (.int .i64 (10)))))), ((some 27), (.call (.v (.lit (.func (.func 25) #[] #[]))) [(.t 26)])), ((some 28), (.mv (.t 0))), ((some 29), (.binI .rem (.t 28) (.v (.lit (.int .i64 (10)))))), ((some 30), (.mv (.t 0))), ((some 31), (.binI .rem (.t 30) (.v (.lit (.int .i64 (10)))))), ((some 32), (.binI .add (.t 31) (.v (.lit (.int .i64 (1)))))), ((some 33), (.sliceS (.v (.lit (.string ⟨#[48, 49, 50, 51, 52, 53, 54, 55, 56, 57]⟩))) (some (.t 29)) (some (.t 32)))), ((some 34), (.binS .add (.t 27) (.t 33))), ((some 2), (.mv (.t 34)))] [])
 .ret))))
def rs25 : List RR := [.tmp 2]
def cut25 : Nat → Nat := fun id => if id = 7 then 23 else 0
theorem k25 : (Tryd.f25.body.bind fun c => comp Tryd.prog Tryd.f25.ntmps cut25 c) = some r25 := by kernel_rfl
theorem by25 {W0 : World} {σ : List Blk} {args : List AV} {K : Cont} (hn : args.length ≤ 35) (h : rW Tryd.prog W0 σ.length r25 (initFr args) σ (finP W0 rs25 σ.length K)) : ACall Tryd.prog W0 25 args σ K :=
  ACall.introR mixed Tryd.func25 (by kernel_rfl) k25 (by kernel_rfl) hn h
def r26 : RC := (.seq (.reg [.op (some 1) (.box 44 (.t 0)),
  .op (some 2) (.mv (.v (.lit (.bool false))))])
 (.seq (.reg [.op (some 3) (.faddr 0 (.t 1)),
  .op (some 4) (.load 1 false (.t 3)),
  .op (some 5) (.binS .neq (.t 4) (.v (.lit (.string ⟨#[]⟩)))),
  .op (some 6) (.mv (.t 5)),
  .grp 6 true [((some 7), (.faddr 0 (.t 1))), ((some 8), (.load 1 false (.t 7))), ((some 9), (.call (.v (.lit (.func (.func 33) #[] #[]))) [(.t 8), (.v (.lit (.int .i64 (160))))]))],
  .op (some 10) (.pick (.t 6) (.t 9) (.v (.lit (.bool false)))),
  .op (some 11) (.mv (.t 10)),
  .grp 11 true [((some 12), (.faddr 0 (.t 1))), ((some 13), (.load 1 false (.t 12))), ((some 14), (.call (.v (.lit (.func (.func 34) #[] #[]))) [(.t 13), (.v (.lit (.int .u8 (64))))])), ((some 15), (.un .not (.t 14)))],
  .op (some 16) (.pick (.t 11) (.t 15) (.v (.lit (.bool false)))),
  .op (some 17) (.mv (.t 16)),
  .grp 17 true [((some 18), (.faddr 1 (.t 1))), ((some 19), (.load 1 false (.t 18))), ((some 20), (.call (.v (.lit (.func (.func 33) #[] #[]))) [(.t 19), (.v (.lit (.int .i64 (250))))]))],
  .op (some 21) (.pick (.t 17) (.t 20) (.v (.lit (.bool false)))),
  .op (some 2) (.mv (.t 21))])
 .ret))
def rs26 : List RR := [.tmp 2]
def cut26 : Nat → Nat := fun id => 0
theorem k26 : (Tryd.f26.body.bind fun c => comp Tryd.prog Tryd.f26.ntmps cut26 c) = some r26 := by kernel_rfl
theorem by26 {W0 : World} {σ : List Blk} {args : List AV} {K : Cont} (hn : args.length ≤ 22) (h : rW Tryd.prog W0 σ.length r26 (initFr args) σ (finP W0 rs26 σ.length K)) : ACall Tryd.prog W0 26 args σ K :=
  ACall.introR mixed Tryd.func26 (by kernel_rfl) k26 (by kernel_rfl) hn h
def r27 : RC := (.seq (.reg [.op (some 3) (.box 44 (.t 1)),
  .op (some 4) (.mv (.v (.lit (.string ⟨#[]⟩))))])
 (.seq (.draw [((some 5), (.mv (.t 0))), ((some 6), (.call (.v (.lit (.func (.func 25) #[] #[]))) [(.t 5)])), ((some 7), (.binS .add (.t 6) (.v (.lit (.string ⟨#[32]⟩))))), ((some 8), (.faddr 0 (.t 3))), ((some 9), (.load 1 false (.t 8))), ((some 10), (.binS .add (.t 7) (.t 9))), ((some 11), (.binS .add (.t 10) (.v (.lit (.string ⟨#[64]⟩))))), ((some 12), (.faddr 1 (.t 3))), ((some 13), (.load 1 false (.t 12))), ((some 14), (.binS .add (.t 11) (.t 13))), ((some 15), (.call (.v (.lit (.func (.func 35) #[] #[]))) [(.t 14)])), ((some 16), (.binS .add (.t 15) (.v (.lit (.string ⟨#[10]⟩))))), ((some 4), (.mv (.t 16)))] [])
 .ret))
def rs27 : List RR := [.tmp 4]
def cut27 : Nat → Nat := fun id => if id = 1 then 27 else 0
theorem k27 : (Tryd.f27.body.bind fun c => comp Tryd.prog Tryd.f27.ntmps cut27 c) = some r27 := by kernel_rfl
theorem by27 {W0 : World} {σ : List Blk} {args : List AV} {K : Cont} (hn : args.length ≤ 17) (h : rW Tryd.prog W0 σ.length r27 (initFr args) σ (finP W0 rs27 σ.length K)) : ACall Tryd.prog W0 27 args σ K :=
  ACall.introR mixed Tryd.func27 (by kernel_rfl) k27 (by kernel_rfl) hn h
def r28 : RC := (.seq (.reg [.op (some 4) (.mv (.v (.lit (.int .i64 (0)))))])
 (.seq (.seq (.reg [.op (some 6) (.mv (.t 0)),
  .op (some 7) (.lenL (.t 6)),
  .op (some 8) (.mv (.v (.lit (.int .i64 (0)))))])
 (.block 0 (.loop (.seq (.reg [.op (some 9) (.binI .lss (.t 8) (.t 7))])
 (.seq (.cond (.t 9)
 .skip
 (.exit 0))
 (.seq (.block 1 (.seq (.reg [.op (some 10) (.mv (.t 8)),
  .op (some 5) (.mv (.t 10))])
 (.seq (.reg [.op (some 11) (.mv (.t 1)),
  .op (some 12) (.mv (.t 0)),
  .op (some 13) (.mv (.t 5)),
  .op (some 14) (.iaddrS 1 (.t 12) (.t 13)),
  .op (some 15) (.load 1 false (.t 14)),
  .op (some 16) (.binI .eql (.t 11) (.t 15))])
 (.cond (.t 16)
 (.seq (.reg [.op (some 17) (.mv (.t 5)),
  .op (some 4) (.mv (.t 17))])
 .ret)
 .skip))))
 (.reg [.op (some 18) (.binI .add (.t 8) (.v (.lit (.int .i64 (1))))),
  .op (some 8) (.mv (.t 18))])))))))
 (.seq (.reg [.op (some 4) (.mv (.v (.lit (.int .i64 (-1)))))])
 .ret)))
def rs28 : List RR := [.tmp 4]
def cut28 : Nat → Nat := fun id => 0
theorem k28 : (Tryd.f28.body.bind fun c => comp Tryd.prog Tryd.f28.ntmps cut28 c) = some r28 := by kernel_rfl
theorem by28 {W0 : World} {σ : List Blk} {args : List AV} {K : Cont} (hn : args.length ≤ 19) (h : rW Tryd.prog W0 σ.length r28 (initFr args) σ (finP W0 rs28 σ.length K)) : ACall Tryd.prog W0 28 args σ K :=
  ACall.introR mixed Tryd.func28 (by kernel_rfl) k28 (by kernel_rfl) hn h
def r29 : RC := (.seq (.reg [.op (some 4) (.mv (.v (.lit (.string ⟨#[]⟩)))),
  .op (some 5) (.mv (.v (.lit (.string ⟨#[]⟩)))),
  .op (some 6) (.mv (.v (.lit (.bool false))))])
 (.seq (.reg [.op (some 7) (.mv (.t 0)),
  .op (some 8) (.mv (.t 1)),
  .op (some 9) (.call (.v (.lit (.func (.func 36) #[] #[]))) [(.t 7), (.t 8)]),
  .op (some 10) (.ext (.t 9) 0),
  .op (some 11) (.ext (.t 9) 1),
  .op (some 12) (.ext (.t 9) 2),
  .op (some 4) (.mv (.t 10)),
  .op (some 5) (.mv (.t 11)),
  .op (some 6) (.mv (.t 12))])
 .ret))
def rs29 : List RR := [.tmp 4, .tmp 5, .tmp 6]
def cut29 : Nat → Nat := fun id => 0
theorem k29 : (Tryd.f29.body.bind fun c => comp Tryd.prog Tryd.f29.ntmps cut29 c) = some r29 := by kernel_rfl
theorem by29 {W0 : World} {σ : List Blk} {args : List AV} {K : Cont} (hn : args.length ≤ 13) (h : rW Tryd.prog W0 σ.length r29 (initFr args) σ (finP W0 rs29 σ.length K)) : ACall Tryd.prog W0 29 args σ K :=
  ACall.introR mixed Tryd.func29 (by kernel_rfl) k29 (by kernel_rfl) hn h
def r30 : RC := (.seq (.reg [.op (some 2) (.mv (.v (.lit (.string ⟨#[]⟩)))),
  .op (some 3) (.mv (.v (.lit (.bool false))))])
 (.seq (.reg [.op (some 10) (.mv (.t 0)),
  .op (some 11) (.call (.v (.lit (.func (.func 29) #[] #[]))) [(.t 10), (.v (.lit (.string ⟨#[35]⟩)))]),
  .op (some 9) (.mv (.t 11)),
  .op (some 12) (.ext (.t 9) 0),
  .op (some 13) (.ext (.t 9) 1),
  .op (some 14) (.ext (.t 9) 2),
  .op (some 4) (.mv (.t 12)),
  .op (some 5) (.mv (.t 13)),
  .op (some 6) (.mv (.t 14))])
 (.seq (.seq (.reg [.op (some 16) (.mv (.t 4)),
  .op (some 17) (.call (.v (.lit (.func (.func 37) #[] #[]))) [(.t 16)]),
  .op (some 15) (.mv (.t 17)),
  .op (some 18) (.ext (.t 15) 0),
  .op (some 19) (.ext (.t 15) 1),
  .op (some 7) (.mv (.t 18)),
  .op (some 8) (.mv (.t 19))])
 (.seq (.reg [.op (some 20) (.mv (.t 8)),
  .op (some 21) (.mv (.t 20)),
  .grp 21 true [((some 22), (.mv (.t 7))), ((some 23), (.mv (.t 0))), ((some 24), (.binS .eql (.t 22) (.t 23)))],
  .op (some 25) (.pick (.t 21) (.t 24) (.v (.lit (.bool false))))])
 (.cond (.t 25)
 (.seq (.reg [.op (some 26) (.mv (.t 4)),
  .op (some 2) (.mv (.t 26)),
  .op (some 3) (.mv (.v (.lit (.bool true))))])
 .ret)
 .skip)))
 (.seq (.reg [.op (some 2) (.mv (.v (.lit (.string ⟨#[]⟩)))),
  .op (some 3) (.mv (.v (.lit (.bool false))))])
 .ret))))
def rs30 : List RR := [.tmp 2, .tmp 3]
def cut30 : Nat → Nat := fun id => 0
theorem k30 : (Tryd.f30.body.bind fun c => comp Tryd.prog Tryd.f30.ntmps cut30 c) = some r30 := by kernel_rfl
theorem by30 {W0 : World} {σ : List Blk} {args : List AV} {K : Cont} (hn : args.length ≤ 27) (h : rW Tryd.prog W0 σ.length r30 (initFr args) σ (finP W0 rs30 σ.length K)) : ACall Tryd.prog W0 30 args σ K :=
  ACall.introR mixed Tryd.func30 (by kernel_rfl) k30 (by kernel_rfl) hn h
def r31 : RC := (.seq (.reg [.op (some 3) (.box 44 (.t 1)),
  .op (some 4) (.mv (.v (.lit (.string ⟨#[]⟩)))),
  .op (some 5) (.mv (.v (.lit (.bool false))))])
 (.seq (.seq (.reg [.op (some 8) (.mv (.t 0)),
  .op (some 9) (.binI .lss (.t 8) (.v (.lit (.int .i64 (0))))),
  .op (some 10) (.mv (.t 9)),
  .grp 10 false [((some 11), (.mv (.t 0))), ((some 12), (.binI .geq (.t 11) (.v (.lit (.int .i64 (60))))))],
  .op (some 13) (.pick (.t 10) (.v (.lit (.bool true))) (.t 12)),
  .op (some 14) (.mv (.t 13)),
  .grp 14 false [((some 15), (.load 2 true (.t 3))), ((some 16), (.call (.v (.lit (.func (.func 38) #[] #[]))) [(.t 15)])), ((some 17), (.un .not (.t 16)))],
  .op (some 18) (.pick (.t 14) (.v (.lit (.bool true))) (.t 17))])
 (.cond (.t 18)
 (.seq (.reg [.op (some 4) (.mv (.v (.lit (.string ⟨#[]⟩)))),
  .op (some 5) (.mv (.v (.lit (.bool false))))])
 .ret)
 .skip))
 (.seq (.draw [((some 20), (.mv (.t 0))), ((some 21), (.call (.v (.lit (.func (.func 39) #[] #[]))) [(.t 20)])), ((some 22), (.binS .add (.t 21) (.v (.lit (.string ⟨#[32]⟩))))), ((some 23), (.faddr 0 (.t 3))), ((some 24), (.load 1 false (.t 23))), ((some 25), (.binS .add (.t 22) (.t 24))), ((some 26), (.binS .add (.t 25) (.v (.lit (.string ⟨#[64]⟩))))), ((some 27), (.faddr 1 (.t 3))), ((some 28), (.load 1 false (.t 27))), ((some 29), (.binS .add (.t 26) (.t 28))), ((some 30), (.call (.v (.lit (.func (.func 37) #[] #[]))) [(.t 29)])), ((some 19), (.mv (.t 30))), ((some 31), (.ext (.t 19) 0)), ((some 32), (.ext (.t 19) 1)), ((some 6), (.mv (.t 31))), ((some 7), (.mv (.t 32)))] [])
 (.seq (.seq (.reg [.op (some 33) (.mv (.t 7)),
  .op (some 34) (.un .not (.t 33))])
 (.cond (.t 34)
 (.seq (.reg [.op (some 4) (.mv (.v (.lit (.string ⟨#[]⟩)))),
  .op (some 5) (.mv (.v (.lit (.bool false))))])
 .ret)
 .skip))
 (.seq (.reg [.op (some 35) (.mv (.t 6)),
  .op (some 36) (.binS .add (.t 35) (.v (.lit (.string ⟨#[10]⟩)))),
  .op (some 4) (.mv (.t 36)),
  .op (some 5) (.mv (.v (.lit (.bool true))))])
 .ret)))))
def rs31 : List RR := [.tmp 4, .tmp 5]
def cut31 : Nat → Nat := fun id => if id = 3 then 33 else 0
theorem k31 : (Tryd.f31.body.bind fun c => comp Tryd.prog Tryd.f31.ntmps cut31 c) = some r31 := by kernel_rfl
theorem by31 {W0 : World} {σ : List Blk} {args : List AV} {K : Cont} (hn : args.length ≤ 37) (h : rW Tryd.prog W0 σ.length r31 (initFr args) σ (finP W0 rs31 σ.length K)) : ACall Tryd.prog W0 31 args σ K :=
  ACall.introR mixed Tryd.func31 (by kernel_rfl) k31 (by kernel_rfl) hn h
def r33 : RC := (.seq (.reg [.op (some 4) (.mv (.v (.lit (.bool false))))])
 (.seq (.seq (.reg [.op (some 5) (.mv (.v (.lit (.int .i64 (0)))))])
 (.block 0 (.loop (.seq (.seq (.reg [.op (some 6) (.mv (.t 5)),
  .op (some 7) (.mv (.t 0)),
  .op (some 8) (.lenS (.t 7)),
  .op (some 9) (.binI .lss (.t 6) (.t 8))])
 (.cond (.t 9)
 .skip
 (.exit 0)))
 (.seq (.block 1 (.seq (.reg [.op (some 12) (.mv (.t 0)),
  .op (some 13) (.mv (.t 5)),
  .op (some 14) (.idxS (.t 12) (.t 13)),
  .op (some 15) (.conv .i64 (.t 14)),
  .op (some 16) (.call (.v (.lit (.func (.func 20) #[] #[]))) [(.t 15), (.v (.lit (.int .i64 (32)))), (.v (.lit (.int .i64 (126))))]),
  .op (some 17) (.un .not (.t 16)),
  .op (some 18) (.mv (.t 17)),
  .grp 18 false [((some 19), (.mv (.t 0))), ((some 20), (.mv (.t 5))), ((some 21), (.idxS (.t 19) (.t 20))), ((some 22), (.binI .eql (.t 21) (.v (.lit (.int .u8 (35))))))],
  .op (some 23) (.pick (.t 18) (.v (.lit (.bool true))) (.t 22))])
 (.cond (.t 23)
 (.seq (.reg [.op (some 4) (.mv (.v (.lit (.bool false))))])
 .ret)
 .skip)))
 (.reg [.op (some 10) (.mv (.t 5)),
  .op (some 11) (.binI .add (.t 10) (.v (.lit (.int .i64 (1))))),
  .op (some 5) (.mv (.t 11))]))))))
 (.seq (.reg [.op (some 24) (.mv (.t 0)),
  .op (some 25) (.lenS (.t 24)),
  .op (some 26) (.mv (.t 1)),
  .op (some 27) (.binI .leq (.t 25) (.t 26)),
  .op (some 4) (.mv (.t 27))])
 .ret)))
def rs33 : List RR := [.tmp 4]
def cut33 : Nat → Nat := fun id => 0
theorem k33 : (Tryd.f33.body.bind fun c => comp Tryd.prog Tryd.f33.ntmps cut33 c) = some r33 := by kernel_rfl
theorem by33 {W0 : World} {σ : List Blk} {args : List AV} {K : Cont} (hn : args.length ≤ 28) (h : rW Tryd.prog W0 σ.length r33 (initFr args) σ (finP W0 rs33 σ.length K)) : ACall Tryd.prog W0 33 args σ K :=
  ACall.introR mixed Tryd.func33 (by kernel_rfl) k33 (by kernel_rfl) hn h
def r34 : RC := (.seq (.reg [.op (some 4) (.mv (.v (.lit (.bool false))))])
 (.seq (.seq (.reg [.op (some 5) (.mv (.v (.lit (.int .i64 (0)))))])
 (.block 0 (.loop (.seq (.seq (.reg [.op (some 6) (.mv (.t 5)),
  .op (some 7) (.mv (.t 0)),
  .op (some 8) (.lenS (.t 7)),
  .op (some 9) (.binI .lss (.t 6) (.t 8))])
 (.cond (.t 9)
 .skip
 (.exit 0)))
 (.seq (.block 1 (.seq (.reg [.op (some 12) (.mv (.t 0)),
  .op (some 13) (.mv (.t 5)),
  .op (some 14) (.idxS (.t 12) (.t 13)),
  .op (some 15) (.mv (.t 1)),
  .op (some 16) (.binI .eql (.t 14) (.t 15))])
 (.cond (.t 16)
 (.seq (.reg [.op (some 4) (.mv (.v (.lit (.bool true))))])
 .ret)
 .skip)))
 (.reg [.op (some 10) (.mv (.t 5)),
  .op (some 11) (.binI .add (.t 10) (.v (.lit (.int .i64 (1))))),
  .op (some 5) (.mv (.t 11))]))))))
 (.seq (.reg [.op (some 4) (.mv (.v (.lit (.bool false))))])
 .ret)))
def rs34 : List RR := [.tmp 4]
def cut34 : Nat → Nat := fun id => 0
theorem k34 : (Tryd.f34.body.bind fun c => comp Tryd.prog Tryd.f34.ntmps cut34 c) = some r34 := by kernel_rfl
theorem by34 {W0 : World} {σ : List Blk} {args : List AV} {K : Cont} (hn : args.length ≤ 17) (h : rW Tryd.prog W0 σ.length r34 (initFr args) σ (finP W0 rs34 σ.length K)) : ACall Tryd.prog W0 34 args σ K :=
  ACall.introR mixed Tryd.func34 (by kernel_rfl) k34 (by kernel_rfl) hn h
def r35 : RC := (.seq (.reg [.op (some 2) (.mv (.v (.lit (.string ⟨#[]⟩))))])
 (.seq (.reg [.op (some 3) (.mv (.t 0)),
  .op (some 4) (.binS .add (.t 3) (.v (.lit (.string ⟨#[35]⟩)))),
  .op (some 5) (.mv (.t 0)),
  .op (some 6) (.call (.v (.lit (.func (.func 41) #[] #[]))) [(.t 5)]),
  .op (some 7) (.call (.v (.lit (.func (.func 25) #[] #[]))) [(.t 6)]),
  .op (some 8) (.binS .add (.t 4) (.t 7)),
  .op (some 2) (.mv (.t 8))])
 .ret))
def rs35 : List RR := [.tmp 2]
def cut35 : Nat → Nat := fun id => 0
theorem k35 : (Tryd.f35.body.bind fun c => comp Tryd.prog Tryd.f35.ntmps cut35 c) = some r35 := by kernel_rfl
theorem by35 {W0 : World} {σ : List Blk} {args : List AV} {K : Cont} (hn : args.length ≤ 9) (h : rW Tryd.prog W0 σ.length r35 (initFr args) σ (finP W0 rs35 σ.length K)) : ACall Tryd.prog W0 35 args σ K :=
  ACall.introR mixed Tryd.func35 (by kernel_rfl) k35 (by kernel_rfl) hn h
def r36 : RC := (.seq (.reg [.op (some 4) (.mv (.v (.lit (.string ⟨#[]⟩)))),
  .op (some 5) (.mv (.v (.lit (.string ⟨#[]⟩)))),
  .op (some 6) (.mv (.v (.lit (.bool false))))])
 (.seq (.seq (.reg [.op (some 8) (.mv (.t 0)),
  .op (some 9) (.mv (.t 1)),
  .op (some 10) (.call (.v (.lit (.func (.func 42) #[] #[]))) [(.t 8), (.t 9)]),
  .op (some 7) (.mv (.t 10))])
 (.seq (.reg [.op (some 11) (.mv (.t 7)),
  .op (some 12) (.binI .geq (.t 11) (.v (.lit (.int .i64 (0)))))])
 (.cond (.t 12)
 (.seq (.draw [((some 13), (.mv (.t 0))), ((some 14), (.mv (.t 7))), ((some 15), (.sliceS (.t 13) none (some (.t 14)))), ((some 16), (.mv (.t 0))), ((some 17), (.mv (.t 7))), ((some 18), (.mv (.t 1))), ((some 19), (.lenS (.t 18))), ((some 20), (.binI .add (.t 17) (.t 19))), ((some 21), (.sliceS (.t 16) (some (.t 20)) none)), ((some 4), (.mv (.t 15))), ((some 5), (.mv (.t 21))), ((some 6), (.mv (.v (.lit (.bool true)))))] [])
 .ret)
 .skip)))
 (.seq (.reg [.op (some 22) (.mv (.t 0)),
  .op (some 4) (.mv (.t 22)),
  .op (some 5) (.mv (.v (.lit (.string ⟨#[]⟩)))),
  .op (some 6) (.mv (.v (.lit (.bool false))))])
 .ret)))
def rs36 : List RR := [.tmp 4, .tmp 5, .tmp 6]
def cut36 : Nat → Nat := fun id => if id = 3 then 25 else 0
theorem k36 : (Tryd.f36.body.bind fun c => comp Tryd.prog Tryd.f36.ntmps cut36 c) = some r36 := by kernel_rfl
theorem by36 {W0 : World} {σ : List Blk} {args : List AV} {K : Cont} (hn : args.length ≤ 23) (h : rW Tryd.prog W0 σ.length r36 (initFr args) σ (finP W0 rs36 σ.length K)) : ACall Tryd.prog W0 36 args σ K :=
  ACall.introR mixed Tryd.func36 (by kernel_rfl) k36 (by kernel_rfl) hn h
def r37 : RC := (.seq (.reg [.op (some 2) (.mv (.v (.lit (.string ⟨#[]⟩)))),
  .op (some 3) (.mv (.v (.lit (.bool false))))])
 (.seq (.seq (.reg [.op (some 5) (.mv (.t 0)),
  .op (some 6) (.lenS (.t 5)),
  .op (some 7) (.binI .gtr (.t 6) (.v (.lit (.int .i64 (4000))))),
  .op (some 8) (.mv (.t 7)),
  .grp 8 false [((some 9), (.mv (.t 0))), ((some 10), (.call (.v (.lit (.func (.func 43) #[] #[]))) [(.t 9), (.v (.lit (.string ⟨#[35]⟩)))]))],
  .op (some 11) (.pick (.t 8) (.v (.lit (.bool true))) (.t 10))])
 (.cond (.t 11)
 (.seq (.reg [.op (some 2) (.mv (.v (.lit (.string ⟨#[]⟩)))),
  .op (some 3) (.mv (.v (.lit (.bool false))))])
 .ret)
 .skip))
 (.seq (.reg [.op (some 12) (.mv (.t 0)),
  .op (some 13) (.binS .add (.t 12) (.v (.lit (.string ⟨#[35]⟩)))),
  .op (some 14) (.mv (.t 0)),
  .op (some 15) (.call (.v (.lit (.func (.func 44) #[] #[]))) [(.t 14)]),
  .op (some 16) (.call (.v (.lit (.func (.func 39) #[] #[]))) [(.t 15)]),
  .op (some 17) (.binS .add (.t 13) (.t 16)),
  .op (some 4) (.mv (.t 17))])
 (.seq (.seq (.reg [.op (some 18) (.mv (.t 4)),
  .op (some 19) (.lenS (.t 18)),
  .op (some 20) (.binI .gtr (.t 19) (.v (.lit (.int .i64 (4000)))))])
 (.cond (.t 20)
 (.seq (.reg [.op (some 2) (.mv (.v (.lit (.string ⟨#[]⟩)))),
  .op (some 3) (.mv (.v (.lit (.bool false))))])
 .ret)
 .skip))
 (.seq (.reg [.op (some 21) (.mv (.t 4)),
  .op (some 2) (.mv (.t 21)),
  .op (some 3) (.mv (.v (.lit (.bool true))))])
 .ret)))))
def rs37 : List RR := [.tmp 2, .tmp 3]
def cut37 : Nat → Nat := fun id => 0
theorem k37 : (Tryd.f37.body.bind fun c => comp Tryd.prog Tryd.f37.ntmps cut37 c) = some r37 := by kernel_rfl
theorem by37 {W0 : World} {σ : List Blk} {args : List AV} {K : Cont} (hn : args.length ≤ 22) (h : rW Tryd.prog W0 σ.length r37 (initFr args) σ (finP W0 rs37 σ.length K)) : ACall Tryd.prog W0 37 args σ K :=
  ACall.introR mixed Tryd.func37 (by kernel_rfl) k37 (by kernel_rfl) hn h
def r38 : RC := (.seq (.reg [.op (some 1) (.box 44 (.t 0)),
  .op (some 2) (.mv (.v (.lit (.bool false))))])
 (.seq (.reg [.op (some 3) (.faddr 0 (.t 1)),
  .op (some 4) (.load 1 false (.t 3)),
  .op (some 5) (.call (.v (.lit (.func (.func 45) #[] #[]))) [(.t 4)]),
  .op (some 6) (.mv (.t 5)),
  .grp 6 true [((some 7), (.faddr 1 (.t 1))), ((some 8), (.load 1 false (.t 7))), ((some 9), (.lenS (.t 8))), ((some 10), (.binI .leq (.t 9) (.v (.lit (.int .i64 (250))))))],
  .op (some 11) (.pick (.t 6) (.t 10) (.v (.lit (.bool false)))),
  .op (some 12) (.mv (.t 11)),
  .grp 12 true [((some 13), (.faddr 1 (.t 1))), ((some 14), (.load 1 false (.t 13))), ((some 15), (.call (.v (.lit (.func (.func 46) #[] #[]))) [(.t 14)]))],
  .op (some 16) (.pick (.t 12) (.t 15) (.v (.lit (.bool false)))),
  .op (some 2) (.mv (.t 16))])
 .ret))
def rs38 : List RR := [.tmp 2]
def cut38 : Nat → Nat := fun id => 0
theorem k38 : (Tryd.f38.body.bind fun c => comp Tryd.prog Tryd.f38.ntmps cut38 c) = some r38 := by kernel_rfl
theorem by38 {W0 : World} {σ : List Blk} {args : List AV} {K : Cont} (hn : args.length ≤ 17) (h : rW Tryd.prog W0 σ.length r38 (initFr args) σ (finP W0 rs38 σ.length K)) : ACall Tryd.prog W0 38 args σ K :=
  ACall.introR mixed Tryd.func38 (by kernel_rfl) k38 (by kernel_rfl) hn h
def r41 : RC := (.seq (.reg [.op (some 2) (.mv (.v (.lit (.int .i64 (0)))))])
 (.seq (.reg [.op (some 3) (.mv (.v (.lit (.int .i64 (7)))))])
 (.seq (.seq (.reg [.op (some 4) (.mv (.v (.lit (.int .i64 (0)))))])
 (.block 0 (.loop (.seq (.seq (.reg [.op (some 5) (.mv (.t 4)),
  .op (some 6) (.mv (.t 0)),
  .op (some 7) (.lenS (.t 6)),
  .op (some 8) (.binI .lss (.t 5) (.t 7))])
 (.cond (.t 8)
 .skip
 (.exit 0)))
 (.seq (.block 1 (.reg [.op (some 11) (.mv (.t 3)),
  .op (some 12) (.binI .mul (.v (.lit (.int .i64 (41)))) (.t 11)),
  .op (some 13) (.mv (.t 0)),
  .op (some 14) (.mv (.t 4)),
  .op (some 15) (.idxS (.t 13) (.t 14)),
  .op (some 16) (.conv .i64 (.t 15)),
  .op (some 17) (.binI .add (.t 12) (.t 16)),
  .op (some 18) (.binI .add (.t 17) (.v (.lit (.int .i64 (1))))),
  .op (some 19) (.binI .rem (.t 18) (.v (.lit (.int .i64 (999979))))),
  .op (some 3) (.mv (.t 19))]))
 (.reg [.op (some 9) (.mv (.t 4)),
  .op (some 10) (.binI .add (.t 9) (.v (.lit (.int .i64 (1))))),
  .op (some 4) (.mv (.t 10))]))))))
 (.seq (.reg [.op (some 20) (.mv (.t 3)),
  .op (some 2) (.mv (.t 20))])
 .ret))))
def rs41 : List RR := [.tmp 2]
def cut41 : Nat → Nat := fun id => 0
theorem k41 : (Tryd.f41.body.bind fun c => comp Tryd.prog Tryd.f41.ntmps cut41 c) = some r41 := by kernel_rfl
theorem by41 {W0 : World} {σ : List Blk} {args : List AV} {K : Cont} (hn : args.length ≤ 21) (h : rW Tryd.prog W0 σ.length r41 (initFr args) σ (finP W0 rs41 σ.length K)) : ACall Tryd.prog W0 41 args σ K :=
  ACall.introR mixed Tryd.func41 (by kernel_rfl) k41 (by kernel_rfl) hn h
def r44 : RC := (.seq (.reg [.op (some 2) (.mv (.v (.lit (.int .i64 (0)))))])
 (.seq (.reg [.op (some 3) (.mv (.v (.lit (.int .i64 (7)))))])
 (.seq (.seq (.reg [.op (some 5) (.mv (.t 0)),
  .op (some 6) (.lenS (.t 5)),
  .op (some 7) (.mv (.v (.lit (.int .i64 (0)))))])
 (.block 0 (.loop (.seq (.reg [.op (some 8) (.binI .lss (.t 7) (.t 6))])
 (.seq (.cond (.t 8)
 .skip
 (.exit 0))
 (.seq (.block 1 (.seq (.reg [.op (some 9) (.mv (.t 7)),
  .op (some 4) (.mv (.t 9))])
 (.reg [.op (some 10) (.mv (.t 3)),
  .op (some 11) (.binI .mul (.v (.lit (.int .i64 (41)))) (.t 10)),
  .op (some 12) (.mv (.t 0)),
  .op (some 13) (.mv (.t 4)),
  .op (some 14) (.idxS (.t 12) (.t 13)),
  .op (some 15) (.conv .i64 (.t 14)),
  .op (some 16) (.binI .add (.t 11) (.t 15)),
  .op (some 17) (.binI .add (.t 16) (.v (.lit (.int .i64 (1))))),
  .op (some 18) (.binI .rem (.t 17) (.v (.lit (.int .i64 (999979))))),
  .op (some 3) (.mv (.t 18))])))
 (.reg [.op (some 19) (.binI .add (.t 7) (.v (.lit (.int .i64 (1))))),
  .op (some 7) (.mv (.t 19))])))))))
 (.seq (.reg [.op (some 20) (.mv (.t 3)),
  .op (some 2) (.mv (.t 20))])
 .ret))))
def rs44 : List RR := [.tmp 2]
def cut44 : Nat → Nat := fun id => 0
theorem k44 : (Tryd.f44.body.bind fun c => comp Tryd.prog Tryd.f44.ntmps cut44 c) = some r44 := by kernel_rfl
theorem by44 {W0 : World} {σ : List Blk} {args : List AV} {K : Cont} (hn : args.length ≤ 21) (h : rW Tryd.prog W0 σ.length r44 (initFr args) σ (finP W0 rs44 σ.length K)) : ACall Tryd.prog W0 44 args σ K :=
  ACall.introR mixed Tryd.func44 (by kernel_rfl) k44 (by kernel_rfl) hn h
def r45 : RC := (.seq (.reg [.op (some 2) (.mv (.v (.lit (.bool false))))])
 (.seq (.reg [.op (some 3) (.mv (.t 0)),
  .op (some 4) (.lenS (.t 3)),
  .op (some 5) (.binI .geq (.t 4) (.v (.lit (.int .i64 (1))))),
  .op (some 6) (.mv (.t 5)),
  .grp 6 true [((some 7), (.mv (.t 0))), ((some 8), (.lenS (.t 7))), ((some 9), (.binI .leq (.t 8) (.v (.lit (.int .i64 (160))))))],
  .op (some 10) (.pick (.t 6) (.t 9) (.v (.lit (.bool false)))),
  .op (some 11) (.mv (.t 10)),
  .grp 11 true [((some 12), (.mv (.t 0))), ((some 13), (.call (.v (.lit (.func (.func 46) #[] #[]))) [(.t 12)]))],
  .op (some 14) (.pick (.t 11) (.t 13) (.v (.lit (.bool false)))),
  .op (some 15) (.mv (.t 14)),
  .grp 15 true [((some 16), (.mv (.t 0))), ((some 17), (.call (.v (.lit (.func (.func 43) #[] #[]))) [(.t 16), (.v (.lit (.string ⟨#[64]⟩)))])), ((some 18), (.un .not (.t 17)))],
  .op (some 19) (.pick (.t 15) (.t 18) (.v (.lit (.bool false)))),
  .op (some 2) (.mv (.t 19))])
 .ret))
def rs45 : List RR := [.tmp 2]
def cut45 : Nat → Nat := fun id => 0
theorem k45 : (Tryd.f45.body.bind fun c => comp Tryd.prog Tryd.f45.ntmps cut45 c) = some r45 := by kernel_rfl
theorem by45 {W0 : World} {σ : List Blk} {args : List AV} {K : Cont} (hn : args.length ≤ 20) (h : rW Tryd.prog W0 σ.length r45 (initFr args) σ (finP W0 rs45 σ.length K)) : ACall Tryd.prog W0 45 args σ K :=
  ACall.introR mixed Tryd.func45 (by kernel_rfl) k45 (by kernel_rfl) hn h
def r46 : RC := (.seq (.reg [.op (some 2) (.mv (.v (.lit (.bool false))))])
 (.seq (.seq (.reg [.op (some 4) (.mv (.t 0)),
  .op (some 5) (.lenS (.t 4)),
  .op (some 6) (.mv (.v (.lit (.int .i64 (0)))))])
 (.block 0 (.loop (.seq (.reg [.op (some 7) (.binI .lss (.t 6) (.t 5))])
 (.seq (.cond (.t 7)
 .skip
 (.exit 0))
 (.seq (.block 1 (.seq (.reg [.op (some 8) (.mv (.t 6)),
  .op (some 3) (.mv (.t 8))])
 (.seq (.reg [.op (some 9) (.mv (.t 0)),
  .op (some 10) (.mv (.t 3)),
  .op (some 11) (.idxS (.t 9) (.t 10)),
  .op (some 12) (.binI .lss (.t 11) (.v (.lit (.int .u8 (32))))),
  .op (some 13) (.mv (.t 12)),
  .grp 13 false [((some 14), (.mv (.t 0))), ((some 15), (.mv (.t 3))), ((some 16), (.idxS (.t 14) (.t 15))), ((some 17), (.binI .gtr (.t 16) (.v (.lit (.int .u8 (126))))))],
  .op (some 18) (.pick (.t 13) (.v (.lit (.bool true))) (.t 17)),
  .op (some 19) (.mv (.t 18)),
  .grp 19 false [((some 20), (.mv (.t 0))), ((some 21), (.mv (.t 3))), ((some 22), (.idxS (.t 20) (.t 21))), ((some 23), (.binI .eql (.t 22) (.v (.lit (.int .u8 (35))))))],
  .op (some 24) (.pick (.t 19) (.v (.lit (.bool true))) (.t 23))])
 (.cond (.t 24)
 (.seq (.reg [.op (some 2) (.mv (.v (.lit (.bool false))))])
 .ret)
 .skip))))
 (.reg [.op (some 25) (.binI .add (.t 6) (.v (.lit (.int .i64 (1))))),
  .op (some 6) (.mv (.t 25))])))))))
 (.seq (.reg [.op (some 2) (.mv (.v (.lit (.bool true))))])
 .ret)))
def rs46 : List RR := [.tmp 2]
def cut46 : Nat → Nat := fun id => 0
theorem k46 : (Tryd.f46.body.bind fun c => comp Tryd.prog Tryd.f46.ntmps cut46 c) = some r46 := by kernel_rfl
theorem by46 {W0 : World} {σ : List Blk} {args : List AV} {K : Cont} (hn : args.length ≤ 26) (h : rW Tryd.prog W0 σ.length r46 (initFr args) σ (finP W0 rs46 σ.length K)) : ACall Tryd.prog W0 46 args σ K :=
  ACall.introR mixed Tryd.func46 (by kernel_rfl) k46 (by kernel_rfl) hn h
end Go.Proofs.YtlmplfgnhibfcaaDoor
end

section
/- Contracts of small functions: what they compute. -/
set_option linter.unusedVariables false
set_option linter.unusedSimpArgs false
namespace Go.Proofs.YtlmplfgnhibfcaaDoor
open Go Go.RowKit Go.Proofs.YtlmplfgnhibfcaaDoor.Abs
theorem fL_mk {l : List AV} {K : List AV → Prop} (h : K l) : fL l K := by rw [fL_eq]; exact h
def litAll : List AV → Bool
  | [] => true
  | .lit _ :: l => litAll l
  | _ :: _ => false
theorem det3_agg {σ : List Blk} : ∀ {cs : List AV}, litAll cs = true → det3 σ (.agg cs) := by
  intro cs h v hv
  induction cs with
  | nil => cases hv
  | cons a cs ih =>
    cases a with
    | lit x => cases hv with
      | head => exact trivial
      | tail _ hv => exact ih h hv
    | _ => cases h
abbrev I (n : Int) : AV := .lit (.int .i64 n)
abbrev Bo (b : Bool) : AV := .lit (.bool b)
abbrev St (s : ByteArray) : AV := .lit (.string s)
variable {W0 : World} {σ : List Blk}
def inB (x a b : Int) : Bool := decide (a ≤ x) && decide (x ≤ b)
theorem c_l1In (x a b : Int) (K : Cont) (h0 : K (Bo (inB x a b)) []) : ACall Tryd.prog W0 20 [I x, I a, I b] [] K := by
  refine by20 (Nat.le_of_ble_eq_true rfl) ?_
  repeat' ((conv => whnf); first | (refine Exists.intro ([] : List Nat) ?_) | (refine And.intro rfl ?_) | (refine And.intro (by decide +kernel) ?_) | (refine And.intro trivial ?_) | (refine Exists.intro _ (And.intro rfl (And.intro rfl (And.intro (Nat.le_of_ble_eq_true rfl) ?_)))) | (refine Exists.intro _ (And.intro rfl (And.intro rfl (And.intro rfl (And.intro (Nat.le_of_ble_eq_true rfl) ?_))))) | (refine And.intro (Exists.intro _ (And.intro rfl rfl)) ?_) | (exact fun hW => absurd hW (by decide +kernel)) | (intro hW; (try simp only [Bool.not_true, Bool.not_false, Bool.not_eq_true', Bool.not_eq_false', decide_eq_true_eq, decide_eq_false_iff_not, reduceCtorEq, Bool.true_eq_false, Bool.false_eq_true, mk_size, List.size_toArray, ByteArray.size_append, ByteArray.size_extract, List.length_cons, List.length_nil, ba_get, ba_empty, Int.toNat_natCast] at hW)) | (refine And.intro (?_ : _ → _) (?_ : _ → _)) | (refine FinR.drop 0 (Nat.zero_le _) (Closed.zero _) rfl ?_) | (refine FinR.keep ?_) | (refine And.intro (det3_agg rfl) ?_) | (refine fL_mk ?_) | (refine And.intro (by (try simp only [mk_size, List.size_toArray, ByteArray.size_append, ByteArray.size_extract, List.length_cons, List.length_nil]); omega) ?_) | (refine And.intro (by (try simp only [mk_size, List.size_toArray, ByteArray.size_append, ByteArray.size_extract, List.length_cons, List.length_nil, wrap64_eq]); omega) ?_) | fail)
  all_goals first | exact h0 | (refine Eq.mp (congrArg (fun v => K v []) ?_) h0; clear h0; simp_all [inB] <;> omega)
theorem d_l1In (x a b : Int) (K : Cont) (h0 : K (Bo (inB x a b)) σ) : ACall Tryd.prog W0 20 [I x, I a, I b] σ K :=
  ACall.lift rfl (fun _ => rfl) (fun W1 K _ h => c_l1In x a b K h) h0
abbrev Sh (a b c d e f : Int) : AV := .agg [I a, I b, I c, I d, I e, I f]
end Go.Proofs.YtlmplfgnhibfcaaDoor
end

section
/- Plain laws: digits of numbers, and that the parallel count of bits counts them. -/
set_option linter.unusedVariables false
set_option linter.unusedSimpArgs false
namespace Go.Proofs.YtlmplfgnhibfcaaDoor
open Go Go.Proofs.YtlmplfgnhibfcaaDoor.Abs
/-- the number of ones among the lowest n digits to base two -/
def ones : Nat → Nat → Nat
  | 0, _ => 0
  | n + 1, x => x % 2 + ones n (x / 2)
/-! ### the parallel count, byte by byte -/
def mk (m : Nat) : Nat → Nat
  | 0 => 0
  | n + 1 => m + 256 * mk m n
def s1 (n x : Nat) : Nat := ((x >>> 1) &&& mk 85 n) + (x &&& mk 85 n)
def s2 (n x : Nat) : Nat := ((x >>> 2) &&& mk 51 n) + (x &&& mk 51 n)
def b1 (d : Nat) : Nat := ((d >>> 1) &&& 85) + (d &&& 85)
def b2 (d : Nat) : Nat := ((d >>> 2) &&& 51) + (d &&& 51)
def b3 (d : Nat) : Nat := ((d >>> 4) + d) &&& 15
/-- the bytes of the parallel count are the counts of the bytes -/
def cnt : Nat → Nat → Nat
  | 0, _ => 0
  | n + 1, x => ones 8 (x % 256) + 256 * cnt n (x / 256)
end Go.Proofs.YtlmplfgnhibfcaaDoor
end

section
/- Plain laws: operations on the machine's unsigned words, as numbers. -/
set_option linter.unusedVariables false
set_option linter.unusedSimpArgs false
namespace Go.Proofs.YtlmplfgnhibfcaaDoor
open Go Go.Proofs.YtlmplfgnhibfcaaDoor.Abs
theorem wrap_i64 (n : Int) (h0 : -9223372036854775808 ≤ n) (h1 : n ≤ 9223372036854775807) : IntKind.i64.wrap n = n := by
  simp [IntKind.wrap, IntKind.signed, IntKind.bits]
  omega
end Go.Proofs.YtlmplfgnhibfcaaDoor
end

section
/- Plain laws: strings as lists of bytes. -/
set_option linter.unusedVariables false
namespace Go.Proofs.YtlmplfgnhibfcaaDoor
open Go Go.RowKit Go.Proofs.YtlmplfgnhibfcaaDoor.Abs
abbrev Bs := List UInt8
abbrev bs (l : Bs) : ByteArray := ⟨l.toArray⟩
theorem bs_tl (s : ByteArray) : bs (tl s) = s := by cases s; rfl
theorem tl_bs (l : Bs) : tl (bs l) = l := rfl
theorem tl_mk (a : Array UInt8) : tl ⟨a⟩ = a.toList := rfl
theorem tl_append (a b : ByteArray) : tl (a ++ b) = tl a ++ tl b := by simp [tl]
theorem tl_extract (s : ByteArray) (i j : Nat) : tl (s.extract i j) = ((tl s).drop i).take (j - i) := Lib.extract_data _ _ _
theorem tl_ext {a b : ByteArray} (h : tl a = tl b) : a = b := by rw [← bs_tl a, ← bs_tl b, h]
theorem toList_tl (s : ByteArray) : s.toList = tl s := Lib.toList_data s
theorem iN (n : Nat) (h : n < 9223372036854775807) : IntKind.i64.wrap ((n : Int) + 1) = ((n + 1 : Nat) : Int) := by
  rw [wrap_i64 _ (by omega) (by omega)]; omega
/-- one more byte is looked at -/
theorem all_step {α : Type} {p : α → Bool} {l : List α} {i : Nat} {d : α} (hi : i < l.length) : (l.take (i + 1)).all p = ((l.take i).all p && p (l.getD i d)) := by
  rw [List.take_add_one, List.all_append]
  simp [List.getD, List.getElem?_eq_getElem hi]
theorem all_take_true {α : Type} {p : α → Bool} {l : List α} {i : Nat} (hi : l.length ≤ i) (h : (l.take i).all p = true) : l.all p = true := by
  rwa [List.take_of_length_le hi] at h
theorem all_false {α : Type} {p : α → Bool} {l : List α} {i : Nat} {d : α} (hi : i < l.length) (h : p (l.getD i d) = false) : l.all p = false := by
  rw [Bool.eq_false_iff]; intro h'
  have := List.all_eq_true.1 h' (l.getD i d) (by simp [List.getD, List.getElem?_eq_getElem hi])
  rw [h] at this; cases this
theorem any_not (l : Bs) (b : UInt8) : l.any (· == b) = !l.all (fun c => !(c == b)) := by
  induction l with
  | nil => rfl
  | cons a l ih => simp only [List.any_cons, List.all_cons, ih, Bool.not_and, Bool.not_not]
/-- a byte that is plain -/
def plc (c : UInt8) : Bool := decide (32 ≤ c.toNat) && decide (c.toNat ≤ 126) && !decide (c.toNat = 35)
def plain (l : Bs) : Bool := l.all plc
/-- a number's digits -/
def numB (n : Nat) : ByteArray := bs (Lib.decDigits n)
theorem dec_small {n : Nat} (h : n < 10) : Lib.decDigits n = [UInt8.ofNat (48 + n)] := by rw [Lib.decDigits, dif_pos h]
theorem dec_big {n : Nat} (h : ¬ n < 10) : Lib.decDigits n = Lib.decDigits (n / 10) ++ [UInt8.ofNat (48 + n % 10)] := by rw [Lib.decDigits, dif_neg h]
theorem dec_len : ∀ (k n : Nat), n < 10 ^ (k + 1) → (Lib.decDigits n).length ≤ k + 1
  | 0, n, h => by rw [dec_small (by omega)]; simp
  | k + 1, n, h => by
    by_cases h' : n < 10
    · rw [dec_small h']; simp
    · rw [dec_big h']
      have := dec_len k (n / 10) (by rw [Nat.pow_succ] at h; omega)
      simp; omega
theorem numB_size {n : Nat} (h : n < 10000000000000000000) : (numB n).size ≤ 19 := by
  rw [← tl_len, numB, tl_bs]; exact dec_len 18 n h
theorem numB_size6 {n : Nat} (h : n < 1000000) : (numB n).size ≤ 6 := by
  rw [← tl_len, numB, tl_bs]; exact dec_len 5 n h
theorem numB_pos (n : Nat) : 1 ≤ (numB n).size := by
  rw [← tl_len, numB, tl_bs]
  by_cases h' : n < 10
  · rw [dec_small h']; simp
  · rw [dec_big h']; simp
/-- a text's sum -/
def sumN (l : Bs) : Nat := l.foldl (fun h c => (41 * h + c.toNat + 1) % 999979) 7
theorem sum_step {l : Bs} {i : Nat} (hi : i < l.length) : sumN (l.take (i + 1)) = (41 * sumN (l.take i) + (l.getD i 0).toNat + 1) % 999979 := by
  unfold sumN
  rw [List.take_add_one, List.foldl_append]
  simp [List.getD, List.getElem?_eq_getElem hi]
theorem sum_lt (l : Bs) : sumN l < 999979 := by
  unfold sumN
  rcases List.eq_nil_or_concat l with h | ⟨l', c, h⟩ <;> subst h
  · decide
  · rw [List.concat_eq_append, List.foldl_append]; simp only [List.foldl_cons, List.foldl_nil]; exact Nat.mod_lt _ (by decide)
end Go.Proofs.YtlmplfgnhibfcaaDoor
end

section
/- Contracts: texts that are plain; valid records. -/
set_option linter.unusedVariables false
set_option linter.unusedSimpArgs false
set_option maxRecDepth 100000
namespace Go.Proofs.YtlmplfgnhibfcaaDoor
open Go Go.RowKit Go.Proofs.YtlmplfgnhibfcaaDoor.Abs
variable {W0 : World} {σ : List Blk}
abbrev B8 (c : UInt8) : AV := .lit (.int .u8 (c.toNat : Nat))
theorem kB {K : Cont} {a b : Bool} {σ σ' : List Blk} (h : K (Bo a) σ) (e : a = b) (s : σ = σ' := by rfl) : K (.lit (.bool b)) σ' := by subst e; subst s; exact h
theorem kI {K : Cont} {a b : Int} {σ σ' : List Blk} (h : K (I a) σ) (e : a = b) (s : σ = σ' := by rfl) : K (.lit (.int .i64 b)) σ' := by subst e; subst s; exact h
theorem kS {K : Cont} {a b : ByteArray} {σ σ' : List Blk} (h : K (St a) σ) (e : a = b) (s : σ = σ' := by rfl) : K (.lit (.string b)) σ' := by subst e; subst s; exact h
theorem slI {a b : Int} (e : a = b) : AV.lit (.int .i64 a) = I b := by rw [e]
theorem u8_eq {a b : UInt8} (h : ((a.toNat : Nat) : Int) = ((b.toNat : Nat) : Int)) : (a == b) = true := by rw [UInt8.toNat_inj.1 (Int.ofNat_inj.1 h)]; simp
theorem u8_ne {a b : UInt8} (h : ¬ ((a.toNat : Nat) : Int) = ((b.toNat : Nat) : Int)) : (a == b) = false := by
  rw [Bool.eq_false_iff]; intro e; exact h (by rw [eq_of_beq e])
theorem plc_of {c : UInt8} (h1 : inB (IntKind.i64.wrap ((c.toNat : Nat) : Int)) 32 126 = true) (h2 : ¬ ((c.toNat : Nat) : Int) = 35) : plc c = true := by
  have := c.toNat_lt
  rw [wrap_i64 _ (by omega) (by omega)] at h1
  simp [inB] at h1; simp [plc]; omega
theorem plc_not1 {c : UInt8} (h1 : inB (IntKind.i64.wrap ((c.toNat : Nat) : Int)) 32 126 = false) : plc c = false := by
  have := c.toNat_lt
  rw [wrap_i64 _ (by omega) (by omega)] at h1
  simp [inB] at h1; simp [plc]; omega
theorem plc_not2 {c : UInt8} (h1 : ((c.toNat : Nat) : Int) = 35) : plc c = false := by
  simp [plc]; omega
theorem plc_t {c : UInt8} (h1 : ¬ ((c.toNat : Nat) : Int) < 32) (h2 : ¬ 126 < ((c.toNat : Nat) : Int)) (h3 : ¬ ((c.toNat : Nat) : Int) = 35) : plc c = true := by simp [plc]; omega
theorem plc_f {c : UInt8} (h : ((c.toNat : Nat) : Int) < 32 ∨ 126 < ((c.toNat : Nat) : Int) ∨ ((c.toNat : Nat) : Int) = 35) : plc c = false := by simp [plc]; omega
theorem c_l12Bytes (s : ByteArray) (m : Int) (hs : s.size < 4611686018427387904) (K : Cont) (h0 : K (Bo (plain (tl s) && decide ((s.size : Int) ≤ m))) []) : ACall Tryd.prog W0 33 [St s, I m] [] K := by
  refine by33 (Nat.le_of_ble_eq_true rfl) ?_
  repeat' ((conv => whnf); first | (refine Exists.intro ([] : List Nat) ?_) | (refine And.intro rfl ?_) | (refine And.intro (by decide +kernel) ?_) | (refine And.intro trivial ?_) | (refine Exists.intro _ (And.intro rfl (And.intro rfl (And.intro (Nat.le_of_ble_eq_true rfl) ?_)))) | (refine Exists.intro _ (And.intro rfl (And.intro rfl (And.intro rfl (And.intro (Nat.le_of_ble_eq_true rfl) ?_))))) | (refine And.intro (Exists.intro _ (And.intro rfl rfl)) ?_) | (exact fun hW => absurd hW (by decide +kernel)) | (intro hW; (try simp only [Bool.not_true, Bool.not_false, Bool.not_eq_true', Bool.not_eq_false', decide_eq_true_eq, decide_eq_false_iff_not, reduceCtorEq, Bool.true_eq_false, Bool.false_eq_true, mk_size, List.size_toArray, ByteArray.size_append, ByteArray.size_extract, List.length_cons, List.length_nil, ba_get, ba_empty, Int.toNat_natCast] at hW)) | (refine And.intro (?_ : _ → _) (?_ : _ → _)) | (refine FinR.drop 0 (Nat.zero_le _) (Closed.zero _) rfl ?_) | (refine FinR.keep ?_) | (refine And.intro (det3_agg rfl) ?_) | (refine fL_mk ?_) | (refine And.intro (by (try simp only [mk_size, List.size_toArray, ByteArray.size_append, ByteArray.size_extract, List.length_cons, List.length_nil]); omega) ?_) | (refine And.intro (by (try simp only [mk_size, List.size_toArray, ByteArray.size_append, ByteArray.size_extract, List.length_cons, List.length_nil, wrap64_eq]); omega) ?_) | fail)
  refine LoopR.live (fun i : Nat => [(0, St s), (1, I m), (5, I i)]) (fun _ => []) (fun i => i ≤ s.size ∧ ((tl s).take i).all plc = true) (fun i => s.size - i) 0 ⟨rfl, rfl, rfl, trivial⟩ (.keep rfl) ⟨Nat.zero_le _, rfl⟩ ?_
  rintro i ⟨hi, ha⟩
  have tls := tl_len s
  repeat' ((conv => whnf); first | (refine Exists.intro ([] : List Nat) ?_) | (refine And.intro rfl ?_) | (refine And.intro (by decide +kernel) ?_) | (refine And.intro trivial ?_) | (refine d_l1In (h0 := ?_) ..) | (refine Exists.intro _ (And.intro (fun τ => callW_fn (d_l1In (h0 := And.intro rfl rfl) ..)) ?_)) | (refine Exists.intro _ (And.intro (callW_fn (d_l1In (h0 := And.intro rfl rfl) ..)) (And.intro trivial ?_))) | (refine Exists.intro _ (And.intro (callW_fn (d_l1In (h0 := And.intro rfl rfl) ..)) ?_)) | (refine Exists.intro _ (And.intro (fun τ _ => callW_fn (d_l1In (h0 := And.intro rfl rfl) ..)) ?_)) | (refine Exists.intro _ (And.intro rfl (And.intro rfl (And.intro (Nat.le_of_ble_eq_true rfl) ?_)))) | (refine Exists.intro _ (And.intro rfl (And.intro rfl (And.intro rfl (And.intro (Nat.le_of_ble_eq_true rfl) ?_))))) | (refine And.intro (Exists.intro _ (And.intro rfl rfl)) ?_) | (exact fun hW => absurd hW (by decide +kernel)) | (intro hW; (try simp only [Bool.not_true, Bool.not_false, Bool.not_eq_true', Bool.not_eq_false', decide_eq_true_eq, decide_eq_false_iff_not, reduceCtorEq, Bool.true_eq_false, Bool.false_eq_true, mk_size, List.size_toArray, ByteArray.size_append, ByteArray.size_extract, List.length_cons, List.length_nil, ba_get, ba_empty, Int.toNat_natCast] at hW)) | (refine And.intro (?_ : _ → _) (?_ : _ → _)) | (refine FinR.drop 0 (Nat.zero_le _) (Closed.zero _) rfl ?_) | (refine FinR.keep ?_) | (refine And.intro (det3_agg rfl) ?_) | (refine fL_mk ?_) | (refine And.intro (by (try simp only [mk_size, List.size_toArray, ByteArray.size_append, ByteArray.size_extract, List.length_cons, List.length_nil]); omega) ?_) | (refine And.intro (by (try simp only [mk_size, List.size_toArray, ByteArray.size_append, ByteArray.size_extract, List.length_cons, List.length_nil, wrap64_eq]); omega) ?_) | fail)
  · refine kB h0 ?_; rw [plain, all_false (i := i) (d := 0) (by omega) (plc_not2 hW)]; rfl
  · rename_i h1 h2 h3
    exact Again.go (i + 1) ⟨rfl, rfl, slI (iN _ (by omega)), trivial⟩ (.keep rfl) ⟨by omega, by rw [all_step (d := 0) (by omega), ha, plc_of h2 hW]; rfl⟩ (by omega)
  · rename_i h1 h2 h3
    refine kB h0 ?_; rw [plain, all_false (i := i) (d := 0) (by omega) (plc_not1 h2)]; rfl
  · refine kB h0 ?_; rw [plain, all_take_true (by omega) ha]; rfl
theorem d_l12Bytes (s : ByteArray) (m : Int) (hs : s.size < 4611686018427387904) (K : Cont) (h0 : K (Bo (plain (tl s) && decide ((s.size : Int) ≤ m))) σ) : ACall Tryd.prog W0 33 [St s, I m] σ K :=
  ACall.lift rfl (fun _ => rfl) (fun W1 K _ hK => c_l12Bytes s m hs K hK) h0
theorem c_l1Stands (s : ByteArray) (b : UInt8) (hs : s.size < 4611686018427387904) (K : Cont) (h0 : K (Bo ((tl s).any (· == b))) []) : ACall Tryd.prog W0 34 [St s, B8 b] [] K := by
  refine by34 (Nat.le_of_ble_eq_true rfl) ?_
  repeat' ((conv => whnf); first | (refine Exists.intro ([] : List Nat) ?_) | (refine And.intro rfl ?_) | (refine And.intro (by decide +kernel) ?_) | (refine And.intro trivial ?_) | (refine Exists.intro _ (And.intro rfl (And.intro rfl (And.intro (Nat.le_of_ble_eq_true rfl) ?_)))) | (refine Exists.intro _ (And.intro rfl (And.intro rfl (And.intro rfl (And.intro (Nat.le_of_ble_eq_true rfl) ?_))))) | (refine And.intro (Exists.intro _ (And.intro rfl rfl)) ?_) | (exact fun hW => absurd hW (by decide +kernel)) | (intro hW; (try simp only [Bool.not_true, Bool.not_false, Bool.not_eq_true', Bool.not_eq_false', decide_eq_true_eq, decide_eq_false_iff_not, reduceCtorEq, Bool.true_eq_false, Bool.false_eq_true, mk_size, List.size_toArray, ByteArray.size_append, ByteArray.size_extract, List.length_cons, List.length_nil, ba_get, ba_empty, Int.toNat_natCast] at hW)) | (refine And.intro (?_ : _ → _) (?_ : _ → _)) | (refine FinR.drop 0 (Nat.zero_le _) (Closed.zero _) rfl ?_) | (refine FinR.keep ?_) | (refine And.intro (det3_agg rfl) ?_) | (refine fL_mk ?_) | (refine And.intro (by (try simp only [mk_size, List.size_toArray, ByteArray.size_append, ByteArray.size_extract, List.length_cons, List.length_nil]); omega) ?_) | (refine And.intro (by (try simp only [mk_size, List.size_toArray, ByteArray.size_append, ByteArray.size_extract, List.length_cons, List.length_nil, wrap64_eq]); omega) ?_) | fail)
  refine LoopR.live (fun i : Nat => [(0, St s), (1, B8 b), (5, I i)]) (fun _ => []) (fun i => i ≤ s.size ∧ ((tl s).take i).all (fun c => !(c == b)) = true) (fun i => s.size - i) 0 ⟨rfl, rfl, rfl, trivial⟩ (.keep rfl) ⟨Nat.zero_le _, rfl⟩ ?_
  rintro i ⟨hi, ha⟩
  have tls := tl_len s
  repeat' ((conv => whnf); first | (refine Exists.intro ([] : List Nat) ?_) | (refine And.intro rfl ?_) | (refine And.intro (by decide +kernel) ?_) | (refine And.intro trivial ?_) | (refine Exists.intro _ (And.intro rfl (And.intro rfl (And.intro (Nat.le_of_ble_eq_true rfl) ?_)))) | (refine Exists.intro _ (And.intro rfl (And.intro rfl (And.intro rfl (And.intro (Nat.le_of_ble_eq_true rfl) ?_))))) | (refine And.intro (Exists.intro _ (And.intro rfl rfl)) ?_) | (exact fun hW => absurd hW (by decide +kernel)) | (intro hW; (try simp only [Bool.not_true, Bool.not_false, Bool.not_eq_true', Bool.not_eq_false', decide_eq_true_eq, decide_eq_false_iff_not, reduceCtorEq, Bool.true_eq_false, Bool.false_eq_true, mk_size, List.size_toArray, ByteArray.size_append, ByteArray.size_extract, List.length_cons, List.length_nil, ba_get, ba_empty, Int.toNat_natCast] at hW)) | (refine And.intro (?_ : _ → _) (?_ : _ → _)) | (refine FinR.drop 0 (Nat.zero_le _) (Closed.zero _) rfl ?_) | (refine FinR.keep ?_) | (refine And.intro (det3_agg rfl) ?_) | (refine fL_mk ?_) | (refine And.intro (by (try simp only [mk_size, List.size_toArray, ByteArray.size_append, ByteArray.size_extract, List.length_cons, List.length_nil]); omega) ?_) | (refine And.intro (by (try simp only [mk_size, List.size_toArray, ByteArray.size_append, ByteArray.size_extract, List.length_cons, List.length_nil, wrap64_eq]); omega) ?_) | fail)
  · refine kB h0 ?_
    rw [any_not, all_false (i := i) (d := 0) (by omega) (by rw [u8_eq hW]; rfl)]; rfl
  · rename_i h1
    exact Again.go (i + 1) ⟨rfl, rfl, slI (iN _ (by omega)), trivial⟩ (.keep rfl) ⟨by omega, by rw [all_step (d := 0) (by omega), ha, u8_ne hW]; rfl⟩ (by omega)
  · refine kB h0 ?_; rw [any_not, all_take_true (by omega) ha]; rfl
theorem d_l1Stands (s : ByteArray) (b : UInt8) (hs : s.size < 4611686018427387904) (K : Cont) (h0 : K (Bo ((tl s).any (· == b))) σ) : ACall Tryd.prog W0 34 [St s, B8 b] σ K :=
  ACall.lift rfl (fun _ => rfl) (fun W1 K _ hK => c_l1Stands s b hs K hK) h0
theorem c_isPlain (s : ByteArray) (hs : s.size < 4611686018427387904) (K : Cont) (h0 : K (Bo (plain (tl s))) []) : ACall Tryd.prog W0 46 [St s] [] K := by
  refine by46 (Nat.le_of_ble_eq_true rfl) ?_
  repeat' ((conv => whnf); first | (refine Exists.intro ([] : List Nat) ?_) | (refine And.intro rfl ?_) | (refine And.intro (by decide +kernel) ?_) | (refine And.intro trivial ?_) | (refine Exists.intro _ (And.intro rfl (And.intro rfl (And.intro (Nat.le_of_ble_eq_true rfl) ?_)))) | (refine Exists.intro _ (And.intro rfl (And.intro rfl (And.intro rfl (And.intro (Nat.le_of_ble_eq_true rfl) ?_))))) | (refine And.intro (Exists.intro _ (And.intro rfl rfl)) ?_) | (exact fun hW => absurd hW (by decide +kernel)) | (intro hW; (try simp only [Bool.not_true, Bool.not_false, Bool.not_eq_true', Bool.not_eq_false', decide_eq_true_eq, decide_eq_false_iff_not, reduceCtorEq, Bool.true_eq_false, Bool.false_eq_true, mk_size, List.size_toArray, ByteArray.size_append, ByteArray.size_extract, List.length_cons, List.length_nil, ba_get, ba_empty, Int.toNat_natCast] at hW)) | (refine And.intro (?_ : _ → _) (?_ : _ → _)) | (refine FinR.drop 0 (Nat.zero_le _) (Closed.zero _) rfl ?_) | (refine FinR.keep ?_) | (refine And.intro (det3_agg rfl) ?_) | (refine fL_mk ?_) | (refine And.intro (by (try simp only [mk_size, List.size_toArray, ByteArray.size_append, ByteArray.size_extract, List.length_cons, List.length_nil]); omega) ?_) | (refine And.intro (by (try simp only [mk_size, List.size_toArray, ByteArray.size_append, ByteArray.size_extract, List.length_cons, List.length_nil, wrap64_eq]); omega) ?_) | fail)
  refine LoopR.live (fun i : Nat => [(0, St s), (5, I s.size), (6, I i)]) (fun _ => []) (fun i => i ≤ s.size ∧ ((tl s).take i).all plc = true) (fun i => s.size - i) 0 ⟨rfl, rfl, rfl, trivial⟩ (.keep rfl) ⟨Nat.zero_le _, rfl⟩ ?_
  rintro i ⟨hi, ha⟩
  have tls := tl_len s
  repeat' ((conv => whnf); first | (refine Exists.intro ([] : List Nat) ?_) | (refine And.intro rfl ?_) | (refine And.intro (by decide +kernel) ?_) | (refine And.intro trivial ?_) | (refine Exists.intro _ (And.intro rfl (And.intro rfl (And.intro (Nat.le_of_ble_eq_true rfl) ?_)))) | (refine Exists.intro _ (And.intro rfl (And.intro rfl (And.intro rfl (And.intro (Nat.le_of_ble_eq_true rfl) ?_))))) | (refine And.intro (Exists.intro _ (And.intro rfl rfl)) ?_) | (exact fun hW => absurd hW (by decide +kernel)) | (intro hW; (try simp only [Bool.not_true, Bool.not_false, Bool.not_eq_true', Bool.not_eq_false', decide_eq_true_eq, decide_eq_false_iff_not, reduceCtorEq, Bool.true_eq_false, Bool.false_eq_true, mk_size, List.size_toArray, ByteArray.size_append, ByteArray.size_extract, List.length_cons, List.length_nil, ba_get, ba_empty, Int.toNat_natCast] at hW)) | (refine And.intro (?_ : _ → _) (?_ : _ → _)) | (refine FinR.drop 0 (Nat.zero_le _) (Closed.zero _) rfl ?_) | (refine FinR.keep ?_) | (refine And.intro (det3_agg rfl) ?_) | (refine fL_mk ?_) | (refine And.intro (by (try simp only [mk_size, List.size_toArray, ByteArray.size_append, ByteArray.size_extract, List.length_cons, List.length_nil]); omega) ?_) | (refine And.intro (by (try simp only [mk_size, List.size_toArray, ByteArray.size_append, ByteArray.size_extract, List.length_cons, List.length_nil, wrap64_eq]); omega) ?_) | fail)
  · refine kB h0 ?_; rw [plain, all_false (i := i) (d := 0) (by omega) (plc_f (by omega))]
  · exact Again.go (i + 1) ⟨rfl, rfl, slI (iN _ (by omega)), trivial⟩ (.keep rfl) ⟨by omega, by rw [all_step (d := 0) (by omega), ha, plc_t (by omega) (by omega) (by omega)]; rfl⟩ (by omega)
  · refine kB h0 ?_; rw [plain, all_false (i := i) (d := 0) (by omega) (plc_f (by omega))]
  · refine kB h0 ?_; rw [plain, all_false (i := i) (d := 0) (by omega) (plc_f (by omega))]
  · refine kB h0 ?_; rw [plain, all_take_true (by omega) ha]
theorem d_isPlain (s : ByteArray) (hs : s.size < 4611686018427387904) (K : Cont) (h0 : K (Bo (plain (tl s))) σ) : ACall Tryd.prog W0 46 [St s] σ K :=
  ACall.lift rfl (fun _ => rfl) (fun W1 K _ hK => c_isPlain s hs K hK) h0
end Go.Proofs.YtlmplfgnhibfcaaDoor
end

section
/- Contracts of Go's library, as abstract calls. -/
set_option linter.unusedVariables false
set_option linter.unusedSimpArgs false
set_option maxRecDepth 100000
namespace Go.Proofs.YtlmplfgnhibfcaaDoor
open Go Go.RowKit Go.Proofs.YtlmplfgnhibfcaaDoor.Abs
variable {W0 : World} {σ : List Blk}
theorem index_cons (b : UInt8) (l : Bs) (c : UInt8) : Lib.indexByte (b :: l) c = if b == c then 0 else if Lib.indexByte l c == -1 then -1 else Lib.indexByte l c + 1 := rfl
theorem index_any' (l : Bs) (c : UInt8) : 0 ≤ Lib.indexByte l c ↔ l.any (· == c) = true := by
  induction l with
  | nil => simp [Lib.indexByte]
  | cons b l ih =>
    have h := Lib.indexByte_ge l c
    rw [List.any_cons, Bool.or_eq_true, ← ih, index_cons]
    by_cases e : (b == c) = true
    · rw [if_pos e]; simp [e]
    · rw [if_neg e]
      by_cases e2 : (Lib.indexByte l c == -1) = true
      · rw [if_pos e2]; have := eq_of_beq e2; constructor
        · omega
        · rintro (h' | h')
          · exact (e h').elim
          · omega
      · rw [if_neg e2]
        have : Lib.indexByte l c ≠ -1 := by simpa using e2
        constructor
        · intro _; right; omega
        · rintro (h' | h')
          · exact (e h').elim
          · omega
theorem index_any (l : Bs) (c : UInt8) : decide (0 ≤ Lib.indexByte l c) = l.any (· == c) := by
  rw [Bool.eq_iff_iff, decide_eq_true_iff, index_any']
theorem d_Contains1 (s : ByteArray) (c : UInt8) (K : Cont) (h0 : K (Bo ((tl s).any (· == c))) σ) : ACall Tryd.prog W0 43 [St s, St ⟨#[c]⟩] σ K :=
  ACall.ofCalls1 (vs := [.string s, .string ⟨#[c]⟩]) (by kernel_rfl) (fun w _ => (Tryd.strings_Contains_one s c w).mono fun e w' ⟨h1, h2⟩ => by subst h2; exact ⟨h1, Below.refl _ _⟩) (kB h0 (index_any _ _).symm)
theorem d_Index1 (s : ByteArray) (c : UInt8) (K : Cont) (h0 : K (I (Lib.indexByte (tl s) c)) σ) : ACall Tryd.prog W0 42 [St s, St ⟨#[c]⟩] σ K :=
  ACall.ofCalls1 (vs := [.string s, .string ⟨#[c]⟩]) (by kernel_rfl) (fun w _ => (Tryd.stringslite_Index_one s c w).mono fun e w' ⟨h1, h2⟩ => by subst h2; exact ⟨h1, Below.refl _ _⟩) h0
end Go.Proofs.YtlmplfgnhibfcaaDoor
end

section
/- The library's table of powers: what the row's condition gives; Itoa as an abstract call. -/
set_option linter.unusedVariables false
set_option linter.unusedSimpArgs false
set_option maxRecDepth 100000
namespace Go.Proofs.YtlmplfgnhibfcaaDoor
open Go Go.RowKit Go.Proofs.YtlmplfgnhibfcaaDoor.Abs
variable {W0 : World} {σ : List Blk}
/-- the table of powers of ten lies as its initialiser lays it -/
structure TabP (W : World) : Prop where
  t : Lib.TabIs Tryd.prog W "internal/strconv.uint64pow10" .u64 Lib.pow10Tab
theorem TabP.mono {W w : World} (h : TabP W) (hb : Below W.heap.size W w) : TabP w := by
  refine ⟨?_⟩
  have h1 := h.t
  unfold Lib.TabIs World.var? at h1 ⊢
  cases hg : Tryd.prog.globalNamed "internal/strconv.uint64pow10" with
  | none => rw [hg] at h1; cases h1
  | some g =>
    rw [hg] at h1
    simp only [Option.bind_some] at h1 ⊢
    have hlt : g < W.heap.size := by
      rcases Nat.lt_or_ge g W.heap.size with h' | h'
      · exact h'
      · rw [Array.getElem?_eq_none h'] at h1; cases h1
    rw [hb.block g hlt]
    exact h1
theorem tab_of_met {g : Nat} {t e : TypeId} {n : Nat} {W : World} {a b : String × DataW Unit} {rest : List (String × DataW Unit)}
    (hg : Tryd.prog.globalNamed "internal/strconv.uint64pow10" = some g) (hty : (Tryd.prog.globals[g]?).map (·.type) = some t) (ht : Tryd.prog.underlying t = some (.array n e)) (he : Tryd.prog.underlying e = some (.int .u64)) (hce : Tryd.prog.cellsOf e = 1) (hct : Tryd.prog.cellsOf t = n)
    (h : laidMet Tryd.prog (a :: b :: ("internal/strconv.uint64pow10", Lib.tabData .u64 Lib.pow10Tab) :: rest) W) : TabP W := by
  refine ⟨?_⟩
  obtain ⟨ps, ⟨_, _, _, _, _, _, _, _, _, _, ⟨_, _, _, _, _, _, _, _, _, _, ⟨g', t', cs, fuel, p, q, hg', ht', hvar, hd, _, _⟩, _⟩, _⟩, _⟩ := h
  obtain rfl := Option.some.inj (hg.symm.trans hg')
  obtain rfl := Option.some.inj (hty.symm.trans ht')
  unfold Lib.TabIs
  rw [hvar, ← Lib.cells_of_tab ht he hce hct hd]
theorem itoa_nat (n : Nat) : bs (Lib.itoa (n : Int)) = numB n := by
  unfold Lib.itoa numB
  rw [if_neg (by omega)]; simp
theorem d_ItoaI (n : Int) (h : -9223372036854775808 ≤ n) (h' : n ≤ 9223372036854775807) (ht : TabP W0) (K : Cont) (h0 : K (St (bs (Lib.itoa n))) σ) : ACall Tryd.prog W0 39 [I n] σ K :=
  ACall.ofCalls1 (vs := [.int .i64 n]) (by kernel_rfl) (fun w hw => (Tryd.strconv_Itoa n h h' w (ht.mono hw).t).mono fun e w' ⟨h1, k, os, h2⟩ => by subst h2; exact ⟨h1, Lib.below_grow _ _ (Nat.le_refl _) _ _⟩) h0
theorem d_Itoa (n : Nat) (h : n ≤ 9223372036854775807) (ht : TabP W0) (K : Cont) (h0 : K (St (numB n)) σ) : ACall Tryd.prog W0 39 [I n] σ K :=
  d_ItoaI _ (by omega) (by omega) ht K (by rw [itoa_nat]; exact h0)
end Go.Proofs.YtlmplfgnhibfcaaDoor
end

section
/- Plain laws: the parts of a text between bytes; what comes before a byte. -/
set_option linter.unusedVariables false
namespace Go.Proofs.YtlmplfgnhibfcaaDoor
open Go Go.RowKit Go.Proofs.YtlmplfgnhibfcaaDoor.Abs
def splitL (b : UInt8) : Bs → List Bs
  | [] => [[]]
  | c :: l => if c == b then [] :: splitL b l else match splitL b l with
    | [] => [[c]]
    | x :: xs => (c :: x) :: xs
/-- what comes before the byte, what behind it -/
def bef (b : UInt8) (l : Bs) : Bs := l.takeWhile (fun c => !(c == b))
def aft (b : UInt8) (l : Bs) : Bs := l.drop ((bef b l).length + 1)
theorem splitL_ne (b : UInt8) (l : Bs) : splitL b l ≠ [] := by
  cases l with
  | nil => simp [splitL]
  | cons c l => simp only [splitL]; split; simp; split <;> simp
theorem splitL_cons_ne {b c : UInt8} {l : Bs} (h : (c == b) = false) : ∃ x xs, splitL b l = x :: xs ∧ splitL b (c :: l) = (c :: x) :: xs := by
  cases hs : splitL b l with
  | nil => exact (splitL_ne b l hs).elim
  | cons x xs => exact ⟨x, xs, rfl, by simp only [splitL, h, hs]; rfl⟩
theorem split_none {b : UInt8} {l : Bs} (h : l.all (fun c => !(c == b)) = true) : splitL b l = [l] := by
  induction l with
  | nil => rfl
  | cons c l ih =>
    simp only [List.all_cons, Bool.and_eq_true, Bool.not_eq_true'] at h
    obtain ⟨x, xs, h1, h2⟩ := splitL_cons_ne (l := l) h.1
    rw [ih h.2] at h1; cases h1; rw [h2]
theorem split_hit {b : UInt8} : ∀ {p : Bs} {t : Bs}, p.all (fun c => !(c == b)) = true → splitL b (p ++ b :: t) = p :: splitL b t
  | [], t, _ => by simp [splitL]
  | c :: p, t, h => by
    simp only [List.all_cons, Bool.and_eq_true, Bool.not_eq_true'] at h
    obtain ⟨x, xs, h1, h2⟩ := splitL_cons_ne (l := p ++ b :: t) h.1
    rw [split_hit h.2] at h1; cases h1
    exact h2
theorem bef_all (b : UInt8) (l : Bs) : (bef b l).all (fun c => !(c == b)) = true := by
  induction l with
  | nil => rfl
  | cons c l ih =>
    unfold bef at ih ⊢
    rw [List.takeWhile_cons]
    split
    · rename_i h; rw [List.all_cons, h, ih]; rfl
    · rfl
/-- either the byte does not occur, or it stands behind what comes before it -/
theorem bef_cases (b : UInt8) (l : Bs) : (l.any (· == b) = false ∧ bef b l = l) ∨ (l.any (· == b) = true ∧ l = bef b l ++ b :: aft b l) := by
  induction l with
  | nil => exact .inl ⟨rfl, rfl⟩
  | cons c l ih =>
    cases h : c == b with
    | true =>
      right
      rw [List.any_cons, h]
      refine ⟨rfl, ?_⟩
      have e := eq_of_beq h
      subst e
      simp [bef, aft, List.takeWhile_cons]
    | false =>
      have e1 : bef b (c :: l) = c :: bef b l := by simp [bef, List.takeWhile_cons, h]
      rcases ih with ⟨h1, h2⟩ | ⟨h1, h2⟩
      · left; rw [List.any_cons, h, h1, e1, h2]; exact ⟨rfl, rfl⟩
      · right; rw [List.any_cons, h, h1, e1]
        refine ⟨rfl, ?_⟩
        have e2 : aft b (c :: l) = aft b l := by simp [aft, e1]
        rw [e2, List.cons_append, ← h2]
theorem split_head (b : UInt8) (l : Bs) : splitL b l = bef b l :: (if l.any (· == b) then splitL b (aft b l) else []) := by
  rcases bef_cases b l with ⟨h1, h2⟩ | ⟨h1, h2⟩
  · rw [h1, h2, split_none]; rfl
    rw [any_not, Bool.not_eq_false'] at h1; exact h1
  · rw [h1, if_pos rfl]
    conv => lhs; rw [h2]
    exact split_hit (bef_all b l)
/-- a text with a byte in it, the byte not before: what comes before it and behind it -/
theorem bef_of {b : UInt8} {p t : Bs} (h : p.any (· == b) = false) : bef b (p ++ b :: t) = p ∧ aft b (p ++ b :: t) = t ∧ (p ++ b :: t).any (· == b) = true := by
  rw [any_not, Bool.not_eq_false', List.all_eq_true] at h
  have e : bef b (p ++ b :: t) = p := by
    unfold bef
    rw [List.takeWhile_append_of_pos h]
    simp
  refine ⟨e, ?_, by simp⟩
  unfold aft
  rw [e, List.drop_append]
  simp
/-- the loop's step: a piece ends -/
theorem split_step {b : UInt8} {l : Bs} {f i : Nat} (hf : f ≤ i) (hi : i < l.length) (hn : ((l.drop f).take (i - f)).all (fun c => !(c == b)) = true) (hb : (l.getD i 0 == b) = true) : splitL b (l.drop f) = (l.drop f).take (i - f) :: splitL b (l.drop (i + 1)) := by
  have e : l.drop f = (l.drop f).take (i - f) ++ b :: l.drop (i + 1) := by
    have h1 : l.drop f = (l.drop f).take (i - f) ++ (l.drop f).drop (i - f) := (List.take_append_drop _ _).symm
    have h2 : (l.drop f).drop (i - f) = l.drop i := by rw [List.drop_drop]; congr 1; omega
    have h3 : l.drop i = l.getD i 0 :: l.drop (i + 1) := by
      rw [List.drop_eq_getElem_cons hi]; simp [List.getD, List.getElem?_eq_getElem hi]
    rw [h2, h3, eq_of_beq hb] at h1
    exact h1
  conv => lhs; rw [e]
  exact split_hit hn
/-- the loop's step: a piece grows -/
theorem piece_step {p : UInt8 → Bool} {l : Bs} {f i : Nat} (hf : f ≤ i) (hi : i < l.length) (hn : ((l.drop f).take (i - f)).all p = true) (hb : p (l.getD i 0) = true) : ((l.drop f).take (i + 1 - f)).all p = true := by
  have e : i + 1 - f = (i - f) + 1 := by omega
  rw [e, all_step (d := 0) (by rw [List.length_drop]; omega), hn]
  have : (l.drop f).getD (i - f) 0 = l.getD i 0 := by simp only [List.getD]; rw [List.getElem?_drop]; congr 2; omega
  rw [this, hb]; rfl
end Go.Proofs.YtlmplfgnhibfcaaDoor
end

section
/- Contracts: valid records. -/
set_option linter.unusedVariables false
set_option linter.unusedSimpArgs false
set_option maxRecDepth 100000
namespace Go.Proofs.YtlmplfgnhibfcaaDoor
open Go Go.RowKit Go.Proofs.YtlmplfgnhibfcaaDoor.Abs
variable {W0 : World} {σ : List Blk}
abbrev Rc (c r : ByteArray) : AV := .agg [St c, St r]
def cmdB (c : ByteArray) : Bool := decide ((1 : Int) ≤ (c.size : Nat)) && (plain (tl c) && decide ((c.size : Int) ≤ 160)) && !((tl c).any (· == 64))
def recB (c r : ByteArray) : Bool := cmdB c && (plain (tl r) && decide ((r.size : Int) ≤ 250))
theorem c_l12Record (c r : ByteArray) (hc : c.size < 4611686018427387904) (hr : r.size < 4611686018427387904) (K : Cont) (h0 : K (Bo (recB c r)) []) : ACall Tryd.prog W0 26 [Rc c r] [] K := by
  refine by26 (Nat.le_of_ble_eq_true rfl) ?_
  repeat' ((conv => whnf); first | (refine Exists.intro ([] : List Nat) ?_) | (refine And.intro rfl ?_) | (refine And.intro (by decide +kernel) ?_) | (refine And.intro trivial ?_) | (refine d_l12Bytes (hs := by assumption) (h0 := ?_) ..) | (refine d_l1Stands (b := 64) (hs := by assumption) (h0 := ?_) ..) | (refine Exists.intro _ (And.intro rfl (And.intro rfl (And.intro (Nat.le_of_ble_eq_true rfl) ?_)))) | (refine Exists.intro _ (And.intro rfl (And.intro rfl (And.intro rfl (And.intro (Nat.le_of_ble_eq_true rfl) ?_))))) | (refine And.intro (Exists.intro _ (And.intro rfl rfl)) ?_) | (exact fun hW => absurd hW (by decide +kernel)) | (intro hW; (try simp only [Bool.not_true, Bool.not_false, Bool.not_eq_true', Bool.not_eq_false', decide_eq_true_eq, decide_eq_false_iff_not, reduceCtorEq, Bool.true_eq_false, Bool.false_eq_true, mk_size, List.size_toArray, ByteArray.size_append, ByteArray.size_extract, List.length_cons, List.length_nil, ba_get, ba_empty, Int.toNat_natCast] at hW)) | (refine And.intro (?_ : _ → _) (?_ : _ → _)) | (refine FinR.drop 0 (Nat.zero_le _) (Closed.zero _) rfl ?_) | (refine FinR.keep ?_) | (refine And.intro (det3_agg rfl) ?_) | (refine fL_mk ?_) | (refine And.intro (by (try simp only [mk_size, List.size_toArray, ByteArray.size_append, ByteArray.size_extract, List.length_cons, List.length_nil]); omega) ?_) | (refine And.intro (by (try simp only [mk_size, List.size_toArray, ByteArray.size_append, ByteArray.size_extract, List.length_cons, List.length_nil, wrap64_eq]); omega) ?_) | fail)
  all_goals (refine kB h0 ?_; clear h0; simp only [recB, cmdB, *, decide_true, decide_false, Bool.and_true, Bool.true_and, Bool.false_and, Bool.and_false, Bool.not_true, Bool.not_false, Bool.or_true, Bool.or_false, Bool.true_or, Bool.false_or, Bool.not_not])
theorem d_l12Record (c r : ByteArray) (hc : c.size < 4611686018427387904) (hr : r.size < 4611686018427387904) (K : Cont) (h0 : K (Bo (recB c r)) σ) : ACall Tryd.prog W0 26 [Rc c r] σ K :=
  ACall.lift rfl (fun _ => rfl) (fun W1 K _ hK => c_l12Record c r hc hr K hK) h0
theorem c_isCommand (c : ByteArray) (hc : c.size < 4611686018427387904) (K : Cont) (h0 : K (Bo (cmdB c)) []) : ACall Tryd.prog W0 45 [St c] [] K := by
  refine by45 (Nat.le_of_ble_eq_true rfl) ?_
  repeat' ((conv => whnf); first | (refine Exists.intro ([] : List Nat) ?_) | (refine And.intro rfl ?_) | (refine And.intro (by decide +kernel) ?_) | (refine And.intro trivial ?_) | (refine d_isPlain (hs := by assumption) (h0 := ?_) ..) | (refine d_Contains1 (c := 64) (h0 := ?_) ..) | (refine Exists.intro _ (And.intro rfl (And.intro rfl (And.intro (Nat.le_of_ble_eq_true rfl) ?_)))) | (refine Exists.intro _ (And.intro rfl (And.intro rfl (And.intro rfl (And.intro (Nat.le_of_ble_eq_true rfl) ?_))))) | (refine And.intro (Exists.intro _ (And.intro rfl rfl)) ?_) | (exact fun hW => absurd hW (by decide +kernel)) | (intro hW; (try simp only [Bool.not_true, Bool.not_false, Bool.not_eq_true', Bool.not_eq_false', decide_eq_true_eq, decide_eq_false_iff_not, reduceCtorEq, Bool.true_eq_false, Bool.false_eq_true, mk_size, List.size_toArray, ByteArray.size_append, ByteArray.size_extract, List.length_cons, List.length_nil, ba_get, ba_empty, Int.toNat_natCast] at hW)) | (refine And.intro (?_ : _ → _) (?_ : _ → _)) | (refine FinR.drop 0 (Nat.zero_le _) (Closed.zero _) rfl ?_) | (refine FinR.keep ?_) | (refine And.intro (det3_agg rfl) ?_) | (refine fL_mk ?_) | (refine And.intro (by (try simp only [mk_size, List.size_toArray, ByteArray.size_append, ByteArray.size_extract, List.length_cons, List.length_nil]); omega) ?_) | (refine And.intro (by (try simp only [mk_size, List.size_toArray, ByteArray.size_append, ByteArray.size_extract, List.length_cons, List.length_nil, wrap64_eq]); omega) ?_) | fail)
  all_goals (refine kB h0 ?_; clear h0; simp only [cmdB, *, decide_true, decide_false, Bool.and_true, Bool.true_and, Bool.false_and, Bool.and_false, Bool.not_true, Bool.not_false, Bool.or_true, Bool.or_false, Bool.true_or, Bool.false_or, Bool.not_not])
theorem d_isCommand (c : ByteArray) (hc : c.size < 4611686018427387904) (K : Cont) (h0 : K (Bo (cmdB c)) σ) : ACall Tryd.prog W0 45 [St c] σ K :=
  ACall.lift rfl (fun _ => rfl) (fun W1 K _ hK => c_isCommand c hc K hK) h0
theorem c_IsValidRecord (c r : ByteArray) (hc : c.size < 4611686018427387904) (hr : r.size < 4611686018427387904) (K : Cont) (h0 : K (Bo (recB c r)) []) : ACall Tryd.prog W0 38 [Rc c r] [] K := by
  refine by38 (Nat.le_of_ble_eq_true rfl) ?_
  repeat' ((conv => whnf); first | (refine Exists.intro ([] : List Nat) ?_) | (refine And.intro rfl ?_) | (refine And.intro (by decide +kernel) ?_) | (refine And.intro trivial ?_) | (refine d_isPlain (hs := by assumption) (h0 := ?_) ..) | (refine d_isCommand (hc := by assumption) (h0 := ?_) ..) | (refine Exists.intro _ (And.intro rfl (And.intro rfl (And.intro (Nat.le_of_ble_eq_true rfl) ?_)))) | (refine Exists.intro _ (And.intro rfl (And.intro rfl (And.intro rfl (And.intro (Nat.le_of_ble_eq_true rfl) ?_))))) | (refine And.intro (Exists.intro _ (And.intro rfl rfl)) ?_) | (exact fun hW => absurd hW (by decide +kernel)) | (intro hW; (try simp only [Bool.not_true, Bool.not_false, Bool.not_eq_true', Bool.not_eq_false', decide_eq_true_eq, decide_eq_false_iff_not, reduceCtorEq, Bool.true_eq_false, Bool.false_eq_true, mk_size, List.size_toArray, ByteArray.size_append, ByteArray.size_extract, List.length_cons, List.length_nil, ba_get, ba_empty, Int.toNat_natCast] at hW)) | (refine And.intro (?_ : _ → _) (?_ : _ → _)) | (refine FinR.drop 0 (Nat.zero_le _) (Closed.zero _) rfl ?_) | (refine FinR.keep ?_) | (refine And.intro (det3_agg rfl) ?_) | (refine fL_mk ?_) | (refine And.intro (by (try simp only [mk_size, List.size_toArray, ByteArray.size_append, ByteArray.size_extract, List.length_cons, List.length_nil]); omega) ?_) | (refine And.intro (by (try simp only [mk_size, List.size_toArray, ByteArray.size_append, ByteArray.size_extract, List.length_cons, List.length_nil, wrap64_eq]); omega) ?_) | fail)
  all_goals (refine kB h0 ?_; clear h0; simp only [recB, *, decide_true, decide_false, Bool.and_true, Bool.true_and, Bool.false_and, Bool.and_false, Bool.not_true, Bool.not_false, Bool.or_true, Bool.or_false, Bool.true_or, Bool.false_or, Bool.not_not])
theorem d_IsValidRecord (c r : ByteArray) (hc : c.size < 4611686018427387904) (hr : r.size < 4611686018427387904) (K : Cont) (h0 : K (Bo (recB c r)) σ) : ACall Tryd.prog W0 38 [Rc c r] σ K :=
  ACall.lift rfl (fun _ => rfl) (fun W1 K _ hK => c_IsValidRecord c r hc hr K hK) h0
def szI (left : Int) (l : List Nat) : Int := match l with
  | [] => left
  | n :: l => if left - n < 0 then -1 else szI (left - n) l
theorem szI_neg {left : Int} {l : List Nat} (h0 : 0 ≤ left) (h : 0 ≤ szI left l) : ∀ n ∈ l, (n : Int) ≤ left := by
  induction l generalizing left with
  | nil => intro n hn; cases hn
  | cons a l ih =>
    simp only [szI] at h
    split at h
    · omega
    · rename_i h1
      intro n hn
      cases hn with
      | head => omega
      | tail _ hn => have := ih (by omega) h n hn; omega
end Go.Proofs.YtlmplfgnhibfcaaDoor
end

section
/- Contracts: the encoding of a record. -/
set_option linter.unusedVariables false
set_option linter.unusedSimpArgs false
set_option maxRecDepth 100000
namespace Go.Proofs.YtlmplfgnhibfcaaDoor
open Go Go.RowKit Go.Proofs.YtlmplfgnhibfcaaDoor.Abs
variable {W0 : World} {σ : List Blk}
theorem tdiv_nat (n m : Nat) : ((n : Int).tdiv (m : Int)) = ((n / m : Nat) : Int) := by simp
theorem tmod_nat (n m : Nat) : ((n : Int).tmod (m : Int)) = ((n % m : Nat) : Int) := by
  rw [Int.tmod_eq_emod_of_nonneg (by omega)]; rfl
theorem sum_wrap {l : Bs} {i : Nat} {c : UInt8} (hi : i < l.length) (hc : c = l.getD i 0) : (IntKind.i64.wrap (IntKind.i64.wrap (IntKind.i64.wrap (41 * (sumN (l.take i) : Nat)) + IntKind.i64.wrap (c.toNat : Nat)) + 1)).tmod 999979 = ((sumN (l.take (i + 1)) : Nat) : Int) := by
  have h1 := sum_lt (l.take i)
  have h2 := c.toNat_lt
  have e1 : IntKind.i64.wrap (IntKind.i64.wrap (IntKind.i64.wrap (41 * (sumN (l.take i) : Nat)) + IntKind.i64.wrap (c.toNat : Nat)) + 1) = ((41 * sumN (l.take i) + c.toNat + 1 : Nat) : Int) := by
    simp only [wrap64_eq]; omega
  rw [e1, sum_step hi, ← hc]
  exact tmod_nat _ 999979
def digs : ByteArray := ⟨#[48, 49, 50, 51, 52, 53, 54, 55, 56, 57]⟩
theorem digs_at : ∀ n : Fin 10, digs.extract n.val (n.val + 1) = bs [UInt8.ofNat (48 + n.val)] := by decide +kernel
theorem dig_small {n : Nat} (h : n < 10) : digs.extract n (n + 1) = numB n := by
  rw [digs_at ⟨n, h⟩, numB, dec_small h]
theorem dig_big {n : Nat} (h : ¬ n < 10) : numB (n / 10) ++ digs.extract (n % 10) (n % 10 + 1) = numB n := by
  rw [digs_at ⟨n % 10, Nat.mod_lt _ (by decide)⟩, numB, numB, dec_big h]
  apply tl_ext; rw [tl_append]; rfl
theorem c_l1Num (n : Nat) (hn : n ≤ 9223372036854775807) (K : Cont) (h0 : K (St (numB n)) []) : ACall Tryd.prog W0 25 [I n] [] K := by
  induction n using Nat.strongRecOn generalizing K W0 with
  | _ n ih =>
    refine by25 (Nat.le_of_ble_eq_true rfl) ?_
    have e0 : (n : Int).tdiv 10 = ((n / 10 : Nat) : Int) := tdiv_nat n 10
    have e2 : (n : Int).tmod 10 = ((n % 10 : Nat) : Int) := tmod_nat n 10
    have e1 : IntKind.i64.wrap ((n : Int).tdiv 10) = ((n / 10 : Nat) : Int) := by rw [e0, wrap_i64 _ (by omega) (by omega)]
    have h10 : 10 ≤ n → (numB (n / 10)).size ≤ 19 := fun _ => numB_size (by omega)
    repeat' ((conv => whnf); first | (refine Exists.intro ([] : List Nat) ?_) | (refine And.intro rfl ?_) | (refine And.intro (by decide +kernel) ?_) | (refine And.intro trivial ?_) | (refine Exists.intro _ (And.intro rfl (And.intro rfl (And.intro (Nat.le_of_ble_eq_true rfl) ?_)))) | (refine Exists.intro _ (And.intro rfl (And.intro rfl (And.intro rfl (And.intro (Nat.le_of_ble_eq_true rfl) ?_))))) | (refine And.intro (Exists.intro _ (And.intro rfl rfl)) ?_) | (exact fun hW => absurd hW (by decide +kernel)) | (intro hW; (try simp only [Bool.not_true, Bool.not_false, Bool.not_eq_true', Bool.not_eq_false', decide_eq_true_eq, decide_eq_false_iff_not, reduceCtorEq, Bool.true_eq_false, Bool.false_eq_true, mk_size, List.size_toArray, ByteArray.size_append, ByteArray.size_extract, List.length_cons, List.length_nil, ba_get, ba_empty, Int.toNat_natCast] at hW)) | (refine And.intro (?_ : _ → _) (?_ : _ → _)) | (refine FinR.drop 0 (Nat.zero_le _) (Closed.zero _) rfl ?_) | (refine FinR.keep ?_) | (refine And.intro (det3_agg rfl) ?_) | (refine fL_mk ?_) | (refine And.intro (by (try simp only [mk_size, List.size_toArray, ByteArray.size_append, ByteArray.size_extract, List.length_cons, List.length_nil]); omega) ?_) | (refine And.intro (by (try simp only [mk_size, List.size_toArray, ByteArray.size_append, ByteArray.size_extract, List.length_cons, List.length_nil, wrap64_eq]); omega) ?_) | fail)
    · exfalso; omega
    · exfalso; omega
    · refine kS h0 ?_
      rw [iN _ (by omega)]; exact (dig_small (by omega)).symm
    · have h11 := h10 (by omega)
      simp only [e1]
      refine Exists.intro _ (And.intro (fun τ => callW_fn (ACall.lift (r := St (numB (n / 10))) rfl (fun _ => rfl) (fun W1 K hb hK => ih (n / 10) (by omega) (by omega) K hK) (And.intro rfl rfl))) ?_)
      repeat' ((conv => whnf); first | (refine Exists.intro ([] : List Nat) ?_) | (refine And.intro rfl ?_) | (refine And.intro (by decide +kernel) ?_) | (refine And.intro trivial ?_) | (refine Exists.intro _ (And.intro rfl (And.intro rfl (And.intro (Nat.le_of_ble_eq_true rfl) ?_)))) | (refine Exists.intro _ (And.intro rfl (And.intro rfl (And.intro rfl (And.intro (Nat.le_of_ble_eq_true rfl) ?_))))) | (refine And.intro (Exists.intro _ (And.intro rfl rfl)) ?_) | (exact fun hW => absurd hW (by decide +kernel)) | (intro hW; (try simp only [Bool.not_true, Bool.not_false, Bool.not_eq_true', Bool.not_eq_false', decide_eq_true_eq, decide_eq_false_iff_not, reduceCtorEq, Bool.true_eq_false, Bool.false_eq_true, mk_size, List.size_toArray, ByteArray.size_append, ByteArray.size_extract, List.length_cons, List.length_nil, ba_get, ba_empty, Int.toNat_natCast] at hW)) | (refine And.intro (?_ : _ → _) (?_ : _ → _)) | (refine FinR.drop 0 (Nat.zero_le _) (Closed.zero _) rfl ?_) | (refine FinR.keep ?_) | (refine And.intro (det3_agg rfl) ?_) | (refine fL_mk ?_) | (refine And.intro (by (try simp only [mk_size, List.size_toArray, ByteArray.size_append, ByteArray.size_extract, List.length_cons, List.length_nil]); omega) ?_) | (refine And.intro (by (try simp only [mk_size, List.size_toArray, ByteArray.size_append, ByteArray.size_extract, List.length_cons, List.length_nil, wrap64_eq]); omega) ?_) | fail)
      all_goals (refine kS h0 ?_; rw [e2, iN _ (by omega)]; exact (dig_big (by omega)).symm)
theorem d_l1Num (n : Nat) (hn : n ≤ 9223372036854775807) (K : Cont) (h0 : K (St (numB n)) σ) : ACall Tryd.prog W0 25 [I n] σ K :=
  ACall.lift rfl (fun _ => rfl) (fun W1 K _ hK => c_l1Num n hn K hK) h0
theorem c_l1Sum (s : ByteArray) (hs : s.size < 4611686018427387904) (K : Cont) (h0 : K (I (sumN (tl s) : Nat)) []) : ACall Tryd.prog W0 41 [St s] [] K := by
  refine by41 (Nat.le_of_ble_eq_true rfl) ?_
  repeat' ((conv => whnf); first | (refine Exists.intro ([] : List Nat) ?_) | (refine And.intro rfl ?_) | (refine And.intro (by decide +kernel) ?_) | (refine And.intro trivial ?_) | (refine Exists.intro _ (And.intro rfl (And.intro rfl (And.intro (Nat.le_of_ble_eq_true rfl) ?_)))) | (refine Exists.intro _ (And.intro rfl (And.intro rfl (And.intro rfl (And.intro (Nat.le_of_ble_eq_true rfl) ?_))))) | (refine And.intro (Exists.intro _ (And.intro rfl rfl)) ?_) | (exact fun hW => absurd hW (by decide +kernel)) | (intro hW; (try simp only [Bool.not_true, Bool.not_false, Bool.not_eq_true', Bool.not_eq_false', decide_eq_true_eq, decide_eq_false_iff_not, reduceCtorEq, Bool.true_eq_false, Bool.false_eq_true, mk_size, List.size_toArray, ByteArray.size_append, ByteArray.size_extract, List.length_cons, List.length_nil, ba_get, ba_empty, Int.toNat_natCast] at hW)) | (refine And.intro (?_ : _ → _) (?_ : _ → _)) | (refine FinR.drop 0 (Nat.zero_le _) (Closed.zero _) rfl ?_) | (refine FinR.keep ?_) | (refine And.intro (det3_agg rfl) ?_) | (refine fL_mk ?_) | (refine And.intro (by (try simp only [mk_size, List.size_toArray, ByteArray.size_append, ByteArray.size_extract, List.length_cons, List.length_nil]); omega) ?_) | (refine And.intro (by (try simp only [mk_size, List.size_toArray, ByteArray.size_append, ByteArray.size_extract, List.length_cons, List.length_nil, wrap64_eq]); omega) ?_) | fail)
  refine LoopR.live (fun i : Nat => [(0, St s), (3, I (sumN ((tl s).take i) : Nat)), (4, I i)]) (fun _ => []) (fun i => i ≤ s.size) (fun i => s.size - i) 0 ⟨rfl, rfl, rfl, trivial⟩ (.keep rfl) (Nat.zero_le _) ?_
  intro i hi
  have tls := tl_len s
  repeat' ((conv => whnf); first | (refine Exists.intro ([] : List Nat) ?_) | (refine And.intro rfl ?_) | (refine And.intro (by decide +kernel) ?_) | (refine And.intro trivial ?_) | (refine Exists.intro _ (And.intro rfl (And.intro rfl (And.intro (Nat.le_of_ble_eq_true rfl) ?_)))) | (refine Exists.intro _ (And.intro rfl (And.intro rfl (And.intro rfl (And.intro (Nat.le_of_ble_eq_true rfl) ?_))))) | (refine And.intro (Exists.intro _ (And.intro rfl rfl)) ?_) | (exact fun hW => absurd hW (by decide +kernel)) | (intro hW; (try simp only [Bool.not_true, Bool.not_false, Bool.not_eq_true', Bool.not_eq_false', decide_eq_true_eq, decide_eq_false_iff_not, reduceCtorEq, Bool.true_eq_false, Bool.false_eq_true, mk_size, List.size_toArray, ByteArray.size_append, ByteArray.size_extract, List.length_cons, List.length_nil, ba_get, ba_empty, Int.toNat_natCast] at hW)) | (refine And.intro (?_ : _ → _) (?_ : _ → _)) | (refine FinR.drop 0 (Nat.zero_le _) (Closed.zero _) rfl ?_) | (refine FinR.keep ?_) | (refine And.intro (det3_agg rfl) ?_) | (refine fL_mk ?_) | (refine And.intro (by (try simp only [mk_size, List.size_toArray, ByteArray.size_append, ByteArray.size_extract, List.length_cons, List.length_nil]); omega) ?_) | (refine And.intro (by (try simp only [mk_size, List.size_toArray, ByteArray.size_append, ByteArray.size_extract, List.length_cons, List.length_nil, wrap64_eq]); omega) ?_) | fail)
  · exact Again.go (i + 1) ⟨rfl, slI (sum_wrap (by omega) (ba_get _ _)), slI (iN _ (by omega)), trivial⟩ (.keep rfl) (by show i + 1 ≤ _; omega) (by omega)
  · refine kI h0 ?_; rw [List.take_of_length_le (by omega)]
theorem d_l1Sum (s : ByteArray) (hs : s.size < 4611686018427387904) (K : Cont) (h0 : K (I (sumN (tl s) : Nat)) σ) : ACall Tryd.prog W0 41 [St s] σ K :=
  ACall.lift rfl (fun _ => rfl) (fun W1 K _ hK => c_l1Sum s hs K hK) h0
theorem c_checksum (s : ByteArray) (hs : s.size < 4611686018427387904) (K : Cont) (h0 : K (I (sumN (tl s) : Nat)) []) : ACall Tryd.prog W0 44 [St s] [] K := by
  refine by44 (Nat.le_of_ble_eq_true rfl) ?_
  repeat' ((conv => whnf); first | (refine Exists.intro ([] : List Nat) ?_) | (refine And.intro rfl ?_) | (refine And.intro (by decide +kernel) ?_) | (refine And.intro trivial ?_) | (refine Exists.intro _ (And.intro rfl (And.intro rfl (And.intro (Nat.le_of_ble_eq_true rfl) ?_)))) | (refine Exists.intro _ (And.intro rfl (And.intro rfl (And.intro rfl (And.intro (Nat.le_of_ble_eq_true rfl) ?_))))) | (refine And.intro (Exists.intro _ (And.intro rfl rfl)) ?_) | (exact fun hW => absurd hW (by decide +kernel)) | (intro hW; (try simp only [Bool.not_true, Bool.not_false, Bool.not_eq_true', Bool.not_eq_false', decide_eq_true_eq, decide_eq_false_iff_not, reduceCtorEq, Bool.true_eq_false, Bool.false_eq_true, mk_size, List.size_toArray, ByteArray.size_append, ByteArray.size_extract, List.length_cons, List.length_nil, ba_get, ba_empty, Int.toNat_natCast] at hW)) | (refine And.intro (?_ : _ → _) (?_ : _ → _)) | (refine FinR.drop 0 (Nat.zero_le _) (Closed.zero _) rfl ?_) | (refine FinR.keep ?_) | (refine And.intro (det3_agg rfl) ?_) | (refine fL_mk ?_) | (refine And.intro (by (try simp only [mk_size, List.size_toArray, ByteArray.size_append, ByteArray.size_extract, List.length_cons, List.length_nil]); omega) ?_) | (refine And.intro (by (try simp only [mk_size, List.size_toArray, ByteArray.size_append, ByteArray.size_extract, List.length_cons, List.length_nil, wrap64_eq]); omega) ?_) | fail)
  refine LoopR.live (fun i : Nat => [(0, St s), (3, I (sumN ((tl s).take i) : Nat)), (6, I s.size), (7, I i)]) (fun _ => []) (fun i => i ≤ s.size) (fun i => s.size - i) 0 ⟨rfl, rfl, rfl, rfl, trivial⟩ (.keep rfl) (Nat.zero_le _) ?_
  intro i hi
  have tls := tl_len s
  repeat' ((conv => whnf); first | (refine Exists.intro ([] : List Nat) ?_) | (refine And.intro rfl ?_) | (refine And.intro (by decide +kernel) ?_) | (refine And.intro trivial ?_) | (refine Exists.intro _ (And.intro rfl (And.intro rfl (And.intro (Nat.le_of_ble_eq_true rfl) ?_)))) | (refine Exists.intro _ (And.intro rfl (And.intro rfl (And.intro rfl (And.intro (Nat.le_of_ble_eq_true rfl) ?_))))) | (refine And.intro (Exists.intro _ (And.intro rfl rfl)) ?_) | (exact fun hW => absurd hW (by decide +kernel)) | (intro hW; (try simp only [Bool.not_true, Bool.not_false, Bool.not_eq_true', Bool.not_eq_false', decide_eq_true_eq, decide_eq_false_iff_not, reduceCtorEq, Bool.true_eq_false, Bool.false_eq_true, mk_size, List.size_toArray, ByteArray.size_append, ByteArray.size_extract, List.length_cons, List.length_nil, ba_get, ba_empty, Int.toNat_natCast] at hW)) | (refine And.intro (?_ : _ → _) (?_ : _ → _)) | (refine FinR.drop 0 (Nat.zero_le _) (Closed.zero _) rfl ?_) | (refine FinR.keep ?_) | (refine And.intro (det3_agg rfl) ?_) | (refine fL_mk ?_) | (refine And.intro (by (try simp only [mk_size, List.size_toArray, ByteArray.size_append, ByteArray.size_extract, List.length_cons, List.length_nil]); omega) ?_) | (refine And.intro (by (try simp only [mk_size, List.size_toArray, ByteArray.size_append, ByteArray.size_extract, List.length_cons, List.length_nil, wrap64_eq]); omega) ?_) | fail)
  · exact Again.go (i + 1) ⟨rfl, slI (sum_wrap (by omega) (ba_get _ _)), rfl, slI (iN _ (by omega)), trivial⟩ (.keep rfl) (by show i + 1 ≤ _; omega) (by omega)
  · refine kI h0 ?_; rw [List.take_of_length_le (by omega)]
theorem d_checksum (s : ByteArray) (hs : s.size < 4611686018427387904) (K : Cont) (h0 : K (I (sumN (tl s) : Nat)) σ) : ACall Tryd.prog W0 44 [St s] σ K :=
  ACall.lift rfl (fun _ => rfl) (fun W1 K _ hK => c_checksum s hs K hK) h0
def sealB (s : ByteArray) : ByteArray := s ++ ⟨#[35]⟩ ++ numB (sumN (tl s))
theorem c_l1Seal (s : ByteArray) (hs : s.size < 4611686018427387904) (K : Cont) (h0 : K (St (sealB s)) []) : ACall Tryd.prog W0 35 [St s] [] K := by
  refine by35 (Nat.le_of_ble_eq_true rfl) ?_
  have h1 := sum_lt (tl s)
  have h2 := numB_size6 (n := sumN (tl s)) (by omega)
  repeat' ((conv => whnf); first | (refine Exists.intro ([] : List Nat) ?_) | (refine And.intro rfl ?_) | (refine And.intro (by decide +kernel) ?_) | (refine And.intro trivial ?_) | (refine d_l1Sum (hs := hs) (h0 := ?_) ..) | (refine d_l1Num (hn := by omega) (h0 := ?_) ..) | (refine Exists.intro _ (And.intro rfl (And.intro rfl (And.intro (Nat.le_of_ble_eq_true rfl) ?_)))) | (refine Exists.intro _ (And.intro rfl (And.intro rfl (And.intro rfl (And.intro (Nat.le_of_ble_eq_true rfl) ?_))))) | (refine And.intro (Exists.intro _ (And.intro rfl rfl)) ?_) | (exact fun hW => absurd hW (by decide +kernel)) | (intro hW; (try simp only [Bool.not_true, Bool.not_false, Bool.not_eq_true', Bool.not_eq_false', decide_eq_true_eq, decide_eq_false_iff_not, reduceCtorEq, Bool.true_eq_false, Bool.false_eq_true, mk_size, List.size_toArray, ByteArray.size_append, ByteArray.size_extract, List.length_cons, List.length_nil, ba_get, ba_empty, Int.toNat_natCast] at hW)) | (refine And.intro (?_ : _ → _) (?_ : _ → _)) | (refine FinR.drop 0 (Nat.zero_le _) (Closed.zero _) rfl ?_) | (refine FinR.keep ?_) | (refine And.intro (det3_agg rfl) ?_) | (refine fL_mk ?_) | (refine And.intro (by (try simp only [mk_size, List.size_toArray, ByteArray.size_append, ByteArray.size_extract, List.length_cons, List.length_nil]); omega) ?_) | (refine And.intro (by (try simp only [mk_size, List.size_toArray, ByteArray.size_append, ByteArray.size_extract, List.length_cons, List.length_nil, wrap64_eq]); omega) ?_) | fail)
  all_goals exact h0
theorem d_l1Seal (s : ByteArray) (hs : s.size < 4611686018427387904) (K : Cont) (h0 : K (St (sealB s)) σ) : ACall Tryd.prog W0 35 [St s] σ K :=
  ACall.lift rfl (fun _ => rfl) (fun W1 K _ hK => c_l1Seal s hs K hK) h0
def bodyB (k : Nat) (c r : ByteArray) : ByteArray := numB k ++ ⟨#[32]⟩ ++ c ++ ⟨#[64]⟩ ++ r
def lineB (k : Nat) (c r : ByteArray) : ByteArray := sealB (bodyB k c r) ++ ⟨#[10]⟩
theorem sealB_size (s : ByteArray) : (sealB s).size ≤ s.size + 7 := by
  have h1 := sum_lt (tl s)
  have h2 := numB_size6 (n := sumN (tl s)) (by omega)
  simp only [sealB, ByteArray.size_append, mk_size, List.size_toArray, List.length_cons, List.length_nil]; omega
theorem bodyB_size (k : Nat) (hk : k < 1000000) (c r : ByteArray) : (bodyB k c r).size ≤ c.size + r.size + 8 := by
  have h2 := numB_size6 hk
  simp only [bodyB, ByteArray.size_append, mk_size, List.size_toArray, List.length_cons, List.length_nil]; omega
theorem c_l12Line (k : Nat) (hk : k < 1000000) (c r : ByteArray) (hc : c.size < 100000000) (hr : r.size < 100000000) (K : Cont) (h0 : K (St (lineB k c r)) []) : ACall Tryd.prog W0 27 [I k, Rc c r] [] K := by
  refine by27 (Nat.le_of_ble_eq_true rfl) ?_
  have h2 := numB_size6 hk
  have h3 := bodyB_size k hk c r
  have h4 := sealB_size (bodyB k c r)
  repeat' ((conv => whnf); first | (refine Exists.intro ([] : List Nat) ?_) | (refine And.intro rfl ?_) | (refine And.intro (by decide +kernel) ?_) | (refine And.intro trivial ?_) | (refine Exists.intro _ (And.intro (fun τ => callW_fn (d_l1Num (hn := by omega) (h0 := And.intro rfl rfl) ..)) ?_)) | (refine Exists.intro _ (And.intro (fun τ => callW_fn (d_l1Seal (s := bodyB k c r) (hs := by omega) (h0 := And.intro rfl rfl) ..)) ?_)) | (refine Exists.intro _ (And.intro rfl (And.intro rfl (And.intro (Nat.le_of_ble_eq_true rfl) ?_)))) | (refine Exists.intro _ (And.intro rfl (And.intro rfl (And.intro rfl (And.intro (Nat.le_of_ble_eq_true rfl) ?_))))) | (refine And.intro (Exists.intro _ (And.intro rfl rfl)) ?_) | (exact fun hW => absurd hW (by decide +kernel)) | (intro hW; (try simp only [Bool.not_true, Bool.not_false, Bool.not_eq_true', Bool.not_eq_false', decide_eq_true_eq, decide_eq_false_iff_not, reduceCtorEq, Bool.true_eq_false, Bool.false_eq_true, mk_size, List.size_toArray, ByteArray.size_append, ByteArray.size_extract, List.length_cons, List.length_nil, ba_get, ba_empty, Int.toNat_natCast] at hW)) | (refine And.intro (?_ : _ → _) (?_ : _ → _)) | (refine FinR.drop 0 (Nat.zero_le _) (Closed.zero _) rfl ?_) | (refine FinR.keep ?_) | (refine And.intro (det3_agg rfl) ?_) | (refine fL_mk ?_) | (refine And.intro (by (try simp only [mk_size, List.size_toArray, ByteArray.size_append, ByteArray.size_extract, List.length_cons, List.length_nil]); omega) ?_) | (refine And.intro (by (try simp only [mk_size, List.size_toArray, ByteArray.size_append, ByteArray.size_extract, List.length_cons, List.length_nil, wrap64_eq]); omega) ?_) | fail)
  all_goals exact h0
theorem d_l12Line (k : Nat) (hk : k < 1000000) (c r : ByteArray) (hc : c.size < 100000000) (hr : r.size < 100000000) (K : Cont) (h0 : K (St (lineB k c r)) σ) : ACall Tryd.prog W0 27 [I k, Rc c r] σ K :=
  ACall.lift rfl (fun _ => rfl) (fun W1 K _ hK => c_l12Line k hk c r hc hr K hK) h0
theorem c_AppendChecksumT (s : ByteArray) (hs : s.size ≤ 4000) (h1 : (tl s).any (· == 35) = false) (h2 : (sealB s).size ≤ 4000) (ht : TabP W0) (K : Cont) (h0 : K (.tup [St (sealB s), Bo true]) []) : ACall Tryd.prog W0 37 [St s] [] K := by
  refine by37 (Nat.le_of_ble_eq_true rfl) ?_
  have h3 := sum_lt (tl s)
  have h4 := numB_size6 (n := sumN (tl s)) (by omega)
  have h5 : (s ++ ⟨#[35]⟩ ++ numB (sumN (tl s))).size ≤ 4000 := h2
  simp only [ByteArray.size_append, mk_size, List.size_toArray, List.length_cons, List.length_nil] at h5
  repeat' ((conv => whnf); first | (refine Exists.intro ([] : List Nat) ?_) | (refine And.intro rfl ?_) | (refine And.intro (by decide +kernel) ?_) | (refine And.intro trivial ?_) | (refine d_Contains1 (c := 35) (h0 := ?_) ..) | (refine d_checksum (hs := by omega) (h0 := ?_) ..) | (refine d_Itoa (h := by omega) (ht := ht) (h0 := ?_) ..) | (refine Exists.intro _ (And.intro rfl (And.intro rfl (And.intro (Nat.le_of_ble_eq_true rfl) ?_)))) | (refine Exists.intro _ (And.intro rfl (And.intro rfl (And.intro rfl (And.intro (Nat.le_of_ble_eq_true rfl) ?_))))) | (refine And.intro (Exists.intro _ (And.intro rfl rfl)) ?_) | (exact fun hW => absurd hW (by decide +kernel)) | (intro hW; (try simp only [Bool.not_true, Bool.not_false, Bool.not_eq_true', Bool.not_eq_false', decide_eq_true_eq, decide_eq_false_iff_not, reduceCtorEq, Bool.true_eq_false, Bool.false_eq_true, mk_size, List.size_toArray, ByteArray.size_append, ByteArray.size_extract, List.length_cons, List.length_nil, ba_get, ba_empty, Int.toNat_natCast] at hW)) | (refine And.intro (?_ : _ → _) (?_ : _ → _)) | (refine FinR.drop 0 (Nat.zero_le _) (Closed.zero _) rfl ?_) | (refine FinR.keep ?_) | (refine And.intro (det3_agg rfl) ?_) | (refine fL_mk ?_) | (refine And.intro (by (try simp only [mk_size, List.size_toArray, ByteArray.size_append, ByteArray.size_extract, List.length_cons, List.length_nil]); omega) ?_) | (refine And.intro (by (try simp only [mk_size, List.size_toArray, ByteArray.size_append, ByteArray.size_extract, List.length_cons, List.length_nil, wrap64_eq]); omega) ?_) | fail)
  all_goals first | (exfalso; omega) | (exfalso; simp_all; done) | exact h0
theorem d_AppendChecksumT (s : ByteArray) (hs : s.size ≤ 4000) (h1 : (tl s).any (· == 35) = false) (h2 : (sealB s).size ≤ 4000) (ht : TabP W0) (K : Cont) (h0 : K (.tup [St (sealB s), Bo true]) σ) : ACall Tryd.prog W0 37 [St s] σ K :=
  ACall.lift rfl (fun _ => rfl) (fun W1 K hb hK => c_AppendChecksumT s hs h1 h2 (ht.mono hb) K hK) h0
theorem c_AppendChecksumF (s : ByteArray) (h : ¬ (s.size ≤ 4000 ∧ (tl s).any (· == 35) = false ∧ (sealB s).size ≤ 4000)) (hs : s.size < 4611686018427387904) (ht : TabP W0) (K : Cont) (h0 : K (.tup [St ⟨#[]⟩, Bo false]) []) : ACall Tryd.prog W0 37 [St s] [] K := by
  refine by37 (Nat.le_of_ble_eq_true rfl) ?_
  have h3 := sum_lt (tl s)
  have h4 := numB_size6 (n := sumN (tl s)) (by omega)
  repeat' ((conv => whnf); first | (refine Exists.intro ([] : List Nat) ?_) | (refine And.intro rfl ?_) | (refine And.intro (by decide +kernel) ?_) | (refine And.intro trivial ?_) | (refine d_Contains1 (c := 35) (h0 := ?_) ..) | (refine d_checksum (hs := by omega) (h0 := ?_) ..) | (refine d_Itoa (h := by omega) (ht := ht) (h0 := ?_) ..) | (refine Exists.intro _ (And.intro rfl (And.intro rfl (And.intro (Nat.le_of_ble_eq_true rfl) ?_)))) | (refine Exists.intro _ (And.intro rfl (And.intro rfl (And.intro rfl (And.intro (Nat.le_of_ble_eq_true rfl) ?_))))) | (refine And.intro (Exists.intro _ (And.intro rfl rfl)) ?_) | (exact fun hW => absurd hW (by decide +kernel)) | (intro hW; (try simp only [Bool.not_true, Bool.not_false, Bool.not_eq_true', Bool.not_eq_false', decide_eq_true_eq, decide_eq_false_iff_not, reduceCtorEq, Bool.true_eq_false, Bool.false_eq_true, mk_size, List.size_toArray, ByteArray.size_append, ByteArray.size_extract, List.length_cons, List.length_nil, ba_get, ba_empty, Int.toNat_natCast] at hW)) | (refine And.intro (?_ : _ → _) (?_ : _ → _)) | (refine FinR.drop 0 (Nat.zero_le _) (Closed.zero _) rfl ?_) | (refine FinR.keep ?_) | (refine And.intro (det3_agg rfl) ?_) | (refine fL_mk ?_) | (refine And.intro (by (try simp only [mk_size, List.size_toArray, ByteArray.size_append, ByteArray.size_extract, List.length_cons, List.length_nil]); omega) ?_) | (refine And.intro (by (try simp only [mk_size, List.size_toArray, ByteArray.size_append, ByteArray.size_extract, List.length_cons, List.length_nil, wrap64_eq]); omega) ?_) | fail)
  · exact h0
  · exact h0
  · rename_i e1 _ e2; exact (h ⟨by omega, e2, by show (s ++ ⟨#[35]⟩ ++ numB (sumN (tl s))).size ≤ 4000; simp only [ByteArray.size_append, mk_size, List.size_toArray, List.length_cons, List.length_nil]; omega⟩).elim
  · exact h0
theorem d_AppendChecksumF (s : ByteArray) (h : ¬ (s.size ≤ 4000 ∧ (tl s).any (· == 35) = false ∧ (sealB s).size ≤ 4000)) (hs : s.size < 4611686018427387904) (ht : TabP W0) (K : Cont) (h0 : K (.tup [St ⟨#[]⟩, Bo false]) σ) : ACall Tryd.prog W0 37 [St s] σ K :=
  ACall.lift rfl (fun _ => rfl) (fun W1 K hb hK => c_AppendChecksumF s h hs (ht.mono hb) K hK) h0
theorem recB_parts {c r : ByteArray} (h : recB c r = true) : 1 ≤ c.size ∧ plain (tl c) = true ∧ c.size ≤ 160 ∧ (tl c).any (· == 64) = false ∧ plain (tl r) = true ∧ r.size ≤ 250 := by
  simp only [recB, cmdB, Bool.and_eq_true, decide_eq_true_eq, Bool.not_eq_true'] at h
  exact ⟨by omega, h.1.1.2.1, by omega, h.1.2, h.2.1, by omega⟩
theorem plain_no {l : Bs} (h : plain l = true) (b : UInt8) (hb : plc b = false) : l.any (· == b) = false := by
  rw [any_not, Bool.not_eq_false', List.all_eq_true]
  intro x hx
  have := List.all_eq_true.1 h x hx
  rw [Bool.not_eq_true', Bool.eq_false_iff]
  intro e
  rw [eq_of_beq e, hb] at this; cases this
theorem dec_dig : ∀ (n : Nat) (b : UInt8), b ∈ Lib.decDigits n → 48 ≤ b.toNat ∧ b.toNat ≤ 57 := by
  intro n
  induction n using Nat.strongRecOn with
  | _ n ih =>
    intro b hb
    have key : ∀ m, m < 10 → b = UInt8.ofNat (48 + m) → 48 ≤ b.toNat ∧ b.toNat ≤ 57 := fun m hm e => by
      subst e
      have : (UInt8.ofNat (48 + m)).toNat = 48 + m := by
        rw [UInt8.toNat_ofNat']; exact Nat.mod_eq_of_lt (by omega)
      omega
    by_cases h : n < 10
    · rw [dec_small h] at hb
      exact key n h (List.mem_singleton.1 hb)
    · rw [dec_big h] at hb
      rcases List.mem_append.1 hb with h1 | h1
      · exact ih (n / 10) (by omega) b h1
      · exact key _ (Nat.mod_lt _ (by decide)) (List.mem_singleton.1 h1)
theorem num_no (n : Nat) (b : UInt8) (hb : b.toNat < 48 ∨ 57 < b.toNat) : (tl (numB n)).any (· == b) = false := by
  rw [any_not, Bool.not_eq_false', List.all_eq_true]
  intro x hx
  have := dec_dig n x hx
  rw [Bool.not_eq_true', Bool.eq_false_iff]
  intro e
  rw [eq_of_beq e] at this; omega
theorem body_no {k : Nat} {c r : ByteArray} (h : recB c r = true) : (tl (bodyB k c r)).any (· == 35) = false := by
  obtain ⟨_, h1, _, _, h2, _⟩ := recB_parts h
  simp only [bodyB, tl_append, List.any_append, num_no k 35 (by decide), plain_no h1 35 (by decide), plain_no h2 35 (by decide)]
  decide
theorem c_EncodeT (k : Nat) (c r : ByteArray) (hk : k < 60) (hv : recB c r = true) (ht : TabP W0) (K : Cont) (h0 : K (.tup [St (lineB k c r), Bo true]) []) : ACall Tryd.prog W0 31 [I k, Rc c r] [] K := by
  refine by31 (Nat.le_of_ble_eq_true rfl) ?_
  obtain ⟨_, _, h3, _, _, h4⟩ := recB_parts hv
  have h5 := numB_size6 (n := k) (by omega)
  have h6 := bodyB_size k (by omega) c r
  have h7 := sealB_size (bodyB k c r)
  repeat' ((conv => whnf); first | (refine Exists.intro ([] : List Nat) ?_) | (refine And.intro rfl ?_) | (refine And.intro (by decide +kernel) ?_) | (refine And.intro trivial ?_) | (refine d_IsValidRecord (hc := by omega) (hr := by omega) (h0 := ?_) ..) | (refine Exists.intro _ (And.intro (fun τ => callW_fn (d_Itoa (h := by omega) (ht := ht) (h0 := And.intro rfl rfl) ..)) ?_)) | (refine Exists.intro _ (And.intro (fun τ => callW_fn (d_AppendChecksumT (s := bodyB k c r) (hs := by omega) (h1 := body_no hv) (h2 := by omega) (ht := ht) (h0 := And.intro rfl rfl) ..)) ?_)) | (refine Exists.intro _ (And.intro rfl (And.intro rfl (And.intro (Nat.le_of_ble_eq_true rfl) ?_)))) | (refine Exists.intro _ (And.intro rfl (And.intro rfl (And.intro rfl (And.intro (Nat.le_of_ble_eq_true rfl) ?_))))) | (refine And.intro (Exists.intro _ (And.intro rfl rfl)) ?_) | (exact fun hW => absurd hW (by decide +kernel)) | (intro hW; (try simp only [Bool.not_true, Bool.not_false, Bool.not_eq_true', Bool.not_eq_false', decide_eq_true_eq, decide_eq_false_iff_not, reduceCtorEq, Bool.true_eq_false, Bool.false_eq_true, mk_size, List.size_toArray, ByteArray.size_append, ByteArray.size_extract, List.length_cons, List.length_nil, ba_get, ba_empty, Int.toNat_natCast] at hW)) | (refine And.intro (?_ : _ → _) (?_ : _ → _)) | (refine FinR.drop 0 (Nat.zero_le _) (Closed.zero _) rfl ?_) | (refine FinR.keep ?_) | (refine And.intro (det3_agg rfl) ?_) | (refine fL_mk ?_) | (refine And.intro (by (try simp only [mk_size, List.size_toArray, ByteArray.size_append, ByteArray.size_extract, List.length_cons, List.length_nil]); omega) ?_) | (refine And.intro (by (try simp only [mk_size, List.size_toArray, ByteArray.size_append, ByteArray.size_extract, List.length_cons, List.length_nil, wrap64_eq]); omega) ?_) | fail)
  all_goals first | (exfalso; omega) | (exfalso; simp_all; done) | exact h0
theorem d_EncodeT (k : Nat) (c r : ByteArray) (hk : k < 60) (hv : recB c r = true) (ht : TabP W0) (K : Cont) (h0 : K (.tup [St (lineB k c r), Bo true]) σ) : ACall Tryd.prog W0 31 [I k, Rc c r] σ K :=
  ACall.lift rfl (fun _ => rfl) (fun W1 K hb hK => c_EncodeT k c r hk hv (ht.mono hb) K hK) h0
theorem c_EncodeF (k : Int) (c r : ByteArray) (hv : ¬ (0 ≤ k ∧ k < 60 ∧ recB c r = true)) (hc : c.size < 4611686018427387904) (hr : r.size < 4611686018427387904) (ht : TabP W0) (K : Cont) (h0 : K (.tup [St ⟨#[]⟩, Bo false]) []) : ACall Tryd.prog W0 31 [I k, Rc c r] [] K := by
  refine by31 (Nat.le_of_ble_eq_true rfl) ?_
  repeat' ((conv => whnf); first | (refine Exists.intro ([] : List Nat) ?_) | (refine And.intro rfl ?_) | (refine And.intro (by decide +kernel) ?_) | (refine And.intro trivial ?_) | (refine d_IsValidRecord (hc := by omega) (hr := by omega) (h0 := ?_) ..) | (exfalso; exact hv ⟨by omega, by omega, by assumption⟩) | (refine Exists.intro _ (And.intro rfl (And.intro rfl (And.intro (Nat.le_of_ble_eq_true rfl) ?_)))) | (refine Exists.intro _ (And.intro rfl (And.intro rfl (And.intro rfl (And.intro (Nat.le_of_ble_eq_true rfl) ?_))))) | (refine And.intro (Exists.intro _ (And.intro rfl rfl)) ?_) | (exact fun hW => absurd hW (by decide +kernel)) | (intro hW; (try simp only [Bool.not_true, Bool.not_false, Bool.not_eq_true', Bool.not_eq_false', decide_eq_true_eq, decide_eq_false_iff_not, reduceCtorEq, Bool.true_eq_false, Bool.false_eq_true, mk_size, List.size_toArray, ByteArray.size_append, ByteArray.size_extract, List.length_cons, List.length_nil, ba_get, ba_empty, Int.toNat_natCast] at hW)) | (refine And.intro (?_ : _ → _) (?_ : _ → _)) | (refine FinR.drop 0 (Nat.zero_le _) (Closed.zero _) rfl ?_) | (refine FinR.keep ?_) | (refine And.intro (det3_agg rfl) ?_) | (refine fL_mk ?_) | (refine And.intro (by (try simp only [mk_size, List.size_toArray, ByteArray.size_append, ByteArray.size_extract, List.length_cons, List.length_nil]); omega) ?_) | (refine And.intro (by (try simp only [mk_size, List.size_toArray, ByteArray.size_append, ByteArray.size_extract, List.length_cons, List.length_nil, wrap64_eq]); omega) ?_) | fail)
  all_goals exact h0
theorem d_EncodeF (k : Int) (c r : ByteArray) (hv : ¬ (0 ≤ k ∧ k < 60 ∧ recB c r = true)) (hc : c.size < 4611686018427387904) (hr : r.size < 4611686018427387904) (ht : TabP W0) (K : Cont) (h0 : K (.tup [St ⟨#[]⟩, Bo false]) σ) : ACall Tryd.prog W0 31 [I k, Rc c r] σ K :=
  ACall.lift rfl (fun _ => rfl) (fun W1 K hb hK => c_EncodeF k c r hv hc hr (ht.mono hb) K hK) h0
end Go.Proofs.YtlmplfgnhibfcaaDoor
end

section
/- Contracts: the parts of a text. -/
set_option linter.unusedVariables false
set_option linter.unusedSimpArgs false
set_option maxRecDepth 100000
namespace Go.Proofs.YtlmplfgnhibfcaaDoor
open Go Go.RowKit Go.Proofs.YtlmplfgnhibfcaaDoor.Abs
variable {W0 : World} {σ : List Blk}
/-- the cells of texts -/
def tcells (l : List Bs) : List AV := l.map fun x => .lit (.string (bs x))
theorem tcells_sh (k : Nat) (l : List Bs) : (tcells l).map (sh1 k) = tcells l := by unfold tcells; rw [List.map_map]; rfl
theorem blk_ext {c c' : List AV} {v v' : Nat} {e z : Nat} {r m m' : Bool} (h1 : c = c') (h2 : v = v') (h3 : m = m') : [(⟨c, v, e, z, r, m⟩ : Blk)] = [⟨c', v', e, z, r, m'⟩] := by subst h1; subst h2; subst h3; rfl
theorem kX {K : Cont} {v v' : AV} {σ σ' : List Blk} (h : K v σ) (e1 : v = v') (e2 : σ = σ') : K v' σ' := by subst e1; subst e2; exact h
theorem sl_len {b v o n n' c : Nat} (h : n = n') : AV.sl b v o n c = AV.sl b v o n' c := by subst h; rfl
structure SpX where
  out : List Bs
  f : Nat
  i : Nat
  ver : Nat
  cap : Nat
theorem c_l1Split (s : ByteArray) (b : UInt8) (hs : s.size < 100000000) (K : Cont) (h0 : ∀ ver cap, K (.sl 0 ver 0 (splitL b (tl s)).length cap) [⟨tcells (splitL b (tl s)), ver, 9, 1, true, true⟩]) : ACall Tryd.prog W0 21 [St s, B8 b] [] K := by
  refine by21 (Nat.le_of_ble_eq_true rfl) ?_
  have tls := tl_len s
  repeat' ((conv => whnf); first | (refine Exists.intro ([] : List Nat) ?_) | (refine And.intro rfl ?_) | (refine And.intro (by decide +kernel) ?_) | (refine And.intro trivial ?_) | (refine Exists.intro _ (And.intro rfl (And.intro rfl (And.intro (Nat.le_of_ble_eq_true rfl) ?_)))) | (refine Exists.intro _ (And.intro rfl (And.intro rfl (And.intro rfl (And.intro (Nat.le_of_ble_eq_true rfl) ?_))))) | (refine And.intro (Exists.intro _ (And.intro rfl rfl)) ?_) | (exact fun hW => absurd hW (by decide +kernel)) | (intro hW; (try simp only [Bool.not_true, Bool.not_false, Bool.not_eq_true', Bool.not_eq_false', decide_eq_true_eq, decide_eq_false_iff_not, reduceCtorEq, Bool.true_eq_false, Bool.false_eq_true, mk_size, List.size_toArray, ByteArray.size_append, ByteArray.size_extract, List.length_cons, List.length_nil, ba_get, ba_empty, Int.toNat_natCast] at hW)) | (refine And.intro (?_ : _ → _) (?_ : _ → _)) | (refine FinR.drop 0 (Nat.zero_le _) (Closed.zero _) rfl ?_) | (refine FinR.keep ?_) | (refine And.intro (det3_agg rfl) ?_) | (refine fL_mk ?_) | (refine And.intro (by (try simp only [mk_size, List.size_toArray, ByteArray.size_append, ByteArray.size_extract, List.length_cons, List.length_nil]); omega) ?_) | (refine And.intro (by (try simp only [mk_size, List.size_toArray, ByteArray.size_append, ByteArray.size_extract, List.length_cons, List.length_nil, wrap64_eq]); omega) ?_) | fail)
  refine LoopR.live (fun x : SpX => [(0, St s), (1, B8 b), (5, .sl 0 x.ver 0 x.out.length x.cap), (6, I x.f), (7, I x.i)]) (fun x => [⟨tcells x.out, x.ver, 9, 1, true, true⟩])
    (fun x => x.f ≤ x.i ∧ x.i ≤ s.size ∧ x.out.length ≤ x.i ∧ x.out ++ splitL b ((tl s).drop x.f) = splitL b (tl s) ∧ (((tl s).drop x.f).take (x.i - x.f)).all (fun c => !(c == b)) = true) (fun x => s.size - x.i) ⟨[], 0, 0, 0, 0⟩ ⟨rfl, rfl, rfl, rfl, rfl, trivial⟩ (.keep rfl) ⟨Nat.le_refl _, Nat.zero_le _, Nat.le_refl _, rfl, rfl⟩ ?_
  rintro ⟨out, f, i, ver, cap⟩ ⟨hf, hi, ho, hsp, hn⟩
  dsimp only at hf hi ho hsp hn
  have piece : ∀ j, s.extract f j = bs (((tl s).drop f).take (j - f)) := fun j => Lib.extract_eq _ _ _
  repeat' ((conv => whnf); first | (refine Exists.intro ([] : List Nat) ?_) | (refine And.intro rfl ?_) | (refine And.intro (by decide +kernel) ?_) | (refine And.intro trivial ?_) | (refine Exists.intro _ (And.intro rfl (And.intro rfl (And.intro rfl (And.intro rfl (And.intro rfl (And.intro rfl (And.intro (by decide) (And.intro (by simp [tcells]) (And.intro rfl (And.intro (by (try dsimp only); unfold maxLen; omega) (And.intro (by (try dsimp only); omega) (fun cap' hcap1 hcap2 => ?_))))))))))))) | (refine Exists.intro _ (And.intro rfl (And.intro rfl (And.intro (Nat.le_of_ble_eq_true rfl) ?_)))) | (refine Exists.intro _ (And.intro rfl (And.intro rfl (And.intro rfl (And.intro (Nat.le_of_ble_eq_true rfl) ?_))))) | (refine And.intro (Exists.intro _ (And.intro rfl rfl)) ?_) | (exact fun hW => absurd hW (by decide +kernel)) | (intro hW; (try simp only [Bool.not_true, Bool.not_false, Bool.not_eq_true', Bool.not_eq_false', decide_eq_true_eq, decide_eq_false_iff_not, reduceCtorEq, Bool.true_eq_false, Bool.false_eq_true, mk_size, List.size_toArray, ByteArray.size_append, ByteArray.size_extract, List.length_cons, List.length_nil, ba_get, ba_empty, Int.toNat_natCast] at hW)) | (refine And.intro (?_ : _ → _) (?_ : _ → _)) | (refine FinR.drop 0 (Nat.zero_le _) (Closed.zero _) rfl ?_) | (refine FinR.keep ?_) | (refine And.intro (det3_agg rfl) ?_) | (refine fL_mk ?_) | (refine And.intro (by (try simp only [mk_size, List.size_toArray, ByteArray.size_append, ByteArray.size_extract, List.length_cons, List.length_nil]); omega) ?_) | (refine And.intro (by (try simp only [mk_size, List.size_toArray, ByteArray.size_append, ByteArray.size_extract, List.length_cons, List.length_nil, wrap64_eq]); omega) ?_) | fail)
  · refine Again.go ⟨out ++ [((tl s).drop f).take (i - f)], i + 1, i + 1, ver + 1, cap'⟩ ⟨rfl, rfl, sl_len (by simp), slI (iN i (by omega)), slI (iN i (by omega)), trivial⟩ (.keep (blk_ext ?_ rfl rfl)) ⟨Nat.le_refl _, by dsimp only; omega, by simp; omega, ?_, ?_⟩ (by dsimp only; omega)
    · show tcells (out ++ [_]) = tcells out ++ [AV.lit (.string (s.extract f i))]
      rw [piece]; simp [tcells]
    · dsimp only
      rw [split_step hf (by omega) hn (u8_eq hW)] at hsp
      rw [List.append_assoc]; exact hsp
    · dsimp only; rw [Nat.sub_self, List.take_zero]; rfl
  · refine Again.go ⟨out, f, i + 1, ver, cap⟩ ⟨rfl, rfl, rfl, rfl, slI (iN i (by omega)), trivial⟩ (.keep rfl) ⟨by dsimp only; omega, by dsimp only; omega, by dsimp only; omega, hsp, ?_⟩ (by dsimp only; omega)
    exact piece_step hf (by omega) hn (by rw [u8_ne hW]; rfl)
  · have e1 : splitL b ((tl s).drop f) = [(tl s).drop f] := split_none (by rw [List.take_of_length_le (by rw [List.length_drop]; omega)] at hn; exact hn)
    rw [e1] at hsp
    have h1 := h0 (ver + 1) cap'
    rw [← hsp] at h1
    refine kX h1 (sl_len (by simp)) (blk_ext ?_ rfl rfl)
    show tcells (out ++ [_]) = tcells out ++ [AV.lit (.string (s.extract f s.size))]
    rw [piece, List.take_of_length_le (by rw [List.length_drop]; omega)]; simp [tcells]
theorem d_l1Split (s : ByteArray) (b : UInt8) (hs : s.size < 100000000) (K : Cont) (h0 : ∀ ver cap, K (.sl σ.length ver 0 (splitL b (tl s)).length cap) (σ ++ [⟨tcells (splitL b (tl s)), ver, 9, 1, true, true⟩])) : ACall Tryd.prog W0 21 [St s, B8 b] σ K := by
  refine ACall.frame (K0 := fun v σ' => ∃ ver cap, v = .sl 0 ver 0 (splitL b (tl s)).length cap ∧ σ' = [⟨tcells (splitL b (tl s)), ver, 9, 1, true, true⟩]) rfl (fun W1 _ => c_l1Split s b hs _ fun ver cap => ⟨ver, cap, rfl, rfl⟩) ?_
  rintro v σ' ⟨ver, cap, rfl, rfl⟩
  have := h0 ver cap
  simp only [sh3, sh2, sh1, shB, List.map_cons, List.map_nil, tcells_sh, Nat.add_zero]
  exact this
end Go.Proofs.YtlmplfgnhibfcaaDoor
end
