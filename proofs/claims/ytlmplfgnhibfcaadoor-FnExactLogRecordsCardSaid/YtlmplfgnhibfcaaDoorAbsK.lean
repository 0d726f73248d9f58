/- The abstract logic, part K: a function by its body; what may be dropped behind it. -/
import Derived.Test.YtlmplfgnhibfcaaDoorAbsJ
set_option linter.unusedVariables false
set_option linter.unusedSimpArgs false
namespace Go.Proofs.YtlmplfgnhibfcaaDoor.Abs
open Go Go.RowKit

/-- the values of the result variables, one behind the other -/
def resW (P : Program) (W0 : World) (fr : Fr) (σ : List Blk) : List ResultVar → (List AV → Prop) → Prop
  | [], K => K []
  | .tmp t :: rs, K => resW P W0 fr σ rs fun vs => K (fr t :: vs)
  | .cell a t :: rs, K => loadW P W0 t (fr a) σ fun v _ => resW P W0 fr σ rs fun vs => K (v :: vs)

def one2 : AV → Bool
  | .tup _ => false
  | _ => true
/-- one result as it is; several as a tuple -/
def tupA : List AV → Option AV
  | [v] => some v
  | vs => if vs.all one2 then some (.tup vs) else none

def initFr (args : List AV) : Fr := fun t => args.getD t .junk

section
variable {P : Program} {W0 : World} {ι ι0 : Loc} {σ σ0 : List Blk} {w : World} {n : Nat}

theorem rel2_of_rel3 {v : AV} {x : Value} (h1 : one2 v = true) (h : rel3 ι σ v x) : rel2 ι σ v x := by
  cases v <;> first | exact h | simp [one2] at h1

def resOne (tmps : Array Value) : ResultVar → Sem Value
  | .tmp t => pure (tmps.getD t undef)
  | .cell a t => do loadVar t (← asAddr (tmps.getD a undef))
theorem results_eq (fn : Func) (tmps : Array Value) : results fn tmps = (do let vs ← fn.results.mapM (resOne tmps); pure (if h : vs.size = 1 then vs[0] else .tuple vs)) := by
  have : resOne tmps = fun r => (match r with | .tmp t => pure (tmps.getD t undef) | .cell a t => do loadVar t (← asAddr (tmps.getD a undef)) : Sem Value) := by
    funext r; cases r <;> rfl
  rw [this]; rfl

theorem run_resList {fr : Fr} {a : Act} (hf : FRel ι σ n fr a) (hh : HRel W0 ι σ w) : ∀ (rs : List ResultVar) (K : List AV → Prop), resW P W0 fr σ rs K →
    ∃ vs xs, K vs ∧ Rels (rel3 ι σ) vs xs ∧ (rs.mapM (resOne a.tmps)).run P w = .ok xs w
  | [], K, h => ⟨[], [], h, Rels.nil, by simp⟩
  | .tmp t :: rs, K, h => by
    obtain ⟨vs, xs, hk, hr, hrun⟩ := run_resList hf hh rs _ h
    refine ⟨_, _, hk, Rels.cons (hf.2 t) hr, ?_⟩
    simp only [List.mapM_cons, Sem.run_bind, resOne, Sem.run_pure, Result.andThen_ok, hrun]
  | .cell ad t :: rs, K, h => by
    obtain ⟨v, av, h1, h2, h3⟩ := loadW_sound (P := P) h hh (hf.2 ad)
    obtain ⟨vs, xs, hk, hr, hrun⟩ := run_resList hf hh rs _ h2
    refine ⟨_, _, hk, Rels.cons h3 hr, ?_⟩
    have hl : (resOne a.tmps (.cell ad t)).run P w = .ok v w := by
      unfold resOne
      dsimp only
      generalize a.tmps.getD ad undef = x at h1
      cases x with
      | pointer p =>
        cases p with
        | none => simp [Instr.loadAt, Instr.sureAddr, stuck, Sem.run] at h1
        | some p => simpa [Instr.loadAt, Instr.sureAddr, asAddr] using h1
      | _ => simp [Instr.loadAt, Instr.sureAddr, stuck, Sem.run] at h1
    simp only [List.mapM_cons, Sem.run_bind, hl, Result.andThen_ok, hrun, Sem.run_pure]

theorem run_results {fn : Func} {fr : Fr} {a : Act} {K : Cont} (hf : FRel ι σ n fr a) (hh : HRel W0 ι σ w) (h : resW P W0 fr σ fn.results.toList fun vs => ∃ v, tupA vs = some v ∧ K v σ) :
    ∃ v x, (results fn a.tmps).run P w = .ok x w ∧ K v σ ∧ rel3 ι σ v x := by
  obtain ⟨vs, xs, ⟨v, hv, hk⟩, hr, hrun⟩ := run_resList hf hh _ _ h
  have hm : (fn.results.mapM (resOne a.tmps)).run P w = .ok xs.toArray w := by
    rw [Array.mapM_eq_mapM_toList]
    simp only [Sem.run_map, hrun, Result.andThen_ok]
  have hres : (results fn a.tmps).run P w = .ok (if h : xs.toArray.size = 1 then xs.toArray[0] else .tuple xs.toArray) w := by
    rw [results_eq]
    simp only [Sem.run_bind, Sem.run_pure, hm, Result.andThen_ok]
  unfold tupA at hv
  split at hv
  · rename_i u
    cases hv
    obtain ⟨b, m, rfl, h1, h2⟩ := hr.uncons
    obtain rfl := h2.nil_inv
    exact ⟨v, b, by rw [hres]; rfl, hk, h1⟩
  · rename_i hne
    split at hv
    · rename_i hall
      cases hv
      have hl : xs.toArray.size ≠ 1 := by
        have := hr.1
        intro h1
        simp at h1
        rw [h1] at this
        match vs, this with
        | [u], _ => exact hne u rfl
      rw [dif_neg hl] at hres
      refine ⟨_, _, hres, hk, xs, rfl, hr.mono' fun a ha b hab => rel2_of_rel3 (List.all_eq_true.1 hall a ha) hab⟩
    · cases hv

/-- Behind a function: blocks that nothing leads to any more may be dropped. -/
def FinW (b0 : Nat) (K : Cont) (v : AV) (σ : List Blk) : Prop := K v σ ∨ ∃ k, b0 ≤ k ∧ Closed k (σ.take k) ∧ bel3 k v = true ∧ K v (σ.take k)

/-- **A function by its body.** -/
theorem ACall.intro {g : FuncId} {fn : Func} {c : Code} {args : List AV} {K : Cont} (cuts : Nat → Nat) (hm : P.follows .mixedOrders = true) (hf : P.funcs[g]? = some fn) (hb : fn.body = some c) (hname : (fn.name == "runtime.NumGoroutine") = false)
    (hn : args.length ≤ fn.ntmps)
    (h : Closed σ.length σ → cW P W0 fn.ntmps σ.length cuts c (initFr args) σ fun e fr' σ' => (e = .normal ∨ e = .ret) ∧ resW P W0 fr' σ' fn.results.toList fun vs => ∃ v, tupA vs = some v ∧ FinW σ.length K v σ') :
    ACall P W0 g args σ K := by
  refine ⟨by simp [callOK, hf, hname, hb], fun ι w vs hh hr => ?_⟩
  have hvl : vs.length = args.length := hr.1.symm
  refine calls_of_wp hf hb (wp_mono (cW_sound (ι0 := ι) (σ0 := σ) hm hh.len c _ (initFr args) σ ι _ w [] (h hh.closed) hh ⟨by simp; omega, fun t => ?_⟩ (Ext.refl _ _) rfl) fun e a' w' hq => ?_)
  · unfold initFr
    rcases Nat.lt_or_ge t args.length with ht | ht
    · have ha := List.getElem?_eq_getElem ht
      obtain ⟨b, hb', hab⟩ := hr.get ha
      have htl : t < vs.length := by omega
      have h1 : args.getD t .junk = args[t] := by simp [ht]
      have h2 : (vs.toArray ++ Array.replicate (fn.ntmps - vs.toArray.size) undef).getD t undef = b := by
        rw [Array.getD_eq_getD_getElem?, Array.getElem?_append_left (by simpa using htl)]
        simp [hb']
      rw [h1, h2]; exact hab
    · have h1 : args.getD t .junk = .junk := by simp [ht]
      rw [h1]; exact trivial
  · obtain ⟨ι', σ', fr', ⟨he, hres⟩, hh', hf', hx', hd'⟩ := hq
    obtain ⟨v, x, hrun, hfin, hrel⟩ := run_results hf' hh' hres
    have key : bodyPost P fn (fun e w' => ∃ v ι' σ' av, e = .returned v ∧ K av σ' ∧ HRel W0 ι' σ' w' ∧ Ext ι σ ι' σ' ∧ rel3 ι' σ' av v) .normal a' w' := by
      refine ⟨hd', x, hrun, ?_⟩
      rcases hfin with hk | ⟨k, hbk, hcl, hbel, hk⟩
      · exact ⟨x, ι', σ', v, rfl, hk, hh', hx', hrel⟩
      · exact ⟨x, ι'.take k, σ'.take k, v, rfl, hk, hh'.take hcl, hx'.take hh.len hbk, hrel.take hbel⟩
    rcases he with rfl | rfl
    · exact key
    · exact key

end
end Go.Proofs.YtlmplfgnhibfcaaDoor.Abs
