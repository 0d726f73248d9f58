/- From a contract to the statement: what came in, and what a law's call leaves. -/
import Derived.Test.YtlmplfgnhibfcaaDoorRows
import Derived.WalkKit
import Derived.ProofKit
import Derived.OpenShut
import Derived.ShutString
import Derived.ChangeOld
import Derived.Below
import Derived.Test.YtlmplfgnhibfcaaDoorAbsN
set_option linter.unusedVariables false
set_option linter.unusedSimpArgs false
namespace Go.Proofs.YtlmplfgnhibfcaaDoor
open Go Go.RowKit Go.Proofs.YtlmplfgnhibfcaaDoor.Abs

theorem own : ownKnob Tryd.prog.godebug = none := by kernel_rfl
theorem laidOut : laidOutB Tryd.prog = true := by kernel_rfl

def isI64 : Option TypeDesc → Bool
  | some (.int .i64) => true
  | _ => false

/-- a value of a struct or an array that holds machine integers alone -/
theorem ints_of_okWide {P : Program} {w : World} {base n : Nat} {t : TypeId} {v : Value} (ha : aggP P t = some true) (hs : P.cellsOf t = n) (hc64 : ((P.cellTypes P.depth t).map fun ts => ts.all fun u => isI64 (P.underlying u)) = some true)
    (h : Value.okWide P w .any base t v) : ∃ l : List Int, l.length = n ∧ v = .agg (l.map (Value.int .i64)).toArray ∧ ∀ x ∈ l, IntKind.i64.has x := by
  obtain ⟨ts, hc, h64⟩ := Option.map_eq_some_iff.1 hc64
  have hd : ∃ cs, v = .agg cs ∧ cs.size = P.cellsOf t ∧ Row.okWide P w .any base t cs := by
    unfold aggP at ha
    obtain ⟨d, hd, hg⟩ := Option.map_eq_some_iff.1 ha
    unfold Value.okWide at h
    rw [hd] at h
    cases d <;> first | exact h | (simp [isAggD] at hg)
  obtain ⟨cs, rfl, hsz, ts', hts, hn, hall⟩ := hd
  rw [hc] at hts; cases hts
  have key : ∀ (i : Nat) (v : Value), cs[i]? = some v → ∃ m, v = Value.int .i64 m ∧ IntKind.i64.has m := by
    intro i v hv
    obtain ⟨u, hu, hok⟩ := hall i v hv
    have h1 := List.all_eq_true.1 h64 u (List.mem_of_getElem? hu)
    have h2 : P.underlying u = some (.int .i64) := by
      revert h1
      cases P.underlying u with
      | none => simp [isI64]
      | some d =>
        cases d <;> simp [isI64]
        rename_i k
        cases k <;> simp
    unfold Cell.okWide at hok
    rw [h2] at hok
    dsimp only at hok
    unfold Cell.ok at hok
    rw [h2] at hok
    cases v <;> simp at hok
    exact ⟨_, by rw [hok.1], hok.2⟩
  refine ⟨cs.toList.map fun v => (match v with | Value.int _ m => m | _ => 0), by simp [hsz, hs], ?_, ?_⟩
  · congr 1
    apply Array.ext'
    rw [List.toList_toArray, List.map_map]
    apply List.ext_getElem?
    intro i
    rw [List.getElem?_map]
    cases hv : cs.toList[i]? with
    | none => rfl
    | some v =>
      obtain ⟨m, rfl, _⟩ := key i v (by simpa using hv)
      rfl
  · intro x hx
    obtain ⟨v, hv, rfl⟩ := List.mem_map.1 hx
    obtain ⟨i, hi⟩ := List.getElem?_of_mem hv
    obtain ⟨m, rfl, hm⟩ := key i v (by simpa using hi)
    exact hm

theorem rel_ints (l : List Int) : rel3 [] [] (.agg (l.map fun n => AV.lit (.int .i64 n))) (.agg (l.map (Value.int .i64)).toArray) :=
  ⟨_, rfl, by simp, fun i a b ha hb => by
    rw [List.getElem?_map] at ha hb
    cases hl : l[i]? with
    | none => rw [hl] at ha; cases ha
    | some n =>
      rw [hl] at ha hb
      cases ha; cases hb
      exact ⟨rfl, rfl⟩⟩

/-- what a law's call leaves -/
theorem law_calls {P : Program} {w : World} {g : FuncId} {avs : List AV} {vs : List Value} (h : ∀ K : Cont, K (.lit (.bool true)) [] → ACall P w g avs [] K) (hr : Rels (rel3 [] []) avs vs) :
    Calls P g vs.toArray w fun e w' => e = .returned (.bool true) ∧ Below w.heap.size w w' := by
  refine ((h (fun v σ' => v = .lit (.bool true)) rfl).run [] w vs (HRel.nil w) hr).mono fun e w' ⟨v, ι', σ', av, he, hk, hh, _, hrel⟩ => ?_
  subst hk
  have e1 : v = .bool true := hrel
  subst e1
  exact ⟨he, hh.below⟩
end Go.Proofs.YtlmplfgnhibfcaaDoor
