/- Contract: the library's count of ones. -/
import Derived.Test.YtjodbhpknbgieaaC4
import Derived.Test.YtjodbhpknbgieaaPop3
set_option linter.unusedVariables false
set_option linter.unusedSimpArgs false
namespace Go.Proofs.Ytjodbhpknbgieaa
open Go Go.RowKit Go.Proofs.Ytjodbhpknbgieaa.Abs
variable {W0 : World} {σ : List Blk}
theorem c_OnesCount64 (x : Int) (K : Cont) (h0 : K (I (pcI x)) []) : ACall Try.prog W0 70 [U x] [] K := by
  refine by70 (Nat.le_of_ble_eq_true rfl) ?_
  repeat' ((conv => whnf); first
    | (refine And.intro rfl ?_)
    | (refine And.intro (by decide +kernel) ?_)
    | (refine And.intro trivial ?_)
    | (refine Exists.intro _ (And.intro rfl (And.intro rfl (And.intro (Nat.le_of_ble_eq_true rfl) ?_))))
    | (refine Exists.intro _ (And.intro rfl (And.intro rfl (And.intro rfl (And.intro (Nat.le_of_ble_eq_true rfl) ?_)))))
    | (refine And.intro (Exists.intro _ (And.intro rfl rfl)) ?_)
    | (exact fun hW => absurd hW (by decide +kernel))
    | (intro hW; (try simp only [Bool.not_true, Bool.not_false, Bool.not_eq_true', Bool.not_eq_false', decide_eq_true_eq, decide_eq_false_iff_not, reduceCtorEq, Bool.true_eq_false, Bool.false_eq_true] at hW))
    | (refine And.intro (?_ : _ → _) (?_ : _ → _))
    | (refine FinR.drop 0 (Nat.zero_le _) (Closed.zero _) rfl ?_))
  all_goals exact h0
theorem d_OnesCount64 (x : Int) (K : Cont) (h0 : K (I (pcI x)) σ) : ACall Try.prog W0 70 [U x] σ K :=
  ACall.lift rfl (fun _ => rfl) (fun W1 K _ hK => c_OnesCount64 x K hK) h0
end Go.Proofs.Ytjodbhpknbgieaa
