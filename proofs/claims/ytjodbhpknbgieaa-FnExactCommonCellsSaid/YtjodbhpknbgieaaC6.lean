/- Contracts: the meet of two sheets, and how many cells are black. -/
import Derived.Test.YtjodbhpknbgieaaC5
set_option linter.unusedVariables false
set_option linter.unusedSimpArgs false
namespace Go.Proofs.Ytjodbhpknbgieaa
open Go Go.RowKit Go.Proofs.Ytjodbhpknbgieaa.Abs
variable {W0 : World} {σ : List Blk}
theorem c_l2And (a b c d e f a' b' c' d' e' f' : Int) (K : Cont) (h0 : K (Sh (bAnd .i64 a a') (bAnd .i64 b b') (bAnd .i64 c c') (bAnd .i64 d d') (bAnd .i64 e e') (bAnd .i64 f f')) []) : ACall Try.prog W0 47 [Sh a b c d e f, Sh a' b' c' d' e' f'] [] K := by
  refine by47 (Nat.le_of_ble_eq_true rfl) ?_
  repeat' ((conv => whnf); first
    | (refine And.intro rfl ?_)
    | (refine And.intro (by decide +kernel) ?_)
    | (refine And.intro trivial ?_)
    | (refine LoopR.unroll 7 ?_)
    | (refine Exists.intro _ (And.intro rfl (And.intro rfl (And.intro (Nat.le_of_ble_eq_true rfl) ?_))))
    | (refine Exists.intro _ (And.intro rfl (And.intro rfl (And.intro rfl (And.intro (Nat.le_of_ble_eq_true rfl) ?_)))))
    | (refine And.intro (Exists.intro _ (And.intro rfl rfl)) ?_)
    | (exact fun hW => absurd hW (by decide +kernel))
    | (intro hW; (try simp only [Bool.not_true, Bool.not_false, Bool.not_eq_true', Bool.not_eq_false', decide_eq_true_eq, decide_eq_false_iff_not, reduceCtorEq, Bool.true_eq_false, Bool.false_eq_true] at hW))
    | (refine And.intro (?_ : _ → _) (?_ : _ → _))
    | (refine FinR.drop 0 (Nat.zero_le _) (Closed.zero _) rfl ?_))
  all_goals first | exact h0 | (refine Eq.mp (congrArg (fun v => K v []) ?_) h0; clear h0; simp_all <;> omega)
theorem d_l2And (a b c d e f a' b' c' d' e' f' : Int) (K : Cont) (h0 : K (Sh (bAnd .i64 a a') (bAnd .i64 b b') (bAnd .i64 c c') (bAnd .i64 d d') (bAnd .i64 e e') (bAnd .i64 f f')) σ) : ACall Try.prog W0 47 [Sh a b c d e f, Sh a' b' c' d' e' f'] σ K :=
  ACall.lift rfl (fun _ => rfl) (fun W1 K _ hK => c_l2And a b c d e f a' b' c' d' e' f' K hK) h0
theorem c_size (x : Int) (K : Cont) (h0 : K (I (pcI x)) []) : ACall Try.prog W0 49 [U x] [] K := by
  refine by49 (Nat.le_of_ble_eq_true rfl) ?_
  repeat' ((conv => whnf); first
    | (refine And.intro rfl ?_)
    | (refine And.intro (by decide +kernel) ?_)
    | (refine And.intro trivial ?_)
    | (refine d_OnesCount64 (h0 := ?_) ..)
    | (refine Exists.intro _ (And.intro (fun τ => callW_fn (d_OnesCount64 (h0 := And.intro rfl rfl) ..)) ?_))
    | (refine Exists.intro _ (And.intro rfl (And.intro rfl (And.intro (Nat.le_of_ble_eq_true rfl) ?_))))
    | (refine Exists.intro _ (And.intro rfl (And.intro rfl (And.intro rfl (And.intro (Nat.le_of_ble_eq_true rfl) ?_)))))
    | (refine And.intro (Exists.intro _ (And.intro rfl rfl)) ?_)
    | (exact fun hW => absurd hW (by decide +kernel))
    | (intro hW; (try simp only [Bool.not_true, Bool.not_false, Bool.not_eq_true', Bool.not_eq_false', decide_eq_true_eq, decide_eq_false_iff_not, reduceCtorEq, Bool.true_eq_false, Bool.false_eq_true] at hW))
    | (refine And.intro (?_ : _ → _) (?_ : _ → _))
    | (refine FinR.drop 0 (Nat.zero_le _) (Closed.zero _) rfl ?_))
  all_goals first | exact h0 | (refine Eq.mp (congrArg (fun v => K v []) ?_) h0; clear h0; simp_all <;> omega)
theorem d_size (x : Int) (K : Cont) (h0 : K (I (pcI x)) σ) : ACall Try.prog W0 49 [U x] σ K :=
  ACall.lift rfl (fun _ => rfl) (fun W1 K _ hK => c_size x K hK) h0
end Go.Proofs.Ytjodbhpknbgieaa
