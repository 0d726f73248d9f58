/- Contracts: CommonCells. -/
import Derived.Test.YtjodbhpknbgieaaC8
set_option linter.unusedVariables false
set_option linter.unusedSimpArgs false
namespace Go.Proofs.Ytjodbhpknbgieaa
open Go Go.RowKit Go.Proofs.Ytjodbhpknbgieaa.Abs
variable {W0 : World} {σ : List Blk}
abbrev R64 (a b c d e f : Nat) : Prop := a < 64 ∧ b < 64 ∧ c < 64 ∧ d < 64 ∧ e < 64 ∧ f < 64
theorem c_l2AndN (a b c d e f a' b' c' d' e' f' : Nat) (h : R64 a b c d e f) (h' : R64 a' b' c' d' e' f') (K : Cont) (h0 : K (Sh (a &&& a' : Nat) (b &&& b' : Nat) (c &&& c' : Nat) (d &&& d' : Nat) (e &&& e' : Nat) (f &&& f' : Nat)) []) : ACall Try.prog W0 47 [Sh a b c d e f, Sh a' b' c' d' e' f'] [] K := by
  refine c_l2And _ _ _ _ _ _ _ _ _ _ _ _ K ?_
  rw [row_and a h.1 a' h'.1, row_and b h.2.1 b' h'.2.1, row_and c h.2.2.1 c' h'.2.2.1, row_and d h.2.2.2.1 d' h'.2.2.2.1, row_and e h.2.2.2.2.1 e' h'.2.2.2.2.1, row_and f h.2.2.2.2.2 f' h'.2.2.2.2.2]
  exact h0
theorem d_l2AndN (a b c d e f a' b' c' d' e' f' : Nat) (h : R64 a b c d e f) (h' : R64 a' b' c' d' e' f') (K : Cont) (h0 : K (Sh (a &&& a' : Nat) (b &&& b' : Nat) (c &&& c' : Nat) (d &&& d' : Nat) (e &&& e' : Nat) (f &&& f' : Nat)) σ) : ACall Try.prog W0 47 [Sh a b c d e f, Sh a' b' c' d' e' f'] σ K :=
  ACall.lift rfl (fun _ => rfl) (fun W1 K _ hK => c_l2AndN a b c d e f a' b' c' d' e' f' h h' K hK) h0
theorem c_l2CountN (a b c d e f : Nat) (h : R64 a b c d e f) (K : Cont) (h0 : K (I (ones 64 (setN a b c d e f) : Nat)) []) : ACall Try.prog W0 46 [Sh a b c d e f] [] K := by
  obtain ⟨ha, hb, hc, hd, he, hf⟩ := h
  refine c_l2Count _ _ _ _ _ _ (by omega) (by omega) (by omega) (by omega) (by omega) (by omega) K ?_
  rw [ones_setN a b c d e f ha hb hc hd he hf] at h0
  have e1 : (0 : Int) + pcz a + pcz b + pcz c + pcz d + pcz e + pcz f = ((ones 6 a + (ones 6 b + (ones 6 c + (ones 6 d + (ones 6 e + ones 6 f)))) : Nat) : Int) := by
    simp only [pcz, Int.toNat_natCast]; omega
  rw [e1]; exact h0
theorem d_l2CountN (a b c d e f : Nat) (h : R64 a b c d e f) (K : Cont) (h0 : K (I (ones 64 (setN a b c d e f) : Nat)) σ) : ACall Try.prog W0 46 [Sh a b c d e f] σ K :=
  ACall.lift rfl (fun _ => rfl) (fun W1 K _ hK => c_l2CountN a b c d e f h K hK) h0
theorem shB6_nat (a b c d e f : Nat) (h : R64 a b c d e f) : shB6 a b c d e f = true := by
  obtain ⟨ha, hb, hc, hd, he, hf⟩ := h
  simp only [shB6, Bool.and_eq_true, inB_iff]; omega
theorem R64_and {a b c d e f a' b' c' d' e' f' : Nat} (h : R64 a b c d e f) : R64 (a &&& a') (b &&& b') (c &&& c') (d &&& d') (e &&& e') (f &&& f') :=
  ⟨row_and_lt _ _ h.1, row_and_lt _ _ h.2.1, row_and_lt _ _ h.2.2.1, row_and_lt _ _ h.2.2.2.1, row_and_lt _ _ h.2.2.2.2.1, row_and_lt _ _ h.2.2.2.2.2⟩
theorem c_sCommonT (a b c d e f a' b' c' d' e' f' : Nat) (p q : Int) (h : R64 a b c d e f) (h' : R64 a' b' c' d' e' f') (hb : shopB a b c d e f a' b' c' d' e' f' p q = true) (K : Cont) (h0 : K (.tup [I (ones 64 (setN (a &&& a') (b &&& b') (c &&& c') (d &&& d') (e &&& e') (f &&& f')) : Nat), Bo true]) []) : ACall Try.prog W0 20 [Sp a b c d e f a' b' c' d' e' f' p q] [] K := by
  refine by20 (Nat.le_of_ble_eq_true rfl) ?_
  repeat' ((conv => whnf); first
    | (refine And.intro rfl ?_)
    | (refine And.intro (by decide +kernel) ?_)
    | (refine And.intro trivial ?_)
    | (refine d_l12Good (h0 := ?_) ..)
    | (refine Exists.intro _ (And.intro (fun τ => callW_fn (d_l12Good (h0 := And.intro rfl rfl) ..)) ?_))
    | (refine d_l2AndN (h := h) (h' := h') (h0 := ?_) ..)
    | (refine Exists.intro _ (And.intro (fun τ => callW_fn (d_l2AndN (h := h) (h' := h') (h0 := And.intro rfl rfl) ..)) ?_))
    | (refine d_l2CountN (h := R64_and h) (h0 := ?_) ..)
    | (refine Exists.intro _ (And.intro (fun τ => callW_fn (d_l2CountN (h := R64_and h) (h0 := And.intro rfl rfl) ..)) ?_))
    | (refine Exists.intro _ (And.intro rfl (And.intro rfl (And.intro (Nat.le_of_ble_eq_true rfl) ?_))))
    | (refine Exists.intro _ (And.intro rfl (And.intro rfl (And.intro rfl (And.intro (Nat.le_of_ble_eq_true rfl) ?_)))))
    | (refine And.intro (Exists.intro _ (And.intro rfl rfl)) ?_)
    | (exact fun hW => absurd hW (by decide +kernel))
    | (intro hW; (try simp only [Bool.not_true, Bool.not_false, Bool.not_eq_true', Bool.not_eq_false', decide_eq_true_eq, decide_eq_false_iff_not, reduceCtorEq, Bool.true_eq_false, Bool.false_eq_true] at hW))
    | (refine And.intro (?_ : _ → _) (?_ : _ → _))
    | (refine FinR.drop 0 (Nat.zero_le _) (Closed.zero _) rfl ?_))
  all_goals first | (with_reducible exact h0) | (exfalso; simp_all; done) | exact h0
theorem d_sCommonT (a b c d e f a' b' c' d' e' f' : Nat) (p q : Int) (h : R64 a b c d e f) (h' : R64 a' b' c' d' e' f') (hb : shopB a b c d e f a' b' c' d' e' f' p q = true) (K : Cont) (h0 : K (.tup [I (ones 64 (setN (a &&& a') (b &&& b') (c &&& c') (d &&& d') (e &&& e') (f &&& f')) : Nat), Bo true]) σ) : ACall Try.prog W0 20 [Sp a b c d e f a' b' c' d' e' f' p q] σ K :=
  ACall.lift rfl (fun _ => rfl) (fun W1 K _ hK => c_sCommonT a b c d e f a' b' c' d' e' f' p q h h' hb K hK) h0
theorem c_sCommonF (a b c d e f a' b' c' d' e' f' p q : Int) (hb : shopB a b c d e f a' b' c' d' e' f' p q = false) (K : Cont) (h0 : K (.tup [I 0, Bo false]) []) : ACall Try.prog W0 20 [Sp a b c d e f a' b' c' d' e' f' p q] [] K := by
  refine by20 (Nat.le_of_ble_eq_true rfl) ?_
  repeat' ((conv => whnf); first
    | (refine And.intro rfl ?_)
    | (refine And.intro (by decide +kernel) ?_)
    | (refine And.intro trivial ?_)
    | (refine d_l12Good (h0 := ?_) ..)
    | (refine Exists.intro _ (And.intro (fun τ => callW_fn (d_l12Good (h0 := And.intro rfl rfl) ..)) ?_))
    | (exfalso; simp_all; done)
    | (refine Exists.intro _ (And.intro rfl (And.intro rfl (And.intro (Nat.le_of_ble_eq_true rfl) ?_))))
    | (refine Exists.intro _ (And.intro rfl (And.intro rfl (And.intro rfl (And.intro (Nat.le_of_ble_eq_true rfl) ?_)))))
    | (refine And.intro (Exists.intro _ (And.intro rfl rfl)) ?_)
    | (exact fun hW => absurd hW (by decide +kernel))
    | (intro hW; (try simp only [Bool.not_true, Bool.not_false, Bool.not_eq_true', Bool.not_eq_false', decide_eq_true_eq, decide_eq_false_iff_not, reduceCtorEq, Bool.true_eq_false, Bool.false_eq_true] at hW))
    | (refine And.intro (?_ : _ → _) (?_ : _ → _))
    | (refine FinR.drop 0 (Nat.zero_le _) (Closed.zero _) rfl ?_))
  all_goals first | (with_reducible exact h0) | (exfalso; simp_all; done) | exact h0
theorem d_sCommonF (a b c d e f a' b' c' d' e' f' p q : Int) (hb : shopB a b c d e f a' b' c' d' e' f' p q = false) (K : Cont) (h0 : K (.tup [I 0, Bo false]) σ) : ACall Try.prog W0 20 [Sp a b c d e f a' b' c' d' e' f' p q] σ K :=
  ACall.lift rfl (fun _ => rfl) (fun W1 K _ hK => c_sCommonF a b c d e f a' b' c' d' e' f' p q hb K hK) h0
end Go.Proofs.Ytjodbhpknbgieaa
