/- Contracts: CommonCells of the program, and its law. -/
import Derived.Test.YtjodbhpknbgieaaC9
set_option linter.unusedVariables false
set_option linter.unusedSimpArgs false
namespace Go.Proofs.Ytjodbhpknbgieaa
open Go Go.RowKit Go.Proofs.Ytjodbhpknbgieaa.Abs
variable {W0 : World} {σ : List Blk}
theorem c_setOfT (a b c d e f : Nat) (h : R64 a b c d e f) (K : Cont) (h0 : K (.tup [U (setN a b c d e f : Nat), Bo true]) []) : ACall Try.prog W0 68 [Sh a b c d e f] [] K := by
  refine c_setOf _ _ _ _ _ _ K ?_
  have e1 := shB6_nat a b c d e f h
  obtain ⟨ha, hb, hc, hd, he, hf⟩ := h
  rw [setR, e1, if_pos rfl, setI_nat a b c d e f ha hb hc hd he hf]
  exact h0
theorem d_setOfT (a b c d e f : Nat) (h : R64 a b c d e f) (K : Cont) (h0 : K (.tup [U (setN a b c d e f : Nat), Bo true]) σ) : ACall Try.prog W0 68 [Sh a b c d e f] σ K :=
  ACall.lift rfl (fun _ => rfl) (fun W1 K _ hK => c_setOfT a b c d e f h K hK) h0
theorem c_twoSetsT (a b c d e f a' b' c' d' e' f' : Nat) (h : R64 a b c d e f) (h' : R64 a' b' c' d' e' f') (K : Cont) (h0 : K (.tup [U (setN a b c d e f : Nat), U (setN a' b' c' d' e' f' : Nat), Bo true]) []) : ACall Try.prog W0 48 [Sh a b c d e f, Sh a' b' c' d' e' f'] [] K := by
  refine by48 (Nat.le_of_ble_eq_true rfl) ?_
  repeat' ((conv => whnf); first
    | (refine And.intro rfl ?_)
    | (refine And.intro (by decide +kernel) ?_)
    | (refine And.intro trivial ?_)
    | (refine d_setOfT (h := h) (h0 := ?_) ..)
    | (refine Exists.intro _ (And.intro (fun τ => callW_fn (d_setOfT (h := h) (h0 := And.intro rfl rfl) ..)) ?_))
    | (refine d_setOfT (h := h') (h0 := ?_) ..)
    | (refine Exists.intro _ (And.intro (fun τ => callW_fn (d_setOfT (h := h') (h0 := And.intro rfl rfl) ..)) ?_))
    | (refine Exists.intro _ (And.intro rfl (And.intro rfl (And.intro (Nat.le_of_ble_eq_true rfl) ?_))))
    | (refine Exists.intro _ (And.intro rfl (And.intro rfl (And.intro rfl (And.intro (Nat.le_of_ble_eq_true rfl) ?_)))))
    | (refine And.intro (Exists.intro _ (And.intro rfl rfl)) ?_)
    | (exact fun hW => absurd hW (by decide +kernel))
    | (intro hW; (try simp only [Bool.not_true, Bool.not_false, Bool.not_eq_true', Bool.not_eq_false', decide_eq_true_eq, decide_eq_false_iff_not, reduceCtorEq, Bool.true_eq_false, Bool.false_eq_true] at hW))
    | (refine And.intro (?_ : _ → _) (?_ : _ → _))
    | (refine FinR.drop 0 (Nat.zero_le _) (Closed.zero _) rfl ?_))
  all_goals exact h0
theorem d_twoSetsT (a b c d e f a' b' c' d' e' f' : Nat) (h : R64 a b c d e f) (h' : R64 a' b' c' d' e' f') (K : Cont) (h0 : K (.tup [U (setN a b c d e f : Nat), U (setN a' b' c' d' e' f' : Nat), Bo true]) σ) : ACall Try.prog W0 48 [Sh a b c d e f, Sh a' b' c' d' e' f'] σ K :=
  ACall.lift rfl (fun _ => rfl) (fun W1 K _ hK => c_twoSetsT a b c d e f a' b' c' d' e' f' h h' K hK) h0
theorem c_sizeN (x : Nat) (hx : x < 18446744073709551616) (K : Cont) (h0 : K (I (ones 64 x : Nat)) []) : ACall Try.prog W0 49 [U x] [] K := by
  refine c_size _ K ?_
  rw [pcI_ones x hx]
  exact h0
theorem d_sizeN (x : Nat) (hx : x < 18446744073709551616) (K : Cont) (h0 : K (I (ones 64 x : Nat)) σ) : ACall Try.prog W0 49 [U x] σ K :=
  ACall.lift rfl (fun _ => rfl) (fun W1 K _ hK => c_sizeN x hx K hK) h0
theorem c_CommonT (a b c d e f a' b' c' d' e' f' : Nat) (p q : Int) (h : R64 a b c d e f) (h' : R64 a' b' c' d' e' f') (hb : shopB a b c d e f a' b' c' d' e' f' p q = true) (K : Cont) (h0 : K (.tup [I (ones 64 (setN (a &&& a') (b &&& b') (c &&& c') (d &&& d') (e &&& e') (f &&& f')) : Nat), Bo true]) []) : ACall Try.prog W0 21 [Sp a b c d e f a' b' c' d' e' f' p q] [] K := by
  refine by21 (Nat.le_of_ble_eq_true rfl) ?_
  have l1 := setN_lt a b c d e f h.1 h.2.1 h.2.2.1 h.2.2.2.1 h.2.2.2.2.1 h.2.2.2.2.2
  have l2 := setN_lt a' b' c' d' e' f' h'.1 h'.2.1 h'.2.2.1 h'.2.2.2.1 h'.2.2.2.2.1 h'.2.2.2.2.2
  have e1 : bAnd .u64 (setN a b c d e f : Nat) (setN a' b' c' d' e' f' : Nat) = ((setN (a &&& a') (b &&& b') (c &&& c') (d &&& d') (e &&& e') (f &&& f') : Nat) : Int) := by
    rw [bAnd_u64 _ _ (by omega) (by omega), and_setN _ _ _ _ _ _ _ _ _ _ _ _ h.1 h.2.1 h.2.2.1 h.2.2.2.1 h.2.2.2.2.1 h'.1 h'.2.1 h'.2.2.1 h'.2.2.2.1 h'.2.2.2.2.1]
  have l3 := R64_and (a' := a') (b' := b') (c' := c') (d' := d') (e' := e') (f' := f') h
  have l4 := setN_lt _ _ _ _ _ _ l3.1 l3.2.1 l3.2.2.1 l3.2.2.2.1 l3.2.2.2.2.1 l3.2.2.2.2.2
  repeat' ((conv => whnf); first
    | (refine And.intro rfl ?_)
    | (refine And.intro (by decide +kernel) ?_)
    | (refine And.intro trivial ?_)
    | (refine d_IsShop (h0 := ?_) ..)
    | (refine Exists.intro _ (And.intro (fun τ => callW_fn (d_IsShop (h0 := And.intro rfl rfl) ..)) ?_))
    | (refine d_twoSetsT (h := h) (h' := h') (h0 := ?_) ..)
    | (refine Exists.intro _ (And.intro (fun τ => callW_fn (d_twoSetsT (h := h) (h' := h') (h0 := And.intro rfl rfl) ..)) ?_))
    | (rw [e1]; refine d_sizeN (h0 := ?_) (hx := by omega) ..)
    | (refine Exists.intro _ (And.intro rfl (And.intro rfl (And.intro (Nat.le_of_ble_eq_true rfl) ?_))))
    | (refine Exists.intro _ (And.intro rfl (And.intro rfl (And.intro rfl (And.intro (Nat.le_of_ble_eq_true rfl) ?_)))))
    | (refine And.intro (Exists.intro _ (And.intro rfl rfl)) ?_)
    | (exact fun hW => absurd hW (by decide +kernel))
    | (intro hW; (try simp only [Bool.not_true, Bool.not_false, Bool.not_eq_true', Bool.not_eq_false', decide_eq_true_eq, decide_eq_false_iff_not, reduceCtorEq, Bool.true_eq_false, Bool.false_eq_true] at hW))
    | (refine And.intro (?_ : _ → _) (?_ : _ → _))
    | (refine FinR.drop 0 (Nat.zero_le _) (Closed.zero _) rfl ?_))
  all_goals first | (with_reducible exact h0) | (exfalso; simp_all; done) | exact h0
theorem d_CommonT (a b c d e f a' b' c' d' e' f' : Nat) (p q : Int) (h : R64 a b c d e f) (h' : R64 a' b' c' d' e' f') (hb : shopB a b c d e f a' b' c' d' e' f' p q = true) (K : Cont) (h0 : K (.tup [I (ones 64 (setN (a &&& a') (b &&& b') (c &&& c') (d &&& d') (e &&& e') (f &&& f')) : Nat), Bo true]) σ) : ACall Try.prog W0 21 [Sp a b c d e f a' b' c' d' e' f' p q] σ K :=
  ACall.lift rfl (fun _ => rfl) (fun W1 K _ hK => c_CommonT a b c d e f a' b' c' d' e' f' p q h h' hb K hK) h0
theorem c_CommonF (a b c d e f a' b' c' d' e' f' p q : Int) (hb : shopB a b c d e f a' b' c' d' e' f' p q = false) (K : Cont) (h0 : K (.tup [I 0, Bo false]) []) : ACall Try.prog W0 21 [Sp a b c d e f a' b' c' d' e' f' p q] [] K := by
  refine by21 (Nat.le_of_ble_eq_true rfl) ?_
  repeat' ((conv => whnf); first
    | (refine And.intro rfl ?_)
    | (refine And.intro (by decide +kernel) ?_)
    | (refine And.intro trivial ?_)
    | (refine d_IsShop (h0 := ?_) ..)
    | (refine Exists.intro _ (And.intro (fun τ => callW_fn (d_IsShop (h0 := And.intro rfl rfl) ..)) ?_))
    | (exfalso; simp_all; done)
    | (refine Exists.intro _ (And.intro rfl (And.intro rfl (And.intro (Nat.le_of_ble_eq_true rfl) ?_))))
    | (refine Exists.intro _ (And.intro rfl (And.intro rfl (And.intro rfl (And.intro (Nat.le_of_ble_eq_true rfl) ?_)))))
    | (refine And.intro (Exists.intro _ (And.intro rfl rfl)) ?_)
    | (exact fun hW => absurd hW (by decide +kernel))
    | (intro hW; (try simp only [Bool.not_true, Bool.not_false, Bool.not_eq_true', Bool.not_eq_false', decide_eq_true_eq, decide_eq_false_iff_not, reduceCtorEq, Bool.true_eq_false, Bool.false_eq_true] at hW))
    | (refine And.intro (?_ : _ → _) (?_ : _ → _))
    | (refine FinR.drop 0 (Nat.zero_le _) (Closed.zero _) rfl ?_))
  all_goals first | (with_reducible exact h0) | (exfalso; simp_all; done) | exact h0
theorem d_CommonF (a b c d e f a' b' c' d' e' f' p q : Int) (hb : shopB a b c d e f a' b' c' d' e' f' p q = false) (K : Cont) (h0 : K (.tup [I 0, Bo false]) σ) : ACall Try.prog W0 21 [Sp a b c d e f a' b' c' d' e' f' p q] σ K :=
  ACall.lift rfl (fun _ => rfl) (fun W1 K _ hK => c_CommonF a b c d e f a' b' c' d' e' f' p q hb K hK) h0
theorem c_law_CommonCells (a b c d e f a' b' c' d' e' f' p q : Int) (K : Cont) (h0 : K (Bo true) []) : ACall Try.prog W0 6 [Sp a b c d e f a' b' c' d' e' f' p q] [] K := by
  refine by6 (Nat.le_of_ble_eq_true rfl) ?_
  cases hb : shopB a b c d e f a' b' c' d' e' f' p q with
  | true =>
    have hb2 := hb
    simp only [shopB, Bool.and_eq_true] at hb2
    obtain ⟨a0, b0, c0, d0, e0, f0, rfl, rfl, rfl, rfl, rfl, rfl, ha⟩ := rows_of a b c d e f hb2.1.1.1
    obtain ⟨a1, b1, c1, d1, e1, f1, rfl, rfl, rfl, rfl, rfl, rfl, ha'⟩ := rows_of a' b' c' d' e' f' hb2.1.1.2
    repeat' ((conv => whnf); first
      | (refine And.intro rfl ?_)
      | (refine And.intro (by decide +kernel) ?_)
      | (refine And.intro trivial ?_)
      | (refine d_toShop (h0 := ?_) ..)
      | (refine Exists.intro _ (And.intro (fun τ => callW_fn (d_toShop (h0 := And.intro rfl rfl) ..)) ?_))
      | (refine d_sCommonT (h := ha) (h' := ha') (hb := hb) (h0 := ?_) ..)
      | (refine Exists.intro _ (And.intro (fun τ => callW_fn (d_sCommonT (h := ha) (h' := ha') (hb := hb) (h0 := And.intro rfl rfl) ..)) ?_))
      | (refine d_CommonT (h := ha) (h' := ha') (hb := hb) (h0 := ?_) ..)
      | (refine Exists.intro _ (And.intro (fun τ => callW_fn (d_CommonT (h := ha) (h' := ha') (hb := hb) (h0 := And.intro rfl rfl) ..)) ?_))
      | (refine Exists.intro _ (And.intro rfl (And.intro rfl (And.intro (Nat.le_of_ble_eq_true rfl) ?_))))
      | (refine Exists.intro _ (And.intro rfl (And.intro rfl (And.intro rfl (And.intro (Nat.le_of_ble_eq_true rfl) ?_)))))
      | (refine And.intro (Exists.intro _ (And.intro rfl rfl)) ?_)
      | (exact fun hW => absurd hW (by decide +kernel))
      | (intro hW; (try simp only [Bool.not_true, Bool.not_false, Bool.not_eq_true', Bool.not_eq_false', decide_eq_true_eq, decide_eq_false_iff_not, reduceCtorEq, Bool.true_eq_false, Bool.false_eq_true] at hW))
      | (refine And.intro (?_ : _ → _) (?_ : _ → _))
      | (refine FinR.drop 0 (Nat.zero_le _) (Closed.zero _) rfl ?_))
    all_goals first | (with_reducible exact h0) | (exfalso; simp_all; done) | exact h0
  | false =>
    repeat' ((conv => whnf); first
      | (refine And.intro rfl ?_)
      | (refine And.intro (by decide +kernel) ?_)
      | (refine And.intro trivial ?_)
      | (refine d_toShop (h0 := ?_) ..)
      | (refine Exists.intro _ (And.intro (fun τ => callW_fn (d_toShop (h0 := And.intro rfl rfl) ..)) ?_))
      | (refine d_sCommonF (hb := hb) (h0 := ?_) ..)
      | (refine Exists.intro _ (And.intro (fun τ => callW_fn (d_sCommonF (hb := hb) (h0 := And.intro rfl rfl) ..)) ?_))
      | (refine d_CommonF (hb := hb) (h0 := ?_) ..)
      | (refine Exists.intro _ (And.intro (fun τ => callW_fn (d_CommonF (hb := hb) (h0 := And.intro rfl rfl) ..)) ?_))
      | (refine Exists.intro _ (And.intro rfl (And.intro rfl (And.intro (Nat.le_of_ble_eq_true rfl) ?_))))
      | (refine Exists.intro _ (And.intro rfl (And.intro rfl (And.intro rfl (And.intro (Nat.le_of_ble_eq_true rfl) ?_)))))
      | (refine And.intro (Exists.intro _ (And.intro rfl rfl)) ?_)
      | (exact fun hW => absurd hW (by decide +kernel))
      | (intro hW; (try simp only [Bool.not_true, Bool.not_false, Bool.not_eq_true', Bool.not_eq_false', decide_eq_true_eq, decide_eq_false_iff_not, reduceCtorEq, Bool.true_eq_false, Bool.false_eq_true] at hW))
      | (refine And.intro (?_ : _ → _) (?_ : _ → _))
      | (refine FinR.drop 0 (Nat.zero_le _) (Closed.zero _) rfl ?_))
    all_goals first | (with_reducible exact h0) | (exfalso; simp_all; done) | exact h0
end Go.Proofs.Ytjodbhpknbgieaa
