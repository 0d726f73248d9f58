/- Contracts: the laws of new shops and of new consoles. -/
import Derived.Test.YtjodbhpknbgieaaC3
set_option linter.unusedVariables false
set_option linter.unusedSimpArgs false
namespace Go.Proofs.Ytjodbhpknbgieaa
open Go Go.RowKit Go.Proofs.Ytjodbhpknbgieaa.Abs
variable {W0 : World} {σ : List Blk}

theorem c_sNewShopT (a b c d e f a' b' c' d' e' f' : Int) (hb : (shB6 a b c d e f && shB6 a' b' c' d' e' f') = true) (K : Cont) (h0 : K (.tup [Sp a b c d e f a' b' c' d' e' f' 0 0, Bo true]) []) : ACall Try.prog W0 13 [Sh a b c d e f, Sh a' b' c' d' e' f'] [] K := by
  refine c_sNewShop _ _ _ _ _ _ _ _ _ _ _ _ K ?_
  rw [newShopR, hb]; exact h0
theorem d_sNewShopT (a b c d e f a' b' c' d' e' f' : Int) (hb : (shB6 a b c d e f && shB6 a' b' c' d' e' f') = true) (K : Cont) (h0 : K (.tup [Sp a b c d e f a' b' c' d' e' f' 0 0, Bo true]) σ) : ACall Try.prog W0 13 [Sh a b c d e f, Sh a' b' c' d' e' f'] σ K :=
  ACall.lift rfl (fun _ => rfl) (fun W1 K _ hK => c_sNewShopT a b c d e f a' b' c' d' e' f' hb K hK) h0
theorem c_sNewShopF (a b c d e f a' b' c' d' e' f' : Int) (hb : (shB6 a b c d e f && shB6 a' b' c' d' e' f') = false) (K : Cont) (h0 : K (.tup [Sp 0 0 0 0 0 0 0 0 0 0 0 0 0 0, Bo false]) []) : ACall Try.prog W0 13 [Sh a b c d e f, Sh a' b' c' d' e' f'] [] K := by
  refine c_sNewShop _ _ _ _ _ _ _ _ _ _ _ _ K ?_
  rw [newShopR, hb]; exact h0
theorem d_sNewShopF (a b c d e f a' b' c' d' e' f' : Int) (hb : (shB6 a b c d e f && shB6 a' b' c' d' e' f') = false) (K : Cont) (h0 : K (.tup [Sp 0 0 0 0 0 0 0 0 0 0 0 0 0 0, Bo false]) σ) : ACall Try.prog W0 13 [Sh a b c d e f, Sh a' b' c' d' e' f'] σ K :=
  ACall.lift rfl (fun _ => rfl) (fun W1 K _ hK => c_sNewShopF a b c d e f a' b' c' d' e' f' hb K hK) h0
theorem c_NewShopT (a b c d e f a' b' c' d' e' f' : Int) (hb : (shB6 a b c d e f && shB6 a' b' c' d' e' f') = true) (K : Cont) (h0 : K (.tup [Sp a b c d e f a' b' c' d' e' f' 0 0, Bo true]) []) : ACall Try.prog W0 15 [Sh a b c d e f, Sh a' b' c' d' e' f'] [] K := by
  refine c_NewShop _ _ _ _ _ _ _ _ _ _ _ _ K ?_
  rw [newShopR, hb]; exact h0
theorem d_NewShopT (a b c d e f a' b' c' d' e' f' : Int) (hb : (shB6 a b c d e f && shB6 a' b' c' d' e' f') = true) (K : Cont) (h0 : K (.tup [Sp a b c d e f a' b' c' d' e' f' 0 0, Bo true]) σ) : ACall Try.prog W0 15 [Sh a b c d e f, Sh a' b' c' d' e' f'] σ K :=
  ACall.lift rfl (fun _ => rfl) (fun W1 K _ hK => c_NewShopT a b c d e f a' b' c' d' e' f' hb K hK) h0
theorem c_NewShopF (a b c d e f a' b' c' d' e' f' : Int) (hb : (shB6 a b c d e f && shB6 a' b' c' d' e' f') = false) (K : Cont) (h0 : K (.tup [Sp 0 0 0 0 0 0 0 0 0 0 0 0 0 0, Bo false]) []) : ACall Try.prog W0 15 [Sh a b c d e f, Sh a' b' c' d' e' f'] [] K := by
  refine c_NewShop _ _ _ _ _ _ _ _ _ _ _ _ K ?_
  rw [newShopR, hb]; exact h0
theorem d_NewShopF (a b c d e f a' b' c' d' e' f' : Int) (hb : (shB6 a b c d e f && shB6 a' b' c' d' e' f') = false) (K : Cont) (h0 : K (.tup [Sp 0 0 0 0 0 0 0 0 0 0 0 0 0 0, Bo false]) σ) : ACall Try.prog W0 15 [Sh a b c d e f, Sh a' b' c' d' e' f'] σ K :=
  ACall.lift rfl (fun _ => rfl) (fun W1 K _ hK => c_NewShopF a b c d e f a' b' c' d' e' f' hb K hK) h0
theorem c_law_NewShop (a b c d e f a' b' c' d' e' f' : Int) (K : Cont) (h0 : K (Bo true) []) : ACall Try.prog W0 4 [Sh a b c d e f, Sh a' b' c' d' e' f'] [] K := by
  refine by4 (Nat.le_of_ble_eq_true rfl) ?_
  cases hb : (shB6 a b c d e f && shB6 a' b' c' d' e' f') with
  | true =>
    repeat' ((conv => whnf); first
      | (refine And.intro rfl ?_)
      | (refine And.intro (by decide +kernel) ?_)
      | (refine And.intro trivial ?_)
      | (refine d_toSheet (h0 := ?_) ..)
      | (refine Exists.intro _ (And.intro (fun τ => callW_fn (d_toSheet (h0 := And.intro rfl rfl) ..)) ?_))
      | (refine d_sNewShopT (hb := hb) (h0 := ?_) ..)
      | (refine Exists.intro _ (And.intro (fun τ => callW_fn (d_sNewShopT (hb := hb) (h0 := And.intro rfl rfl) ..)) ?_))
      | (refine d_NewShopT (hb := hb) (h0 := ?_) ..)
      | (refine Exists.intro _ (And.intro (fun τ => callW_fn (d_NewShopT (hb := hb) (h0 := And.intro rfl rfl) ..)) ?_))
      | (refine d_eqShop (h0 := ?_) ..)
      | (refine Exists.intro _ (And.intro (fun τ => callW_fn (d_eqShop (h0 := And.intro rfl rfl) ..)) ?_))
      | (refine Exists.intro _ (And.intro rfl (And.intro rfl (And.intro (Nat.le_of_ble_eq_true rfl) ?_))))
      | (refine Exists.intro _ (And.intro rfl (And.intro rfl (And.intro rfl (And.intro (Nat.le_of_ble_eq_true rfl) ?_)))))
      | (refine And.intro (Exists.intro _ (And.intro rfl rfl)) ?_)
      | (exact fun hW => absurd hW (by decide +kernel))
      | (intro hW; (try simp only [Bool.not_true, Bool.not_false, Bool.not_eq_true', Bool.not_eq_false', decide_eq_true_eq, decide_eq_false_iff_not, reduceCtorEq, Bool.true_eq_false, Bool.false_eq_true] at hW))
      | (refine And.intro (?_ : _ → _) (?_ : _ → _))
      | (refine FinR.drop 0 (Nat.zero_le _) (Closed.zero _) rfl ?_))
    all_goals first | exact h0 | (refine Eq.mp (congrArg (fun v => K v []) ?_) h0; clear h0; simp_all <;> omega)
  | false =>
    repeat' ((conv => whnf); first
      | (refine And.intro rfl ?_)
      | (refine And.intro (by decide +kernel) ?_)
      | (refine And.intro trivial ?_)
      | (refine d_toSheet (h0 := ?_) ..)
      | (refine Exists.intro _ (And.intro (fun τ => callW_fn (d_toSheet (h0 := And.intro rfl rfl) ..)) ?_))
      | (refine d_sNewShopF (hb := hb) (h0 := ?_) ..)
      | (refine Exists.intro _ (And.intro (fun τ => callW_fn (d_sNewShopF (hb := hb) (h0 := And.intro rfl rfl) ..)) ?_))
      | (refine d_NewShopF (hb := hb) (h0 := ?_) ..)
      | (refine Exists.intro _ (And.intro (fun τ => callW_fn (d_NewShopF (hb := hb) (h0 := And.intro rfl rfl) ..)) ?_))
      | (refine d_eqShop (h0 := ?_) ..)
      | (refine Exists.intro _ (And.intro (fun τ => callW_fn (d_eqShop (h0 := And.intro rfl rfl) ..)) ?_))
      | (refine Exists.intro _ (And.intro rfl (And.intro rfl (And.intro (Nat.le_of_ble_eq_true rfl) ?_))))
      | (refine Exists.intro _ (And.intro rfl (And.intro rfl (And.intro rfl (And.intro (Nat.le_of_ble_eq_true rfl) ?_)))))
      | (refine And.intro (Exists.intro _ (And.intro rfl rfl)) ?_)
      | (exact fun hW => absurd hW (by decide +kernel))
      | (intro hW; (try simp only [Bool.not_true, Bool.not_false, Bool.not_eq_true', Bool.not_eq_false', decide_eq_true_eq, decide_eq_false_iff_not, reduceCtorEq, Bool.true_eq_false, Bool.false_eq_true] at hW))
      | (refine And.intro (?_ : _ → _) (?_ : _ → _))
      | (refine FinR.drop 0 (Nat.zero_le _) (Closed.zero _) rfl ?_))
    all_goals first | exact h0 | (refine Eq.mp (congrArg (fun v => K v []) ?_) h0; clear h0; simp_all <;> omega)

abbrev St (s : ByteArray) : AV := .lit (.string s)
abbrev Co (a b c d e f a' b' c' d' e' f' p q : Int) (s t : ByteArray) (n : Int) : AV := .agg [I a, I b, I c, I d, I e, I f, I a', I b', I c', I d', I e', I f', I p, I q, St s, St t, I n]
theorem c_eqLog (s t : ByteArray) (n : Int) (K : Cont) (h0 : K (Bo true) []) : ACall Try.prog W0 45 [.agg [St s, St t, I n], .agg [St s, St t, I n]] [] K := by
  refine by45 (Nat.le_of_ble_eq_true rfl) ?_
  repeat' ((conv => whnf); first
    | (refine And.intro rfl ?_)
    | (refine And.intro (by decide +kernel) ?_)
    | (refine And.intro trivial ?_)
    | (refine Exists.intro _ (And.intro rfl (And.intro rfl (And.intro (Nat.le_of_ble_eq_true rfl) ?_))))
    | (refine Exists.intro _ (And.intro rfl (And.intro rfl (And.intro rfl (And.intro (Nat.le_of_ble_eq_true rfl) ?_)))))
    | (refine And.intro (Exists.intro _ (And.intro rfl rfl)) ?_)
    | (exact fun hW => absurd hW (by decide +kernel))
    | (intro hW; (try simp only [Bool.not_true, Bool.not_false, Bool.not_eq_true', Bool.not_eq_false', decide_eq_true_eq, decide_eq_false_iff_not, reduceCtorEq, Bool.true_eq_false, Bool.false_eq_true] at hW))
    | (refine And.intro (?_ : _ → _) (?_ : _ → _))
    | (refine FinR.drop 0 (Nat.zero_le _) (Closed.zero _) rfl ?_))
  all_goals first | exact h0 | (exfalso; simp_all)
theorem d_eqLog (s t : ByteArray) (n : Int) (K : Cont) (h0 : K (Bo true) σ) : ACall Try.prog W0 45 [.agg [St s, St t, I n], .agg [St s, St t, I n]] σ K :=
  ACall.lift rfl (fun _ => rfl) (fun W1 K _ hK => c_eqLog s t n K hK) h0
theorem c_eqConsole (a b c d e f a' b' c' d' e' f' p q : Int) (s t : ByteArray) (n : Int) (K : Cont) (h0 : K (Bo true) []) : ACall Try.prog W0 19 [Co a b c d e f a' b' c' d' e' f' p q s t n, Co a b c d e f a' b' c' d' e' f' p q s t n] [] K := by
  refine by19 (Nat.le_of_ble_eq_true rfl) ?_
  repeat' ((conv => whnf); first
    | (refine And.intro rfl ?_)
    | (refine And.intro (by decide +kernel) ?_)
    | (refine And.intro trivial ?_)
    | (refine d_eqShop (h0 := ?_) ..)
    | (refine Exists.intro _ (And.intro (fun τ => callW_fn (d_eqShop (h0 := And.intro rfl rfl) ..)) ?_))
    | (refine d_eqLog (h0 := ?_) ..)
    | (refine Exists.intro _ (And.intro (fun τ => callW_fn (d_eqLog (h0 := And.intro rfl rfl) ..)) ?_))
    | (refine Exists.intro _ (And.intro rfl (And.intro rfl (And.intro (Nat.le_of_ble_eq_true rfl) ?_))))
    | (refine Exists.intro _ (And.intro rfl (And.intro rfl (And.intro rfl (And.intro (Nat.le_of_ble_eq_true rfl) ?_)))))
    | (refine And.intro (Exists.intro _ (And.intro rfl rfl)) ?_)
    | (exact fun hW => absurd hW (by decide +kernel))
    | (intro hW; (try simp only [Bool.not_true, Bool.not_false, Bool.not_eq_true', Bool.not_eq_false', decide_eq_true_eq, decide_eq_false_iff_not, reduceCtorEq, Bool.true_eq_false, Bool.false_eq_true] at hW))
    | (refine And.intro (?_ : _ → _) (?_ : _ → _))
    | (refine FinR.drop 0 (Nat.zero_le _) (Closed.zero _) rfl ?_))
  all_goals first | exact h0 | (refine Eq.mp (congrArg (fun v => K v []) ?_) h0; clear h0; simp_all <;> omega)
theorem d_eqConsole (a b c d e f a' b' c' d' e' f' p q : Int) (s t : ByteArray) (n : Int) (K : Cont) (h0 : K (Bo true) σ) : ACall Try.prog W0 19 [Co a b c d e f a' b' c' d' e' f' p q s t n, Co a b c d e f a' b' c' d' e' f' p q s t n] σ K :=
  ACall.lift rfl (fun _ => rfl) (fun W1 K _ hK => c_eqConsole a b c d e f a' b' c' d' e' f' p q s t n K hK) h0
theorem c_sNewConsoleT (a b c d e f a' b' c' d' e' f' p q : Int) (hb : shopB a b c d e f a' b' c' d' e' f' p q = true) (K : Cont) (h0 : K (.tup [Co a b c d e f a' b' c' d' e' f' p q ⟨#[]⟩ ⟨#[]⟩ 0, Bo true]) []) : ACall Try.prog W0 17 [Sp a b c d e f a' b' c' d' e' f' p q] [] K := by
  refine by17 (Nat.le_of_ble_eq_true rfl) ?_
  repeat' ((conv => whnf); first
    | (refine And.intro rfl ?_)
    | (refine And.intro (by decide +kernel) ?_)
    | (refine And.intro trivial ?_)
    | (refine d_l12Good (h0 := ?_) ..)
    | (refine Exists.intro _ (And.intro (fun τ => callW_fn (d_l12Good (h0 := And.intro rfl rfl) ..)) ?_))
    | (refine Exists.intro _ (And.intro rfl (And.intro rfl (And.intro (Nat.le_of_ble_eq_true rfl) ?_))))
    | (refine Exists.intro _ (And.intro rfl (And.intro rfl (And.intro rfl (And.intro (Nat.le_of_ble_eq_true rfl) ?_)))))
    | (refine And.intro (Exists.intro _ (And.intro rfl rfl)) ?_)
    | (exact fun hW => absurd hW (by decide +kernel))
    | (intro hW; (try simp only [Bool.not_true, Bool.not_false, Bool.not_eq_true', Bool.not_eq_false', decide_eq_true_eq, decide_eq_false_iff_not, reduceCtorEq, Bool.true_eq_false, Bool.false_eq_true] at hW))
    | (refine And.intro (?_ : _ → _) (?_ : _ → _))
    | (refine FinR.drop 0 (Nat.zero_le _) (Closed.zero _) rfl ?_))
  all_goals first | exact h0 | (refine Eq.mp (congrArg (fun v => K v []) ?_) h0; clear h0; simp_all <;> omega)
theorem d_sNewConsoleT (a b c d e f a' b' c' d' e' f' p q : Int) (hb : shopB a b c d e f a' b' c' d' e' f' p q = true) (K : Cont) (h0 : K (.tup [Co a b c d e f a' b' c' d' e' f' p q ⟨#[]⟩ ⟨#[]⟩ 0, Bo true]) σ) : ACall Try.prog W0 17 [Sp a b c d e f a' b' c' d' e' f' p q] σ K :=
  ACall.lift rfl (fun _ => rfl) (fun W1 K _ hK => c_sNewConsoleT a b c d e f a' b' c' d' e' f' p q hb K hK) h0
theorem c_sNewConsoleF (a b c d e f a' b' c' d' e' f' p q : Int) (hb : shopB a b c d e f a' b' c' d' e' f' p q = false) (K : Cont) (h0 : K (.tup [Co 0 0 0 0 0 0 0 0 0 0 0 0 0 0 ⟨#[]⟩ ⟨#[]⟩ 0, Bo false]) []) : ACall Try.prog W0 17 [Sp a b c d e f a' b' c' d' e' f' p q] [] K := by
  refine by17 (Nat.le_of_ble_eq_true rfl) ?_
  repeat' ((conv => whnf); first
    | (refine And.intro rfl ?_)
    | (refine And.intro (by decide +kernel) ?_)
    | (refine And.intro trivial ?_)
    | (refine d_l12Good (h0 := ?_) ..)
    | (refine Exists.intro _ (And.intro (fun τ => callW_fn (d_l12Good (h0 := And.intro rfl rfl) ..)) ?_))
    | (refine Exists.intro _ (And.intro rfl (And.intro rfl (And.intro (Nat.le_of_ble_eq_true rfl) ?_))))
    | (refine Exists.intro _ (And.intro rfl (And.intro rfl (And.intro rfl (And.intro (Nat.le_of_ble_eq_true rfl) ?_)))))
    | (refine And.intro (Exists.intro _ (And.intro rfl rfl)) ?_)
    | (exact fun hW => absurd hW (by decide +kernel))
    | (intro hW; (try simp only [Bool.not_true, Bool.not_false, Bool.not_eq_true', Bool.not_eq_false', decide_eq_true_eq, decide_eq_false_iff_not, reduceCtorEq, Bool.true_eq_false, Bool.false_eq_true] at hW))
    | (refine And.intro (?_ : _ → _) (?_ : _ → _))
    | (refine FinR.drop 0 (Nat.zero_le _) (Closed.zero _) rfl ?_))
  all_goals first | exact h0 | (refine Eq.mp (congrArg (fun v => K v []) ?_) h0; clear h0; simp_all <;> omega)
theorem d_sNewConsoleF (a b c d e f a' b' c' d' e' f' p q : Int) (hb : shopB a b c d e f a' b' c' d' e' f' p q = false) (K : Cont) (h0 : K (.tup [Co 0 0 0 0 0 0 0 0 0 0 0 0 0 0 ⟨#[]⟩ ⟨#[]⟩ 0, Bo false]) σ) : ACall Try.prog W0 17 [Sp a b c d e f a' b' c' d' e' f' p q] σ K :=
  ACall.lift rfl (fun _ => rfl) (fun W1 K _ hK => c_sNewConsoleF a b c d e f a' b' c' d' e' f' p q hb K hK) h0
theorem c_NewConsoleT (a b c d e f a' b' c' d' e' f' p q : Int) (hb : shopB a b c d e f a' b' c' d' e' f' p q = true) (K : Cont) (h0 : K (.tup [Co a b c d e f a' b' c' d' e' f' p q ⟨#[]⟩ ⟨#[]⟩ 0, Bo true]) []) : ACall Try.prog W0 18 [Sp a b c d e f a' b' c' d' e' f' p q] [] K := by
  refine by18 (Nat.le_of_ble_eq_true rfl) ?_
  repeat' ((conv => whnf); first
    | (refine And.intro rfl ?_)
    | (refine And.intro (by decide +kernel) ?_)
    | (refine And.intro trivial ?_)
    | (refine d_IsShop (h0 := ?_) ..)
    | (refine Exists.intro _ (And.intro (fun τ => callW_fn (d_IsShop (h0 := And.intro rfl rfl) ..)) ?_))
    | (refine Exists.intro _ (And.intro rfl (And.intro rfl (And.intro (Nat.le_of_ble_eq_true rfl) ?_))))
    | (refine Exists.intro _ (And.intro rfl (And.intro rfl (And.intro rfl (And.intro (Nat.le_of_ble_eq_true rfl) ?_)))))
    | (refine And.intro (Exists.intro _ (And.intro rfl rfl)) ?_)
    | (exact fun hW => absurd hW (by decide +kernel))
    | (intro hW; (try simp only [Bool.not_true, Bool.not_false, Bool.not_eq_true', Bool.not_eq_false', decide_eq_true_eq, decide_eq_false_iff_not, reduceCtorEq, Bool.true_eq_false, Bool.false_eq_true] at hW))
    | (refine And.intro (?_ : _ → _) (?_ : _ → _))
    | (refine FinR.drop 0 (Nat.zero_le _) (Closed.zero _) rfl ?_))
  all_goals first | exact h0 | (refine Eq.mp (congrArg (fun v => K v []) ?_) h0; clear h0; simp_all <;> omega)
theorem d_NewConsoleT (a b c d e f a' b' c' d' e' f' p q : Int) (hb : shopB a b c d e f a' b' c' d' e' f' p q = true) (K : Cont) (h0 : K (.tup [Co a b c d e f a' b' c' d' e' f' p q ⟨#[]⟩ ⟨#[]⟩ 0, Bo true]) σ) : ACall Try.prog W0 18 [Sp a b c d e f a' b' c' d' e' f' p q] σ K :=
  ACall.lift rfl (fun _ => rfl) (fun W1 K _ hK => c_NewConsoleT a b c d e f a' b' c' d' e' f' p q hb K hK) h0
theorem c_NewConsoleF (a b c d e f a' b' c' d' e' f' p q : Int) (hb : shopB a b c d e f a' b' c' d' e' f' p q = false) (K : Cont) (h0 : K (.tup [Co 0 0 0 0 0 0 0 0 0 0 0 0 0 0 ⟨#[]⟩ ⟨#[]⟩ 0, Bo false]) []) : ACall Try.prog W0 18 [Sp a b c d e f a' b' c' d' e' f' p q] [] K := by
  refine by18 (Nat.le_of_ble_eq_true rfl) ?_
  repeat' ((conv => whnf); first
    | (refine And.intro rfl ?_)
    | (refine And.intro (by decide +kernel) ?_)
    | (refine And.intro trivial ?_)
    | (refine d_IsShop (h0 := ?_) ..)
    | (refine Exists.intro _ (And.intro (fun τ => callW_fn (d_IsShop (h0 := And.intro rfl rfl) ..)) ?_))
    | (refine Exists.intro _ (And.intro rfl (And.intro rfl (And.intro (Nat.le_of_ble_eq_true rfl) ?_))))
    | (refine Exists.intro _ (And.intro rfl (And.intro rfl (And.intro rfl (And.intro (Nat.le_of_ble_eq_true rfl) ?_)))))
    | (refine And.intro (Exists.intro _ (And.intro rfl rfl)) ?_)
    | (exact fun hW => absurd hW (by decide +kernel))
    | (intro hW; (try simp only [Bool.not_true, Bool.not_false, Bool.not_eq_true', Bool.not_eq_false', decide_eq_true_eq, decide_eq_false_iff_not, reduceCtorEq, Bool.true_eq_false, Bool.false_eq_true] at hW))
    | (refine And.intro (?_ : _ → _) (?_ : _ → _))
    | (refine FinR.drop 0 (Nat.zero_le _) (Closed.zero _) rfl ?_))
  all_goals first | exact h0 | (refine Eq.mp (congrArg (fun v => K v []) ?_) h0; clear h0; simp_all <;> omega)
theorem d_NewConsoleF (a b c d e f a' b' c' d' e' f' p q : Int) (hb : shopB a b c d e f a' b' c' d' e' f' p q = false) (K : Cont) (h0 : K (.tup [Co 0 0 0 0 0 0 0 0 0 0 0 0 0 0 ⟨#[]⟩ ⟨#[]⟩ 0, Bo false]) σ) : ACall Try.prog W0 18 [Sp a b c d e f a' b' c' d' e' f' p q] σ K :=
  ACall.lift rfl (fun _ => rfl) (fun W1 K _ hK => c_NewConsoleF a b c d e f a' b' c' d' e' f' p q hb K hK) h0
theorem c_law_NewConsole (a b c d e f a' b' c' d' e' f' p q : Int) (K : Cont) (h0 : K (Bo true) []) : ACall Try.prog W0 5 [Sp a b c d e f a' b' c' d' e' f' p q] [] K := by
  refine by5 (Nat.le_of_ble_eq_true rfl) ?_
  cases hb : shopB a b c d e f a' b' c' d' e' f' p q with
  | true =>
    repeat' ((conv => whnf); first
      | (refine And.intro rfl ?_)
      | (refine And.intro (by decide +kernel) ?_)
      | (refine And.intro trivial ?_)
      | (refine d_toShop (h0 := ?_) ..)
      | (refine Exists.intro _ (And.intro (fun τ => callW_fn (d_toShop (h0 := And.intro rfl rfl) ..)) ?_))
      | (refine d_sNewConsoleT (hb := hb) (h0 := ?_) ..)
      | (refine Exists.intro _ (And.intro (fun τ => callW_fn (d_sNewConsoleT (hb := hb) (h0 := And.intro rfl rfl) ..)) ?_))
      | (refine d_NewConsoleT (hb := hb) (h0 := ?_) ..)
      | (refine Exists.intro _ (And.intro (fun τ => callW_fn (d_NewConsoleT (hb := hb) (h0 := And.intro rfl rfl) ..)) ?_))
      | (refine d_eqConsole (h0 := ?_) ..)
      | (refine Exists.intro _ (And.intro (fun τ => callW_fn (d_eqConsole (h0 := And.intro rfl rfl) ..)) ?_))
      | (refine Exists.intro _ (And.intro rfl (And.intro rfl (And.intro (Nat.le_of_ble_eq_true rfl) ?_))))
      | (refine Exists.intro _ (And.intro rfl (And.intro rfl (And.intro rfl (And.intro (Nat.le_of_ble_eq_true rfl) ?_)))))
      | (refine And.intro (Exists.intro _ (And.intro rfl rfl)) ?_)
      | (exact fun hW => absurd hW (by decide +kernel))
      | (intro hW; (try simp only [Bool.not_true, Bool.not_false, Bool.not_eq_true', Bool.not_eq_false', decide_eq_true_eq, decide_eq_false_iff_not, reduceCtorEq, Bool.true_eq_false, Bool.false_eq_true] at hW))
      | (refine And.intro (?_ : _ → _) (?_ : _ → _))
      | (refine FinR.drop 0 (Nat.zero_le _) (Closed.zero _) rfl ?_))
    all_goals first | exact h0 | (refine Eq.mp (congrArg (fun v => K v []) ?_) h0; clear h0; simp_all <;> omega)
  | false =>
    repeat' ((conv => whnf); first
      | (refine And.intro rfl ?_)
      | (refine And.intro (by decide +kernel) ?_)
      | (refine And.intro trivial ?_)
      | (refine d_toShop (h0 := ?_) ..)
      | (refine Exists.intro _ (And.intro (fun τ => callW_fn (d_toShop (h0 := And.intro rfl rfl) ..)) ?_))
      | (refine d_sNewConsoleF (hb := hb) (h0 := ?_) ..)
      | (refine Exists.intro _ (And.intro (fun τ => callW_fn (d_sNewConsoleF (hb := hb) (h0 := And.intro rfl rfl) ..)) ?_))
      | (refine d_NewConsoleF (hb := hb) (h0 := ?_) ..)
      | (refine Exists.intro _ (And.intro (fun τ => callW_fn (d_NewConsoleF (hb := hb) (h0 := And.intro rfl rfl) ..)) ?_))
      | (refine d_eqConsole (h0 := ?_) ..)
      | (refine Exists.intro _ (And.intro (fun τ => callW_fn (d_eqConsole (h0 := And.intro rfl rfl) ..)) ?_))
      | (refine Exists.intro _ (And.intro rfl (And.intro rfl (And.intro (Nat.le_of_ble_eq_true rfl) ?_))))
      | (refine Exists.intro _ (And.intro rfl (And.intro rfl (And.intro rfl (And.intro (Nat.le_of_ble_eq_true rfl) ?_)))))
      | (refine And.intro (Exists.intro _ (And.intro rfl rfl)) ?_)
      | (exact fun hW => absurd hW (by decide +kernel))
      | (intro hW; (try simp only [Bool.not_true, Bool.not_false, Bool.not_eq_true', Bool.not_eq_false', decide_eq_true_eq, decide_eq_false_iff_not, reduceCtorEq, Bool.true_eq_false, Bool.false_eq_true] at hW))
      | (refine And.intro (?_ : _ → _) (?_ : _ → _))
      | (refine FinR.drop 0 (Nat.zero_le _) (Closed.zero _) rfl ?_))
    all_goals first | exact h0 | (refine Eq.mp (congrArg (fun v => K v []) ?_) h0; clear h0; simp_all <;> omega)
end Go.Proofs.Ytjodbhpknbgieaa
