/- Contracts: DoJob; the law. -/
import Derived.Test.YthncpkdhcfaflaaM12
set_option linter.unusedVariables false
set_option linter.unusedSimpArgs false
set_option maxRecDepth 100000
set_option maxHeartbeats 4000000
namespace Go.Proofs.Ythncpkdhcfaflaa
open Go Go.RowKit Go.Proofs.Ythncpkdhcfaflaa.Abs
variable {W0 : World} {σ : List Blk}
theorem d_job (n m : Nat) (hn : n < 2 ^ 36) (hm : m < 2 ^ 36) (p q : Int) (hp : 0 ≤ p ∧ p ≤ 1000) (hq : 0 ≤ q ∧ q ≤ 1000) (k a b : Int) (K : Cont) (h1 : ∀ n' m' p' q', jobO n m p q k a b = some (n', m', p', q') → K (.tup [SpN n' m' p' q', Bo true]) σ) (h2 : jobO n m p q k a b = none → ∀ c0 c1 c2 c3 c4 c5 c6 c7 c8 c9 c10 c11 c12 c13, K (.tup [Sp c0 c1 c2 c3 c4 c5 c6 c7 c8 c9 c10 c11 c12 c13, Bo false]) σ) : ACall Try.prog W0 82 [SpN n m p q, Jb k a b] σ K := by
  refine ACall.frame (K0 := fun v σ' => σ' = [] ∧ ((∃ n' m' p' q', jobO n m p q k a b = some (n', m', p', q') ∧ v = .tup [SpN n' m' p' q', Bo true]) ∨ (jobO n m p q k a b = none ∧ ∃ c0 c1 c2 c3 c4 c5 c6 c7 c8 c9 c10 c11 c12 c13, v = .tup [Sp c0 c1 c2 c3 c4 c5 c6 c7 c8 c9 c10 c11 c12 c13, Bo false]))) rfl
    (fun W1 _ => c_job n m hn hm p q hp hq k a b _ (fun n' m' p' q' h => ⟨rfl, .inl ⟨n', m', p', q', h, rfl⟩⟩) (fun h c0 c1 c2 c3 c4 c5 c6 c7 c8 c9 c10 c11 c12 c13 => ⟨rfl, .inr ⟨h, c0, c1, c2, c3, c4, c5, c6, c7, c8, c9, c10, c11, c12, c13, rfl⟩⟩)) ?_
  have e : σ ++ shB σ.length [] = σ := by simp [shB]
  rintro v σ' ⟨rfl, ⟨n', m', p', q', h, rfl⟩ | ⟨h, c0, c1, c2, c3, c4, c5, c6, c7, c8, c9, c10, c11, c12, c13, rfl⟩⟩
  · rw [e]; exact h1 n' m' p' q' h
  · rw [e]; exact h2 h ..
theorem d_jobT (n m n' m' : Nat) (hn : n < 2 ^ 36) (hm : m < 2 ^ 36) (p q p' q' : Int) (hp : 0 ≤ p ∧ p ≤ 1000) (hq : 0 ≤ q ∧ q ≤ 1000) (k a b : Int) (hj : jobO n m p q k a b = some (n', m', p', q')) (K : Cont) (h0 : K (.tup [SpN n' m' p' q', Bo true]) σ) : ACall Try.prog W0 82 [SpN n m p q, Jb k a b] σ K :=
  d_job n m hn hm p q hp hq k a b K (fun a b c d h => by rw [hj] at h; cases h; exact h0) (fun h => by rw [hj] at h; cases h)
theorem c_sDoJobT (n m n' m' : Nat) (hn : n < 2 ^ 36) (hm : m < 2 ^ 36) (p q p' q' : Int) (hp : 0 ≤ p ∧ p ≤ 1000) (hq : 0 ≤ q ∧ q ≤ 1000) (k a b : Int) (hj : jobO n m p q k a b = some (n', m', p', q')) (K : Cont) (h0 : K (.tup [SpN n' m' p' q', Bo true]) []) : ACall Try.prog W0 41 [SpN n m p q, Jb k a b] [] K := by
  exact c_sDoJob n m hn hm p q hp hq k a b K (fun a b c d h => by rw [hj] at h; cases h; exact h0) (fun h => by rw [hj] at h; cases h)
theorem d_sDoJobT (n m n' m' : Nat) (hn : n < 2 ^ 36) (hm : m < 2 ^ 36) (p q p' q' : Int) (hp : 0 ≤ p ∧ p ≤ 1000) (hq : 0 ≤ q ∧ q ≤ 1000) (k a b : Int) (hj : jobO n m p q k a b = some (n', m', p', q')) (K : Cont) (h0 : K (.tup [SpN n' m' p' q', Bo true]) σ) : ACall Try.prog W0 41 [SpN n m p q, Jb k a b] σ K :=
  ACall.lift rfl (fun _ => rfl) (fun W1 K _ hK => c_sDoJobT n m n' m' hn hm p q p' q' hp hq k a b hj K hK) h0
theorem c_sDoJobN (n m : Nat) (hn : n < 2 ^ 36) (hm : m < 2 ^ 36) (p q : Int) (hp : 0 ≤ p ∧ p ≤ 1000) (hq : 0 ≤ q ∧ q ≤ 1000) (k a b : Int) (hj : jobO n m p q k a b = none) (K : Cont) (h0 : K (.tup [Sp0, Bo false]) []) : ACall Try.prog W0 41 [SpN n m p q, Jb k a b] [] K := by
  exact c_sDoJob n m hn hm p q hp hq k a b K (fun a b c d h => by rw [hj] at h; cases h) (fun _ => h0)
theorem d_sDoJobN (n m : Nat) (hn : n < 2 ^ 36) (hm : m < 2 ^ 36) (p q : Int) (hp : 0 ≤ p ∧ p ≤ 1000) (hq : 0 ≤ q ∧ q ≤ 1000) (k a b : Int) (hj : jobO n m p q k a b = none) (K : Cont) (h0 : K (.tup [Sp0, Bo false]) σ) : ACall Try.prog W0 41 [SpN n m p q, Jb k a b] σ K :=
  ACall.lift rfl (fun _ => rfl) (fun W1 K _ hK => c_sDoJobN n m hn hm p q hp hq k a b hj K hK) h0
theorem c_DoJobT (n m n' m' : Nat) (hn : n < 2 ^ 36) (hm : m < 2 ^ 36) (p q p' q' : Int) (hp : 0 ≤ p ∧ p ≤ 1000) (hq : 0 ≤ q ∧ q ≤ 1000) (k a b : Int) (hj : jobO n m p q k a b = some (n', m', p', q')) (K : Cont) (h0 : K (.tup [SpN n' m' p' q', Bo true]) []) : ACall Try.prog W0 44 [SpN n m p q, Jb k a b] [] K := by
  refine by44 (Nat.le_of_ble_eq_true rfl) ?_
  have hg := in1000 hp hq
  repeat' ((conv => whnf); first
    | (refine And.intro rfl ?_)
    | (refine And.intro (by decide +kernel) ?_)
    | (refine And.intro trivial ?_)
    | (refine d_isShopN (h0 := ?_) ..)
    | (refine Exists.intro _ (And.intro (fun τ => callW_fn (d_isShopN (h0 := And.intro rfl rfl) ..)) ?_))
    | (refine Exists.intro _ (And.intro (callW_fn (d_isShopN (h0 := And.intro rfl rfl) ..)) (And.intro trivial ?_)))
    | (refine Exists.intro _ (And.intro (callW_fn (d_isShopN (h0 := And.intro rfl rfl) ..)) ?_))
    | (refine Exists.intro _ (And.intro (fun τ _ => callW_fn (d_isShopN (h0 := And.intro rfl rfl) ..)) ?_))
    | (refine d_jobT (hn := hn) (hm := hm) (hp := hp) (hq := hq) (hj := hj) (h0 := ?_) ..)
    | (refine Exists.intro _ (And.intro rfl (And.intro rfl (And.intro (Nat.le_of_ble_eq_true rfl) ?_))))
    | (refine Exists.intro _ (And.intro rfl (And.intro rfl (And.intro rfl (And.intro (Nat.le_of_ble_eq_true rfl) ?_)))))
    | (refine And.intro (Exists.intro _ (And.intro rfl rfl)) ?_)
    | (exact fun hW => absurd hW (by decide +kernel))
    | (intro hW; (try simp only [Bool.not_true, Bool.not_false, Bool.not_eq_true', Bool.not_eq_false', decide_eq_true_eq, decide_eq_false_iff_not, reduceCtorEq, Bool.true_eq_false, Bool.false_eq_true, mk_size, List.size_toArray, ByteArray.size_append, ByteArray.size_extract, List.length_cons, List.length_nil, ba_get, ba_empty, Int.toNat_natCast] at hW))
    | (refine And.intro (?_ : _ → _) (?_ : _ → _))
    | (refine FinR.drop 0 (Nat.zero_le _) (Closed.zero _) rfl ?_)
    | (refine FinR.keep ?_)
    | (refine And.intro (det3_agg rfl) ?_)
    | (refine fL_mk ?_)
    | (refine And.intro (by (try simp only [mk_size, List.size_toArray, ByteArray.size_append, ByteArray.size_extract, List.length_cons, List.length_nil]); omega) ?_)
    | (refine And.intro (by (try simp only [mk_size, List.size_toArray, ByteArray.size_append, ByteArray.size_extract, List.length_cons, List.length_nil, wrap64_eq]); omega) ?_)
    | fail)
  all_goals first | exact h0 | (exfalso; simp_all; done)
theorem d_DoJobT (n m n' m' : Nat) (hn : n < 2 ^ 36) (hm : m < 2 ^ 36) (p q p' q' : Int) (hp : 0 ≤ p ∧ p ≤ 1000) (hq : 0 ≤ q ∧ q ≤ 1000) (k a b : Int) (hj : jobO n m p q k a b = some (n', m', p', q')) (K : Cont) (h0 : K (.tup [SpN n' m' p' q', Bo true]) σ) : ACall Try.prog W0 44 [SpN n m p q, Jb k a b] σ K :=
  ACall.lift rfl (fun _ => rfl) (fun W1 K _ hK => c_DoJobT n m n' m' hn hm p q p' q' hp hq k a b hj K hK) h0
theorem c_DoJobN (n m : Nat) (hn : n < 2 ^ 36) (hm : m < 2 ^ 36) (p q : Int) (hp : 0 ≤ p ∧ p ≤ 1000) (hq : 0 ≤ q ∧ q ≤ 1000) (k a b : Int) (hj : jobO n m p q k a b = none) (K : Cont) (h0 : K (.tup [Sp0, Bo false]) []) : ACall Try.prog W0 44 [SpN n m p q, Jb k a b] [] K := by
  refine by44 (Nat.le_of_ble_eq_true rfl) ?_
  have hg := in1000 hp hq
  repeat' ((conv => whnf); first
    | (refine And.intro rfl ?_)
    | (refine And.intro (by decide +kernel) ?_)
    | (refine And.intro trivial ?_)
    | (refine d_isShopN (h0 := ?_) ..)
    | (refine Exists.intro _ (And.intro (fun τ => callW_fn (d_isShopN (h0 := And.intro rfl rfl) ..)) ?_))
    | (refine Exists.intro _ (And.intro (callW_fn (d_isShopN (h0 := And.intro rfl rfl) ..)) (And.intro trivial ?_)))
    | (refine Exists.intro _ (And.intro (callW_fn (d_isShopN (h0 := And.intro rfl rfl) ..)) ?_))
    | (refine Exists.intro _ (And.intro (fun τ _ => callW_fn (d_isShopN (h0 := And.intro rfl rfl) ..)) ?_))
    | (refine d_job (hn := hn) (hm := hm) (hp := hp) (hq := hq) (h1 := fun a b c d h => by rw [hj] at h; cases h) (h2 := fun h c0 c1 c2 c3 c4 c5 c6 c7 c8 c9 c10 c11 c12 c13 => ?_) ..)
    | (refine Exists.intro _ (And.intro rfl (And.intro rfl (And.intro (Nat.le_of_ble_eq_true rfl) ?_))))
    | (refine Exists.intro _ (And.intro rfl (And.intro rfl (And.intro rfl (And.intro (Nat.le_of_ble_eq_true rfl) ?_)))))
    | (refine And.intro (Exists.intro _ (And.intro rfl rfl)) ?_)
    | (exact fun hW => absurd hW (by decide +kernel))
    | (intro hW; (try simp only [Bool.not_true, Bool.not_false, Bool.not_eq_true', Bool.not_eq_false', decide_eq_true_eq, decide_eq_false_iff_not, reduceCtorEq, Bool.true_eq_false, Bool.false_eq_true, mk_size, List.size_toArray, ByteArray.size_append, ByteArray.size_extract, List.length_cons, List.length_nil, ba_get, ba_empty, Int.toNat_natCast] at hW))
    | (refine And.intro (?_ : _ → _) (?_ : _ → _))
    | (refine FinR.drop 0 (Nat.zero_le _) (Closed.zero _) rfl ?_)
    | (refine FinR.keep ?_)
    | (refine And.intro (det3_agg rfl) ?_)
    | (refine fL_mk ?_)
    | (refine And.intro (by (try simp only [mk_size, List.size_toArray, ByteArray.size_append, ByteArray.size_extract, List.length_cons, List.length_nil]); omega) ?_)
    | (refine And.intro (by (try simp only [mk_size, List.size_toArray, ByteArray.size_append, ByteArray.size_extract, List.length_cons, List.length_nil, wrap64_eq]); omega) ?_)
    | fail)
  all_goals first | exact h0 | (exfalso; simp_all; done)
theorem d_DoJobN (n m : Nat) (hn : n < 2 ^ 36) (hm : m < 2 ^ 36) (p q : Int) (hp : 0 ≤ p ∧ p ≤ 1000) (hq : 0 ≤ q ∧ q ≤ 1000) (k a b : Int) (hj : jobO n m p q k a b = none) (K : Cont) (h0 : K (.tup [Sp0, Bo false]) σ) : ACall Try.prog W0 44 [SpN n m p q, Jb k a b] σ K :=
  ACall.lift rfl (fun _ => rfl) (fun W1 K _ hK => c_DoJobN n m hn hm p q hp hq k a b hj K hK) h0
theorem c_toJob (k a b : Int) (K : Cont) (h0 : K (Jb k a b) []) : ACall Try.prog W0 43 [Jb k a b] [] K := by
  refine by43 (Nat.le_of_ble_eq_true rfl) ?_
  repeat' ((conv => whnf); first
    | (refine And.intro rfl ?_)
    | (refine And.intro (by decide +kernel) ?_)
    | (refine And.intro trivial ?_)
    | (refine Exists.intro _ (And.intro rfl (And.intro rfl (And.intro (Nat.le_of_ble_eq_true rfl) ?_))))
    | (refine Exists.intro _ (And.intro rfl (And.intro rfl (And.intro rfl (And.intro (Nat.le_of_ble_eq_true rfl) ?_)))))
    | (refine And.intro (Exists.intro _ (And.intro rfl rfl)) ?_)
    | (exact fun hW => absurd hW (by decide +kernel))
    | (intro hW; (try simp only [Bool.not_true, Bool.not_false, Bool.not_eq_true', Bool.not_eq_false', decide_eq_true_eq, decide_eq_false_iff_not, reduceCtorEq, Bool.true_eq_false, Bool.false_eq_true, mk_size, List.size_toArray, ByteArray.size_append, ByteArray.size_extract, List.length_cons, List.length_nil, ba_get, ba_empty, Int.toNat_natCast] at hW))
    | (refine And.intro (?_ : _ → _) (?_ : _ → _))
    | (refine FinR.drop 0 (Nat.zero_le _) (Closed.zero _) rfl ?_)
    | (refine FinR.keep ?_)
    | (refine And.intro (det3_agg rfl) ?_)
    | (refine fL_mk ?_)
    | (refine And.intro (by (try simp only [mk_size, List.size_toArray, ByteArray.size_append, ByteArray.size_extract, List.length_cons, List.length_nil]); omega) ?_)
    | (refine And.intro (by (try simp only [mk_size, List.size_toArray, ByteArray.size_append, ByteArray.size_extract, List.length_cons, List.length_nil, wrap64_eq]); omega) ?_)
    | fail)
  all_goals exact h0
theorem d_toJob (k a b : Int) (K : Cont) (h0 : K (Jb k a b) σ) : ACall Try.prog W0 43 [Jb k a b] σ K :=
  ACall.lift rfl (fun _ => rfl) (fun W1 K _ hK => c_toJob k a b K hK) h0
theorem shop_N {a b c d e f a' b' c' d' e' f' p q : Int} (h : shopB a b c d e f a' b' c' d' e' f' p q = true) : ∃ n m : Nat, n < 2 ^ 36 ∧ m < 2 ^ 36 ∧ Sp a b c d e f a' b' c' d' e' f' p q = SpN n m p q ∧ (0 ≤ p ∧ p ≤ 1000) ∧ (0 ≤ q ∧ q ≤ 1000) := by
  simp only [shopB, Bool.and_eq_true] at h
  obtain ⟨⟨⟨h1, h2⟩, h3⟩, h4⟩ := h
  obtain ⟨n, hn, e0, e1, e2, e3, e4, e5⟩ := shN_of h1
  obtain ⟨m, hm, g0, g1, g2, g3, g4, g5⟩ := shN_of h2
  refine ⟨n, m, hn, hm, ?_, (inB_iff _ _ _).1 h3, (inB_iff _ _ _).1 h4⟩
  rw [← e0, ← e1, ← e2, ← e3, ← e4, ← e5, ← g0, ← g1, ← g2, ← g3, ← g4, ← g5]
theorem c_law_DoJobT (n m : Nat) (hn : n < 2 ^ 36) (hm : m < 2 ^ 36) (p q : Int) (hp : 0 ≤ p ∧ p ≤ 1000) (hq : 0 ≤ q ∧ q ≤ 1000) (k a b : Int) (K : Cont) (h0 : K (Bo true) []) : ACall Try.prog W0 11 [SpN n m p q, Jb k a b] [] K := by
  refine by11 (Nat.le_of_ble_eq_true rfl) ?_
  cases hj : jobO n m p q k a b with
  | none =>
    repeat' ((conv => whnf); first
      | (refine And.intro rfl ?_)
      | (refine And.intro (by decide +kernel) ?_)
      | (refine And.intro trivial ?_)
      | (refine d_toShop (h0 := ?_) ..)
      | (refine Exists.intro _ (And.intro (fun τ => callW_fn (d_toShop (h0 := And.intro rfl rfl) ..)) ?_))
      | (refine Exists.intro _ (And.intro (callW_fn (d_toShop (h0 := And.intro rfl rfl) ..)) (And.intro trivial ?_)))
      | (refine Exists.intro _ (And.intro (callW_fn (d_toShop (h0 := And.intro rfl rfl) ..)) ?_))
      | (refine Exists.intro _ (And.intro (fun τ _ => callW_fn (d_toShop (h0 := And.intro rfl rfl) ..)) ?_))
      | (refine d_toJob (h0 := ?_) ..)
      | (refine Exists.intro _ (And.intro (fun τ => callW_fn (d_toJob (h0 := And.intro rfl rfl) ..)) ?_))
      | (refine Exists.intro _ (And.intro (callW_fn (d_toJob (h0 := And.intro rfl rfl) ..)) (And.intro trivial ?_)))
      | (refine Exists.intro _ (And.intro (callW_fn (d_toJob (h0 := And.intro rfl rfl) ..)) ?_))
      | (refine Exists.intro _ (And.intro (fun τ _ => callW_fn (d_toJob (h0 := And.intro rfl rfl) ..)) ?_))
      | (refine d_sDoJobN (hn := hn) (hm := hm) (hp := hp) (hq := hq) (hj := hj) (h0 := ?_) ..)
      | (refine Exists.intro _ (And.intro (fun τ => callW_fn (d_sDoJobN (hn := hn) (hm := hm) (hp := hp) (hq := hq) (hj := hj) (h0 := And.intro rfl rfl) ..)) ?_))
      | (refine Exists.intro _ (And.intro (callW_fn (d_sDoJobN (hn := hn) (hm := hm) (hp := hp) (hq := hq) (hj := hj) (h0 := And.intro rfl rfl) ..)) (And.intro trivial ?_)))
      | (refine Exists.intro _ (And.intro (callW_fn (d_sDoJobN (hn := hn) (hm := hm) (hp := hp) (hq := hq) (hj := hj) (h0 := And.intro rfl rfl) ..)) ?_))
      | (refine Exists.intro _ (And.intro (fun τ _ => callW_fn (d_sDoJobN (hn := hn) (hm := hm) (hp := hp) (hq := hq) (hj := hj) (h0 := And.intro rfl rfl) ..)) ?_))
      | (refine d_DoJobN (hn := hn) (hm := hm) (hp := hp) (hq := hq) (hj := hj) (h0 := ?_) ..)
      | (refine Exists.intro _ (And.intro (fun τ => callW_fn (d_DoJobN (hn := hn) (hm := hm) (hp := hp) (hq := hq) (hj := hj) (h0 := And.intro rfl rfl) ..)) ?_))
      | (refine Exists.intro _ (And.intro (callW_fn (d_DoJobN (hn := hn) (hm := hm) (hp := hp) (hq := hq) (hj := hj) (h0 := And.intro rfl rfl) ..)) (And.intro trivial ?_)))
      | (refine Exists.intro _ (And.intro (callW_fn (d_DoJobN (hn := hn) (hm := hm) (hp := hp) (hq := hq) (hj := hj) (h0 := And.intro rfl rfl) ..)) ?_))
      | (refine Exists.intro _ (And.intro (fun τ _ => callW_fn (d_DoJobN (hn := hn) (hm := hm) (hp := hp) (hq := hq) (hj := hj) (h0 := And.intro rfl rfl) ..)) ?_))
      | (refine d_eqShop (h0 := ?_) ..)
      | (refine Exists.intro _ (And.intro (fun τ => callW_fn (d_eqShop (h0 := And.intro rfl rfl) ..)) ?_))
      | (refine Exists.intro _ (And.intro (callW_fn (d_eqShop (h0 := And.intro rfl rfl) ..)) (And.intro trivial ?_)))
      | (refine Exists.intro _ (And.intro (callW_fn (d_eqShop (h0 := And.intro rfl rfl) ..)) ?_))
      | (refine Exists.intro _ (And.intro (fun τ _ => callW_fn (d_eqShop (h0 := And.intro rfl rfl) ..)) ?_))
      | (refine Exists.intro _ (And.intro rfl (And.intro rfl (And.intro (Nat.le_of_ble_eq_true rfl) ?_))))
      | (refine Exists.intro _ (And.intro rfl (And.intro rfl (And.intro rfl (And.intro (Nat.le_of_ble_eq_true rfl) ?_)))))
      | (refine And.intro (Exists.intro _ (And.intro rfl rfl)) ?_)
      | (exact fun hW => absurd hW (by decide +kernel))
      | (intro hW; (try simp only [Bool.not_true, Bool.not_false, Bool.not_eq_true', Bool.not_eq_false', decide_eq_true_eq, decide_eq_false_iff_not, reduceCtorEq, Bool.true_eq_false, Bool.false_eq_true, mk_size, List.size_toArray, ByteArray.size_append, ByteArray.size_extract, List.length_cons, List.length_nil, ba_get, ba_empty, Int.toNat_natCast] at hW))
      | (refine And.intro (?_ : _ → _) (?_ : _ → _))
      | (refine FinR.drop 0 (Nat.zero_le _) (Closed.zero _) rfl ?_)
      | (refine FinR.keep ?_)
      | (refine And.intro (det3_agg rfl) ?_)
      | (refine fL_mk ?_)
      | (refine And.intro (by (try simp only [mk_size, List.size_toArray, ByteArray.size_append, ByteArray.size_extract, List.length_cons, List.length_nil]); omega) ?_)
      | (refine And.intro (by (try simp only [mk_size, List.size_toArray, ByteArray.size_append, ByteArray.size_extract, List.length_cons, List.length_nil, wrap64_eq]); omega) ?_)
      | fail)
    all_goals first | exact h0 | (exfalso; simp_all; done)
  | some r =>
    obtain ⟨n', m', p', q'⟩ := r
    repeat' ((conv => whnf); first
      | (refine And.intro rfl ?_)
      | (refine And.intro (by decide +kernel) ?_)
      | (refine And.intro trivial ?_)
      | (refine d_toShop (h0 := ?_) ..)
      | (refine Exists.intro _ (And.intro (fun τ => callW_fn (d_toShop (h0 := And.intro rfl rfl) ..)) ?_))
      | (refine Exists.intro _ (And.intro (callW_fn (d_toShop (h0 := And.intro rfl rfl) ..)) (And.intro trivial ?_)))
      | (refine Exists.intro _ (And.intro (callW_fn (d_toShop (h0 := And.intro rfl rfl) ..)) ?_))
      | (refine Exists.intro _ (And.intro (fun τ _ => callW_fn (d_toShop (h0 := And.intro rfl rfl) ..)) ?_))
      | (refine d_toJob (h0 := ?_) ..)
      | (refine Exists.intro _ (And.intro (fun τ => callW_fn (d_toJob (h0 := And.intro rfl rfl) ..)) ?_))
      | (refine Exists.intro _ (And.intro (callW_fn (d_toJob (h0 := And.intro rfl rfl) ..)) (And.intro trivial ?_)))
      | (refine Exists.intro _ (And.intro (callW_fn (d_toJob (h0 := And.intro rfl rfl) ..)) ?_))
      | (refine Exists.intro _ (And.intro (fun τ _ => callW_fn (d_toJob (h0 := And.intro rfl rfl) ..)) ?_))
      | (refine d_sDoJobT (hn := hn) (hm := hm) (hp := hp) (hq := hq) (hj := hj) (h0 := ?_) ..)
      | (refine Exists.intro _ (And.intro (fun τ => callW_fn (d_sDoJobT (hn := hn) (hm := hm) (hp := hp) (hq := hq) (hj := hj) (h0 := And.intro rfl rfl) ..)) ?_))
      | (refine Exists.intro _ (And.intro (callW_fn (d_sDoJobT (hn := hn) (hm := hm) (hp := hp) (hq := hq) (hj := hj) (h0 := And.intro rfl rfl) ..)) (And.intro trivial ?_)))
      | (refine Exists.intro _ (And.intro (callW_fn (d_sDoJobT (hn := hn) (hm := hm) (hp := hp) (hq := hq) (hj := hj) (h0 := And.intro rfl rfl) ..)) ?_))
      | (refine Exists.intro _ (And.intro (fun τ _ => callW_fn (d_sDoJobT (hn := hn) (hm := hm) (hp := hp) (hq := hq) (hj := hj) (h0 := And.intro rfl rfl) ..)) ?_))
      | (refine d_DoJobT (hn := hn) (hm := hm) (hp := hp) (hq := hq) (hj := hj) (h0 := ?_) ..)
      | (refine Exists.intro _ (And.intro (fun τ => callW_fn (d_DoJobT (hn := hn) (hm := hm) (hp := hp) (hq := hq) (hj := hj) (h0 := And.intro rfl rfl) ..)) ?_))
      | (refine Exists.intro _ (And.intro (callW_fn (d_DoJobT (hn := hn) (hm := hm) (hp := hp) (hq := hq) (hj := hj) (h0 := And.intro rfl rfl) ..)) (And.intro trivial ?_)))
      | (refine Exists.intro _ (And.intro (callW_fn (d_DoJobT (hn := hn) (hm := hm) (hp := hp) (hq := hq) (hj := hj) (h0 := And.intro rfl rfl) ..)) ?_))
      | (refine Exists.intro _ (And.intro (fun τ _ => callW_fn (d_DoJobT (hn := hn) (hm := hm) (hp := hp) (hq := hq) (hj := hj) (h0 := And.intro rfl rfl) ..)) ?_))
      | (refine d_eqShop (h0 := ?_) ..)
      | (refine Exists.intro _ (And.intro (fun τ => callW_fn (d_eqShop (h0 := And.intro rfl rfl) ..)) ?_))
      | (refine Exists.intro _ (And.intro (callW_fn (d_eqShop (h0 := And.intro rfl rfl) ..)) (And.intro trivial ?_)))
      | (refine Exists.intro _ (And.intro (callW_fn (d_eqShop (h0 := And.intro rfl rfl) ..)) ?_))
      | (refine Exists.intro _ (And.intro (fun τ _ => callW_fn (d_eqShop (h0 := And.intro rfl rfl) ..)) ?_))
      | (refine Exists.intro _ (And.intro rfl (And.intro rfl (And.intro (Nat.le_of_ble_eq_true rfl) ?_))))
      | (refine Exists.intro _ (And.intro rfl (And.intro rfl (And.intro rfl (And.intro (Nat.le_of_ble_eq_true rfl) ?_)))))
      | (refine And.intro (Exists.intro _ (And.intro rfl rfl)) ?_)
      | (exact fun hW => absurd hW (by decide +kernel))
      | (intro hW; (try simp only [Bool.not_true, Bool.not_false, Bool.not_eq_true', Bool.not_eq_false', decide_eq_true_eq, decide_eq_false_iff_not, reduceCtorEq, Bool.true_eq_false, Bool.false_eq_true, mk_size, List.size_toArray, ByteArray.size_append, ByteArray.size_extract, List.length_cons, List.length_nil, ba_get, ba_empty, Int.toNat_natCast] at hW))
      | (refine And.intro (?_ : _ → _) (?_ : _ → _))
      | (refine FinR.drop 0 (Nat.zero_le _) (Closed.zero _) rfl ?_)
      | (refine FinR.keep ?_)
      | (refine And.intro (det3_agg rfl) ?_)
      | (refine fL_mk ?_)
      | (refine And.intro (by (try simp only [mk_size, List.size_toArray, ByteArray.size_append, ByteArray.size_extract, List.length_cons, List.length_nil]); omega) ?_)
      | (refine And.intro (by (try simp only [mk_size, List.size_toArray, ByteArray.size_append, ByteArray.size_extract, List.length_cons, List.length_nil, wrap64_eq]); omega) ?_)
      | fail)
    all_goals first | exact h0 | (exfalso; simp_all; done)
theorem c_law_DoJob (a0 : Int) (ha0 : IntKind.i64.has a0) (a1 : Int) (ha1 : IntKind.i64.has a1) (a2 : Int) (ha2 : IntKind.i64.has a2) (a3 : Int) (ha3 : IntKind.i64.has a3) (a4 : Int) (ha4 : IntKind.i64.has a4) (a5 : Int) (ha5 : IntKind.i64.has a5) (a6 : Int) (ha6 : IntKind.i64.has a6) (a7 : Int) (ha7 : IntKind.i64.has a7) (a8 : Int) (ha8 : IntKind.i64.has a8) (a9 : Int) (ha9 : IntKind.i64.has a9) (a10 : Int) (ha10 : IntKind.i64.has a10) (a11 : Int) (ha11 : IntKind.i64.has a11) (a12 : Int) (ha12 : IntKind.i64.has a12) (a13 : Int) (ha13 : IntKind.i64.has a13) (k : Int) (hk : IntKind.i64.has k) (x : Int) (hx : IntKind.i64.has x) (y : Int) (hy : IntKind.i64.has y) (K : Cont) (h0 : K (Bo true) []) : ACall Try.prog W0 11 [Sp a0 a1 a2 a3 a4 a5 a6 a7 a8 a9 a10 a11 a12 a13, Jb k x y] [] K := by
  cases hb : shopB a0 a1 a2 a3 a4 a5 a6 a7 a8 a9 a10 a11 a12 a13 with
  | true =>
    obtain ⟨n, m, hn, hm, e, hp, hq⟩ := shop_N hb
    rw [e]
    exact c_law_DoJobT n m hn hm a12 a13 hp hq k x y K h0
  | false =>
    refine by11 (Nat.le_of_ble_eq_true rfl) ?_
    repeat' ((conv => whnf); first
      | (refine And.intro rfl ?_)
      | (refine And.intro (by decide +kernel) ?_)
      | (refine And.intro trivial ?_)
      | (refine d_toShop (h0 := ?_) ..)
      | (refine Exists.intro _ (And.intro (fun τ => callW_fn (d_toShop (h0 := And.intro rfl rfl) ..)) ?_))
      | (refine Exists.intro _ (And.intro (callW_fn (d_toShop (h0 := And.intro rfl rfl) ..)) (And.intro trivial ?_)))
      | (refine Exists.intro _ (And.intro (callW_fn (d_toShop (h0 := And.intro rfl rfl) ..)) ?_))
      | (refine Exists.intro _ (And.intro (fun τ _ => callW_fn (d_toShop (h0 := And.intro rfl rfl) ..)) ?_))
      | (refine d_toJob (h0 := ?_) ..)
      | (refine Exists.intro _ (And.intro (fun τ => callW_fn (d_toJob (h0 := And.intro rfl rfl) ..)) ?_))
      | (refine Exists.intro _ (And.intro (callW_fn (d_toJob (h0 := And.intro rfl rfl) ..)) (And.intro trivial ?_)))
      | (refine Exists.intro _ (And.intro (callW_fn (d_toJob (h0 := And.intro rfl rfl) ..)) ?_))
      | (refine Exists.intro _ (And.intro (fun τ _ => callW_fn (d_toJob (h0 := And.intro rfl rfl) ..)) ?_))
      | (refine d_sDoJobF (hb := hb) (h0 := ?_) ..)
      | (refine Exists.intro _ (And.intro (fun τ => callW_fn (d_sDoJobF (hb := hb) (h0 := And.intro rfl rfl) ..)) ?_))
      | (refine Exists.intro _ (And.intro (callW_fn (d_sDoJobF (hb := hb) (h0 := And.intro rfl rfl) ..)) (And.intro trivial ?_)))
      | (refine Exists.intro _ (And.intro (callW_fn (d_sDoJobF (hb := hb) (h0 := And.intro rfl rfl) ..)) ?_))
      | (refine Exists.intro _ (And.intro (fun τ _ => callW_fn (d_sDoJobF (hb := hb) (h0 := And.intro rfl rfl) ..)) ?_))
      | (refine d_DoJobF (hb := hb) (h0 := ?_) ..)
      | (refine Exists.intro _ (And.intro (fun τ => callW_fn (d_DoJobF (hb := hb) (h0 := And.intro rfl rfl) ..)) ?_))
      | (refine Exists.intro _ (And.intro (callW_fn (d_DoJobF (hb := hb) (h0 := And.intro rfl rfl) ..)) (And.intro trivial ?_)))
      | (refine Exists.intro _ (And.intro (callW_fn (d_DoJobF (hb := hb) (h0 := And.intro rfl rfl) ..)) ?_))
      | (refine Exists.intro _ (And.intro (fun τ _ => callW_fn (d_DoJobF (hb := hb) (h0 := And.intro rfl rfl) ..)) ?_))
      | (refine d_eqShop (h0 := ?_) ..)
      | (refine Exists.intro _ (And.intro (fun τ => callW_fn (d_eqShop (h0 := And.intro rfl rfl) ..)) ?_))
      | (refine Exists.intro _ (And.intro (callW_fn (d_eqShop (h0 := And.intro rfl rfl) ..)) (And.intro trivial ?_)))
      | (refine Exists.intro _ (And.intro (callW_fn (d_eqShop (h0 := And.intro rfl rfl) ..)) ?_))
      | (refine Exists.intro _ (And.intro (fun τ _ => callW_fn (d_eqShop (h0 := And.intro rfl rfl) ..)) ?_))
      | (refine Exists.intro _ (And.intro rfl (And.intro rfl (And.intro (Nat.le_of_ble_eq_true rfl) ?_))))
      | (refine Exists.intro _ (And.intro rfl (And.intro rfl (And.intro rfl (And.intro (Nat.le_of_ble_eq_true rfl) ?_)))))
      | (refine And.intro (Exists.intro _ (And.intro rfl rfl)) ?_)
      | (exact fun hW => absurd hW (by decide +kernel))
      | (intro hW; (try simp only [Bool.not_true, Bool.not_false, Bool.not_eq_true', Bool.not_eq_false', decide_eq_true_eq, decide_eq_false_iff_not, reduceCtorEq, Bool.true_eq_false, Bool.false_eq_true, mk_size, List.size_toArray, ByteArray.size_append, ByteArray.size_extract, List.length_cons, List.length_nil, ba_get, ba_empty, Int.toNat_natCast] at hW))
      | (refine And.intro (?_ : _ → _) (?_ : _ → _))
      | (refine FinR.drop 0 (Nat.zero_le _) (Closed.zero _) rfl ?_)
      | (refine FinR.keep ?_)
      | (refine And.intro (det3_agg rfl) ?_)
      | (refine fL_mk ?_)
      | (refine And.intro (by (try simp only [mk_size, List.size_toArray, ByteArray.size_append, ByteArray.size_extract, List.length_cons, List.length_nil]); omega) ?_)
      | (refine And.intro (by (try simp only [mk_size, List.size_toArray, ByteArray.size_append, ByteArray.size_extract, List.length_cons, List.length_nil, wrap64_eq]); omega) ?_)
      | fail)
    all_goals first | exact h0 | (exfalso; simp_all; done)
end Go.Proofs.Ythncpkdhcfaflaa
