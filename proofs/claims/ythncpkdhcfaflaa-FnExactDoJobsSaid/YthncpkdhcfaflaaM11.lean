/- Contracts: DoJob. -/
import Derived.Test.YthncpkdhcfaflaaM10
set_option linter.unusedVariables false
set_option linter.unusedSimpArgs false
set_option maxRecDepth 100000
set_option maxHeartbeats 4000000
namespace Go.Proofs.Ythncpkdhcfaflaa
open Go Go.RowKit Go.Proofs.Ythncpkdhcfaflaa.Abs
variable {W0 : World} {σ : List Blk}
/-- what a job makes of a shop -/
def jobO (n m : Nat) (p q k a b : Int) : Option (Nat × Nat × Int × Int) :=
  match jobM n m k a b with
  | some (n', m', e) => if p + e ≤ 1000 ∧ q + 1 ≤ 1000 then some (n', m', p + e, q + 1) else none
  | none => none
theorem jobO_some {n m n' m' : Nat} {p q k a b e : Int} (h : jobM n m k a b = some (n', m', e)) (hb : p + e ≤ 1000 ∧ q + 1 ≤ 1000) : jobO n m p q k a b = some (n', m', p + e, q + 1) := by
  unfold jobO; rw [h]; simp [hb]
theorem jobO_over {n m n' m' : Nat} {p q k a b e : Int} (h : jobM n m k a b = some (n', m', e)) (hb : ¬ (p + e ≤ 1000 ∧ q + 1 ≤ 1000)) : jobO n m p q k a b = none := by
  unfold jobO; rw [h]; simp [hb]
theorem jobO_none {n m : Nat} {p q k a b : Int} (h : jobM n m k a b = none) : jobO n m p q k a b = none := by
  unfold jobO; rw [h]
theorem jobO_ok {n m n' m' : Nat} {p q p' q' k a b : Int} (hn : n < 2 ^ 36) (hm : m < 2 ^ 36) (hp : 0 ≤ p) (hq : 0 ≤ q) (h : jobO n m p q k a b = some (n', m', p', q')) : n' < 2 ^ 36 ∧ m' < 2 ^ 36 ∧ (0 ≤ p' ∧ p' ≤ 1000) ∧ (0 ≤ q' ∧ q' ≤ 1000) := by
  unfold jobO at h
  split at h
  · rename_i n1 m1 e he
    obtain ⟨a1, a2, a3, a4⟩ := jobM_lt hn hm he
    split at h
    · simp only [Option.some.injEq, Prod.mk.injEq] at h
      obtain ⟨rfl, rfl, rfl, rfl⟩ := h
      exact ⟨a1, a2, by omega, by omega⟩
    · cases h
  · cases h
theorem shopB_N (n m : Nat) (p q : Int) : shopB (rowN n 0 : Nat) (rowN n 1 : Nat) (rowN n 2 : Nat) (rowN n 3 : Nat) (rowN n 4 : Nat) (rowN n 5 : Nat) (rowN m 0 : Nat) (rowN m 1 : Nat) (rowN m 2 : Nat) (rowN m 3 : Nat) (rowN m 4 : Nat) (rowN m 5 : Nat) p q = (inB p 0 1000 && inB q 0 1000) := by
  unfold shopB; rw [shB6_ShN, shB6_ShN]; rfl
theorem c_goodN (n m : Nat) (p q : Int) (K : Cont) (h0 : K (Bo (inB p 0 1000 && inB q 0 1000)) []) : ACall Try.prog W0 78 [SpN n m p q] [] K := by
  refine c_l12Good (K := K) (h0 := ?_) ..
  rw [shopB_N]; exact h0
theorem d_goodN (n m : Nat) (p q : Int) (K : Cont) (h0 : K (Bo (inB p 0 1000 && inB q 0 1000)) σ) : ACall Try.prog W0 78 [SpN n m p q] σ K :=
  ACall.lift rfl (fun _ => rfl) (fun W1 K _ hK => c_goodN n m p q K hK) h0
theorem c_isShopN (n m : Nat) (p q : Int) (K : Cont) (h0 : K (Bo (inB p 0 1000 && inB q 0 1000)) []) : ACall Try.prog W0 81 [SpN n m p q] [] K := by
  refine c_IsShop (K := K) (h0 := ?_) ..
  rw [shopB_N]; exact h0
theorem d_isShopN (n m : Nat) (p q : Int) (K : Cont) (h0 : K (Bo (inB p 0 1000 && inB q 0 1000)) σ) : ACall Try.prog W0 81 [SpN n m p q] σ K :=
  ACall.lift rfl (fun _ => rfl) (fun W1 K _ hK => c_isShopN n m p q K hK) h0
theorem in1000 {p q : Int} (hp : 0 ≤ p ∧ p ≤ 1000) (hq : 0 ≤ q ∧ q ≤ 1000) : (inB p 0 1000 && inB q 0 1000) = true := by simp [inB]; omega
theorem in1000F {p q : Int} (h : ¬ (p ≤ 1000 ∧ q ≤ 1000)) : (inB p 0 1000 && inB q 0 1000) = false := by
  rw [Bool.eq_false_iff]; simp [inB]; omega
theorem d_l12Make (n m : Nat) (hn : n < 2 ^ 36) (hm : m < 2 ^ 36) (p q : Int) (hp : 0 ≤ p ∧ p ≤ 1000) (k a b : Int) (K : Cont) (h1 : ∀ n' m' e, jobM n m k a b = some (n', m', e) → K (.tup [SpN n' m' (p + e) q, Bo true]) σ) (h2 : jobM n m k a b = none → ∀ c0 c1 c2 c3 c4 c5 c6 c7 c8 c9 c10 c11 c12 c13, K (.tup [Sp c0 c1 c2 c3 c4 c5 c6 c7 c8 c9 c10 c11 c12 c13, Bo false]) σ) : ACall Try.prog W0 108 [SpN n m p q, Jb k a b] σ K := by
  refine ACall.frame (K0 := fun v σ' => σ' = [] ∧ ((∃ n' m' e, jobM n m k a b = some (n', m', e) ∧ v = .tup [SpN n' m' (p + e) q, Bo true]) ∨ (jobM n m k a b = none ∧ ∃ c0 c1 c2 c3 c4 c5 c6 c7 c8 c9 c10 c11 c12 c13, v = .tup [Sp c0 c1 c2 c3 c4 c5 c6 c7 c8 c9 c10 c11 c12 c13, Bo false]))) rfl
    (fun W1 _ => c_l12Make n m hn hm p q hp k a b _ (fun n' m' e h => ⟨rfl, .inl ⟨n', m', e, h, rfl⟩⟩) (fun h c0 c1 c2 c3 c4 c5 c6 c7 c8 c9 c10 c11 c12 c13 => ⟨rfl, .inr ⟨h, c0, c1, c2, c3, c4, c5, c6, c7, c8, c9, c10, c11, c12, c13, rfl⟩⟩)) ?_
  have e : σ ++ shB σ.length [] = σ := by simp [shB]
  rintro v σ' ⟨rfl, ⟨n', m', e', h, rfl⟩ | ⟨h, c0, c1, c2, c3, c4, c5, c6, c7, c8, c9, c10, c11, c12, c13, rfl⟩⟩
  · rw [e]; exact h1 n' m' e' h
  · rw [e]; exact h2 h ..
theorem c_l12Do (n m : Nat) (hn : n < 2 ^ 36) (hm : m < 2 ^ 36) (p q : Int) (hp : 0 ≤ p ∧ p ≤ 1000) (hq : 0 ≤ q ∧ q ≤ 1000) (k a b : Int) (K : Cont) (h1 : ∀ n' m' p' q', jobO n m p q k a b = some (n', m', p', q') → K (.tup [SpN n' m' p' q', Bo true]) []) (h2 : jobO n m p q k a b = none → K (.tup [Sp0, Bo false]) []) : ACall Try.prog W0 79 [SpN n m p q, Jb k a b] [] K := by
  refine by79 (Nat.le_of_ble_eq_true rfl) ?_
  have ew : IntKind.i64.wrap (q + 1) = q + 1 := wrap_i64 _ (by omega) (by omega)
  repeat' ((conv => whnf); first
    | (refine And.intro rfl ?_)
    | (refine And.intro (by decide +kernel) ?_)
    | (refine And.intro trivial ?_)
    | (refine d_l12Make (hn := hn) (hm := hm) (hp := hp) (h1 := fun n' m' e he => ?_) (h2 := fun he c0 c1 c2 c3 c4 c5 c6 c7 c8 c9 c10 c11 c12 c13 => ?_) ..)
    | (refine d_goodN (h0 := ?_) ..)
    | (refine Exists.intro _ (And.intro (fun τ => callW_fn (d_goodN (h0 := And.intro rfl rfl) ..)) ?_))
    | (refine Exists.intro _ (And.intro (callW_fn (d_goodN (h0 := And.intro rfl rfl) ..)) (And.intro trivial ?_)))
    | (refine Exists.intro _ (And.intro (callW_fn (d_goodN (h0 := And.intro rfl rfl) ..)) ?_))
    | (refine Exists.intro _ (And.intro (fun τ _ => callW_fn (d_goodN (h0 := And.intro rfl rfl) ..)) ?_))
    | (refine Exists.intro _ (And.intro rfl (And.intro rfl (And.intro (Nat.le_of_ble_eq_true rfl) ?_))))
    | (refine Exists.intro _ (And.intro rfl (And.intro rfl (And.intro rfl (And.intro (Nat.le_of_ble_eq_true rfl) ?_)))))
    | (refine And.intro (Exists.intro _ (And.intro rfl rfl)) ?_)
    | (exact fun hW => absurd hW (by decide +kernel))
    | (intro hW; (try simp only [Bool.not_true, Bool.not_false, Bool.not_eq_true', Bool.not_eq_false', decide_eq_true_eq, decide_eq_false_iff_not, reduceCtorEq, Bool.true_eq_false, Bool.false_eq_true, mk_size, List.size_toArray, ByteArray.size_append, ByteArray.size_extract, List.length_cons, List.length_nil, ba_get, ba_empty, Int.toNat_natCast] at hW))
    | (refine And.intro (?_ : _ → _) (?_ : _ → _))
    | (refine FinR.drop 0 (Nat.zero_le _) (Closed.zero _) rfl ?_)
    | (refine FinR.keep ?_)
    | (refine And.intro (det3_agg rfl) ?_)
    | (refine fL_mk ?_)
    | (refine And.intro (by (try simp only [mk_size, List.size_toArray, ByteArray.size_append, ByteArray.size_extract, List.length_cons, List.length_nil]); omega) ?_)
    | (refine And.intro (by (try simp only [mk_size, List.size_toArray, ByteArray.size_append, ByteArray.size_extract, List.length_cons, List.length_nil, wrap64_eq]); omega) ?_)
    | fail)
  all_goals try (exact h2 (jobO_none he))
  all_goals (obtain ⟨_, _, hx1, hx2⟩ := jobM_lt hn hm he)
  all_goals by_cases hb : p + e ≤ 1000 ∧ q + 1 ≤ 1000
  all_goals first
    | (have h0 := h1 _ _ _ _ (jobO_some he hb); rw [ew]; exact h0)
    | (have h0 := h2 (jobO_over he hb); exact h0)
    | (exfalso; have hin := in1000 (p := p + e) (q := q + 1) (by omega) (by omega); simp_all; done)
    | (exfalso; have hin := in1000F hb; simp_all; done)
theorem d_l12Do (n m : Nat) (hn : n < 2 ^ 36) (hm : m < 2 ^ 36) (p q : Int) (hp : 0 ≤ p ∧ p ≤ 1000) (hq : 0 ≤ q ∧ q ≤ 1000) (k a b : Int) (K : Cont) (h1 : ∀ n' m' p' q', jobO n m p q k a b = some (n', m', p', q') → K (.tup [SpN n' m' p' q', Bo true]) σ) (h2 : jobO n m p q k a b = none → K (.tup [Sp0, Bo false]) σ) : ACall Try.prog W0 79 [SpN n m p q, Jb k a b] σ K := by
  refine ACall.frame (K0 := fun v σ' => σ' = [] ∧ ((∃ n' m' p' q', jobO n m p q k a b = some (n', m', p', q') ∧ v = .tup [SpN n' m' p' q', Bo true]) ∨ (jobO n m p q k a b = none ∧ v = .tup [Sp0, Bo false]))) rfl
    (fun W1 _ => c_l12Do n m hn hm p q hp hq k a b _ (fun n' m' p' q' h => ⟨rfl, .inl ⟨n', m', p', q', h, rfl⟩⟩) (fun h => ⟨rfl, .inr ⟨h, rfl⟩⟩)) ?_
  have e : σ ++ shB σ.length [] = σ := by simp [shB]
  rintro v σ' ⟨rfl, ⟨n', m', p', q', h, rfl⟩ | ⟨h, rfl⟩⟩
  · rw [e]; exact h1 n' m' p' q' h
  · rw [e]; exact h2 h
theorem c_sDoJob (n m : Nat) (hn : n < 2 ^ 36) (hm : m < 2 ^ 36) (p q : Int) (hp : 0 ≤ p ∧ p ≤ 1000) (hq : 0 ≤ q ∧ q ≤ 1000) (k a b : Int) (K : Cont) (h1 : ∀ n' m' p' q', jobO n m p q k a b = some (n', m', p', q') → K (.tup [SpN n' m' p' q', Bo true]) []) (h2 : jobO n m p q k a b = none → K (.tup [Sp0, Bo false]) []) : ACall Try.prog W0 41 [SpN n m p q, Jb k a b] [] K := by
  refine by41 (Nat.le_of_ble_eq_true rfl) ?_
  have hg := in1000 hp hq
  repeat' ((conv => whnf); first
    | (refine And.intro rfl ?_)
    | (refine And.intro (by decide +kernel) ?_)
    | (refine And.intro trivial ?_)
    | (refine d_goodN (h0 := ?_) ..)
    | (refine Exists.intro _ (And.intro (fun τ => callW_fn (d_goodN (h0 := And.intro rfl rfl) ..)) ?_))
    | (refine Exists.intro _ (And.intro (callW_fn (d_goodN (h0 := And.intro rfl rfl) ..)) (And.intro trivial ?_)))
    | (refine Exists.intro _ (And.intro (callW_fn (d_goodN (h0 := And.intro rfl rfl) ..)) ?_))
    | (refine Exists.intro _ (And.intro (fun τ _ => callW_fn (d_goodN (h0 := And.intro rfl rfl) ..)) ?_))
    | (refine d_l12Do (hn := hn) (hm := hm) (hp := hp) (hq := hq) (h1 := fun n' m' p' q' he => ?_) (h2 := fun he => ?_) ..)
    | (refine Exists.intro _ (And.intro rfl (And.intro rfl (And.intro (Nat.le_of_ble_eq_true rfl) ?_))))
    | (refine Exists.intro _ (And.intro rfl (And.intro rfl (And.intro rfl (And.intro (Nat.le_of_ble_eq_true rfl) ?_)))))
    | (refine And.intro (Exists.intro _ (And.intro rfl rfl)) ?_)
    | (exact fun hW => absurd hW (by decide +kernel))
    | (intro hW; (try simp only [Bool.not_true, Bool.not_false, Bool.not_eq_true', Bool.not_eq_false', decide_eq_true_eq, decide_eq_false_iff_not, reduceCtorEq, Bool.true_eq_false, Bool.false_eq_true, mk_size, List.size_toArray, ByteArray.size_append, ByteArray.size_extract, List.length_cons, List.length_nil, ba_get, ba_empty, Int.toNat_natCast] at hW))
    | (refine And.intro (?_ : _ → _) (?_ : _ → _))
    | (refine FinR.drop 0 (Nat.zero_le _) (Closed.zero _) rfl ?_)
    | (refine FinR.keep ?_)
    | (refine And.intro (det3_agg rfl) ?_)
    | (refine fL_mk ?_)
    | (refine And.intro (by (try simp only [mk_size, List.size_toArray, ByteArray.size_append, ByteArray.size_extract, List.length_cons, List.length_nil]); omega) ?_)
    | (refine And.intro (by (try simp only [mk_size, List.size_toArray, ByteArray.size_append, ByteArray.size_extract, List.length_cons, List.length_nil, wrap64_eq]); omega) ?_)
    | fail)
  all_goals first | exact h1 _ _ _ _ he | exact h2 he | (exfalso; simp_all; done)
theorem c_sDoJobF (c0 c1 c2 c3 c4 c5 c6 c7 c8 c9 c10 c11 c12 c13 : Int) (hb : shopB c0 c1 c2 c3 c4 c5 c6 c7 c8 c9 c10 c11 c12 c13 = false) (k a b : Int) (K : Cont) (h0 : K (.tup [Sp0, Bo false]) []) : ACall Try.prog W0 41 [Sp c0 c1 c2 c3 c4 c5 c6 c7 c8 c9 c10 c11 c12 c13, Jb k a b] [] K := by
  refine by41 (Nat.le_of_ble_eq_true rfl) ?_
  repeat' ((conv => whnf); first
    | (refine And.intro rfl ?_)
    | (refine And.intro (by decide +kernel) ?_)
    | (refine And.intro trivial ?_)
    | (refine d_l12Good (h0 := ?_) ..)
    | (refine Exists.intro _ (And.intro (fun τ => callW_fn (d_l12Good (h0 := And.intro rfl rfl) ..)) ?_))
    | (refine Exists.intro _ (And.intro (callW_fn (d_l12Good (h0 := And.intro rfl rfl) ..)) (And.intro trivial ?_)))
    | (refine Exists.intro _ (And.intro (callW_fn (d_l12Good (h0 := And.intro rfl rfl) ..)) ?_))
    | (refine Exists.intro _ (And.intro (fun τ _ => callW_fn (d_l12Good (h0 := And.intro rfl rfl) ..)) ?_))
    | (refine Exists.intro _ (And.intro rfl (And.intro rfl (And.intro (Nat.le_of_ble_eq_true rfl) ?_))))
    | (refine Exists.intro _ (And.intro rfl (And.intro rfl (And.intro rfl (And.intro (Nat.le_of_ble_eq_true rfl) ?_)))))
    | (refine And.intro (Exists.intro _ (And.intro rfl rfl)) ?_)
    | (exact fun hW => absurd hW (by decide +kernel))
    | (intro hW; (try simp only [Bool.not_true, Bool.not_false, Bool.not_eq_true', Bool.not_eq_false', decide_eq_true_eq, decide_eq_false_iff_not, reduceCtorEq, Bool.true_eq_false, Bool.false_eq_true, mk_size, List.size_toArray, ByteArray.size_append, ByteArray.size_extract, List.length_cons, List.length_nil, ba_get, ba_empty, Int.toNat_natCast] at hW))
    | (refine And.intro (?_ : _ → _) (?_ : _ → _))
    | (refine FinR.drop 0 (Nat.zero_le _) (Closed.zero _) rfl ?_)
    | (refine FinR.keep ?_)
    | (refine And.intro (det3_agg rfl) ?_)
    | (refine fL_mk ?_)
    | (refine And.intro (by (try simp only [mk_size, List.size_toArray, ByteArray.size_append, ByteArray.size_extract, List.length_cons, List.length_nil]); omega) ?_)
    | (refine And.intro (by (try simp only [mk_size, List.size_toArray, ByteArray.size_append, ByteArray.size_extract, List.length_cons, List.length_nil, wrap64_eq]); omega) ?_)
    | fail)
  all_goals first | exact h0 | (exfalso; simp_all; done)
theorem d_sDoJobF (c0 c1 c2 c3 c4 c5 c6 c7 c8 c9 c10 c11 c12 c13 : Int) (hb : shopB c0 c1 c2 c3 c4 c5 c6 c7 c8 c9 c10 c11 c12 c13 = false) (k a b : Int) (K : Cont) (h0 : K (.tup [Sp0, Bo false]) σ) : ACall Try.prog W0 41 [Sp c0 c1 c2 c3 c4 c5 c6 c7 c8 c9 c10 c11 c12 c13, Jb k a b] σ K :=
  ACall.lift rfl (fun _ => rfl) (fun W1 K _ hK => c_sDoJobF c0 c1 c2 c3 c4 c5 c6 c7 c8 c9 c10 c11 c12 c13 hb k a b K hK) h0
theorem c_DoJobF (c0 c1 c2 c3 c4 c5 c6 c7 c8 c9 c10 c11 c12 c13 : Int) (hb : shopB c0 c1 c2 c3 c4 c5 c6 c7 c8 c9 c10 c11 c12 c13 = false) (k a b : Int) (K : Cont) (h0 : K (.tup [Sp0, Bo false]) []) : ACall Try.prog W0 44 [Sp c0 c1 c2 c3 c4 c5 c6 c7 c8 c9 c10 c11 c12 c13, Jb k a b] [] K := by
  refine by44 (Nat.le_of_ble_eq_true rfl) ?_
  repeat' ((conv => whnf); first
    | (refine And.intro rfl ?_)
    | (refine And.intro (by decide +kernel) ?_)
    | (refine And.intro trivial ?_)
    | (refine d_IsShop (h0 := ?_) ..)
    | (refine Exists.intro _ (And.intro (fun τ => callW_fn (d_IsShop (h0 := And.intro rfl rfl) ..)) ?_))
    | (refine Exists.intro _ (And.intro (callW_fn (d_IsShop (h0 := And.intro rfl rfl) ..)) (And.intro trivial ?_)))
    | (refine Exists.intro _ (And.intro (callW_fn (d_IsShop (h0 := And.intro rfl rfl) ..)) ?_))
    | (refine Exists.intro _ (And.intro (fun τ _ => callW_fn (d_IsShop (h0 := And.intro rfl rfl) ..)) ?_))
    | (refine Exists.intro _ (And.intro rfl (And.intro rfl (And.intro (Nat.le_of_ble_eq_true rfl) ?_))))
    | (refine Exists.intro _ (And.intro rfl (And.intro rfl (And.intro rfl (And.intro (Nat.le_of_ble_eq_true rfl) ?_)))))
    | (refine And.intro (Exists.intro _ (And.intro rfl rfl)) ?_)
    | (exact fun hW => absurd hW (by decide +kernel))
    | (intro hW; (try simp only [Bool.not_true, Bool.not_false, Bool.not_eq_true', Bool.not_eq_false', decide_eq_true_eq, decide_eq_false_iff_not, reduceCtorEq, Bool.true_eq_false, Bool.false_eq_true, mk_size, List.size_toArray, ByteArray.size_append, ByteArray.size_extract, List.length_cons, List.length_nil, ba_get, ba_empty, Int.toNat_natCast] at hW))
    | (refine And.intro (?_ : _ → _) (?_ : _ → _))
    | (refine FinR.drop 0 (Nat.zero_le _) (Closed.zero _) rfl ?_)
    | (refine FinR.keep ?_)
    | (refine And.intro (det3_agg rfl) ?_)
    | (refine fL_mk ?_)
    | (refine And.intro (by (try simp only [mk_size, List.size_toArray, ByteArray.size_append, ByteArray.size_extract, List.length_cons, List.length_nil]); omega) ?_)
    | (refine And.intro (by (try simp only [mk_size, List.size_toArray, ByteArray.size_append, ByteArray.size_extract, List.length_cons, List.length_nil, wrap64_eq]); omega) ?_)
    | fail)
  all_goals first | exact h0 | (exfalso; simp_all; done)
theorem d_DoJobF (c0 c1 c2 c3 c4 c5 c6 c7 c8 c9 c10 c11 c12 c13 : Int) (hb : shopB c0 c1 c2 c3 c4 c5 c6 c7 c8 c9 c10 c11 c12 c13 = false) (k a b : Int) (K : Cont) (h0 : K (.tup [Sp0, Bo false]) σ) : ACall Try.prog W0 44 [Sp c0 c1 c2 c3 c4 c5 c6 c7 c8 c9 c10 c11 c12 c13, Jb k a b] σ K :=
  ACall.lift rfl (fun _ => rfl) (fun W1 K _ hK => c_DoJobF c0 c1 c2 c3 c4 c5 c6 c7 c8 c9 c10 c11 c12 c13 hb k a b K hK) h0
end Go.Proofs.Ythncpkdhcfaflaa
