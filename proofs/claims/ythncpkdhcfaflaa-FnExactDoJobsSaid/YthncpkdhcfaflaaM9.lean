/- Contracts: turns. -/
import Derived.Test.YthncpkdhcfaflaaM8
set_option linter.unusedVariables false
set_option linter.unusedSimpArgs false
set_option maxRecDepth 100000
set_option maxHeartbeats 4000000
namespace Go.Proofs.Ythncpkdhcfaflaa
open Go Go.RowKit Go.Proofs.Ythncpkdhcfaflaa.Abs
variable {W0 : World} {σ : List Blk}
theorem perm_comp {g h g' h' : Nat → Nat} (hp : Perm g h) (hp' : Perm g' h') : Perm (fun c => g (g' c)) (fun c => h' (h c)) := fun k hk =>
  ⟨(hp _ (hp' k hk).1).1, (hp' _ (hp k hk).2.1).2.1, by show g (g' (h' (h k))) = k; rw [(hp' _ (hp k hk).2.1).2.2.1, (hp k hk).2.2.1], by show h' (h (g (g' k))) = k; rw [(hp _ (hp' k hk).1).2.2.2, (hp' k hk).2.2.2]⟩
theorem mv_ext {a b : Nat} (ha : a < 2 ^ 36) (hb : b < 2 ^ 36) (h : ∀ j, j < 36 → a.testBit j = b.testBit j) : a = b := by
  apply Nat.eq_of_testBit_eq; intro j
  by_cases hj : j < 36
  · exact h j hj
  · rw [Nat.testBit_lt_two_pow (Nat.lt_of_lt_of_le ha (Nat.pow_le_pow_right (by decide) (by omega : 36 ≤ j))), Nat.testBit_lt_two_pow (Nat.lt_of_lt_of_le hb (Nat.pow_le_pow_right (by decide) (by omega : 36 ≤ j)))]
theorem mv_comp {g h g' h' : Nat → Nat} (hp : Perm g h) (hp' : Perm g' h') (n : Nat) : mvN g (mvN g' n 36) 36 = mvN (fun c => g (g' c)) n 36 :=
  mv_ext (mvN_lt hp _) (mvN_lt (perm_comp hp hp') _) fun j hj => by
    rw [mvN_perm hp _ hj, mvN_perm hp' _ (hp j hj).2.1, mvN_perm (perm_comp hp hp') _ hj]
theorem id_perm : Perm (fun c => c) (fun c => c) := fun k hk => ⟨hk, hk, rfl, rfl⟩
theorem mv_id {n : Nat} (hn : n < 2 ^ 36) : mvN (fun c => c) n 36 = n := mv_ext (mvN_lt id_perm _) hn fun j hj => mvN_perm id_perm _ hj
def qgIt : Nat → Nat → Nat
  | 0, c => c
  | j + 1, c => quG (qgIt j c)
def qhIt : Nat → Nat → Nat
  | 0, c => c
  | j + 1, c => qhIt j (quH c)
theorem qIt_perm : ∀ j, Perm (qgIt j) (qhIt j)
  | 0 => id_perm
  | j + 1 => by
    have h := perm_comp qu_perm (qIt_perm j)
    exact fun k hk => h k hk
def qIt : Nat → Nat → Nat
  | 0, n => n
  | j + 1, n => mvN quG (qIt j n) 36
theorem qIt_eq {n : Nat} (hn : n < 2 ^ 36) : ∀ j, qIt j n = mvN (qgIt j) n 36
  | 0 => (mv_id hn).symm
  | j + 1 => by
    show mvN quG (qIt j n) 36 = _
    rw [qIt_eq hn j, mv_comp qu_perm (qIt_perm j)]; rfl
def tuG (k c : Nat) : Nat := if k < 4 then qgIt (k % 4) c else miG (qgIt (k % 4) c)
def tuH (k c : Nat) : Nat := if k < 4 then qhIt (k % 4) c else qhIt (k % 4) (miG c)
theorem tu_perm (k : Nat) : Perm (tuG k) (tuH k) := by
  by_cases h : k < 4
  · have e1 : tuG k = qgIt (k % 4) := by funext c; simp [tuG, h]
    have e2 : tuH k = qhIt (k % 4) := by funext c; simp [tuH, h]
    rw [e1, e2]; exact qIt_perm _
  · have e1 : tuG k = fun c => miG (qgIt (k % 4) c) := by funext c; simp [tuG, h]
    have e2 : tuH k = fun c => qhIt (k % 4) (miG c) := by funext c; simp [tuH, h]
    rw [e1, e2]; exact perm_comp mi_perm (qIt_perm _)
def tuS (k n : Nat) : Nat := if k < 4 then qIt (k % 4) n else mvN miG (qIt (k % 4) n) 36
theorem tuS_eq {n : Nat} (hn : n < 2 ^ 36) (k : Nat) : tuS k n = mvN (tuG k) n 36 := by
  unfold tuS
  split
  · rename_i h
    have e1 : tuG k = qgIt (k % 4) := by funext c; simp [tuG, h]
    rw [e1, qIt_eq hn]
  · rename_i h
    have e1 : tuG k = fun c => miG (qgIt (k % 4) c) := by funext c; simp [tuG, h]
    rw [e1, qIt_eq hn, mv_comp mi_perm (qIt_perm _)]
theorem tmodN (k m : Nat) : ((k : Int)).tmod (m : Int) = ((k % m : Nat) : Int) := by rw [Int.tmod_eq_emod_of_nonneg (by omega)]; rfl
theorem c_l3TurnN (n k : Nat) (hk : k < 8) (K : Cont) (h0 : K (ShN (tuS k n)) []) : ACall Try.prog W0 143 [ShN n, I k] [] K := by
  refine by143 (Nat.le_of_ble_eq_true rfl) ?_
  have e4 : ((k : Int)).tmod 4 = ((k % 4 : Nat) : Int) := tmodN k 4
  repeat' ((conv => whnf); first
    | (refine And.intro rfl ?_)
    | (refine And.intro (by decide +kernel) ?_)
    | (refine And.intro trivial ?_)
    | (refine Exists.intro _ (And.intro rfl (And.intro rfl (And.intro (Nat.le_of_ble_eq_true rfl) ?_))))
    | (refine Exists.intro _ (And.intro rfl (And.intro rfl (And.intro rfl (And.intro (Nat.le_of_ble_eq_true rfl) ?_)))))
    | (refine And.intro (Exists.intro _ (And.intro rfl rfl)) ?_)
    | (exact fun hW => absurd hW (by decide +kernel))
    | (intro hW; (try simp only [Bool.not_true, Bool.not_false, Bool.not_eq_true', Bool.not_eq_false', decide_eq_true_eq, decide_eq_false_iff_not, reduceCtorEq, Bool.true_eq_false, Bool.false_eq_true, mk_size, List.size_toArray, ByteArray.size_append, ByteArray.size_extract, List.length_cons, List.length_nil, ba_get, ba_empty, Int.toNat_natCast] at hW))
    | (refine And.intro (?_ : _ → _) (?_ : _ → _))
    | (refine FinR.drop 0 (Nat.zero_le _) (Closed.zero _) rfl ?_)
    | (refine FinR.keep ?_)
    | (refine And.intro (det3_agg rfl) ?_)
    | (refine fL_mk ?_)
    | (refine And.intro (by (try simp only [mk_size, List.size_toArray, ByteArray.size_append, ByteArray.size_extract, List.length_cons, List.length_nil]); omega) ?_)
    | (refine And.intro (by (try simp only [mk_size, List.size_toArray, ByteArray.size_append, ByteArray.size_extract, List.length_cons, List.length_nil, wrap64_eq]); omega) ?_)
    | fail)
  refine LoopR.live (fun i : Nat => [(1, I k), (2, .ptr 0 0 0), (4, .ptr 1 0 0), (5, I i)]) (fun i => [bl (qIt i n), bl 0]) (fun i => i ≤ k % 4) (fun i => k % 4 - i) 0 ⟨rfl, rfl, rfl, rfl, trivial⟩ (.keep rfl) (Nat.zero_le _) ?_
  intro i hi
  by_cases hlt : i < k % 4
  · skip
    repeat' ((conv => whnf); first
      | (refine And.intro rfl ?_)
      | (refine And.intro (by decide +kernel) ?_)
      | (refine And.intro trivial ?_)
      | (refine d_l3Quarter (h0 := ?_) ..)
      | (refine Exists.intro _ (And.intro (fun τ => callW_fn (d_l3Quarter (h0 := And.intro rfl rfl) ..)) ?_))
      | (refine Exists.intro _ (And.intro (callW_fn (d_l3Quarter (h0 := And.intro rfl rfl) ..)) (And.intro trivial ?_)))
      | (refine Exists.intro _ (And.intro (callW_fn (d_l3Quarter (h0 := And.intro rfl rfl) ..)) ?_))
      | (refine Exists.intro _ (And.intro (fun τ _ => callW_fn (d_l3Quarter (h0 := And.intro rfl rfl) ..)) ?_))
      | (refine Exists.intro _ (And.intro rfl (And.intro rfl (And.intro (Nat.le_of_ble_eq_true rfl) ?_))))
      | (refine Exists.intro _ (And.intro rfl (And.intro rfl (And.intro rfl (And.intro (Nat.le_of_ble_eq_true rfl) ?_)))))
      | (refine And.intro (Exists.intro _ (And.intro rfl rfl)) ?_)
      | (exact fun hW => absurd hW (by decide +kernel))
      | (intro hW; (try simp only [Bool.not_true, Bool.not_false, Bool.not_eq_true', Bool.not_eq_false', decide_eq_true_eq, decide_eq_false_iff_not, reduceCtorEq, Bool.true_eq_false, Bool.false_eq_true, mk_size, List.size_toArray, ByteArray.size_append, ByteArray.size_extract, List.length_cons, List.length_nil, ba_get, ba_empty, Int.toNat_natCast] at hW))
      | (refine And.intro (?_ : _ → _) (?_ : _ → _))
      | (refine FinR.drop 0 (Nat.zero_le _) (Closed.zero _) rfl ?_)
      | (refine FinR.keep ?_)
      | (refine And.intro (det3_agg rfl) ?_)
      | (refine fL_mk ?_)
      | (refine And.intro (by (try simp only [mk_size, List.size_toArray, ByteArray.size_append, ByteArray.size_extract, List.length_cons, List.length_nil]); omega) ?_)
      | (refine And.intro (by (try simp only [mk_size, List.size_toArray, ByteArray.size_append, ByteArray.size_extract, List.length_cons, List.length_nil, wrap64_eq]); omega) ?_)
      | fail)
    all_goals first | (exfalso; omega) | skip
    exact Again.go (i + 1) ⟨rfl, rfl, rfl, slI' (wsucc i (by omega)), trivial⟩ (.keep rfl) (by omega) (by omega)
  · obtain rfl : i = k % 4 := by omega
    by_cases h4 : k < 4
    · have e : tuS k n = qIt (k % 4) n := by simp [tuS, h4]
      rw [e] at h0
      repeat' ((conv => whnf); first
        | (refine And.intro rfl ?_)
        | (refine And.intro (by decide +kernel) ?_)
        | (refine And.intro trivial ?_)
        | (refine d_l3Mirror (h0 := ?_) ..)
        | (refine Exists.intro _ (And.intro (fun τ => callW_fn (d_l3Mirror (h0 := And.intro rfl rfl) ..)) ?_))
        | (refine Exists.intro _ (And.intro (callW_fn (d_l3Mirror (h0 := And.intro rfl rfl) ..)) (And.intro trivial ?_)))
        | (refine Exists.intro _ (And.intro (callW_fn (d_l3Mirror (h0 := And.intro rfl rfl) ..)) ?_))
        | (refine Exists.intro _ (And.intro (fun τ _ => callW_fn (d_l3Mirror (h0 := And.intro rfl rfl) ..)) ?_))
        | (refine Exists.intro _ (And.intro rfl (And.intro rfl (And.intro (Nat.le_of_ble_eq_true rfl) ?_))))
        | (refine Exists.intro _ (And.intro rfl (And.intro rfl (And.intro rfl (And.intro (Nat.le_of_ble_eq_true rfl) ?_)))))
        | (refine And.intro (Exists.intro _ (And.intro rfl rfl)) ?_)
        | (exact fun hW => absurd hW (by decide +kernel))
        | (intro hW; (try simp only [Bool.not_true, Bool.not_false, Bool.not_eq_true', Bool.not_eq_false', decide_eq_true_eq, decide_eq_false_iff_not, reduceCtorEq, Bool.true_eq_false, Bool.false_eq_true, mk_size, List.size_toArray, ByteArray.size_append, ByteArray.size_extract, List.length_cons, List.length_nil, ba_get, ba_empty, Int.toNat_natCast] at hW))
        | (refine And.intro (?_ : _ → _) (?_ : _ → _))
        | (refine FinR.drop 0 (Nat.zero_le _) (Closed.zero _) rfl ?_)
        | (refine FinR.keep ?_)
        | (refine And.intro (det3_agg rfl) ?_)
        | (refine fL_mk ?_)
        | (refine And.intro (by (try simp only [mk_size, List.size_toArray, ByteArray.size_append, ByteArray.size_extract, List.length_cons, List.length_nil]); omega) ?_)
        | (refine And.intro (by (try simp only [mk_size, List.size_toArray, ByteArray.size_append, ByteArray.size_extract, List.length_cons, List.length_nil, wrap64_eq]); omega) ?_)
        | fail)
      all_goals first | (exfalso; omega) | exact h0
    · have e : tuS k n = mvN miG (qIt (k % 4) n) 36 := by simp [tuS, h4]
      rw [e] at h0
      repeat' ((conv => whnf); first
        | (refine And.intro rfl ?_)
        | (refine And.intro (by decide +kernel) ?_)
        | (refine And.intro trivial ?_)
        | (refine d_l3Mirror (h0 := ?_) ..)
        | (refine Exists.intro _ (And.intro (fun τ => callW_fn (d_l3Mirror (h0 := And.intro rfl rfl) ..)) ?_))
        | (refine Exists.intro _ (And.intro (callW_fn (d_l3Mirror (h0 := And.intro rfl rfl) ..)) (And.intro trivial ?_)))
        | (refine Exists.intro _ (And.intro (callW_fn (d_l3Mirror (h0 := And.intro rfl rfl) ..)) ?_))
        | (refine Exists.intro _ (And.intro (fun τ _ => callW_fn (d_l3Mirror (h0 := And.intro rfl rfl) ..)) ?_))
        | (refine Exists.intro _ (And.intro rfl (And.intro rfl (And.intro (Nat.le_of_ble_eq_true rfl) ?_))))
        | (refine Exists.intro _ (And.intro rfl (And.intro rfl (And.intro rfl (And.intro (Nat.le_of_ble_eq_true rfl) ?_)))))
        | (refine And.intro (Exists.intro _ (And.intro rfl rfl)) ?_)
        | (exact fun hW => absurd hW (by decide +kernel))
        | (intro hW; (try simp only [Bool.not_true, Bool.not_false, Bool.not_eq_true', Bool.not_eq_false', decide_eq_true_eq, decide_eq_false_iff_not, reduceCtorEq, Bool.true_eq_false, Bool.false_eq_true, mk_size, List.size_toArray, ByteArray.size_append, ByteArray.size_extract, List.length_cons, List.length_nil, ba_get, ba_empty, Int.toNat_natCast] at hW))
        | (refine And.intro (?_ : _ → _) (?_ : _ → _))
        | (refine FinR.drop 0 (Nat.zero_le _) (Closed.zero _) rfl ?_)
        | (refine FinR.keep ?_)
        | (refine And.intro (det3_agg rfl) ?_)
        | (refine fL_mk ?_)
        | (refine And.intro (by (try simp only [mk_size, List.size_toArray, ByteArray.size_append, ByteArray.size_extract, List.length_cons, List.length_nil]); omega) ?_)
        | (refine And.intro (by (try simp only [mk_size, List.size_toArray, ByteArray.size_append, ByteArray.size_extract, List.length_cons, List.length_nil, wrap64_eq]); omega) ?_)
        | fail)
      all_goals first | (exfalso; omega) | exact h0
theorem d_l3TurnN (n k : Nat) (hk : k < 8) (K : Cont) (h0 : K (ShN (tuS k n)) σ) : ACall Try.prog W0 143 [ShN n, I k] σ K :=
  ACall.lift rfl (fun _ => rfl) (fun W1 K _ hK => c_l3TurnN n k hk K hK) h0
theorem c_l3Turns (k : Int) (K : Cont) (h0 : K (Bo (inB k 0 7)) []) : ACall Try.prog W0 142 [I k] [] K := by
  refine by142 (Nat.le_of_ble_eq_true rfl) ?_
  repeat' ((conv => whnf); first
    | (refine And.intro rfl ?_)
    | (refine And.intro (by decide +kernel) ?_)
    | (refine And.intro trivial ?_)
    | (refine d_l1In (h0 := ?_) ..)
    | (refine Exists.intro _ (And.intro (fun τ => callW_fn (d_l1In (h0 := And.intro rfl rfl) ..)) ?_))
    | (refine Exists.intro _ (And.intro (callW_fn (d_l1In (h0 := And.intro rfl rfl) ..)) (And.intro trivial ?_)))
    | (refine Exists.intro _ (And.intro (callW_fn (d_l1In (h0 := And.intro rfl rfl) ..)) ?_))
    | (refine Exists.intro _ (And.intro (fun τ _ => callW_fn (d_l1In (h0 := And.intro rfl rfl) ..)) ?_))
    | (refine Exists.intro _ (And.intro rfl (And.intro rfl (And.intro (Nat.le_of_ble_eq_true rfl) ?_))))
    | (refine Exists.intro _ (And.intro rfl (And.intro rfl (And.intro rfl (And.intro (Nat.le_of_ble_eq_true rfl) ?_)))))
    | (refine And.intro (Exists.intro _ (And.intro rfl rfl)) ?_)
    | (exact fun hW => absurd hW (by decide +kernel))
    | (intro hW; (try simp only [Bool.not_true, Bool.not_false, Bool.not_eq_true', Bool.not_eq_false', decide_eq_true_eq, decide_eq_false_iff_not, reduceCtorEq, Bool.true_eq_false, Bool.false_eq_true, mk_size, List.size_toArray, ByteArray.size_append, ByteArray.size_extract, List.length_cons, List.length_nil, ba_get, ba_empty, Int.toNat_natCast] at hW))
    | (refine And.intro (?_ : _ → _) (?_ : _ → _))
    | (refine FinR.drop 0 (Nat.zero_le _) (Closed.zero _) rfl ?_)
    | (refine FinR.keep ?_)
    | (refine And.intro (det3_agg rfl) ?_)
    | (refine fL_mk ?_)
    | (refine And.intro (by (try simp only [mk_size, List.size_toArray, ByteArray.size_append, ByteArray.size_extract, List.length_cons, List.length_nil]); omega) ?_)
    | (refine And.intro (by (try simp only [mk_size, List.size_toArray, ByteArray.size_append, ByteArray.size_extract, List.length_cons, List.length_nil, wrap64_eq]); omega) ?_)
    | fail)
  all_goals exact h0
theorem d_l3Turns (k : Int) (K : Cont) (h0 : K (Bo (inB k 0 7)) σ) : ACall Try.prog W0 142 [I k] σ K :=
  ACall.lift rfl (fun _ => rfl) (fun W1 K _ hK => c_l3Turns k K hK) h0
theorem c_isTurn (k : Int) (K : Cont) (h0 : K (Bo (inB k 0 7)) []) : ACall Try.prog W0 133 [I k] [] K := by
  refine by133 (Nat.le_of_ble_eq_true rfl) ?_
  repeat' ((conv => whnf); first
    | (refine And.intro rfl ?_)
    | (refine And.intro (by decide +kernel) ?_)
    | (refine And.intro trivial ?_)
    | (refine Exists.intro _ (And.intro rfl (And.intro rfl (And.intro (Nat.le_of_ble_eq_true rfl) ?_))))
    | (refine Exists.intro _ (And.intro rfl (And.intro rfl (And.intro rfl (And.intro (Nat.le_of_ble_eq_true rfl) ?_)))))
    | (refine And.intro (Exists.intro _ (And.intro rfl rfl)) ?_)
    | (exact fun hW => absurd hW (by decide +kernel))
    | (intro hW; (try simp only [Bool.not_true, Bool.not_false, Bool.not_eq_true', Bool.not_eq_false', decide_eq_true_eq, decide_eq_false_iff_not, reduceCtorEq, Bool.true_eq_false, Bool.false_eq_true, mk_size, List.size_toArray, ByteArray.size_append, ByteArray.size_extract, List.length_cons, List.length_nil, ba_get, ba_empty, Int.toNat_natCast] at hW))
    | (refine And.intro (?_ : _ → _) (?_ : _ → _))
    | (refine FinR.drop 0 (Nat.zero_le _) (Closed.zero _) rfl ?_)
    | (refine FinR.keep ?_)
    | (refine And.intro (det3_agg rfl) ?_)
    | (refine fL_mk ?_)
    | (refine And.intro (by (try simp only [mk_size, List.size_toArray, ByteArray.size_append, ByteArray.size_extract, List.length_cons, List.length_nil]); omega) ?_)
    | (refine And.intro (by (try simp only [mk_size, List.size_toArray, ByteArray.size_append, ByteArray.size_extract, List.length_cons, List.length_nil, wrap64_eq]); omega) ?_)
    | fail)
  all_goals (refine kB' h0 ?_; rw [Bool.eq_iff_iff]; simp only [decide_eq_true_eq, Bool.false_eq_true, inB, Bool.and_eq_true]; refine Iff.intro (fun h => ?_) (fun h => ?_) <;> first | exact h.elim | omega)
theorem d_isTurn (k : Int) (K : Cont) (h0 : K (Bo (inB k 0 7)) σ) : ACall Try.prog W0 133 [I k] σ K :=
  ACall.lift rfl (fun _ => rfl) (fun W1 K _ hK => c_isTurn k K hK) h0
theorem c_turnCell (k x y : Nat) (hk : k < 8) (hx : x < 6) (hy : y < 6) (K : Cont) (h0 : K (.tup [I (tuG k (6 * y + x) % 6 : Nat), I (tuG k (6 * y + x) / 6 : Nat)]) []) : ACall Try.prog W0 147 [I k, I x, I y] [] K := by
  refine by147 (Nat.le_of_ble_eq_true rfl) ?_
  have e4 : ((k : Int)).tmod 4 = ((k % 4 : Nat) : Int) := tmodN k 4
  have hc : 6 * y + x < 36 := by omega
  have e1 : (6 * y + x) % 6 = x := by omega
  have e2 : (6 * y + x) / 6 = y := by omega
  repeat' ((conv => whnf); first
    | (refine And.intro rfl ?_)
    | (refine And.intro (by decide +kernel) ?_)
    | (refine And.intro trivial ?_)
    | (refine Exists.intro _ (And.intro rfl (And.intro rfl (And.intro (Nat.le_of_ble_eq_true rfl) ?_))))
    | (refine Exists.intro _ (And.intro rfl (And.intro rfl (And.intro rfl (And.intro (Nat.le_of_ble_eq_true rfl) ?_)))))
    | (refine And.intro (Exists.intro _ (And.intro rfl rfl)) ?_)
    | (exact fun hW => absurd hW (by decide +kernel))
    | (intro hW; (try simp only [Bool.not_true, Bool.not_false, Bool.not_eq_true', Bool.not_eq_false', decide_eq_true_eq, decide_eq_false_iff_not, reduceCtorEq, Bool.true_eq_false, Bool.false_eq_true, mk_size, List.size_toArray, ByteArray.size_append, ByteArray.size_extract, List.length_cons, List.length_nil, ba_get, ba_empty, Int.toNat_natCast] at hW))
    | (refine And.intro (?_ : _ → _) (?_ : _ → _))
    | (refine FinR.drop 0 (Nat.zero_le _) (Closed.zero _) rfl ?_)
    | (refine FinR.keep ?_)
    | (refine And.intro (det3_agg rfl) ?_)
    | (refine fL_mk ?_)
    | (refine And.intro (by (try simp only [mk_size, List.size_toArray, ByteArray.size_append, ByteArray.size_extract, List.length_cons, List.length_nil]); omega) ?_)
    | (refine And.intro (by (try simp only [mk_size, List.size_toArray, ByteArray.size_append, ByteArray.size_extract, List.length_cons, List.length_nil, wrap64_eq]); omega) ?_)
    | fail)
  refine LoopR.live (fun i : Nat => [(0, I k), (1, I (qgIt i (6 * y + x) % 6 : Nat)), (2, I (qgIt i (6 * y + x) / 6 : Nat)), (9, I (k % 4 : Nat)), (10, I i)]) (fun i => []) (fun i => i ≤ k % 4) (fun i => k % 4 - i) 0 ⟨rfl, slI' (by show (x : Int) = ((6 * y + x) % 6 : Nat); rw [e1]), slI' (by show (y : Int) = ((6 * y + x) / 6 : Nat); rw [e2]), slI' e4, rfl, trivial⟩ (.keep rfl) (Nat.zero_le _) ?_
  intro i hi
  have hq := (qIt_perm i _ hc).1
  by_cases hlt : i < k % 4
  · skip
    repeat' ((conv => whnf); first
      | (refine And.intro rfl ?_)
      | (refine And.intro (by decide +kernel) ?_)
      | (refine And.intro trivial ?_)
      | (refine Exists.intro _ (And.intro rfl (And.intro rfl (And.intro (Nat.le_of_ble_eq_true rfl) ?_))))
      | (refine Exists.intro _ (And.intro rfl (And.intro rfl (And.intro rfl (And.intro (Nat.le_of_ble_eq_true rfl) ?_)))))
      | (refine And.intro (Exists.intro _ (And.intro rfl rfl)) ?_)
      | (exact fun hW => absurd hW (by decide +kernel))
      | (intro hW; (try simp only [Bool.not_true, Bool.not_false, Bool.not_eq_true', Bool.not_eq_false', decide_eq_true_eq, decide_eq_false_iff_not, reduceCtorEq, Bool.true_eq_false, Bool.false_eq_true, mk_size, List.size_toArray, ByteArray.size_append, ByteArray.size_extract, List.length_cons, List.length_nil, ba_get, ba_empty, Int.toNat_natCast] at hW))
      | (refine And.intro (?_ : _ → _) (?_ : _ → _))
      | (refine FinR.drop 0 (Nat.zero_le _) (Closed.zero _) rfl ?_)
      | (refine FinR.keep ?_)
      | (refine And.intro (det3_agg rfl) ?_)
      | (refine fL_mk ?_)
      | (refine And.intro (by (try simp only [mk_size, List.size_toArray, ByteArray.size_append, ByteArray.size_extract, List.length_cons, List.length_nil]); omega) ?_)
      | (refine And.intro (by (try simp only [mk_size, List.size_toArray, ByteArray.size_append, ByteArray.size_extract, List.length_cons, List.length_nil, wrap64_eq]); omega) ?_)
      | fail)
    all_goals first | (exfalso; omega) | skip
    have ew := wsub5 (qgIt i (6 * y + x) / 6) (by omega)
    have e : qgIt (i + 1) (6 * y + x) = 6 * (qgIt i (6 * y + x) % 6) + (5 - qgIt i (6 * y + x) / 6) := rfl
    exact Again.go (i + 1) ⟨rfl, slI' (by rw [ew, e]; omega), slI' (by rw [e]; omega), rfl, slI' (wsucc i (by omega)), trivial⟩ (.keep rfl) (by omega) (by omega)
  · obtain rfl : i = k % 4 := by omega
    by_cases h4 : k < 4
    · have e : tuG k (6 * y + x) = qgIt (k % 4) (6 * y + x) := by simp [tuG, h4]
      rw [e] at h0
      repeat' ((conv => whnf); first
        | (refine And.intro rfl ?_)
        | (refine And.intro (by decide +kernel) ?_)
        | (refine And.intro trivial ?_)
        | (refine Exists.intro _ (And.intro rfl (And.intro rfl (And.intro (Nat.le_of_ble_eq_true rfl) ?_))))
        | (refine Exists.intro _ (And.intro rfl (And.intro rfl (And.intro rfl (And.intro (Nat.le_of_ble_eq_true rfl) ?_)))))
        | (refine And.intro (Exists.intro _ (And.intro rfl rfl)) ?_)
        | (exact fun hW => absurd hW (by decide +kernel))
        | (intro hW; (try simp only [Bool.not_true, Bool.not_false, Bool.not_eq_true', Bool.not_eq_false', decide_eq_true_eq, decide_eq_false_iff_not, reduceCtorEq, Bool.true_eq_false, Bool.false_eq_true, mk_size, List.size_toArray, ByteArray.size_append, ByteArray.size_extract, List.length_cons, List.length_nil, ba_get, ba_empty, Int.toNat_natCast] at hW))
        | (refine And.intro (?_ : _ → _) (?_ : _ → _))
        | (refine FinR.drop 0 (Nat.zero_le _) (Closed.zero _) rfl ?_)
        | (refine FinR.keep ?_)
        | (refine And.intro (det3_agg rfl) ?_)
        | (refine fL_mk ?_)
        | (refine And.intro (by (try simp only [mk_size, List.size_toArray, ByteArray.size_append, ByteArray.size_extract, List.length_cons, List.length_nil]); omega) ?_)
        | (refine And.intro (by (try simp only [mk_size, List.size_toArray, ByteArray.size_append, ByteArray.size_extract, List.length_cons, List.length_nil, wrap64_eq]); omega) ?_)
        | fail)
      all_goals first | (exfalso; omega) | exact h0
    · have e : tuG k (6 * y + x) = 6 * (qgIt (k % 4) (6 * y + x) / 6) + (5 - qgIt (k % 4) (6 * y + x) % 6) := by simp [tuG, h4, miG]
      have ew := wsub5 (qgIt (k % 4) (6 * y + x) % 6) (by omega)
      rw [e] at h0
      repeat' ((conv => whnf); first
        | (refine And.intro rfl ?_)
        | (refine And.intro (by decide +kernel) ?_)
        | (refine And.intro trivial ?_)
        | (refine Exists.intro _ (And.intro rfl (And.intro rfl (And.intro (Nat.le_of_ble_eq_true rfl) ?_))))
        | (refine Exists.intro _ (And.intro rfl (And.intro rfl (And.intro rfl (And.intro (Nat.le_of_ble_eq_true rfl) ?_)))))
        | (refine And.intro (Exists.intro _ (And.intro rfl rfl)) ?_)
        | (exact fun hW => absurd hW (by decide +kernel))
        | (intro hW; (try simp only [Bool.not_true, Bool.not_false, Bool.not_eq_true', Bool.not_eq_false', decide_eq_true_eq, decide_eq_false_iff_not, reduceCtorEq, Bool.true_eq_false, Bool.false_eq_true, mk_size, List.size_toArray, ByteArray.size_append, ByteArray.size_extract, List.length_cons, List.length_nil, ba_get, ba_empty, Int.toNat_natCast] at hW))
        | (refine And.intro (?_ : _ → _) (?_ : _ → _))
        | (refine FinR.drop 0 (Nat.zero_le _) (Closed.zero _) rfl ?_)
        | (refine FinR.keep ?_)
        | (refine And.intro (det3_agg rfl) ?_)
        | (refine fL_mk ?_)
        | (refine And.intro (by (try simp only [mk_size, List.size_toArray, ByteArray.size_append, ByteArray.size_extract, List.length_cons, List.length_nil]); omega) ?_)
        | (refine And.intro (by (try simp only [mk_size, List.size_toArray, ByteArray.size_append, ByteArray.size_extract, List.length_cons, List.length_nil, wrap64_eq]); omega) ?_)
        | fail)
      all_goals first | (exfalso; omega) | exact kT2 h0 (by rw [ew]; omega) (by omega)
theorem d_turnCell (k x y : Nat) (hk : k < 8) (hx : x < 6) (hy : y < 6) (K : Cont) (h0 : K (.tup [I (tuG k (6 * y + x) % 6 : Nat), I (tuG k (6 * y + x) / 6 : Nat)]) σ) : ACall Try.prog W0 147 [I k, I x, I y] σ K :=
  ACall.lift rfl (fun _ => rfl) (fun W1 K _ hK => c_turnCell k x y hk hx hy K hK) h0
theorem tuClo (k : Nat) (hk : k < 8) (c : Nat) (hc : c < 36) : ∃ x' y' : Nat, x' < 6 ∧ y' < 6 ∧ tuG k c = y' * 6 + x' ∧ ∀ K : Cont, K (.tup [I x', I y']) [⟨[I k], 0, 3, 0, false, false⟩] →
    ACall Try.prog W0 146 (I (c % 6 : Nat) :: I (c / 6 : Nat) :: [.ptr 0 0 0]) [⟨[I k], 0, 3, 0, false, false⟩] K := by
  have hp := (tu_perm k c hc).1
  refine ⟨tuG k c % 6, tuG k c / 6, by omega, by omega, by omega, fun K h0 => ?_⟩
  refine by146 (Nat.le_of_ble_eq_true rfl) ?_
  have e : 6 * (c / 6) + c % 6 = c := by omega
  repeat' ((conv => whnf); first
    | (refine And.intro rfl ?_)
    | (refine And.intro (by decide +kernel) ?_)
    | (refine And.intro trivial ?_)
    | (refine d_turnCell (hk := hk) (hx := by omega) (hy := by omega) (h0 := ?_) ..)
    | (refine Exists.intro _ (And.intro rfl (And.intro rfl (And.intro (Nat.le_of_ble_eq_true rfl) ?_))))
    | (refine Exists.intro _ (And.intro rfl (And.intro rfl (And.intro rfl (And.intro (Nat.le_of_ble_eq_true rfl) ?_)))))
    | (refine And.intro (Exists.intro _ (And.intro rfl rfl)) ?_)
    | (exact fun hW => absurd hW (by decide +kernel))
    | (intro hW; (try simp only [Bool.not_true, Bool.not_false, Bool.not_eq_true', Bool.not_eq_false', decide_eq_true_eq, decide_eq_false_iff_not, reduceCtorEq, Bool.true_eq_false, Bool.false_eq_true, mk_size, List.size_toArray, ByteArray.size_append, ByteArray.size_extract, List.length_cons, List.length_nil, ba_get, ba_empty, Int.toNat_natCast] at hW))
    | (refine And.intro (?_ : _ → _) (?_ : _ → _))
    | (refine FinR.drop 0 (Nat.zero_le _) (Closed.zero _) rfl ?_)
    | (refine FinR.keep ?_)
    | (refine And.intro (det3_agg rfl) ?_)
    | (refine fL_mk ?_)
    | (refine And.intro (by (try simp only [mk_size, List.size_toArray, ByteArray.size_append, ByteArray.size_extract, List.length_cons, List.length_nil]); omega) ?_)
    | (refine And.intro (by (try simp only [mk_size, List.size_toArray, ByteArray.size_append, ByteArray.size_extract, List.length_cons, List.length_nil, wrap64_eq]); omega) ?_)
    | fail)
  all_goals (rw [e]; exact h0)
theorem c_turned (n : Nat) (hn : n < 2 ^ 36) (k : Nat) (hk : k < 8) (K : Cont) (h0 : K (U (mvN (tuG k) n 36 : Nat)) []) : ACall Try.prog W0 134 [U n, I k] [] K := by
  refine by134 (Nat.le_of_ble_eq_true rfl) ?_
  repeat' ((conv => whnf); first
    | (refine And.intro rfl ?_)
    | (refine And.intro (by decide +kernel) ?_)
    | (refine And.intro trivial ?_)
    | (refine c_moved (hn := hn) (hg := fun c hc => (tu_perm k c hc).1) (hc := fun c hc => tuClo k hk c hc) (h0 := ?_) ..)
    | (refine Exists.intro _ (And.intro rfl (And.intro rfl (And.intro (Nat.le_of_ble_eq_true rfl) ?_))))
    | (refine Exists.intro _ (And.intro rfl (And.intro rfl (And.intro rfl (And.intro (Nat.le_of_ble_eq_true rfl) ?_)))))
    | (refine And.intro (Exists.intro _ (And.intro rfl rfl)) ?_)
    | (exact fun hW => absurd hW (by decide +kernel))
    | (intro hW; (try simp only [Bool.not_true, Bool.not_false, Bool.not_eq_true', Bool.not_eq_false', decide_eq_true_eq, decide_eq_false_iff_not, reduceCtorEq, Bool.true_eq_false, Bool.false_eq_true, mk_size, List.size_toArray, ByteArray.size_append, ByteArray.size_extract, List.length_cons, List.length_nil, ba_get, ba_empty, Int.toNat_natCast] at hW))
    | (refine And.intro (?_ : _ → _) (?_ : _ → _))
    | (refine FinR.drop 0 (Nat.zero_le _) (Closed.zero _) rfl ?_)
    | (refine FinR.keep ?_)
    | (refine And.intro (det3_agg rfl) ?_)
    | (refine fL_mk ?_)
    | (refine And.intro (by (try simp only [mk_size, List.size_toArray, ByteArray.size_append, ByteArray.size_extract, List.length_cons, List.length_nil]); omega) ?_)
    | (refine And.intro (by (try simp only [mk_size, List.size_toArray, ByteArray.size_append, ByteArray.size_extract, List.length_cons, List.length_nil, wrap64_eq]); omega) ?_)
    | fail)
  all_goals exact h0
theorem d_turned (n : Nat) (hn : n < 2 ^ 36) (k : Nat) (hk : k < 8) (K : Cont) (h0 : K (U (mvN (tuG k) n 36 : Nat)) σ) : ACall Try.prog W0 134 [U n, I k] σ K :=
  ACall.lift rfl (fun _ => rfl) (fun W1 K _ hK => c_turned n hn k hk K hK) h0
theorem inB7 (k : Nat) (hk : k < 8) : inB (k : Int) 0 7 = true := by simp [inB]; omega
theorem c_TurnT (n k : Nat) (hn : n < 2 ^ 36) (hk : k < 8) (K : Cont) (h0 : K (.tup [ShN (mvN (tuG k) n 36), Bo true]) []) : ACall Try.prog W0 115 [ShN n, I k] [] K := by
  refine by115 (Nat.le_of_ble_eq_true rfl) ?_
  have hb := inB7 k hk
  repeat' ((conv => whnf); first
    | (refine And.intro rfl ?_)
    | (refine And.intro (by decide +kernel) ?_)
    | (refine And.intro trivial ?_)
    | (refine d_setOfN (hn := hn) (h0 := ?_) ..)
    | (refine d_isTurn (h0 := ?_) ..)
    | (refine Exists.intro _ (And.intro (fun τ => callW_fn (d_isTurn (h0 := And.intro rfl rfl) ..)) ?_))
    | (refine Exists.intro _ (And.intro (callW_fn (d_isTurn (h0 := And.intro rfl rfl) ..)) (And.intro trivial ?_)))
    | (refine Exists.intro _ (And.intro (callW_fn (d_isTurn (h0 := And.intro rfl rfl) ..)) ?_))
    | (refine Exists.intro _ (And.intro (fun τ _ => callW_fn (d_isTurn (h0 := And.intro rfl rfl) ..)) ?_))
    | (refine d_turned (hn := hn) (hk := hk) (h0 := ?_) ..)
    | (refine d_sheet (hn := Nat.lt_trans (mvN_lt (tu_perm k) n) (by decide)) (h0 := ?_) ..)
    | (refine Exists.intro _ (And.intro rfl (And.intro rfl (And.intro (Nat.le_of_ble_eq_true rfl) ?_))))
    | (refine Exists.intro _ (And.intro rfl (And.intro rfl (And.intro rfl (And.intro (Nat.le_of_ble_eq_true rfl) ?_)))))
    | (refine And.intro (Exists.intro _ (And.intro rfl rfl)) ?_)
    | (exact fun hW => absurd hW (by decide +kernel))
    | (intro hW; (try simp only [Bool.not_true, Bool.not_false, Bool.not_eq_true', Bool.not_eq_false', decide_eq_true_eq, decide_eq_false_iff_not, reduceCtorEq, Bool.true_eq_false, Bool.false_eq_true, mk_size, List.size_toArray, ByteArray.size_append, ByteArray.size_extract, List.length_cons, List.length_nil, ba_get, ba_empty, Int.toNat_natCast] at hW))
    | (refine And.intro (?_ : _ → _) (?_ : _ → _))
    | (refine FinR.drop 0 (Nat.zero_le _) (Closed.zero _) rfl ?_)
    | (refine FinR.keep ?_)
    | (refine And.intro (det3_agg rfl) ?_)
    | (refine fL_mk ?_)
    | (refine And.intro (by (try simp only [mk_size, List.size_toArray, ByteArray.size_append, ByteArray.size_extract, List.length_cons, List.length_nil]); omega) ?_)
    | (refine And.intro (by (try simp only [mk_size, List.size_toArray, ByteArray.size_append, ByteArray.size_extract, List.length_cons, List.length_nil, wrap64_eq]); omega) ?_)
    | fail)
  all_goals first | exact h0 | (exfalso; simp_all; done)
theorem d_TurnT (n k : Nat) (hn : n < 2 ^ 36) (hk : k < 8) (K : Cont) (h0 : K (.tup [ShN (mvN (tuG k) n 36), Bo true]) σ) : ACall Try.prog W0 115 [ShN n, I k] σ K :=
  ACall.lift rfl (fun _ => rfl) (fun W1 K _ hK => c_TurnT n k hn hk K hK) h0
theorem c_TurnF (n : Nat) (hn : n < 2 ^ 36) (k : Int) (hb : inB k 0 7 = false) (K : Cont) (h0 : K (.tup [Sh0, Bo false]) []) : ACall Try.prog W0 115 [ShN n, I k] [] K := by
  refine by115 (Nat.le_of_ble_eq_true rfl) ?_
  repeat' ((conv => whnf); first
    | (refine And.intro rfl ?_)
    | (refine And.intro (by decide +kernel) ?_)
    | (refine And.intro trivial ?_)
    | (refine d_setOfN (hn := hn) (h0 := ?_) ..)
    | (refine d_isTurn (h0 := ?_) ..)
    | (refine Exists.intro _ (And.intro (fun τ => callW_fn (d_isTurn (h0 := And.intro rfl rfl) ..)) ?_))
    | (refine Exists.intro _ (And.intro (callW_fn (d_isTurn (h0 := And.intro rfl rfl) ..)) (And.intro trivial ?_)))
    | (refine Exists.intro _ (And.intro (callW_fn (d_isTurn (h0 := And.intro rfl rfl) ..)) ?_))
    | (refine Exists.intro _ (And.intro (fun τ _ => callW_fn (d_isTurn (h0 := And.intro rfl rfl) ..)) ?_))
    | (refine Exists.intro _ (And.intro rfl (And.intro rfl (And.intro (Nat.le_of_ble_eq_true rfl) ?_))))
    | (refine Exists.intro _ (And.intro rfl (And.intro rfl (And.intro rfl (And.intro (Nat.le_of_ble_eq_true rfl) ?_)))))
    | (refine And.intro (Exists.intro _ (And.intro rfl rfl)) ?_)
    | (exact fun hW => absurd hW (by decide +kernel))
    | (intro hW; (try simp only [Bool.not_true, Bool.not_false, Bool.not_eq_true', Bool.not_eq_false', decide_eq_true_eq, decide_eq_false_iff_not, reduceCtorEq, Bool.true_eq_false, Bool.false_eq_true, mk_size, List.size_toArray, ByteArray.size_append, ByteArray.size_extract, List.length_cons, List.length_nil, ba_get, ba_empty, Int.toNat_natCast] at hW))
    | (refine And.intro (?_ : _ → _) (?_ : _ → _))
    | (refine FinR.drop 0 (Nat.zero_le _) (Closed.zero _) rfl ?_)
    | (refine FinR.keep ?_)
    | (refine And.intro (det3_agg rfl) ?_)
    | (refine fL_mk ?_)
    | (refine And.intro (by (try simp only [mk_size, List.size_toArray, ByteArray.size_append, ByteArray.size_extract, List.length_cons, List.length_nil]); omega) ?_)
    | (refine And.intro (by (try simp only [mk_size, List.size_toArray, ByteArray.size_append, ByteArray.size_extract, List.length_cons, List.length_nil, wrap64_eq]); omega) ?_)
    | fail)
  all_goals first | exact h0 | (exfalso; simp_all; done)
theorem d_TurnF (n : Nat) (hn : n < 2 ^ 36) (k : Int) (hb : inB k 0 7 = false) (K : Cont) (h0 : K (.tup [Sh0, Bo false]) σ) : ACall Try.prog W0 115 [ShN n, I k] σ K :=
  ACall.lift rfl (fun _ => rfl) (fun W1 K _ hK => c_TurnF n hn k hb K hK) h0
theorem c_sTurnT (n k : Nat) (hn : n < 2 ^ 36) (hk : k < 8) (K : Cont) (h0 : K (.tup [ShN (mvN (tuG k) n 36), Bo true]) []) : ACall Try.prog W0 126 [ShN n, I k] [] K := by
  refine by126 (Nat.le_of_ble_eq_true rfl) ?_
  have hb := inB7 k hk
  rw [← tuS_eq hn] at h0
  repeat' ((conv => whnf); first
    | (refine And.intro rfl ?_)
    | (refine And.intro (by decide +kernel) ?_)
    | (refine And.intro trivial ?_)
    | (refine d_l2SheetN (h0 := ?_) ..)
    | (refine Exists.intro _ (And.intro (fun τ => callW_fn (d_l2SheetN (h0 := And.intro rfl rfl) ..)) ?_))
    | (refine Exists.intro _ (And.intro (callW_fn (d_l2SheetN (h0 := And.intro rfl rfl) ..)) (And.intro trivial ?_)))
    | (refine Exists.intro _ (And.intro (callW_fn (d_l2SheetN (h0 := And.intro rfl rfl) ..)) ?_))
    | (refine Exists.intro _ (And.intro (fun τ _ => callW_fn (d_l2SheetN (h0 := And.intro rfl rfl) ..)) ?_))
    | (refine d_l3Turns (h0 := ?_) ..)
    | (refine Exists.intro _ (And.intro (fun τ => callW_fn (d_l3Turns (h0 := And.intro rfl rfl) ..)) ?_))
    | (refine Exists.intro _ (And.intro (callW_fn (d_l3Turns (h0 := And.intro rfl rfl) ..)) (And.intro trivial ?_)))
    | (refine Exists.intro _ (And.intro (callW_fn (d_l3Turns (h0 := And.intro rfl rfl) ..)) ?_))
    | (refine Exists.intro _ (And.intro (fun τ _ => callW_fn (d_l3Turns (h0 := And.intro rfl rfl) ..)) ?_))
    | (refine d_l3TurnN (hk := hk) (h0 := ?_) ..)
    | (refine Exists.intro _ (And.intro rfl (And.intro rfl (And.intro (Nat.le_of_ble_eq_true rfl) ?_))))
    | (refine Exists.intro _ (And.intro rfl (And.intro rfl (And.intro rfl (And.intro (Nat.le_of_ble_eq_true rfl) ?_)))))
    | (refine And.intro (Exists.intro _ (And.intro rfl rfl)) ?_)
    | (exact fun hW => absurd hW (by decide +kernel))
    | (intro hW; (try simp only [Bool.not_true, Bool.not_false, Bool.not_eq_true', Bool.not_eq_false', decide_eq_true_eq, decide_eq_false_iff_not, reduceCtorEq, Bool.true_eq_false, Bool.false_eq_true, mk_size, List.size_toArray, ByteArray.size_append, ByteArray.size_extract, List.length_cons, List.length_nil, ba_get, ba_empty, Int.toNat_natCast] at hW))
    | (refine And.intro (?_ : _ → _) (?_ : _ → _))
    | (refine FinR.drop 0 (Nat.zero_le _) (Closed.zero _) rfl ?_)
    | (refine FinR.keep ?_)
    | (refine And.intro (det3_agg rfl) ?_)
    | (refine fL_mk ?_)
    | (refine And.intro (by (try simp only [mk_size, List.size_toArray, ByteArray.size_append, ByteArray.size_extract, List.length_cons, List.length_nil]); omega) ?_)
    | (refine And.intro (by (try simp only [mk_size, List.size_toArray, ByteArray.size_append, ByteArray.size_extract, List.length_cons, List.length_nil, wrap64_eq]); omega) ?_)
    | fail)
  all_goals first | exact h0 | (exfalso; simp_all; done)
theorem d_sTurnT (n k : Nat) (hn : n < 2 ^ 36) (hk : k < 8) (K : Cont) (h0 : K (.tup [ShN (mvN (tuG k) n 36), Bo true]) σ) : ACall Try.prog W0 126 [ShN n, I k] σ K :=
  ACall.lift rfl (fun _ => rfl) (fun W1 K _ hK => c_sTurnT n k hn hk K hK) h0
theorem c_sTurnF (n : Nat) (k : Int) (hb : inB k 0 7 = false) (K : Cont) (h0 : K (.tup [Sh0, Bo false]) []) : ACall Try.prog W0 126 [ShN n, I k] [] K := by
  refine by126 (Nat.le_of_ble_eq_true rfl) ?_
  repeat' ((conv => whnf); first
    | (refine And.intro rfl ?_)
    | (refine And.intro (by decide +kernel) ?_)
    | (refine And.intro trivial ?_)
    | (refine d_l2SheetN (h0 := ?_) ..)
    | (refine Exists.intro _ (And.intro (fun τ => callW_fn (d_l2SheetN (h0 := And.intro rfl rfl) ..)) ?_))
    | (refine Exists.intro _ (And.intro (callW_fn (d_l2SheetN (h0 := And.intro rfl rfl) ..)) (And.intro trivial ?_)))
    | (refine Exists.intro _ (And.intro (callW_fn (d_l2SheetN (h0 := And.intro rfl rfl) ..)) ?_))
    | (refine Exists.intro _ (And.intro (fun τ _ => callW_fn (d_l2SheetN (h0 := And.intro rfl rfl) ..)) ?_))
    | (refine d_l3Turns (h0 := ?_) ..)
    | (refine Exists.intro _ (And.intro (fun τ => callW_fn (d_l3Turns (h0 := And.intro rfl rfl) ..)) ?_))
    | (refine Exists.intro _ (And.intro (callW_fn (d_l3Turns (h0 := And.intro rfl rfl) ..)) (And.intro trivial ?_)))
    | (refine Exists.intro _ (And.intro (callW_fn (d_l3Turns (h0 := And.intro rfl rfl) ..)) ?_))
    | (refine Exists.intro _ (And.intro (fun τ _ => callW_fn (d_l3Turns (h0 := And.intro rfl rfl) ..)) ?_))
    | (refine Exists.intro _ (And.intro rfl (And.intro rfl (And.intro (Nat.le_of_ble_eq_true rfl) ?_))))
    | (refine Exists.intro _ (And.intro rfl (And.intro rfl (And.intro rfl (And.intro (Nat.le_of_ble_eq_true rfl) ?_)))))
    | (refine And.intro (Exists.intro _ (And.intro rfl rfl)) ?_)
    | (exact fun hW => absurd hW (by decide +kernel))
    | (intro hW; (try simp only [Bool.not_true, Bool.not_false, Bool.not_eq_true', Bool.not_eq_false', decide_eq_true_eq, decide_eq_false_iff_not, reduceCtorEq, Bool.true_eq_false, Bool.false_eq_true, mk_size, List.size_toArray, ByteArray.size_append, ByteArray.size_extract, List.length_cons, List.length_nil, ba_get, ba_empty, Int.toNat_natCast] at hW))
    | (refine And.intro (?_ : _ → _) (?_ : _ → _))
    | (refine FinR.drop 0 (Nat.zero_le _) (Closed.zero _) rfl ?_)
    | (refine FinR.keep ?_)
    | (refine And.intro (det3_agg rfl) ?_)
    | (refine fL_mk ?_)
    | (refine And.intro (by (try simp only [mk_size, List.size_toArray, ByteArray.size_append, ByteArray.size_extract, List.length_cons, List.length_nil]); omega) ?_)
    | (refine And.intro (by (try simp only [mk_size, List.size_toArray, ByteArray.size_append, ByteArray.size_extract, List.length_cons, List.length_nil, wrap64_eq]); omega) ?_)
    | fail)
  all_goals first | exact h0 | (exfalso; simp_all; done)
theorem d_sTurnF (n : Nat) (k : Int) (hb : inB k 0 7 = false) (K : Cont) (h0 : K (.tup [Sh0, Bo false]) σ) : ACall Try.prog W0 126 [ShN n, I k] σ K :=
  ACall.lift rfl (fun _ => rfl) (fun W1 K _ hK => c_sTurnF n k hb K hK) h0
end Go.Proofs.Ythncpkdhcfaflaa
