/- Contracts: shifted sets; sheets of sets; sheets by their sets. -/
import Derived.Test.YthncpkdhcfaflaaM2
set_option linter.unusedVariables false
set_option linter.unusedSimpArgs false
set_option maxRecDepth 100000
set_option maxHeartbeats 4000000
namespace Go.Proofs.Ythncpkdhcfaflaa
open Go Go.RowKit Go.Proofs.Ythncpkdhcfaflaa.Abs
variable {W0 : World} {σ : List Blk}
theorem tmod6 (n : Int) : n.tmod 6 = if 0 ≤ n then n % 6 else -((-n) % 6) := by
  split
  · rename_i h; exact Int.tmod_eq_emod_of_nonneg h
  · rename_i h
    rw [← Int.tmod_eq_emod_of_nonneg (by omega : 0 ≤ -n), Int.neg_tmod]; omega
theorem rest_eq (n : Int) : (IntKind.i64.wrap (n.tmod 6 + 6)).tmod 6 = n % 6 := by
  rw [tmod6 n]
  have : 0 ≤ (if 0 ≤ n then n % 6 else -((-n) % 6)) + 6 ∧ (if 0 ≤ n then n % 6 else -((-n) % 6)) + 6 < 12 ∧ ((if 0 ≤ n then n % 6 else -((-n) % 6)) + 6) % 6 = n % 6 := by split <;> omega
  rw [wrap_i64 _ (by omega) (by omega), Int.tmod_eq_emod_of_nonneg this.1]
  exact this.2.2
theorem c_rest (n : Int) (x : Nat) (hx : n % 6 = x) (K : Cont) (h0 : K (I x) []) : ACall Try.prog W0 136 [I n] [] K := by
  refine by136 (Nat.le_of_ble_eq_true rfl) ?_
  have e := rest_eq n
  repeat' ((conv => whnf); first
    | (refine And.intro rfl ?_)
    | (refine And.intro (by decide +kernel) ?_)
    | (refine And.intro trivial ?_)
    | (refine Exists.intro _ (And.intro rfl (And.intro rfl (And.intro (Nat.le_of_ble_eq_true rfl) ?_))))
    | (refine Exists.intro _ (And.intro rfl (And.intro rfl (And.intro rfl (And.intro (Nat.le_of_ble_eq_true rfl) ?_)))))
    | (refine And.intro (Exists.intro _ (And.intro rfl rfl)) ?_)
    | (exact fun hW => absurd hW (by decide +kernel))
    | (intro hW; (try simp only [Bool.not_true, Bool.not_false, Bool.not_eq_true', Bool.not_eq_false', decide_eq_true_eq, decide_eq_false_iff_not, reduceCtorEq, Bool.true_eq_false, Bool.false_eq_true, mk_size, List.size_toArray, ByteArray.size_append, ByteArray.size_extract, List.length_cons, List.length_nil, ba_get, ba_empty, Int.toNat_natCast] at hW))
    | (refine And.intro (?_ : _ → _) (?_ : _ → _))
    | (refine FinR.drop 0 (Nat.zero_le _) (Closed.zero _) rfl ?_)
    | (refine FinR.keep ?_)
    | (refine And.intro (det3_agg rfl) ?_)
    | (refine fL_mk ?_)
    | (refine And.intro (by (try simp only [mk_size, List.size_toArray, ByteArray.size_append, ByteArray.size_extract, List.length_cons, List.length_nil]); omega) ?_)
    | (refine And.intro (by (try simp only [mk_size, List.size_toArray, ByteArray.size_append, ByteArray.size_extract, List.length_cons, List.length_nil, wrap64_eq]); omega) ?_)
    | fail)
  all_goals exact kI' h0 (by rw [e, hx])
theorem d_rest (n : Int) (x : Nat) (hx : n % 6 = x) (K : Cont) (h0 : K (I x) σ) : ACall Try.prog W0 136 [I n] σ K :=
  ACall.lift rfl (fun _ => rfl) (fun W1 K _ hK => c_rest n x hx K hK) h0
theorem c_l2Mod (n : Int) (x : Nat) (hx : n % 6 = x) (K : Cont) (h0 : K (I x) []) : ACall Try.prog W0 135 [I n] [] K := by
  refine by135 (Nat.le_of_ble_eq_true rfl) ?_
  have e := rest_eq n
  repeat' ((conv => whnf); first
    | (refine And.intro rfl ?_)
    | (refine And.intro (by decide +kernel) ?_)
    | (refine And.intro trivial ?_)
    | (refine Exists.intro _ (And.intro rfl (And.intro rfl (And.intro (Nat.le_of_ble_eq_true rfl) ?_))))
    | (refine Exists.intro _ (And.intro rfl (And.intro rfl (And.intro rfl (And.intro (Nat.le_of_ble_eq_true rfl) ?_)))))
    | (refine And.intro (Exists.intro _ (And.intro rfl rfl)) ?_)
    | (exact fun hW => absurd hW (by decide +kernel))
    | (intro hW; (try simp only [Bool.not_true, Bool.not_false, Bool.not_eq_true', Bool.not_eq_false', decide_eq_true_eq, decide_eq_false_iff_not, reduceCtorEq, Bool.true_eq_false, Bool.false_eq_true, mk_size, List.size_toArray, ByteArray.size_append, ByteArray.size_extract, List.length_cons, List.length_nil, ba_get, ba_empty, Int.toNat_natCast] at hW))
    | (refine And.intro (?_ : _ → _) (?_ : _ → _))
    | (refine FinR.drop 0 (Nat.zero_le _) (Closed.zero _) rfl ?_)
    | (refine FinR.keep ?_)
    | (refine And.intro (det3_agg rfl) ?_)
    | (refine fL_mk ?_)
    | (refine And.intro (by (try simp only [mk_size, List.size_toArray, ByteArray.size_append, ByteArray.size_extract, List.length_cons, List.length_nil]); omega) ?_)
    | (refine And.intro (by (try simp only [mk_size, List.size_toArray, ByteArray.size_append, ByteArray.size_extract, List.length_cons, List.length_nil, wrap64_eq]); omega) ?_)
    | fail)
  all_goals exact kI' h0 (by rw [e, hx])
theorem d_l2Mod (n : Int) (x : Nat) (hx : n % 6 = x) (K : Cont) (h0 : K (I x) σ) : ACall Try.prog W0 135 [I n] σ K :=
  ACall.lift rfl (fun _ => rfl) (fun W1 K _ hK => c_l2Mod n x hx K hK) h0
theorem addrem (a b : Nat) (ha : a < 36) (hb : b < 6) : (IntKind.i64.wrap ((a : Int) + (b : Int))).tmod 6 = (((a + b) % 6 : Nat) : Int) := by
  rw [wrap_i64 _ (by omega) (by omega), Int.tmod_eq_emod_of_nonneg (by omega)]; omega
theorem shClo (x y : Nat) (hx : x < 6) (hy : y < 6) (k : Nat) (hk : k < 36) : ∃ x' y' : Nat, x' < 6 ∧ y' < 6 ∧ shG x y k = y' * 6 + x' ∧ ∀ K : Cont, K (.tup [I x', I y']) [⟨[I x], 0, 3, 0, false, false⟩, ⟨[I y], 0, 3, 0, false, false⟩] →
    ACall Try.prog W0 138 (I (k % 6 : Nat) :: I (k / 6 : Nat) :: [.ptr 0 0 0, .ptr 1 0 0]) [⟨[I x], 0, 3, 0, false, false⟩, ⟨[I y], 0, 3, 0, false, false⟩] K := by
  refine ⟨(k % 6 + x) % 6, (k / 6 + y) % 6, by omega, by omega, rfl, fun K h0 => ?_⟩
  refine by138 (Nat.le_of_ble_eq_true rfl) ?_
  have e1 := addrem (k % 6) x (by omega) hx
  have e2 := addrem (k / 6) y (by omega) hy
  repeat' ((conv => whnf); first
    | (refine And.intro rfl ?_)
    | (refine And.intro (by decide +kernel) ?_)
    | (refine And.intro trivial ?_)
    | (refine Exists.intro _ (And.intro rfl (And.intro rfl (And.intro (Nat.le_of_ble_eq_true rfl) ?_))))
    | (refine Exists.intro _ (And.intro rfl (And.intro rfl (And.intro rfl (And.intro (Nat.le_of_ble_eq_true rfl) ?_)))))
    | (refine And.intro (Exists.intro _ (And.intro rfl rfl)) ?_)
    | (exact fun hW => absurd hW (by decide +kernel))
    | (intro hW; (try simp only [Bool.not_true, Bool.not_false, Bool.not_eq_true', Bool.not_eq_false', decide_eq_true_eq, decide_eq_false_iff_not, reduceCtorEq, Bool.true_eq_false, Bool.false_eq_true, mk_size, List.size_toArray, ByteArray.size_append, ByteArray.size_extract, List.length_cons, List.length_nil, ba_get, ba_empty, Int.toNat_natCast] at hW))
    | (refine And.intro (?_ : _ → _) (?_ : _ → _))
    | (refine FinR.drop 0 (Nat.zero_le _) (Closed.zero _) rfl ?_)
    | (refine FinR.keep ?_)
    | (refine And.intro (det3_agg rfl) ?_)
    | (refine fL_mk ?_)
    | (refine And.intro (by (try simp only [mk_size, List.size_toArray, ByteArray.size_append, ByteArray.size_extract, List.length_cons, List.length_nil]); omega) ?_)
    | (refine And.intro (by (try simp only [mk_size, List.size_toArray, ByteArray.size_append, ByteArray.size_extract, List.length_cons, List.length_nil, wrap64_eq]); omega) ?_)
    | fail)
  all_goals exact kT2 h0 e1 e2
theorem c_shifted (n : Nat) (hn : n < 2 ^ 36) (dx dy : Int) (x y : Nat) (hx : dx % 6 = x) (hy : dy % 6 = y) (K : Cont) (h0 : K (U (mvN (shG x y) n 36 : Nat)) []) : ACall Try.prog W0 120 [U n, I dx, I dy] [] K := by
  refine by120 (Nat.le_of_ble_eq_true rfl) ?_
  have hx' : x < 6 := by omega
  have hy' : y < 6 := by omega
  repeat' ((conv => whnf); first
    | (refine And.intro rfl ?_)
    | (refine And.intro (by decide +kernel) ?_)
    | (refine And.intro trivial ?_)
    | (refine d_rest (hx := hx) (h0 := ?_) ..)
    | (refine Exists.intro _ (And.intro (fun τ => callW_fn (d_rest (hx := hx) (h0 := And.intro rfl rfl) ..)) ?_))
    | (refine Exists.intro _ (And.intro (callW_fn (d_rest (hx := hx) (h0 := And.intro rfl rfl) ..)) (And.intro trivial ?_)))
    | (refine Exists.intro _ (And.intro (callW_fn (d_rest (hx := hx) (h0 := And.intro rfl rfl) ..)) ?_))
    | (refine Exists.intro _ (And.intro (fun τ _ => callW_fn (d_rest (hx := hx) (h0 := And.intro rfl rfl) ..)) ?_))
    | (refine d_rest (hx := hy) (h0 := ?_) ..)
    | (refine Exists.intro _ (And.intro (fun τ => callW_fn (d_rest (hx := hy) (h0 := And.intro rfl rfl) ..)) ?_))
    | (refine Exists.intro _ (And.intro (callW_fn (d_rest (hx := hy) (h0 := And.intro rfl rfl) ..)) (And.intro trivial ?_)))
    | (refine Exists.intro _ (And.intro (callW_fn (d_rest (hx := hy) (h0 := And.intro rfl rfl) ..)) ?_))
    | (refine Exists.intro _ (And.intro (fun τ _ => callW_fn (d_rest (hx := hy) (h0 := And.intro rfl rfl) ..)) ?_))
    | (refine c_moved (hn := hn) (hg := fun k hk => (sh_perm x hx' y hy' k hk).1) (hc := fun k hk => shClo x y hx' hy' k hk) (h0 := ?_) ..)
    | (refine Exists.intro _ (And.intro rfl (And.intro rfl (And.intro (Nat.le_of_ble_eq_true rfl) ?_))))
    | (refine Exists.intro _ (And.intro rfl (And.intro rfl (And.intro rfl (And.intro (Nat.le_of_ble_eq_true rfl) ?_)))))
    | (refine And.intro (Exists.intro _ (And.intro rfl rfl)) ?_)
    | (exact fun hW => absurd hW (by decide +kernel))
    | (intro hW; (try simp only [Bool.not_true, Bool.not_false, Bool.not_eq_true', Bool.not_eq_false', decide_eq_true_eq, decide_eq_false_iff_not, reduceCtorEq, Bool.true_eq_false, Bool.false_eq_true, mk_size, List.size_toArray, ByteArray.size_append, ByteArray.size_extract, List.length_cons, List.length_nil, ba_get, ba_empty, Int.toNat_natCast] at hW))
    | (refine And.intro (?_ : _ → _) (?_ : _ → _))
    | (refine FinR.drop 0 (Nat.zero_le _) (Closed.zero _) rfl ?_)
    | (refine FinR.keep ?_)
    | (refine And.intro (det3_agg rfl) ?_)
    | (refine fL_mk ?_)
    | (refine And.intro (by (try simp only [mk_size, List.size_toArray, ByteArray.size_append, ByteArray.size_extract, List.length_cons, List.length_nil]); omega) ?_)
    | (refine And.intro (by (try simp only [mk_size, List.size_toArray, ByteArray.size_append, ByteArray.size_extract, List.length_cons, List.length_nil, wrap64_eq]); omega) ?_)
    | fail)
  all_goals exact h0
theorem d_shifted (n : Nat) (hn : n < 2 ^ 36) (dx dy : Int) (x y : Nat) (hx : dx % 6 = x) (hy : dy % 6 = y) (K : Cont) (h0 : K (U (mvN (shG x y) n 36 : Nat)) σ) : ACall Try.prog W0 120 [U n, I dx, I dy] σ K :=
  ACall.lift rfl (fun _ => rfl) (fun W1 K _ hK => c_shifted n hn dx dy x y hx hy K hK) h0
end Go.Proofs.Ythncpkdhcfaflaa
