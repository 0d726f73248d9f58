/- Contracts: the laws IsValidLog, SyncLog, AppendRecord. -/
import Derived.Test.YtlmplfgnhibfcaaDoorS8
set_option linter.unusedVariables false
set_option linter.unusedSimpArgs false
set_option maxRecDepth 100000
set_option maxHeartbeats 4000000
namespace Go.Proofs.YtlmplfgnhibfcaaDoor
open Go Go.RowKit Go.Proofs.YtlmplfgnhibfcaaDoor.Abs
variable {W0 : World} {σ : List Blk}
theorem c_toLog (d p : ByteArray) (cnt : Int) (K : Cont) (h0 : K (Lg d p cnt) []) : ACall Tryd.prog W0 7 [Lg d p cnt] [] K := by
  refine by7 (Nat.le_of_ble_eq_true rfl) ?_
  repeat' ((conv => whnf); first
    | (refine And.intro rfl ?_)
    | (refine And.intro (by decide +kernel) ?_)
    | (refine And.intro trivial ?_)
    | (refine Exists.intro _ (And.intro rfl (And.intro rfl (And.intro (Nat.le_of_ble_eq_true rfl) ?_))))
    | (refine Exists.intro _ (And.intro rfl (And.intro rfl (And.intro rfl (And.intro (Nat.le_of_ble_eq_true rfl) ?_)))))
    | (refine And.intro (Exists.intro _ (And.intro rfl rfl)) ?_)
    | (exact fun hW => absurd hW (by decide +kernel))
    | (intro hW; (try simp only [Bool.not_true, Bool.not_false, Bool.not_eq_true', Bool.not_eq_false', decide_eq_true_eq, decide_eq_false_iff_not, reduceCtorEq, Bool.true_eq_false, Bool.false_eq_true, mk_size, List.size_toArray, ByteArray.size_append, ByteArray.size_extract, List.length_cons, List.length_nil, ba_get, ba_empty, Int.toNat_natCast] at hW))
    | (refine And.intro (?_ : _ → _) (?_ : _ → _))
    | (refine FinR.drop 0 (Nat.zero_le _) (Closed.zero _) rfl ?_)
    | (refine FinR.keep ?_)
    | (refine And.intro (det3_agg rfl) ?_)
    | (refine fL_mk ?_)
    | (refine And.intro (by (try simp only [mk_size, List.size_toArray, ByteArray.size_append, ByteArray.size_extract, List.length_cons, List.length_nil]); omega) ?_)
    | (refine And.intro (by (try simp only [mk_size, List.size_toArray, ByteArray.size_append, ByteArray.size_extract, List.length_cons, List.length_nil, wrap64_eq]); omega) ?_)
    | fail)
  all_goals exact h0
theorem d_toLog (d p : ByteArray) (cnt : Int) (K : Cont) (h0 : K (Lg d p cnt) σ) : ACall Tryd.prog W0 7 [Lg d p cnt] σ K :=
  ACall.lift rfl (fun _ => rfl) (fun W1 K _ hK => c_toLog d p cnt K hK) h0
theorem c_szLog (c r : ByteArray) (cnt : Int) (hc : c.size ≤ 9223372036854775807) (hr : r.size ≤ 9223372036854775807) (m : Int) (hm : 0 ≤ m) (hm' : m ≤ 1048576) (K : Cont) (h0 : K (I (szI m [c.size, r.size])) []) : ACall Tryd.prog W0 5 [Lg c r cnt, I m] [] K := by
  refine by5 (Nat.le_of_ble_eq_true rfl) ?_
  have e1 : IntKind.i64.wrap (m - (c.size : Nat)) = m - (c.size : Nat) := wrap_i64 _ (by omega) (by omega)
  have e2 : 0 ≤ m - (c.size : Nat) → IntKind.i64.wrap (m - (c.size : Nat) - (r.size : Nat)) = m - (c.size : Nat) - (r.size : Nat) := fun h => wrap_i64 _ (by omega) (by omega)
  repeat' ((conv => whnf); first
    | (refine And.intro rfl ?_)
    | (refine And.intro (by decide +kernel) ?_)
    | (refine And.intro trivial ?_)
    | (refine Exists.intro _ (And.intro rfl (And.intro rfl (And.intro (Nat.le_of_ble_eq_true rfl) ?_))))
    | (refine Exists.intro _ (And.intro rfl (And.intro rfl (And.intro rfl (And.intro (Nat.le_of_ble_eq_true rfl) ?_)))))
    | (refine And.intro (Exists.intro _ (And.intro rfl rfl)) ?_)
    | (exact fun hW => absurd hW (by decide +kernel))
    | (intro hW; (try simp only [Bool.not_true, Bool.not_false, Bool.not_eq_true', Bool.not_eq_false', decide_eq_true_eq, decide_eq_false_iff_not, reduceCtorEq, Bool.true_eq_false, Bool.false_eq_true, mk_size, List.size_toArray, ByteArray.size_append, ByteArray.size_extract, List.length_cons, List.length_nil, ba_get, ba_empty, Int.toNat_natCast] at hW))
    | (refine And.intro (?_ : _ → _) (?_ : _ → _))
    | (refine FinR.drop 0 (Nat.zero_le _) (Closed.zero _) rfl ?_)
    | (refine FinR.keep ?_)
    | (refine And.intro (det3_agg rfl) ?_)
    | (refine fL_mk ?_)
    | (refine And.intro (by (try simp only [mk_size, List.size_toArray, ByteArray.size_append, ByteArray.size_extract, List.length_cons, List.length_nil]); omega) ?_)
    | (refine And.intro (by (try simp only [mk_size, List.size_toArray, ByteArray.size_append, ByteArray.size_extract, List.length_cons, List.length_nil, wrap64_eq]); omega) ?_)
    | fail)
  all_goals (rw [e1] at *; refine kI h0 ?_; simp only [szI])
  · rw [if_pos (by omega)]
  · rw [e2 (by omega)] at *
    rw [if_neg (by omega), if_pos (by omega)]
  · rw [e2 (by omega)] at *
    rw [if_neg (by omega), if_neg (by omega)]
theorem d_szLog (c r : ByteArray) (cnt : Int) (hc : c.size ≤ 9223372036854775807) (hr : r.size ≤ 9223372036854775807) (m : Int) (hm : 0 ≤ m) (hm' : m ≤ 1048576) (K : Cont) (h0 : K (I (szI m [c.size, r.size])) σ) : ACall Tryd.prog W0 5 [Lg c r cnt, I m] σ K :=
  ACall.lift rfl (fun _ => rfl) (fun W1 K _ hK => c_szLog c r cnt hc hr m hm hm' K hK) h0
theorem szI_le {left : Int} {l : List Nat} (h0 : 0 ≤ szI left l) : szI left l ≤ left := by
  induction l generalizing left with
  | nil => exact Int.le_refl _
  | cons a l ih =>
    simp only [szI] at h0 ⊢
    split at h0
    · omega
    · rename_i h1
      rw [if_neg h1]
      have := ih h0; omega
/-! ### sync -/
abbrev SyT (d p : ByteArray) (cnt : Int) : AV := .tup [Lg (d ++ p) ⟨#[]⟩ cnt, Bo true]
abbrev SyF : AV := .tup [Lg ⟨#[]⟩ ⟨#[]⟩ 0, Bo false]
/-! ### append -/
theorem vB_cnt {d p : ByteArray} {cnt : Int} (h : vB d p cnt = true) : ∃ k : Nat, cnt = k ∧ k ≤ 60 ∧ d.size + p.size ≤ 30000 := by
  obtain ⟨h1, es, h2, h3, _⟩ := vB_iff.1 h
  exact ⟨es.length, h3, h2.max, h1⟩
end Go.Proofs.YtlmplfgnhibfcaaDoor
