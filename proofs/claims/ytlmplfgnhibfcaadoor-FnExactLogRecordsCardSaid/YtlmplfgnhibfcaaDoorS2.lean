/- Contracts: valid records. -/
import Derived.Test.YtlmplfgnhibfcaaDoorLib
set_option linter.unusedVariables false
set_option linter.unusedSimpArgs false
set_option maxRecDepth 100000
namespace Go.Proofs.YtlmplfgnhibfcaaDoor
open Go Go.RowKit Go.Proofs.YtlmplfgnhibfcaaDoor.Abs
variable {W0 : World} {σ : List Blk}
abbrev Rc (c r : ByteArray) : AV := .agg [St c, St r]
def cmdB (c : ByteArray) : Bool := decide ((1 : Int) ≤ (c.size : Nat)) && (plain (tl c) && decide ((c.size : Int) ≤ 160)) && !((tl c).any (· == 64))
def recB (c r : ByteArray) : Bool := cmdB c && (plain (tl r) && decide ((r.size : Int) ≤ 250))
theorem c_l12Record (c r : ByteArray) (hc : c.size < 4611686018427387904) (hr : r.size < 4611686018427387904) (K : Cont) (h0 : K (Bo (recB c r)) []) : ACall Tryd.prog W0 26 [Rc c r] [] K := by
  refine by26 (Nat.le_of_ble_eq_true rfl) ?_
  repeat' ((conv => whnf); first
    | (refine And.intro rfl ?_)
    | (refine And.intro (by decide +kernel) ?_)
    | (refine And.intro trivial ?_)
    | (refine d_l12Bytes (hs := by assumption) (h0 := ?_) ..)
    | (refine d_l1Stands (b := 64) (hs := by assumption) (h0 := ?_) ..)
    | (refine Exists.intro _ (And.intro rfl (And.intro rfl (And.intro (Nat.le_of_ble_eq_true rfl) ?_))))
    | (refine Exists.intro _ (And.intro rfl (And.intro rfl (And.intro rfl (And.intro (Nat.le_of_ble_eq_true rfl) ?_)))))
    | (refine And.intro (Exists.intro _ (And.intro rfl rfl)) ?_)
    | (exact fun hW => absurd hW (by decide +kernel))
    | (intro hW; (try simp only [Bool.not_true, Bool.not_false, Bool.not_eq_true', Bool.not_eq_false', decide_eq_true_eq, decide_eq_false_iff_not, reduceCtorEq, Bool.true_eq_false, Bool.false_eq_true, mk_size, List.size_toArray, ByteArray.size_append, ByteArray.size_extract, List.length_cons, List.length_nil, ba_get, ba_empty, Int.toNat_natCast] at hW))
    | (refine And.intro (?_ : _ → _) (?_ : _ → _))
    | (refine FinR.drop 0 (Nat.zero_le _) (Closed.zero _) rfl ?_)
    | (refine FinR.keep ?_)
    | (refine And.intro (det3_agg rfl) ?_)
    | (refine fL_mk ?_)
    | (refine And.intro (by (try simp only [mk_size, List.size_toArray, ByteArray.size_append, ByteArray.size_extract, List.length_cons, List.length_nil]); omega) ?_)
    | (refine And.intro (by (try simp only [mk_size, List.size_toArray, ByteArray.size_append, ByteArray.size_extract, List.length_cons, List.length_nil, wrap64_eq]); omega) ?_)
    | fail)
  all_goals (refine kB h0 ?_; clear h0; simp only [recB, cmdB, *, decide_true, decide_false, Bool.and_true, Bool.true_and, Bool.false_and, Bool.and_false, Bool.not_true, Bool.not_false, Bool.or_true, Bool.or_false, Bool.true_or, Bool.false_or, Bool.not_not])
theorem d_l12Record (c r : ByteArray) (hc : c.size < 4611686018427387904) (hr : r.size < 4611686018427387904) (K : Cont) (h0 : K (Bo (recB c r)) σ) : ACall Tryd.prog W0 26 [Rc c r] σ K :=
  ACall.lift rfl (fun _ => rfl) (fun W1 K _ hK => c_l12Record c r hc hr K hK) h0
theorem c_isCommand (c : ByteArray) (hc : c.size < 4611686018427387904) (K : Cont) (h0 : K (Bo (cmdB c)) []) : ACall Tryd.prog W0 45 [St c] [] K := by
  refine by45 (Nat.le_of_ble_eq_true rfl) ?_
  repeat' ((conv => whnf); first
    | (refine And.intro rfl ?_)
    | (refine And.intro (by decide +kernel) ?_)
    | (refine And.intro trivial ?_)
    | (refine d_isPlain (hs := by assumption) (h0 := ?_) ..)
    | (refine d_Contains1 (c := 64) (h0 := ?_) ..)
    | (refine Exists.intro _ (And.intro rfl (And.intro rfl (And.intro (Nat.le_of_ble_eq_true rfl) ?_))))
    | (refine Exists.intro _ (And.intro rfl (And.intro rfl (And.intro rfl (And.intro (Nat.le_of_ble_eq_true rfl) ?_)))))
    | (refine And.intro (Exists.intro _ (And.intro rfl rfl)) ?_)
    | (exact fun hW => absurd hW (by decide +kernel))
    | (intro hW; (try simp only [Bool.not_true, Bool.not_false, Bool.not_eq_true', Bool.not_eq_false', decide_eq_true_eq, decide_eq_false_iff_not, reduceCtorEq, Bool.true_eq_false, Bool.false_eq_true, mk_size, List.size_toArray, ByteArray.size_append, ByteArray.size_extract, List.length_cons, List.length_nil, ba_get, ba_empty, Int.toNat_natCast] at hW))
    | (refine And.intro (?_ : _ → _) (?_ : _ → _))
    | (refine FinR.drop 0 (Nat.zero_le _) (Closed.zero _) rfl ?_)
    | (refine FinR.keep ?_)
    | (refine And.intro (det3_agg rfl) ?_)
    | (refine fL_mk ?_)
    | (refine And.intro (by (try simp only [mk_size, List.size_toArray, ByteArray.size_append, ByteArray.size_extract, List.length_cons, List.length_nil]); omega) ?_)
    | (refine And.intro (by (try simp only [mk_size, List.size_toArray, ByteArray.size_append, ByteArray.size_extract, List.length_cons, List.length_nil, wrap64_eq]); omega) ?_)
    | fail)
  all_goals (refine kB h0 ?_; clear h0; simp only [cmdB, *, decide_true, decide_false, Bool.and_true, Bool.true_and, Bool.false_and, Bool.and_false, Bool.not_true, Bool.not_false, Bool.or_true, Bool.or_false, Bool.true_or, Bool.false_or, Bool.not_not])
theorem d_isCommand (c : ByteArray) (hc : c.size < 4611686018427387904) (K : Cont) (h0 : K (Bo (cmdB c)) σ) : ACall Tryd.prog W0 45 [St c] σ K :=
  ACall.lift rfl (fun _ => rfl) (fun W1 K _ hK => c_isCommand c hc K hK) h0
theorem c_IsValidRecord (c r : ByteArray) (hc : c.size < 4611686018427387904) (hr : r.size < 4611686018427387904) (K : Cont) (h0 : K (Bo (recB c r)) []) : ACall Tryd.prog W0 38 [Rc c r] [] K := by
  refine by38 (Nat.le_of_ble_eq_true rfl) ?_
  repeat' ((conv => whnf); first
    | (refine And.intro rfl ?_)
    | (refine And.intro (by decide +kernel) ?_)
    | (refine And.intro trivial ?_)
    | (refine d_isPlain (hs := by assumption) (h0 := ?_) ..)
    | (refine d_isCommand (hc := by assumption) (h0 := ?_) ..)
    | (refine Exists.intro _ (And.intro rfl (And.intro rfl (And.intro (Nat.le_of_ble_eq_true rfl) ?_))))
    | (refine Exists.intro _ (And.intro rfl (And.intro rfl (And.intro rfl (And.intro (Nat.le_of_ble_eq_true rfl) ?_)))))
    | (refine And.intro (Exists.intro _ (And.intro rfl rfl)) ?_)
    | (exact fun hW => absurd hW (by decide +kernel))
    | (intro hW; (try simp only [Bool.not_true, Bool.not_false, Bool.not_eq_true', Bool.not_eq_false', decide_eq_true_eq, decide_eq_false_iff_not, reduceCtorEq, Bool.true_eq_false, Bool.false_eq_true, mk_size, List.size_toArray, ByteArray.size_append, ByteArray.size_extract, List.length_cons, List.length_nil, ba_get, ba_empty, Int.toNat_natCast] at hW))
    | (refine And.intro (?_ : _ → _) (?_ : _ → _))
    | (refine FinR.drop 0 (Nat.zero_le _) (Closed.zero _) rfl ?_)
    | (refine FinR.keep ?_)
    | (refine And.intro (det3_agg rfl) ?_)
    | (refine fL_mk ?_)
    | (refine And.intro (by (try simp only [mk_size, List.size_toArray, ByteArray.size_append, ByteArray.size_extract, List.length_cons, List.length_nil]); omega) ?_)
    | (refine And.intro (by (try simp only [mk_size, List.size_toArray, ByteArray.size_append, ByteArray.size_extract, List.length_cons, List.length_nil, wrap64_eq]); omega) ?_)
    | fail)
  all_goals (refine kB h0 ?_; clear h0; simp only [recB, *, decide_true, decide_false, Bool.and_true, Bool.true_and, Bool.false_and, Bool.and_false, Bool.not_true, Bool.not_false, Bool.or_true, Bool.or_false, Bool.true_or, Bool.false_or, Bool.not_not])
theorem d_IsValidRecord (c r : ByteArray) (hc : c.size < 4611686018427387904) (hr : r.size < 4611686018427387904) (K : Cont) (h0 : K (Bo (recB c r)) σ) : ACall Tryd.prog W0 38 [Rc c r] σ K :=
  ACall.lift rfl (fun _ => rfl) (fun W1 K _ hK => c_IsValidRecord c r hc hr K hK) h0
def szI (left : Int) (l : List Nat) : Int := match l with
  | [] => left
  | n :: l => if left - n < 0 then -1 else szI (left - n) l
theorem szI_neg {left : Int} {l : List Nat} (h0 : 0 ≤ left) (h : 0 ≤ szI left l) : ∀ n ∈ l, (n : Int) ≤ left := by
  induction l generalizing left with
  | nil => intro n hn; cases hn
  | cons a l ih =>
    simp only [szI] at h
    split at h
    · omega
    · rename_i h1
      intro n hn
      cases hn with
      | head => omega
      | tail _ hn => have := ih (by omega) h n hn; omega
end Go.Proofs.YtlmplfgnhibfcaaDoor
