/- Contracts: the encoding of a record. -/
import Derived.Test.YtlmplfgnhibfcaaDoorTab
import Derived.Test.YtlmplfgnhibfcaaDoorS2
set_option linter.unusedVariables false
set_option linter.unusedSimpArgs false
set_option maxRecDepth 100000
namespace Go.Proofs.YtlmplfgnhibfcaaDoor
open Go Go.RowKit Go.Proofs.YtlmplfgnhibfcaaDoor.Abs
variable {W0 : World} {σ : List Blk}
theorem tdiv_nat (n m : Nat) : ((n : Int).tdiv (m : Int)) = ((n / m : Nat) : Int) := by simp
theorem tmod_nat (n m : Nat) : ((n : Int).tmod (m : Int)) = ((n % m : Nat) : Int) := by
  rw [Int.tmod_eq_emod_of_nonneg (by omega)]; rfl
theorem sum_wrap {l : Bs} {i : Nat} {c : UInt8} (hi : i < l.length) (hc : c = l.getD i 0) : (IntKind.i64.wrap (IntKind.i64.wrap (IntKind.i64.wrap (41 * (sumN (l.take i) : Nat)) + IntKind.i64.wrap (c.toNat : Nat)) + 1)).tmod 999979 = ((sumN (l.take (i + 1)) : Nat) : Int) := by
  have h1 := sum_lt (l.take i)
  have h2 := c.toNat_lt
  have e1 : IntKind.i64.wrap (IntKind.i64.wrap (IntKind.i64.wrap (41 * (sumN (l.take i) : Nat)) + IntKind.i64.wrap (c.toNat : Nat)) + 1) = ((41 * sumN (l.take i) + c.toNat + 1 : Nat) : Int) := by
    simp only [wrap64_eq]; omega
  rw [e1, sum_step hi, ← hc]
  exact tmod_nat _ 999979
def digs : ByteArray := ⟨#[48, 49, 50, 51, 52, 53, 54, 55, 56, 57]⟩
theorem digs_at : ∀ n : Fin 10, digs.extract n.val (n.val + 1) = bs [UInt8.ofNat (48 + n.val)] := by decide +kernel
theorem dig_small {n : Nat} (h : n < 10) : digs.extract n (n + 1) = numB n := by
  rw [digs_at ⟨n, h⟩, numB, dec_small h]
theorem dig_big {n : Nat} (h : ¬ n < 10) : numB (n / 10) ++ digs.extract (n % 10) (n % 10 + 1) = numB n := by
  rw [digs_at ⟨n % 10, Nat.mod_lt _ (by decide)⟩, numB, numB, dec_big h]
  apply tl_ext; rw [tl_append]; rfl
theorem c_l1Num (n : Nat) (hn : n ≤ 9223372036854775807) (K : Cont) (h0 : K (St (numB n)) []) : ACall Tryd.prog W0 25 [I n] [] K := by
  induction n using Nat.strongRecOn generalizing K W0 with
  | _ n ih =>
    refine by25 (Nat.le_of_ble_eq_true rfl) ?_
    have e0 : (n : Int).tdiv 10 = ((n / 10 : Nat) : Int) := tdiv_nat n 10
    have e2 : (n : Int).tmod 10 = ((n % 10 : Nat) : Int) := tmod_nat n 10
    have e1 : IntKind.i64.wrap ((n : Int).tdiv 10) = ((n / 10 : Nat) : Int) := by rw [e0, wrap_i64 _ (by omega) (by omega)]
    have h10 : 10 ≤ n → (numB (n / 10)).size ≤ 19 := fun _ => numB_size (by omega)
    repeat' ((conv => whnf); first
      | (refine And.intro rfl ?_)
      | (refine And.intro (by decide +kernel) ?_)
      | (refine And.intro trivial ?_)
      | (refine Exists.intro _ (And.intro rfl (And.intro rfl (And.intro (Nat.le_of_ble_eq_true rfl) ?_))))
      | (refine Exists.intro _ (And.intro rfl (And.intro rfl (And.intro rfl (And.intro (Nat.le_of_ble_eq_true rfl) ?_)))))
      | (refine And.intro (Exists.intro _ (And.intro rfl rfl)) ?_)
      | (exact fun hW => absurd hW (by decide +kernel))
      | (intro hW; (try simp only [Bool.not_true, Bool.not_false, Bool.not_eq_true', Bool.not_eq_false', decide_eq_true_eq, decide_eq_false_iff_not, reduceCtorEq, Bool.true_eq_false, Bool.false_eq_true, mk_size, List.size_toArray, ByteArray.size_append, ByteArray.size_extract, List.length_cons, List.length_nil, ba_get, ba_empty, Int.toNat_natCast] at hW))
      | (refine And.intro (?_ : _ → _) (?_ : _ → _))
      | (refine FinR.drop 0 (Nat.zero_le _) (Closed.zero _) rfl ?_)
      | (refine FinR.keep ?_)
      | (refine And.intro (det3_agg rfl) ?_)
      | (refine fL_mk ?_)
      | (refine And.intro (by (try simp only [mk_size, List.size_toArray, ByteArray.size_append, ByteArray.size_extract, List.length_cons, List.length_nil]); omega) ?_)
      | (refine And.intro (by (try simp only [mk_size, List.size_toArray, ByteArray.size_append, ByteArray.size_extract, List.length_cons, List.length_nil, wrap64_eq]); omega) ?_)
      | fail)
    · exfalso; omega
    · exfalso; omega
    · refine kS h0 ?_
      rw [iN _ (by omega)]; exact (dig_small (by omega)).symm
    · have h11 := h10 (by omega)
      simp only [e1]
      refine Exists.intro _ (And.intro (fun τ => callW_fn (ACall.lift (r := St (numB (n / 10))) rfl (fun _ => rfl) (fun W1 K hb hK => ih (n / 10) (by omega) (by omega) K hK) (And.intro rfl rfl))) ?_)
      repeat' ((conv => whnf); first
        | (refine And.intro rfl ?_)
        | (refine And.intro (by decide +kernel) ?_)
        | (refine And.intro trivial ?_)
        | (refine Exists.intro _ (And.intro rfl (And.intro rfl (And.intro (Nat.le_of_ble_eq_true rfl) ?_))))
        | (refine Exists.intro _ (And.intro rfl (And.intro rfl (And.intro rfl (And.intro (Nat.le_of_ble_eq_true rfl) ?_)))))
        | (refine And.intro (Exists.intro _ (And.intro rfl rfl)) ?_)
        | (exact fun hW => absurd hW (by decide +kernel))
        | (intro hW; (try simp only [Bool.not_true, Bool.not_false, Bool.not_eq_true', Bool.not_eq_false', decide_eq_true_eq, decide_eq_false_iff_not, reduceCtorEq, Bool.true_eq_false, Bool.false_eq_true, mk_size, List.size_toArray, ByteArray.size_append, ByteArray.size_extract, List.length_cons, List.length_nil, ba_get, ba_empty, Int.toNat_natCast] at hW))
        | (refine And.intro (?_ : _ → _) (?_ : _ → _))
        | (refine FinR.drop 0 (Nat.zero_le _) (Closed.zero _) rfl ?_)
        | (refine FinR.keep ?_)
        | (refine And.intro (det3_agg rfl) ?_)
        | (refine fL_mk ?_)
        | (refine And.intro (by (try simp only [mk_size, List.size_toArray, ByteArray.size_append, ByteArray.size_extract, List.length_cons, List.length_nil]); omega) ?_)
        | (refine And.intro (by (try simp only [mk_size, List.size_toArray, ByteArray.size_append, ByteArray.size_extract, List.length_cons, List.length_nil, wrap64_eq]); omega) ?_)
        | fail)
      all_goals (refine kS h0 ?_; rw [e2, iN _ (by omega)]; exact (dig_big (by omega)).symm)
theorem d_l1Num (n : Nat) (hn : n ≤ 9223372036854775807) (K : Cont) (h0 : K (St (numB n)) σ) : ACall Tryd.prog W0 25 [I n] σ K :=
  ACall.lift rfl (fun _ => rfl) (fun W1 K _ hK => c_l1Num n hn K hK) h0
theorem c_l1Sum (s : ByteArray) (hs : s.size < 4611686018427387904) (K : Cont) (h0 : K (I (sumN (tl s) : Nat)) []) : ACall Tryd.prog W0 41 [St s] [] K := by
  refine by41 (Nat.le_of_ble_eq_true rfl) ?_
  repeat' ((conv => whnf); first
    | (refine And.intro rfl ?_)
    | (refine And.intro (by decide +kernel) ?_)
    | (refine And.intro trivial ?_)
    | (refine Exists.intro _ (And.intro rfl (And.intro rfl (And.intro (Nat.le_of_ble_eq_true rfl) ?_))))
    | (refine Exists.intro _ (And.intro rfl (And.intro rfl (And.intro rfl (And.intro (Nat.le_of_ble_eq_true rfl) ?_)))))
    | (refine And.intro (Exists.intro _ (And.intro rfl rfl)) ?_)
    | (exact fun hW => absurd hW (by decide +kernel))
    | (intro hW; (try simp only [Bool.not_true, Bool.not_false, Bool.not_eq_true', Bool.not_eq_false', decide_eq_true_eq, decide_eq_false_iff_not, reduceCtorEq, Bool.true_eq_false, Bool.false_eq_true, mk_size, List.size_toArray, ByteArray.size_append, ByteArray.size_extract, List.length_cons, List.length_nil, ba_get, ba_empty, Int.toNat_natCast] at hW))
    | (refine And.intro (?_ : _ → _) (?_ : _ → _))
    | (refine FinR.drop 0 (Nat.zero_le _) (Closed.zero _) rfl ?_)
    | (refine FinR.keep ?_)
    | (refine And.intro (det3_agg rfl) ?_)
    | (refine fL_mk ?_)
    | (refine And.intro (by (try simp only [mk_size, List.size_toArray, ByteArray.size_append, ByteArray.size_extract, List.length_cons, List.length_nil]); omega) ?_)
    | (refine And.intro (by (try simp only [mk_size, List.size_toArray, ByteArray.size_append, ByteArray.size_extract, List.length_cons, List.length_nil, wrap64_eq]); omega) ?_)
    | fail)
  refine LoopR.live (fun i : Nat => [(0, St s), (3, I (sumN ((tl s).take i) : Nat)), (4, I i)]) (fun _ => []) (fun i => i ≤ s.size) (fun i => s.size - i) 0 ⟨rfl, rfl, rfl, trivial⟩ (.keep rfl) (Nat.zero_le _) ?_
  intro i hi
  have tls := tl_len s
  repeat' ((conv => whnf); first
    | (refine And.intro rfl ?_)
    | (refine And.intro (by decide +kernel) ?_)
    | (refine And.intro trivial ?_)
    | (refine Exists.intro _ (And.intro rfl (And.intro rfl (And.intro (Nat.le_of_ble_eq_true rfl) ?_))))
    | (refine Exists.intro _ (And.intro rfl (And.intro rfl (And.intro rfl (And.intro (Nat.le_of_ble_eq_true rfl) ?_)))))
    | (refine And.intro (Exists.intro _ (And.intro rfl rfl)) ?_)
    | (exact fun hW => absurd hW (by decide +kernel))
    | (intro hW; (try simp only [Bool.not_true, Bool.not_false, Bool.not_eq_true', Bool.not_eq_false', decide_eq_true_eq, decide_eq_false_iff_not, reduceCtorEq, Bool.true_eq_false, Bool.false_eq_true, mk_size, List.size_toArray, ByteArray.size_append, ByteArray.size_extract, List.length_cons, List.length_nil, ba_get, ba_empty, Int.toNat_natCast] at hW))
    | (refine And.intro (?_ : _ → _) (?_ : _ → _))
    | (refine FinR.drop 0 (Nat.zero_le _) (Closed.zero _) rfl ?_)
    | (refine FinR.keep ?_)
    | (refine And.intro (det3_agg rfl) ?_)
    | (refine fL_mk ?_)
    | (refine And.intro (by (try simp only [mk_size, List.size_toArray, ByteArray.size_append, ByteArray.size_extract, List.length_cons, List.length_nil]); omega) ?_)
    | (refine And.intro (by (try simp only [mk_size, List.size_toArray, ByteArray.size_append, ByteArray.size_extract, List.length_cons, List.length_nil, wrap64_eq]); omega) ?_)
    | fail)
  · exact Again.go (i + 1) ⟨rfl, slI (sum_wrap (by omega) (ba_get _ _)), slI (iN _ (by omega)), trivial⟩ (.keep rfl) (by show i + 1 ≤ _; omega) (by omega)
  · refine kI h0 ?_; rw [List.take_of_length_le (by omega)]
theorem d_l1Sum (s : ByteArray) (hs : s.size < 4611686018427387904) (K : Cont) (h0 : K (I (sumN (tl s) : Nat)) σ) : ACall Tryd.prog W0 41 [St s] σ K :=
  ACall.lift rfl (fun _ => rfl) (fun W1 K _ hK => c_l1Sum s hs K hK) h0
theorem c_checksum (s : ByteArray) (hs : s.size < 4611686018427387904) (K : Cont) (h0 : K (I (sumN (tl s) : Nat)) []) : ACall Tryd.prog W0 44 [St s] [] K := by
  refine by44 (Nat.le_of_ble_eq_true rfl) ?_
  repeat' ((conv => whnf); first
    | (refine And.intro rfl ?_)
    | (refine And.intro (by decide +kernel) ?_)
    | (refine And.intro trivial ?_)
    | (refine Exists.intro _ (And.intro rfl (And.intro rfl (And.intro (Nat.le_of_ble_eq_true rfl) ?_))))
    | (refine Exists.intro _ (And.intro rfl (And.intro rfl (And.intro rfl (And.intro (Nat.le_of_ble_eq_true rfl) ?_)))))
    | (refine And.intro (Exists.intro _ (And.intro rfl rfl)) ?_)
    | (exact fun hW => absurd hW (by decide +kernel))
    | (intro hW; (try simp only [Bool.not_true, Bool.not_false, Bool.not_eq_true', Bool.not_eq_false', decide_eq_true_eq, decide_eq_false_iff_not, reduceCtorEq, Bool.true_eq_false, Bool.false_eq_true, mk_size, List.size_toArray, ByteArray.size_append, ByteArray.size_extract, List.length_cons, List.length_nil, ba_get, ba_empty, Int.toNat_natCast] at hW))
    | (refine And.intro (?_ : _ → _) (?_ : _ → _))
    | (refine FinR.drop 0 (Nat.zero_le _) (Closed.zero _) rfl ?_)
    | (refine FinR.keep ?_)
    | (refine And.intro (det3_agg rfl) ?_)
    | (refine fL_mk ?_)
    | (refine And.intro (by (try simp only [mk_size, List.size_toArray, ByteArray.size_append, ByteArray.size_extract, List.length_cons, List.length_nil]); omega) ?_)
    | (refine And.intro (by (try simp only [mk_size, List.size_toArray, ByteArray.size_append, ByteArray.size_extract, List.length_cons, List.length_nil, wrap64_eq]); omega) ?_)
    | fail)
  refine LoopR.live (fun i : Nat => [(0, St s), (3, I (sumN ((tl s).take i) : Nat)), (6, I s.size), (7, I i)]) (fun _ => []) (fun i => i ≤ s.size) (fun i => s.size - i) 0 ⟨rfl, rfl, rfl, rfl, trivial⟩ (.keep rfl) (Nat.zero_le _) ?_
  intro i hi
  have tls := tl_len s
  repeat' ((conv => whnf); first
    | (refine And.intro rfl ?_)
    | (refine And.intro (by decide +kernel) ?_)
    | (refine And.intro trivial ?_)
    | (refine Exists.intro _ (And.intro rfl (And.intro rfl (And.intro (Nat.le_of_ble_eq_true rfl) ?_))))
    | (refine Exists.intro _ (And.intro rfl (And.intro rfl (And.intro rfl (And.intro (Nat.le_of_ble_eq_true rfl) ?_)))))
    | (refine And.intro (Exists.intro _ (And.intro rfl rfl)) ?_)
    | (exact fun hW => absurd hW (by decide +kernel))
    | (intro hW; (try simp only [Bool.not_true, Bool.not_false, Bool.not_eq_true', Bool.not_eq_false', decide_eq_true_eq, decide_eq_false_iff_not, reduceCtorEq, Bool.true_eq_false, Bool.false_eq_true, mk_size, List.size_toArray, ByteArray.size_append, ByteArray.size_extract, List.length_cons, List.length_nil, ba_get, ba_empty, Int.toNat_natCast] at hW))
    | (refine And.intro (?_ : _ → _) (?_ : _ → _))
    | (refine FinR.drop 0 (Nat.zero_le _) (Closed.zero _) rfl ?_)
    | (refine FinR.keep ?_)
    | (refine And.intro (det3_agg rfl) ?_)
    | (refine fL_mk ?_)
    | (refine And.intro (by (try simp only [mk_size, List.size_toArray, ByteArray.size_append, ByteArray.size_extract, List.length_cons, List.length_nil]); omega) ?_)
    | (refine And.intro (by (try simp only [mk_size, List.size_toArray, ByteArray.size_append, ByteArray.size_extract, List.length_cons, List.length_nil, wrap64_eq]); omega) ?_)
    | fail)
  · exact Again.go (i + 1) ⟨rfl, slI (sum_wrap (by omega) (ba_get _ _)), rfl, slI (iN _ (by omega)), trivial⟩ (.keep rfl) (by show i + 1 ≤ _; omega) (by omega)
  · refine kI h0 ?_; rw [List.take_of_length_le (by omega)]
theorem d_checksum (s : ByteArray) (hs : s.size < 4611686018427387904) (K : Cont) (h0 : K (I (sumN (tl s) : Nat)) σ) : ACall Tryd.prog W0 44 [St s] σ K :=
  ACall.lift rfl (fun _ => rfl) (fun W1 K _ hK => c_checksum s hs K hK) h0
def sealB (s : ByteArray) : ByteArray := s ++ ⟨#[35]⟩ ++ numB (sumN (tl s))
theorem c_l1Seal (s : ByteArray) (hs : s.size < 4611686018427387904) (K : Cont) (h0 : K (St (sealB s)) []) : ACall Tryd.prog W0 35 [St s] [] K := by
  refine by35 (Nat.le_of_ble_eq_true rfl) ?_
  have h1 := sum_lt (tl s)
  have h2 := numB_size6 (n := sumN (tl s)) (by omega)
  repeat' ((conv => whnf); first
    | (refine And.intro rfl ?_)
    | (refine And.intro (by decide +kernel) ?_)
    | (refine And.intro trivial ?_)
    | (refine d_l1Sum (hs := hs) (h0 := ?_) ..)
    | (refine d_l1Num (hn := by omega) (h0 := ?_) ..)
    | (refine Exists.intro _ (And.intro rfl (And.intro rfl (And.intro (Nat.le_of_ble_eq_true rfl) ?_))))
    | (refine Exists.intro _ (And.intro rfl (And.intro rfl (And.intro rfl (And.intro (Nat.le_of_ble_eq_true rfl) ?_)))))
    | (refine And.intro (Exists.intro _ (And.intro rfl rfl)) ?_)
    | (exact fun hW => absurd hW (by decide +kernel))
    | (intro hW; (try simp only [Bool.not_true, Bool.not_false, Bool.not_eq_true', Bool.not_eq_false', decide_eq_true_eq, decide_eq_false_iff_not, reduceCtorEq, Bool.true_eq_false, Bool.false_eq_true, mk_size, List.size_toArray, ByteArray.size_append, ByteArray.size_extract, List.length_cons, List.length_nil, ba_get, ba_empty, Int.toNat_natCast] at hW))
    | (refine And.intro (?_ : _ → _) (?_ : _ → _))
    | (refine FinR.drop 0 (Nat.zero_le _) (Closed.zero _) rfl ?_)
    | (refine FinR.keep ?_)
    | (refine And.intro (det3_agg rfl) ?_)
    | (refine fL_mk ?_)
    | (refine And.intro (by (try simp only [mk_size, List.size_toArray, ByteArray.size_append, ByteArray.size_extract, List.length_cons, List.length_nil]); omega) ?_)
    | (refine And.intro (by (try simp only [mk_size, List.size_toArray, ByteArray.size_append, ByteArray.size_extract, List.length_cons, List.length_nil, wrap64_eq]); omega) ?_)
    | fail)
  all_goals exact h0
theorem d_l1Seal (s : ByteArray) (hs : s.size < 4611686018427387904) (K : Cont) (h0 : K (St (sealB s)) σ) : ACall Tryd.prog W0 35 [St s] σ K :=
  ACall.lift rfl (fun _ => rfl) (fun W1 K _ hK => c_l1Seal s hs K hK) h0
def bodyB (k : Nat) (c r : ByteArray) : ByteArray := numB k ++ ⟨#[32]⟩ ++ c ++ ⟨#[64]⟩ ++ r
def lineB (k : Nat) (c r : ByteArray) : ByteArray := sealB (bodyB k c r) ++ ⟨#[10]⟩
theorem sealB_size (s : ByteArray) : (sealB s).size ≤ s.size + 7 := by
  have h1 := sum_lt (tl s)
  have h2 := numB_size6 (n := sumN (tl s)) (by omega)
  simp only [sealB, ByteArray.size_append, mk_size, List.size_toArray, List.length_cons, List.length_nil]; omega
theorem bodyB_size (k : Nat) (hk : k < 1000000) (c r : ByteArray) : (bodyB k c r).size ≤ c.size + r.size + 8 := by
  have h2 := numB_size6 hk
  simp only [bodyB, ByteArray.size_append, mk_size, List.size_toArray, List.length_cons, List.length_nil]; omega
theorem c_l12Line (k : Nat) (hk : k < 1000000) (c r : ByteArray) (hc : c.size < 100000000) (hr : r.size < 100000000) (K : Cont) (h0 : K (St (lineB k c r)) []) : ACall Tryd.prog W0 27 [I k, Rc c r] [] K := by
  refine by27 (Nat.le_of_ble_eq_true rfl) ?_
  have h2 := numB_size6 hk
  have h3 := bodyB_size k hk c r
  have h4 := sealB_size (bodyB k c r)
  repeat' ((conv => whnf); first
    | (refine And.intro rfl ?_)
    | (refine And.intro (by decide +kernel) ?_)
    | (refine And.intro trivial ?_)
    | (refine Exists.intro _ (And.intro (fun τ => callW_fn (d_l1Num (hn := by omega) (h0 := And.intro rfl rfl) ..)) ?_))
    | (refine Exists.intro _ (And.intro (fun τ => callW_fn (d_l1Seal (s := bodyB k c r) (hs := by omega) (h0 := And.intro rfl rfl) ..)) ?_))
    | (refine Exists.intro _ (And.intro rfl (And.intro rfl (And.intro (Nat.le_of_ble_eq_true rfl) ?_))))
    | (refine Exists.intro _ (And.intro rfl (And.intro rfl (And.intro rfl (And.intro (Nat.le_of_ble_eq_true rfl) ?_)))))
    | (refine And.intro (Exists.intro _ (And.intro rfl rfl)) ?_)
    | (exact fun hW => absurd hW (by decide +kernel))
    | (intro hW; (try simp only [Bool.not_true, Bool.not_false, Bool.not_eq_true', Bool.not_eq_false', decide_eq_true_eq, decide_eq_false_iff_not, reduceCtorEq, Bool.true_eq_false, Bool.false_eq_true, mk_size, List.size_toArray, ByteArray.size_append, ByteArray.size_extract, List.length_cons, List.length_nil, ba_get, ba_empty, Int.toNat_natCast] at hW))
    | (refine And.intro (?_ : _ → _) (?_ : _ → _))
    | (refine FinR.drop 0 (Nat.zero_le _) (Closed.zero _) rfl ?_)
    | (refine FinR.keep ?_)
    | (refine And.intro (det3_agg rfl) ?_)
    | (refine fL_mk ?_)
    | (refine And.intro (by (try simp only [mk_size, List.size_toArray, ByteArray.size_append, ByteArray.size_extract, List.length_cons, List.length_nil]); omega) ?_)
    | (refine And.intro (by (try simp only [mk_size, List.size_toArray, ByteArray.size_append, ByteArray.size_extract, List.length_cons, List.length_nil, wrap64_eq]); omega) ?_)
    | fail)
  all_goals exact h0
theorem d_l12Line (k : Nat) (hk : k < 1000000) (c r : ByteArray) (hc : c.size < 100000000) (hr : r.size < 100000000) (K : Cont) (h0 : K (St (lineB k c r)) σ) : ACall Tryd.prog W0 27 [I k, Rc c r] σ K :=
  ACall.lift rfl (fun _ => rfl) (fun W1 K _ hK => c_l12Line k hk c r hc hr K hK) h0
theorem inB_t {x a b : Int} (h : a ≤ x) (h' : x ≤ b) : inB x a b = true := by simp [inB, h, h']
theorem inB_of {x a b : Int} (h : inB x a b = true) : a ≤ x ∧ x ≤ b := by simpa [inB] using h
theorem c_AppendChecksumT (s : ByteArray) (hs : s.size ≤ 4000) (h1 : (tl s).any (· == 35) = false) (h2 : (sealB s).size ≤ 4000) (ht : TabP W0) (K : Cont) (h0 : K (.tup [St (sealB s), Bo true]) []) : ACall Tryd.prog W0 37 [St s] [] K := by
  refine by37 (Nat.le_of_ble_eq_true rfl) ?_
  have h3 := sum_lt (tl s)
  have h4 := numB_size6 (n := sumN (tl s)) (by omega)
  have h5 : (s ++ ⟨#[35]⟩ ++ numB (sumN (tl s))).size ≤ 4000 := h2
  simp only [ByteArray.size_append, mk_size, List.size_toArray, List.length_cons, List.length_nil] at h5
  repeat' ((conv => whnf); first
    | (refine And.intro rfl ?_)
    | (refine And.intro (by decide +kernel) ?_)
    | (refine And.intro trivial ?_)
    | (refine d_Contains1 (c := 35) (h0 := ?_) ..)
    | (refine d_checksum (hs := by omega) (h0 := ?_) ..)
    | (refine d_Itoa (h := by omega) (ht := ht) (h0 := ?_) ..)
    | (refine Exists.intro _ (And.intro rfl (And.intro rfl (And.intro (Nat.le_of_ble_eq_true rfl) ?_))))
    | (refine Exists.intro _ (And.intro rfl (And.intro rfl (And.intro rfl (And.intro (Nat.le_of_ble_eq_true rfl) ?_)))))
    | (refine And.intro (Exists.intro _ (And.intro rfl rfl)) ?_)
    | (exact fun hW => absurd hW (by decide +kernel))
    | (intro hW; (try simp only [Bool.not_true, Bool.not_false, Bool.not_eq_true', Bool.not_eq_false', decide_eq_true_eq, decide_eq_false_iff_not, reduceCtorEq, Bool.true_eq_false, Bool.false_eq_true, mk_size, List.size_toArray, ByteArray.size_append, ByteArray.size_extract, List.length_cons, List.length_nil, ba_get, ba_empty, Int.toNat_natCast] at hW))
    | (refine And.intro (?_ : _ → _) (?_ : _ → _))
    | (refine FinR.drop 0 (Nat.zero_le _) (Closed.zero _) rfl ?_)
    | (refine FinR.keep ?_)
    | (refine And.intro (det3_agg rfl) ?_)
    | (refine fL_mk ?_)
    | (refine And.intro (by (try simp only [mk_size, List.size_toArray, ByteArray.size_append, ByteArray.size_extract, List.length_cons, List.length_nil]); omega) ?_)
    | (refine And.intro (by (try simp only [mk_size, List.size_toArray, ByteArray.size_append, ByteArray.size_extract, List.length_cons, List.length_nil, wrap64_eq]); omega) ?_)
    | fail)
  all_goals first | (exfalso; omega) | (exfalso; simp_all; done) | exact h0
theorem d_AppendChecksumT (s : ByteArray) (hs : s.size ≤ 4000) (h1 : (tl s).any (· == 35) = false) (h2 : (sealB s).size ≤ 4000) (ht : TabP W0) (K : Cont) (h0 : K (.tup [St (sealB s), Bo true]) σ) : ACall Tryd.prog W0 37 [St s] σ K :=
  ACall.lift rfl (fun _ => rfl) (fun W1 K hb hK => c_AppendChecksumT s hs h1 h2 (ht.mono hb) K hK) h0
theorem c_AppendChecksumF (s : ByteArray) (h : ¬ (s.size ≤ 4000 ∧ (tl s).any (· == 35) = false ∧ (sealB s).size ≤ 4000)) (hs : s.size < 4611686018427387904) (ht : TabP W0) (K : Cont) (h0 : K (.tup [St ⟨#[]⟩, Bo false]) []) : ACall Tryd.prog W0 37 [St s] [] K := by
  refine by37 (Nat.le_of_ble_eq_true rfl) ?_
  have h3 := sum_lt (tl s)
  have h4 := numB_size6 (n := sumN (tl s)) (by omega)
  repeat' ((conv => whnf); first
    | (refine And.intro rfl ?_)
    | (refine And.intro (by decide +kernel) ?_)
    | (refine And.intro trivial ?_)
    | (refine d_Contains1 (c := 35) (h0 := ?_) ..)
    | (refine d_checksum (hs := by omega) (h0 := ?_) ..)
    | (refine d_Itoa (h := by omega) (ht := ht) (h0 := ?_) ..)
    | (refine Exists.intro _ (And.intro rfl (And.intro rfl (And.intro (Nat.le_of_ble_eq_true rfl) ?_))))
    | (refine Exists.intro _ (And.intro rfl (And.intro rfl (And.intro rfl (And.intro (Nat.le_of_ble_eq_true rfl) ?_)))))
    | (refine And.intro (Exists.intro _ (And.intro rfl rfl)) ?_)
    | (exact fun hW => absurd hW (by decide +kernel))
    | (intro hW; (try simp only [Bool.not_true, Bool.not_false, Bool.not_eq_true', Bool.not_eq_false', decide_eq_true_eq, decide_eq_false_iff_not, reduceCtorEq, Bool.true_eq_false, Bool.false_eq_true, mk_size, List.size_toArray, ByteArray.size_append, ByteArray.size_extract, List.length_cons, List.length_nil, ba_get, ba_empty, Int.toNat_natCast] at hW))
    | (refine And.intro (?_ : _ → _) (?_ : _ → _))
    | (refine FinR.drop 0 (Nat.zero_le _) (Closed.zero _) rfl ?_)
    | (refine FinR.keep ?_)
    | (refine And.intro (det3_agg rfl) ?_)
    | (refine fL_mk ?_)
    | (refine And.intro (by (try simp only [mk_size, List.size_toArray, ByteArray.size_append, ByteArray.size_extract, List.length_cons, List.length_nil]); omega) ?_)
    | (refine And.intro (by (try simp only [mk_size, List.size_toArray, ByteArray.size_append, ByteArray.size_extract, List.length_cons, List.length_nil, wrap64_eq]); omega) ?_)
    | fail)
  · exact h0
  · exact h0
  · rename_i e1 _ e2; exact (h ⟨by omega, e2, by show (s ++ ⟨#[35]⟩ ++ numB (sumN (tl s))).size ≤ 4000; simp only [ByteArray.size_append, mk_size, List.size_toArray, List.length_cons, List.length_nil]; omega⟩).elim
  · exact h0
theorem d_AppendChecksumF (s : ByteArray) (h : ¬ (s.size ≤ 4000 ∧ (tl s).any (· == 35) = false ∧ (sealB s).size ≤ 4000)) (hs : s.size < 4611686018427387904) (ht : TabP W0) (K : Cont) (h0 : K (.tup [St ⟨#[]⟩, Bo false]) σ) : ACall Tryd.prog W0 37 [St s] σ K :=
  ACall.lift rfl (fun _ => rfl) (fun W1 K hb hK => c_AppendChecksumF s h hs (ht.mono hb) K hK) h0
theorem recB_parts {c r : ByteArray} (h : recB c r = true) : 1 ≤ c.size ∧ plain (tl c) = true ∧ c.size ≤ 160 ∧ (tl c).any (· == 64) = false ∧ plain (tl r) = true ∧ r.size ≤ 250 := by
  simp only [recB, cmdB, Bool.and_eq_true, decide_eq_true_eq, Bool.not_eq_true'] at h
  exact ⟨by omega, h.1.1.2.1, by omega, h.1.2, h.2.1, by omega⟩
theorem plain_no {l : Bs} (h : plain l = true) (b : UInt8) (hb : plc b = false) : l.any (· == b) = false := by
  rw [any_not, Bool.not_eq_false', List.all_eq_true]
  intro x hx
  have := List.all_eq_true.1 h x hx
  rw [Bool.not_eq_true', Bool.eq_false_iff]
  intro e
  rw [eq_of_beq e, hb] at this; cases this
theorem dec_dig : ∀ (n : Nat) (b : UInt8), b ∈ Lib.decDigits n → 48 ≤ b.toNat ∧ b.toNat ≤ 57 := by
  intro n
  induction n using Nat.strongRecOn with
  | _ n ih =>
    intro b hb
    have key : ∀ m, m < 10 → b = UInt8.ofNat (48 + m) → 48 ≤ b.toNat ∧ b.toNat ≤ 57 := fun m hm e => by
      subst e
      have : (UInt8.ofNat (48 + m)).toNat = 48 + m := by
        rw [UInt8.toNat_ofNat']; exact Nat.mod_eq_of_lt (by omega)
      omega
    by_cases h : n < 10
    · rw [dec_small h] at hb
      exact key n h (List.mem_singleton.1 hb)
    · rw [dec_big h] at hb
      rcases List.mem_append.1 hb with h1 | h1
      · exact ih (n / 10) (by omega) b h1
      · exact key _ (Nat.mod_lt _ (by decide)) (List.mem_singleton.1 h1)
theorem num_no (n : Nat) (b : UInt8) (hb : b.toNat < 48 ∨ 57 < b.toNat) : (tl (numB n)).any (· == b) = false := by
  rw [any_not, Bool.not_eq_false', List.all_eq_true]
  intro x hx
  have := dec_dig n x hx
  rw [Bool.not_eq_true', Bool.eq_false_iff]
  intro e
  rw [eq_of_beq e] at this; omega
theorem body_no {k : Nat} {c r : ByteArray} (h : recB c r = true) : (tl (bodyB k c r)).any (· == 35) = false := by
  obtain ⟨_, h1, _, _, h2, _⟩ := recB_parts h
  simp only [bodyB, tl_append, List.any_append, num_no k 35 (by decide), plain_no h1 35 (by decide), plain_no h2 35 (by decide)]
  decide
theorem c_EncodeT (k : Nat) (c r : ByteArray) (hk : k < 60) (hv : recB c r = true) (ht : TabP W0) (K : Cont) (h0 : K (.tup [St (lineB k c r), Bo true]) []) : ACall Tryd.prog W0 31 [I k, Rc c r] [] K := by
  refine by31 (Nat.le_of_ble_eq_true rfl) ?_
  obtain ⟨_, _, h3, _, _, h4⟩ := recB_parts hv
  have h5 := numB_size6 (n := k) (by omega)
  have h6 := bodyB_size k (by omega) c r
  have h7 := sealB_size (bodyB k c r)
  repeat' ((conv => whnf); first
    | (refine And.intro rfl ?_)
    | (refine And.intro (by decide +kernel) ?_)
    | (refine And.intro trivial ?_)
    | (refine d_IsValidRecord (hc := by omega) (hr := by omega) (h0 := ?_) ..)
    | (refine Exists.intro _ (And.intro (fun τ => callW_fn (d_Itoa (h := by omega) (ht := ht) (h0 := And.intro rfl rfl) ..)) ?_))
    | (refine Exists.intro _ (And.intro (fun τ => callW_fn (d_AppendChecksumT (s := bodyB k c r) (hs := by omega) (h1 := body_no hv) (h2 := by omega) (ht := ht) (h0 := And.intro rfl rfl) ..)) ?_))
    | (refine Exists.intro _ (And.intro rfl (And.intro rfl (And.intro (Nat.le_of_ble_eq_true rfl) ?_))))
    | (refine Exists.intro _ (And.intro rfl (And.intro rfl (And.intro rfl (And.intro (Nat.le_of_ble_eq_true rfl) ?_)))))
    | (refine And.intro (Exists.intro _ (And.intro rfl rfl)) ?_)
    | (exact fun hW => absurd hW (by decide +kernel))
    | (intro hW; (try simp only [Bool.not_true, Bool.not_false, Bool.not_eq_true', Bool.not_eq_false', decide_eq_true_eq, decide_eq_false_iff_not, reduceCtorEq, Bool.true_eq_false, Bool.false_eq_true, mk_size, List.size_toArray, ByteArray.size_append, ByteArray.size_extract, List.length_cons, List.length_nil, ba_get, ba_empty, Int.toNat_natCast] at hW))
    | (refine And.intro (?_ : _ → _) (?_ : _ → _))
    | (refine FinR.drop 0 (Nat.zero_le _) (Closed.zero _) rfl ?_)
    | (refine FinR.keep ?_)
    | (refine And.intro (det3_agg rfl) ?_)
    | (refine fL_mk ?_)
    | (refine And.intro (by (try simp only [mk_size, List.size_toArray, ByteArray.size_append, ByteArray.size_extract, List.length_cons, List.length_nil]); omega) ?_)
    | (refine And.intro (by (try simp only [mk_size, List.size_toArray, ByteArray.size_append, ByteArray.size_extract, List.length_cons, List.length_nil, wrap64_eq]); omega) ?_)
    | fail)
  all_goals first | (exfalso; omega) | (exfalso; simp_all; done) | exact h0
theorem d_EncodeT (k : Nat) (c r : ByteArray) (hk : k < 60) (hv : recB c r = true) (ht : TabP W0) (K : Cont) (h0 : K (.tup [St (lineB k c r), Bo true]) σ) : ACall Tryd.prog W0 31 [I k, Rc c r] σ K :=
  ACall.lift rfl (fun _ => rfl) (fun W1 K hb hK => c_EncodeT k c r hk hv (ht.mono hb) K hK) h0
theorem c_EncodeF (k : Int) (c r : ByteArray) (hv : ¬ (0 ≤ k ∧ k < 60 ∧ recB c r = true)) (hc : c.size < 4611686018427387904) (hr : r.size < 4611686018427387904) (ht : TabP W0) (K : Cont) (h0 : K (.tup [St ⟨#[]⟩, Bo false]) []) : ACall Tryd.prog W0 31 [I k, Rc c r] [] K := by
  refine by31 (Nat.le_of_ble_eq_true rfl) ?_
  repeat' ((conv => whnf); first
    | (refine And.intro rfl ?_)
    | (refine And.intro (by decide +kernel) ?_)
    | (refine And.intro trivial ?_)
    | (refine d_IsValidRecord (hc := by omega) (hr := by omega) (h0 := ?_) ..)
    | (exfalso; exact hv ⟨by omega, by omega, by assumption⟩)
    | (refine Exists.intro _ (And.intro rfl (And.intro rfl (And.intro (Nat.le_of_ble_eq_true rfl) ?_))))
    | (refine Exists.intro _ (And.intro rfl (And.intro rfl (And.intro rfl (And.intro (Nat.le_of_ble_eq_true rfl) ?_)))))
    | (refine And.intro (Exists.intro _ (And.intro rfl rfl)) ?_)
    | (exact fun hW => absurd hW (by decide +kernel))
    | (intro hW; (try simp only [Bool.not_true, Bool.not_false, Bool.not_eq_true', Bool.not_eq_false', decide_eq_true_eq, decide_eq_false_iff_not, reduceCtorEq, Bool.true_eq_false, Bool.false_eq_true, mk_size, List.size_toArray, ByteArray.size_append, ByteArray.size_extract, List.length_cons, List.length_nil, ba_get, ba_empty, Int.toNat_natCast] at hW))
    | (refine And.intro (?_ : _ → _) (?_ : _ → _))
    | (refine FinR.drop 0 (Nat.zero_le _) (Closed.zero _) rfl ?_)
    | (refine FinR.keep ?_)
    | (refine And.intro (det3_agg rfl) ?_)
    | (refine fL_mk ?_)
    | (refine And.intro (by (try simp only [mk_size, List.size_toArray, ByteArray.size_append, ByteArray.size_extract, List.length_cons, List.length_nil]); omega) ?_)
    | (refine And.intro (by (try simp only [mk_size, List.size_toArray, ByteArray.size_append, ByteArray.size_extract, List.length_cons, List.length_nil, wrap64_eq]); omega) ?_)
    | fail)
  all_goals exact h0
theorem d_EncodeF (k : Int) (c r : ByteArray) (hv : ¬ (0 ≤ k ∧ k < 60 ∧ recB c r = true)) (hc : c.size < 4611686018427387904) (hr : r.size < 4611686018427387904) (ht : TabP W0) (K : Cont) (h0 : K (.tup [St ⟨#[]⟩, Bo false]) σ) : ACall Tryd.prog W0 31 [I k, Rc c r] σ K :=
  ACall.lift rfl (fun _ => rfl) (fun W1 K hb hK => c_EncodeF k c r hv hc hr (ht.mono hb) K hK) h0
end Go.Proofs.YtlmplfgnhibfcaaDoor
