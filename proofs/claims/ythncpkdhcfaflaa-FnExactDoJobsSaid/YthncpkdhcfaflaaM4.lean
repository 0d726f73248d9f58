/- Contracts: sheets of sets; the reference's sheets by their sets. -/
import Derived.Test.YthncpkdhcfaflaaM3
import Derived.Test.YthncpkdhcfaflaaC2
set_option linter.unusedVariables false
set_option linter.unusedSimpArgs false
set_option maxRecDepth 100000
set_option maxHeartbeats 4000000
namespace Go.Proofs.Ythncpkdhcfaflaa
open Go Go.RowKit Go.Proofs.Ythncpkdhcfaflaa.Abs
variable {W0 : World} {σ : List Blk}
theorem row_conv (n k i : Nat) (hk : k = 6 * i) (hi : i < 6) (hn : n < 2 ^ 64) : IntKind.i64.wrap (bAnd .u64 (shR .u64 (n : Nat) (k : Nat)) 63) = (rowN n i : Nat) := by
  subst hk
  rw [shR_u64 n _ (by omega), show (63 : Int) = ((63 : Nat) : Int) from rfl, bAnd_u64 _ _ (Nat.lt_of_le_of_lt (by rw [Nat.shiftRight_eq_div_pow]; exact Nat.div_le_self _ _) hn) (by decide)]
  have e : (n >>> (6 * i)) &&& 63 = rowN n i := by unfold rowN; exact Nat.and_two_pow_sub_one_eq_mod _ 6
  rw [e]
  have := rowN_lt n i
  exact wrap_i64 _ (by omega) (by omega)
theorem c_sheet (n : Nat) (hn : n < 2 ^ 64) (K : Cont) (h0 : K (ShN n) []) : ACall Try.prog W0 132 [U n] [] K := by
  refine by132 (Nat.le_of_ble_eq_true rfl) ?_
  repeat' ((conv => whnf); first
    | (refine And.intro rfl ?_)
    | (refine And.intro (by decide +kernel) ?_)
    | (refine And.intro trivial ?_)
    | (refine LoopR.unroll 7 ?_)
    | (refine Exists.intro _ (And.intro rfl (And.intro rfl (And.intro (Nat.le_of_ble_eq_true rfl) ?_))))
    | (refine Exists.intro _ (And.intro rfl (And.intro rfl (And.intro rfl (And.intro (Nat.le_of_ble_eq_true rfl) ?_)))))
    | (refine And.intro (Exists.intro _ (And.intro rfl rfl)) ?_)
    | (exact fun hW => absurd hW (by decide +kernel))
    | (intro hW; (try simp only [Bool.not_true, Bool.not_false, Bool.not_eq_true', Bool.not_eq_false', decide_eq_true_eq, decide_eq_false_iff_not, reduceCtorEq, Bool.true_eq_false, Bool.false_eq_true, mk_size, List.size_toArray, ByteArray.size_append, ByteArray.size_extract, List.length_cons, List.length_nil, ba_get, ba_empty, Int.toNat_natCast] at hW))
    | (refine And.intro (?_ : _ → _) (?_ : _ → _))
    | (refine FinR.drop 0 (Nat.zero_le _) (Closed.zero _) rfl ?_)
    | (refine FinR.keep ?_)
    | (refine And.intro (det3_agg rfl) ?_)
    | (refine fL_mk ?_)
    | (refine And.intro (by (try simp only [mk_size, List.size_toArray, ByteArray.size_append, ByteArray.size_extract, List.length_cons, List.length_nil]); omega) ?_)
    | (refine And.intro (by (try simp only [mk_size, List.size_toArray, ByteArray.size_append, ByteArray.size_extract, List.length_cons, List.length_nil, wrap64_eq]); omega) ?_)
    | fail)
  all_goals exact kSh h0 (row_conv n 0 0 rfl (by decide) hn) (row_conv n 6 1 rfl (by decide) hn) (row_conv n 12 2 rfl (by decide) hn) (row_conv n 18 3 rfl (by decide) hn) (row_conv n 24 4 rfl (by decide) hn) (row_conv n 30 5 rfl (by decide) hn)
theorem d_sheet (n : Nat) (hn : n < 2 ^ 64) (K : Cont) (h0 : K (ShN n) σ) : ACall Try.prog W0 132 [U n] σ K :=
  ACall.lift rfl (fun _ => rfl) (fun W1 K _ hK => c_sheet n hn K hK) h0
theorem c_setOfN (n : Nat) (hn : n < 2 ^ 36) (K : Cont) (h0 : K (.tup [U n, Bo true]) []) : ACall Try.prog W0 89 [ShN n] [] K := by
  refine c_setOf (K := K) (h0 := ?_) ..
  unfold setR
  rw [shB6_ShN, if_pos rfl, setI_ShN hn]; exact h0
theorem d_setOfN (n : Nat) (hn : n < 2 ^ 36) (K : Cont) (h0 : K (.tup [U n, Bo true]) σ) : ACall Try.prog W0 89 [ShN n] σ K :=
  ACall.lift rfl (fun _ => rfl) (fun W1 K _ hK => c_setOfN n hn K hK) h0
theorem c_setOfF (a b c d e f : Int) (hb : shB6 a b c d e f = false) (K : Cont) (h0 : K (.tup [U 0, Bo false]) []) : ACall Try.prog W0 89 [Sh a b c d e f] [] K := by
  refine c_setOf (K := K) (h0 := ?_) ..
  unfold setR
  rw [hb]; exact h0
theorem d_setOfF (a b c d e f : Int) (hb : shB6 a b c d e f = false) (K : Cont) (h0 : K (.tup [U 0, Bo false]) σ) : ACall Try.prog W0 89 [Sh a b c d e f] σ K :=
  ACall.lift rfl (fun _ => rfl) (fun W1 K _ hK => c_setOfF a b c d e f hb K hK) h0
abbrev Ce (x y : Int) : AV := .agg [I x, I y]
def cellB (x y : Int) : Bool := inB x 0 5 && inB y 0 5
theorem c_l2Cell (x y : Int) (K : Cont) (h0 : K (Bo (cellB x y)) []) : ACall Try.prog W0 118 [Ce x y] [] K := by
  refine by118 (Nat.le_of_ble_eq_true rfl) ?_
  repeat' ((conv => whnf); first
    | (refine And.intro rfl ?_)
    | (refine And.intro (by decide +kernel) ?_)
    | (refine And.intro trivial ?_)
    | (refine d_l1In (h0 := ?_) ..)
    | (refine Exists.intro _ (And.intro (fun τ => callW_fn (d_l1In (h0 := And.intro rfl rfl) ..)) ?_))
    | (refine Exists.intro _ (And.intro (callW_fn (d_l1In (h0 := And.intro rfl rfl) ..)) (And.intro trivial ?_)))
    | (refine Exists.intro _ (And.intro (callW_fn (d_l1In (h0 := And.intro rfl rfl) ..)) ?_))
    | (refine Exists.intro _ (And.intro (fun τ _ => callW_fn (d_l1In (h0 := And.intro rfl rfl) ..)) ?_))
    | (refine Exists.intro _ (And.intro rfl (And.intro rfl (And.intro (Nat.le_of_ble_eq_true rfl) ?_))))
    | (refine Exists.intro _ (And.intro rfl (And.intro rfl (And.intro rfl (And.intro (Nat.le_of_ble_eq_true rfl) ?_)))))
    | (refine And.intro (Exists.intro _ (And.intro rfl rfl)) ?_)
    | (exact fun hW => absurd hW (by decide +kernel))
    | (intro hW; (try simp only [Bool.not_true, Bool.not_false, Bool.not_eq_true', Bool.not_eq_false', decide_eq_true_eq, decide_eq_false_iff_not, reduceCtorEq, Bool.true_eq_false, Bool.false_eq_true, mk_size, List.size_toArray, ByteArray.size_append, ByteArray.size_extract, List.length_cons, List.length_nil, ba_get, ba_empty, Int.toNat_natCast] at hW))
    | (refine And.intro (?_ : _ → _) (?_ : _ → _))
    | (refine FinR.drop 0 (Nat.zero_le _) (Closed.zero _) rfl ?_)
    | (refine FinR.keep ?_)
    | (refine And.intro (det3_agg rfl) ?_)
    | (refine fL_mk ?_)
    | (refine And.intro (by (try simp only [mk_size, List.size_toArray, ByteArray.size_append, ByteArray.size_extract, List.length_cons, List.length_nil]); omega) ?_)
    | (refine And.intro (by (try simp only [mk_size, List.size_toArray, ByteArray.size_append, ByteArray.size_extract, List.length_cons, List.length_nil, wrap64_eq]); omega) ?_)
    | fail)
  all_goals first | exact h0 | (refine Eq.mp (congrArg (fun v => K v []) ?_) h0; clear h0; simp_all [cellB] <;> omega)
theorem d_l2Cell (x y : Int) (K : Cont) (h0 : K (Bo (cellB x y)) σ) : ACall Try.prog W0 118 [Ce x y] σ K :=
  ACall.lift rfl (fun _ => rfl) (fun W1 K _ hK => c_l2Cell x y K hK) h0
theorem cellB_iff {x y : Int} : cellB x y = true ↔ 0 ≤ x ∧ x < 6 ∧ 0 ≤ y ∧ y < 6 := by
  simp [cellB, inB]; omega
theorem c_isCell (x y : Int) (K : Cont) (h0 : K (Bo (cellB x y)) []) : ACall Try.prog W0 114 [Ce x y] [] K := by
  refine by114 (Nat.le_of_ble_eq_true rfl) ?_
  repeat' ((conv => whnf); first
    | (refine And.intro rfl ?_)
    | (refine And.intro (by decide +kernel) ?_)
    | (refine And.intro trivial ?_)
    | (refine Exists.intro _ (And.intro rfl (And.intro rfl (And.intro (Nat.le_of_ble_eq_true rfl) ?_))))
    | (refine Exists.intro _ (And.intro rfl (And.intro rfl (And.intro rfl (And.intro (Nat.le_of_ble_eq_true rfl) ?_)))))
    | (refine And.intro (Exists.intro _ (And.intro rfl rfl)) ?_)
    | (exact fun hW => absurd hW (by decide +kernel))
    | (intro hW; (try simp only [Bool.not_true, Bool.not_false, Bool.not_eq_true', Bool.not_eq_false', decide_eq_true_eq, decide_eq_false_iff_not, reduceCtorEq, Bool.true_eq_false, Bool.false_eq_true, mk_size, List.size_toArray, ByteArray.size_append, ByteArray.size_extract, List.length_cons, List.length_nil, ba_get, ba_empty, Int.toNat_natCast] at hW))
    | (refine And.intro (?_ : _ → _) (?_ : _ → _))
    | (refine FinR.drop 0 (Nat.zero_le _) (Closed.zero _) rfl ?_)
    | (refine FinR.keep ?_)
    | (refine And.intro (det3_agg rfl) ?_)
    | (refine fL_mk ?_)
    | (refine And.intro (by (try simp only [mk_size, List.size_toArray, ByteArray.size_append, ByteArray.size_extract, List.length_cons, List.length_nil]); omega) ?_)
    | (refine And.intro (by (try simp only [mk_size, List.size_toArray, ByteArray.size_append, ByteArray.size_extract, List.length_cons, List.length_nil, wrap64_eq]); omega) ?_)
    | fail)
  all_goals (refine kB' h0 ?_; rw [Bool.eq_iff_iff, cellB_iff]; simp only [decide_eq_true_eq, Bool.false_eq_true]; refine Iff.intro (fun h => ?_) (fun h => ?_) <;> first | exact h.elim | omega)
theorem d_isCell (x y : Int) (K : Cont) (h0 : K (Bo (cellB x y)) σ) : ACall Try.prog W0 114 [Ce x y] σ K :=
  ACall.lift rfl (fun _ => rfl) (fun W1 K _ hK => c_isCell x y K hK) h0
theorem c_number (x y : Nat) (hx : x < 1000) (hy : y < 1000) (K : Cont) (h0 : K (I (y * 6 + x : Nat)) []) : ACall Try.prog W0 91 [Ce x y] [] K := by
  refine by91 (Nat.le_of_ble_eq_true rfl) ?_
  have e : IntKind.i64.wrap (IntKind.i64.wrap ((y : Int) * 6) + (x : Int)) = ((y * 6 + x : Nat) : Int) := by
    rw [wrap_i64 ((y : Int) * 6) (by omega) (by omega), wrap_i64 ((y : Int) * 6 + (x : Int)) (by omega) (by omega)]; omega
  repeat' ((conv => whnf); first
    | (refine And.intro rfl ?_)
    | (refine And.intro (by decide +kernel) ?_)
    | (refine And.intro trivial ?_)
    | (refine Exists.intro _ (And.intro rfl (And.intro rfl (And.intro (Nat.le_of_ble_eq_true rfl) ?_))))
    | (refine Exists.intro _ (And.intro rfl (And.intro rfl (And.intro rfl (And.intro (Nat.le_of_ble_eq_true rfl) ?_)))))
    | (refine And.intro (Exists.intro _ (And.intro rfl rfl)) ?_)
    | (exact fun hW => absurd hW (by decide +kernel))
    | (intro hW; (try simp only [Bool.not_true, Bool.not_false, Bool.not_eq_true', Bool.not_eq_false', decide_eq_true_eq, decide_eq_false_iff_not, reduceCtorEq, Bool.true_eq_false, Bool.false_eq_true, mk_size, List.size_toArray, ByteArray.size_append, ByteArray.size_extract, List.length_cons, List.length_nil, ba_get, ba_empty, Int.toNat_natCast] at hW))
    | (refine And.intro (?_ : _ → _) (?_ : _ → _))
    | (refine FinR.drop 0 (Nat.zero_le _) (Closed.zero _) rfl ?_)
    | (refine FinR.keep ?_)
    | (refine And.intro (det3_agg rfl) ?_)
    | (refine fL_mk ?_)
    | (refine And.intro (by (try simp only [mk_size, List.size_toArray, ByteArray.size_append, ByteArray.size_extract, List.length_cons, List.length_nil]); omega) ?_)
    | (refine And.intro (by (try simp only [mk_size, List.size_toArray, ByteArray.size_append, ByteArray.size_extract, List.length_cons, List.length_nil, wrap64_eq]); omega) ?_)
    | fail)
  all_goals exact kI' h0 e
theorem d_number (x y : Nat) (hx : x < 1000) (hy : y < 1000) (K : Cont) (h0 : K (I (y * 6 + x : Nat)) σ) : ACall Try.prog W0 91 [Ce x y] σ K :=
  ACall.lift rfl (fun _ => rfl) (fun W1 K _ hK => c_number x y hx hy K hK) h0
theorem c_pressed (n k : Nat) (hn : n < 2 ^ 36) (hk : k < 36) (K : Cont) (h0 : K (U (mvN (shG (k % 6) (k / 6)) n 36 : Nat)) []) : ACall Try.prog W0 90 [U n, I k] [] K := by
  refine by90 (Nat.le_of_ble_eq_true rfl) ?_
  have e1 : ((k : Int)).tmod 6 = ((k % 6 : Nat) : Int) := by rw [Int.tmod_eq_emod_of_nonneg (by omega)]; rfl
  have e2 : IntKind.i64.wrap ((k : Int).tdiv 6) = ((k / 6 : Nat) : Int) := by rw [Int.tdiv_eq_ediv_of_nonneg (by omega), wrap_i64 _ (by omega) (by omega)]; rfl
  have h1 : ((k : Int)).tmod 6 % 6 = ((k % 6 : Nat) : Int) := by rw [e1]; omega
  have h2 : IntKind.i64.wrap ((k : Int).tdiv 6) % 6 = ((k / 6 : Nat) : Int) := by rw [e2]; omega
  repeat' ((conv => whnf); first
    | (refine And.intro rfl ?_)
    | (refine And.intro (by decide +kernel) ?_)
    | (refine And.intro trivial ?_)
    | (refine d_shifted (hn := hn) (hx := h1) (hy := h2) (h0 := ?_) ..)
    | (refine Exists.intro _ (And.intro rfl (And.intro rfl (And.intro (Nat.le_of_ble_eq_true rfl) ?_))))
    | (refine Exists.intro _ (And.intro rfl (And.intro rfl (And.intro rfl (And.intro (Nat.le_of_ble_eq_true rfl) ?_)))))
    | (refine And.intro (Exists.intro _ (And.intro rfl rfl)) ?_)
    | (exact fun hW => absurd hW (by decide +kernel))
    | (intro hW; (try simp only [Bool.not_true, Bool.not_false, Bool.not_eq_true', Bool.not_eq_false', decide_eq_true_eq, decide_eq_false_iff_not, reduceCtorEq, Bool.true_eq_false, Bool.false_eq_true, mk_size, List.size_toArray, ByteArray.size_append, ByteArray.size_extract, List.length_cons, List.length_nil, ba_get, ba_empty, Int.toNat_natCast] at hW))
    | (refine And.intro (?_ : _ → _) (?_ : _ → _))
    | (refine FinR.drop 0 (Nat.zero_le _) (Closed.zero _) rfl ?_)
    | (refine FinR.keep ?_)
    | (refine And.intro (det3_agg rfl) ?_)
    | (refine fL_mk ?_)
    | (refine And.intro (by (try simp only [mk_size, List.size_toArray, ByteArray.size_append, ByteArray.size_extract, List.length_cons, List.length_nil]); omega) ?_)
    | (refine And.intro (by (try simp only [mk_size, List.size_toArray, ByteArray.size_append, ByteArray.size_extract, List.length_cons, List.length_nil, wrap64_eq]); omega) ?_)
    | fail)
  all_goals exact h0
theorem d_pressed (n k : Nat) (hn : n < 2 ^ 36) (hk : k < 36) (K : Cont) (h0 : K (U (mvN (shG (k % 6) (k / 6)) n 36 : Nat)) σ) : ACall Try.prog W0 90 [U n, I k] σ K :=
  ACall.lift rfl (fun _ => rfl) (fun W1 K _ hK => c_pressed n k hn hk K hK) h0
/-! ### the reference's sheets -/
theorem c_l2ShiftN (n : Nat) (dx dy : Int) (x y : Nat) (hx : dx % 6 = x) (hy : dy % 6 = y) (K : Cont) (h0 : K (ShN (mvN (shG x y) n 36)) []) : ACall Try.prog W0 119 [ShN n, I dx, I dy] [] K := by
  refine by119 (Nat.le_of_ble_eq_true rfl) ?_
  have hx' : x < 6 := by omega
  have r : ∀ i, bOr .i64 (bAnd .i64 (shL .i64 (rowN n i : Nat) (x : Int)) 63) (shR .i64 (rowN n i : Nat) (IntKind.i64.wrap (6 - (x : Int)))) = ((rotN x (rowN n i) : Nat) : Int) := fun i => rot_int x hx' _ (rowN_lt n i)
  have e6 : 0 ≤ IntKind.i64.wrap (6 - (x : Int)) := by rw [wrap_i64 _ (by omega) (by omega)]; omega
  have e0 : 0 ≤ (x : Int) := by omega
  have hy' : y < 6 := by omega
  have qq := fun (i : Nat) (hi : i < 6) => rot_row n x y i hx' hy' hi
  obtain rfl | rfl | rfl | rfl | rfl | rfl : y = 0 ∨ y = 1 ∨ y = 2 ∨ y = 3 ∨ y = 4 ∨ y = 5 := by omega
  · skip
    repeat' ((conv => whnf); first
      | (refine And.intro e0 ?_)
      | (refine And.intro e6 ?_)
      | (refine And.intro rfl ?_)
      | (refine And.intro (by decide +kernel) ?_)
      | (refine And.intro trivial ?_)
      | (refine LoopR.unroll 7 ?_)
      | (refine d_l2Mod (hx := hx) (h0 := ?_) ..)
      | (refine Exists.intro _ (And.intro (fun τ => callW_fn (d_l2Mod (hx := hx) (h0 := And.intro rfl rfl) ..)) ?_))
      | (refine Exists.intro _ (And.intro (callW_fn (d_l2Mod (hx := hx) (h0 := And.intro rfl rfl) ..)) (And.intro trivial ?_)))
      | (refine Exists.intro _ (And.intro (callW_fn (d_l2Mod (hx := hx) (h0 := And.intro rfl rfl) ..)) ?_))
      | (refine Exists.intro _ (And.intro (fun τ _ => callW_fn (d_l2Mod (hx := hx) (h0 := And.intro rfl rfl) ..)) ?_))
      | (refine d_l2Mod (hx := hy) (h0 := ?_) ..)
      | (refine Exists.intro _ (And.intro (fun τ => callW_fn (d_l2Mod (hx := hy) (h0 := And.intro rfl rfl) ..)) ?_))
      | (refine Exists.intro _ (And.intro (callW_fn (d_l2Mod (hx := hy) (h0 := And.intro rfl rfl) ..)) (And.intro trivial ?_)))
      | (refine Exists.intro _ (And.intro (callW_fn (d_l2Mod (hx := hy) (h0 := And.intro rfl rfl) ..)) ?_))
      | (refine Exists.intro _ (And.intro (fun τ _ => callW_fn (d_l2Mod (hx := hy) (h0 := And.intro rfl rfl) ..)) ?_))
      | (refine Exists.intro _ (And.intro rfl (And.intro rfl (And.intro (Nat.le_of_ble_eq_true rfl) ?_))))
      | (refine Exists.intro _ (And.intro rfl (And.intro rfl (And.intro rfl (And.intro (Nat.le_of_ble_eq_true rfl) ?_)))))
      | (refine And.intro (Exists.intro _ (And.intro rfl rfl)) ?_)
      | (exact fun hW => absurd hW (by decide +kernel))
      | (intro hW; (try simp only [Bool.not_true, Bool.not_false, Bool.not_eq_true', Bool.not_eq_false', decide_eq_true_eq, decide_eq_false_iff_not, reduceCtorEq, Bool.true_eq_false, Bool.false_eq_true, mk_size, List.size_toArray, ByteArray.size_append, ByteArray.size_extract, List.length_cons, List.length_nil, ba_get, ba_empty, Int.toNat_natCast] at hW))
      | (refine And.intro (?_ : _ → _) (?_ : _ → _))
      | (refine FinR.drop 0 (Nat.zero_le _) (Closed.zero _) rfl ?_)
      | (refine FinR.keep ?_)
      | (refine And.intro (det3_agg rfl) ?_)
      | (refine fL_mk ?_)
      | (refine And.intro (by (try simp only [mk_size, List.size_toArray, ByteArray.size_append, ByteArray.size_extract, List.length_cons, List.length_nil]); omega) ?_)
      | (refine And.intro (by (try simp only [mk_size, List.size_toArray, ByteArray.size_append, ByteArray.size_extract, List.length_cons, List.length_nil, wrap64_eq]); omega) ?_)
      | fail)
    all_goals exact kSh h0 ((r 0).trans (congrArg _ (qq 0 (by decide)))) ((r 1).trans (congrArg _ (qq 1 (by decide)))) ((r 2).trans (congrArg _ (qq 2 (by decide)))) ((r 3).trans (congrArg _ (qq 3 (by decide)))) ((r 4).trans (congrArg _ (qq 4 (by decide)))) ((r 5).trans (congrArg _ (qq 5 (by decide))))
  · skip
    repeat' ((conv => whnf); first
      | (refine And.intro e0 ?_)
      | (refine And.intro e6 ?_)
      | (refine And.intro rfl ?_)
      | (refine And.intro (by decide +kernel) ?_)
      | (refine And.intro trivial ?_)
      | (refine LoopR.unroll 7 ?_)
      | (refine d_l2Mod (hx := hx) (h0 := ?_) ..)
      | (refine Exists.intro _ (And.intro (fun τ => callW_fn (d_l2Mod (hx := hx) (h0 := And.intro rfl rfl) ..)) ?_))
      | (refine Exists.intro _ (And.intro (callW_fn (d_l2Mod (hx := hx) (h0 := And.intro rfl rfl) ..)) (And.intro trivial ?_)))
      | (refine Exists.intro _ (And.intro (callW_fn (d_l2Mod (hx := hx) (h0 := And.intro rfl rfl) ..)) ?_))
      | (refine Exists.intro _ (And.intro (fun τ _ => callW_fn (d_l2Mod (hx := hx) (h0 := And.intro rfl rfl) ..)) ?_))
      | (refine d_l2Mod (hx := hy) (h0 := ?_) ..)
      | (refine Exists.intro _ (And.intro (fun τ => callW_fn (d_l2Mod (hx := hy) (h0 := And.intro rfl rfl) ..)) ?_))
      | (refine Exists.intro _ (And.intro (callW_fn (d_l2Mod (hx := hy) (h0 := And.intro rfl rfl) ..)) (And.intro trivial ?_)))
      | (refine Exists.intro _ (And.intro (callW_fn (d_l2Mod (hx := hy) (h0 := And.intro rfl rfl) ..)) ?_))
      | (refine Exists.intro _ (And.intro (fun τ _ => callW_fn (d_l2Mod (hx := hy) (h0 := And.intro rfl rfl) ..)) ?_))
      | (refine Exists.intro _ (And.intro rfl (And.intro rfl (And.intro (Nat.le_of_ble_eq_true rfl) ?_))))
      | (refine Exists.intro _ (And.intro rfl (And.intro rfl (And.intro rfl (And.intro (Nat.le_of_ble_eq_true rfl) ?_)))))
      | (refine And.intro (Exists.intro _ (And.intro rfl rfl)) ?_)
      | (exact fun hW => absurd hW (by decide +kernel))
      | (intro hW; (try simp only [Bool.not_true, Bool.not_false, Bool.not_eq_true', Bool.not_eq_false', decide_eq_true_eq, decide_eq_false_iff_not, reduceCtorEq, Bool.true_eq_false, Bool.false_eq_true, mk_size, List.size_toArray, ByteArray.size_append, ByteArray.size_extract, List.length_cons, List.length_nil, ba_get, ba_empty, Int.toNat_natCast] at hW))
      | (refine And.intro (?_ : _ → _) (?_ : _ → _))
      | (refine FinR.drop 0 (Nat.zero_le _) (Closed.zero _) rfl ?_)
      | (refine FinR.keep ?_)
      | (refine And.intro (det3_agg rfl) ?_)
      | (refine fL_mk ?_)
      | (refine And.intro (by (try simp only [mk_size, List.size_toArray, ByteArray.size_append, ByteArray.size_extract, List.length_cons, List.length_nil]); omega) ?_)
      | (refine And.intro (by (try simp only [mk_size, List.size_toArray, ByteArray.size_append, ByteArray.size_extract, List.length_cons, List.length_nil, wrap64_eq]); omega) ?_)
      | fail)
    all_goals exact kSh h0 ((r 5).trans (congrArg _ (qq 5 (by decide)))) ((r 0).trans (congrArg _ (qq 0 (by decide)))) ((r 1).trans (congrArg _ (qq 1 (by decide)))) ((r 2).trans (congrArg _ (qq 2 (by decide)))) ((r 3).trans (congrArg _ (qq 3 (by decide)))) ((r 4).trans (congrArg _ (qq 4 (by decide))))
  · skip
    repeat' ((conv => whnf); first
      | (refine And.intro e0 ?_)
      | (refine And.intro e6 ?_)
      | (refine And.intro rfl ?_)
      | (refine And.intro (by decide +kernel) ?_)
      | (refine And.intro trivial ?_)
      | (refine LoopR.unroll 7 ?_)
      | (refine d_l2Mod (hx := hx) (h0 := ?_) ..)
      | (refine Exists.intro _ (And.intro (fun τ => callW_fn (d_l2Mod (hx := hx) (h0 := And.intro rfl rfl) ..)) ?_))
      | (refine Exists.intro _ (And.intro (callW_fn (d_l2Mod (hx := hx) (h0 := And.intro rfl rfl) ..)) (And.intro trivial ?_)))
      | (refine Exists.intro _ (And.intro (callW_fn (d_l2Mod (hx := hx) (h0 := And.intro rfl rfl) ..)) ?_))
      | (refine Exists.intro _ (And.intro (fun τ _ => callW_fn (d_l2Mod (hx := hx) (h0 := And.intro rfl rfl) ..)) ?_))
      | (refine d_l2Mod (hx := hy) (h0 := ?_) ..)
      | (refine Exists.intro _ (And.intro (fun τ => callW_fn (d_l2Mod (hx := hy) (h0 := And.intro rfl rfl) ..)) ?_))
      | (refine Exists.intro _ (And.intro (callW_fn (d_l2Mod (hx := hy) (h0 := And.intro rfl rfl) ..)) (And.intro trivial ?_)))
      | (refine Exists.intro _ (And.intro (callW_fn (d_l2Mod (hx := hy) (h0 := And.intro rfl rfl) ..)) ?_))
      | (refine Exists.intro _ (And.intro (fun τ _ => callW_fn (d_l2Mod (hx := hy) (h0 := And.intro rfl rfl) ..)) ?_))
      | (refine Exists.intro _ (And.intro rfl (And.intro rfl (And.intro (Nat.le_of_ble_eq_true rfl) ?_))))
      | (refine Exists.intro _ (And.intro rfl (And.intro rfl (And.intro rfl (And.intro (Nat.le_of_ble_eq_true rfl) ?_)))))
      | (refine And.intro (Exists.intro _ (And.intro rfl rfl)) ?_)
      | (exact fun hW => absurd hW (by decide +kernel))
      | (intro hW; (try simp only [Bool.not_true, Bool.not_false, Bool.not_eq_true', Bool.not_eq_false', decide_eq_true_eq, decide_eq_false_iff_not, reduceCtorEq, Bool.true_eq_false, Bool.false_eq_true, mk_size, List.size_toArray, ByteArray.size_append, ByteArray.size_extract, List.length_cons, List.length_nil, ba_get, ba_empty, Int.toNat_natCast] at hW))
      | (refine And.intro (?_ : _ → _) (?_ : _ → _))
      | (refine FinR.drop 0 (Nat.zero_le _) (Closed.zero _) rfl ?_)
      | (refine FinR.keep ?_)
      | (refine And.intro (det3_agg rfl) ?_)
      | (refine fL_mk ?_)
      | (refine And.intro (by (try simp only [mk_size, List.size_toArray, ByteArray.size_append, ByteArray.size_extract, List.length_cons, List.length_nil]); omega) ?_)
      | (refine And.intro (by (try simp only [mk_size, List.size_toArray, ByteArray.size_append, ByteArray.size_extract, List.length_cons, List.length_nil, wrap64_eq]); omega) ?_)
      | fail)
    all_goals exact kSh h0 ((r 4).trans (congrArg _ (qq 4 (by decide)))) ((r 5).trans (congrArg _ (qq 5 (by decide)))) ((r 0).trans (congrArg _ (qq 0 (by decide)))) ((r 1).trans (congrArg _ (qq 1 (by decide)))) ((r 2).trans (congrArg _ (qq 2 (by decide)))) ((r 3).trans (congrArg _ (qq 3 (by decide))))
  · skip
    repeat' ((conv => whnf); first
      | (refine And.intro e0 ?_)
      | (refine And.intro e6 ?_)
      | (refine And.intro rfl ?_)
      | (refine And.intro (by decide +kernel) ?_)
      | (refine And.intro trivial ?_)
      | (refine LoopR.unroll 7 ?_)
      | (refine d_l2Mod (hx := hx) (h0 := ?_) ..)
      | (refine Exists.intro _ (And.intro (fun τ => callW_fn (d_l2Mod (hx := hx) (h0 := And.intro rfl rfl) ..)) ?_))
      | (refine Exists.intro _ (And.intro (callW_fn (d_l2Mod (hx := hx) (h0 := And.intro rfl rfl) ..)) (And.intro trivial ?_)))
      | (refine Exists.intro _ (And.intro (callW_fn (d_l2Mod (hx := hx) (h0 := And.intro rfl rfl) ..)) ?_))
      | (refine Exists.intro _ (And.intro (fun τ _ => callW_fn (d_l2Mod (hx := hx) (h0 := And.intro rfl rfl) ..)) ?_))
      | (refine d_l2Mod (hx := hy) (h0 := ?_) ..)
      | (refine Exists.intro _ (And.intro (fun τ => callW_fn (d_l2Mod (hx := hy) (h0 := And.intro rfl rfl) ..)) ?_))
      | (refine Exists.intro _ (And.intro (callW_fn (d_l2Mod (hx := hy) (h0 := And.intro rfl rfl) ..)) (And.intro trivial ?_)))
      | (refine Exists.intro _ (And.intro (callW_fn (d_l2Mod (hx := hy) (h0 := And.intro rfl rfl) ..)) ?_))
      | (refine Exists.intro _ (And.intro (fun τ _ => callW_fn (d_l2Mod (hx := hy) (h0 := And.intro rfl rfl) ..)) ?_))
      | (refine Exists.intro _ (And.intro rfl (And.intro rfl (And.intro (Nat.le_of_ble_eq_true rfl) ?_))))
      | (refine Exists.intro _ (And.intro rfl (And.intro rfl (And.intro rfl (And.intro (Nat.le_of_ble_eq_true rfl) ?_)))))
      | (refine And.intro (Exists.intro _ (And.intro rfl rfl)) ?_)
      | (exact fun hW => absurd hW (by decide +kernel))
      | (intro hW; (try simp only [Bool.not_true, Bool.not_false, Bool.not_eq_true', Bool.not_eq_false', decide_eq_true_eq, decide_eq_false_iff_not, reduceCtorEq, Bool.true_eq_false, Bool.false_eq_true, mk_size, List.size_toArray, ByteArray.size_append, ByteArray.size_extract, List.length_cons, List.length_nil, ba_get, ba_empty, Int.toNat_natCast] at hW))
      | (refine And.intro (?_ : _ → _) (?_ : _ → _))
      | (refine FinR.drop 0 (Nat.zero_le _) (Closed.zero _) rfl ?_)
      | (refine FinR.keep ?_)
      | (refine And.intro (det3_agg rfl) ?_)
      | (refine fL_mk ?_)
      | (refine And.intro (by (try simp only [mk_size, List.size_toArray, ByteArray.size_append, ByteArray.size_extract, List.length_cons, List.length_nil]); omega) ?_)
      | (refine And.intro (by (try simp only [mk_size, List.size_toArray, ByteArray.size_append, ByteArray.size_extract, List.length_cons, List.length_nil, wrap64_eq]); omega) ?_)
      | fail)
    all_goals exact kSh h0 ((r 3).trans (congrArg _ (qq 3 (by decide)))) ((r 4).trans (congrArg _ (qq 4 (by decide)))) ((r 5).trans (congrArg _ (qq 5 (by decide)))) ((r 0).trans (congrArg _ (qq 0 (by decide)))) ((r 1).trans (congrArg _ (qq 1 (by decide)))) ((r 2).trans (congrArg _ (qq 2 (by decide))))
  · skip
    repeat' ((conv => whnf); first
      | (refine And.intro e0 ?_)
      | (refine And.intro e6 ?_)
      | (refine And.intro rfl ?_)
      | (refine And.intro (by decide +kernel) ?_)
      | (refine And.intro trivial ?_)
      | (refine LoopR.unroll 7 ?_)
      | (refine d_l2Mod (hx := hx) (h0 := ?_) ..)
      | (refine Exists.intro _ (And.intro (fun τ => callW_fn (d_l2Mod (hx := hx) (h0 := And.intro rfl rfl) ..)) ?_))
      | (refine Exists.intro _ (And.intro (callW_fn (d_l2Mod (hx := hx) (h0 := And.intro rfl rfl) ..)) (And.intro trivial ?_)))
      | (refine Exists.intro _ (And.intro (callW_fn (d_l2Mod (hx := hx) (h0 := And.intro rfl rfl) ..)) ?_))
      | (refine Exists.intro _ (And.intro (fun τ _ => callW_fn (d_l2Mod (hx := hx) (h0 := And.intro rfl rfl) ..)) ?_))
      | (refine d_l2Mod (hx := hy) (h0 := ?_) ..)
      | (refine Exists.intro _ (And.intro (fun τ => callW_fn (d_l2Mod (hx := hy) (h0 := And.intro rfl rfl) ..)) ?_))
      | (refine Exists.intro _ (And.intro (callW_fn (d_l2Mod (hx := hy) (h0 := And.intro rfl rfl) ..)) (And.intro trivial ?_)))
      | (refine Exists.intro _ (And.intro (callW_fn (d_l2Mod (hx := hy) (h0 := And.intro rfl rfl) ..)) ?_))
      | (refine Exists.intro _ (And.intro (fun τ _ => callW_fn (d_l2Mod (hx := hy) (h0 := And.intro rfl rfl) ..)) ?_))
      | (refine Exists.intro _ (And.intro rfl (And.intro rfl (And.intro (Nat.le_of_ble_eq_true rfl) ?_))))
      | (refine Exists.intro _ (And.intro rfl (And.intro rfl (And.intro rfl (And.intro (Nat.le_of_ble_eq_true rfl) ?_)))))
      | (refine And.intro (Exists.intro _ (And.intro rfl rfl)) ?_)
      | (exact fun hW => absurd hW (by decide +kernel))
      | (intro hW; (try simp only [Bool.not_true, Bool.not_false, Bool.not_eq_true', Bool.not_eq_false', decide_eq_true_eq, decide_eq_false_iff_not, reduceCtorEq, Bool.true_eq_false, Bool.false_eq_true, mk_size, List.size_toArray, ByteArray.size_append, ByteArray.size_extract, List.length_cons, List.length_nil, ba_get, ba_empty, Int.toNat_natCast] at hW))
      | (refine And.intro (?_ : _ → _) (?_ : _ → _))
      | (refine FinR.drop 0 (Nat.zero_le _) (Closed.zero _) rfl ?_)
      | (refine FinR.keep ?_)
      | (refine And.intro (det3_agg rfl) ?_)
      | (refine fL_mk ?_)
      | (refine And.intro (by (try simp only [mk_size, List.size_toArray, ByteArray.size_append, ByteArray.size_extract, List.length_cons, List.length_nil]); omega) ?_)
      | (refine And.intro (by (try simp only [mk_size, List.size_toArray, ByteArray.size_append, ByteArray.size_extract, List.length_cons, List.length_nil, wrap64_eq]); omega) ?_)
      | fail)
    all_goals exact kSh h0 ((r 2).trans (congrArg _ (qq 2 (by decide)))) ((r 3).trans (congrArg _ (qq 3 (by decide)))) ((r 4).trans (congrArg _ (qq 4 (by decide)))) ((r 5).trans (congrArg _ (qq 5 (by decide)))) ((r 0).trans (congrArg _ (qq 0 (by decide)))) ((r 1).trans (congrArg _ (qq 1 (by decide))))
  · skip
    repeat' ((conv => whnf); first
      | (refine And.intro e0 ?_)
      | (refine And.intro e6 ?_)
      | (refine And.intro rfl ?_)
      | (refine And.intro (by decide +kernel) ?_)
      | (refine And.intro trivial ?_)
      | (refine LoopR.unroll 7 ?_)
      | (refine d_l2Mod (hx := hx) (h0 := ?_) ..)
      | (refine Exists.intro _ (And.intro (fun τ => callW_fn (d_l2Mod (hx := hx) (h0 := And.intro rfl rfl) ..)) ?_))
      | (refine Exists.intro _ (And.intro (callW_fn (d_l2Mod (hx := hx) (h0 := And.intro rfl rfl) ..)) (And.intro trivial ?_)))
      | (refine Exists.intro _ (And.intro (callW_fn (d_l2Mod (hx := hx) (h0 := And.intro rfl rfl) ..)) ?_))
      | (refine Exists.intro _ (And.intro (fun τ _ => callW_fn (d_l2Mod (hx := hx) (h0 := And.intro rfl rfl) ..)) ?_))
      | (refine d_l2Mod (hx := hy) (h0 := ?_) ..)
      | (refine Exists.intro _ (And.intro (fun τ => callW_fn (d_l2Mod (hx := hy) (h0 := And.intro rfl rfl) ..)) ?_))
      | (refine Exists.intro _ (And.intro (callW_fn (d_l2Mod (hx := hy) (h0 := And.intro rfl rfl) ..)) (And.intro trivial ?_)))
      | (refine Exists.intro _ (And.intro (callW_fn (d_l2Mod (hx := hy) (h0 := And.intro rfl rfl) ..)) ?_))
      | (refine Exists.intro _ (And.intro (fun τ _ => callW_fn (d_l2Mod (hx := hy) (h0 := And.intro rfl rfl) ..)) ?_))
      | (refine Exists.intro _ (And.intro rfl (And.intro rfl (And.intro (Nat.le_of_ble_eq_true rfl) ?_))))
      | (refine Exists.intro _ (And.intro rfl (And.intro rfl (And.intro rfl (And.intro (Nat.le_of_ble_eq_true rfl) ?_)))))
      | (refine And.intro (Exists.intro _ (And.intro rfl rfl)) ?_)
      | (exact fun hW => absurd hW (by decide +kernel))
      | (intro hW; (try simp only [Bool.not_true, Bool.not_false, Bool.not_eq_true', Bool.not_eq_false', decide_eq_true_eq, decide_eq_false_iff_not, reduceCtorEq, Bool.true_eq_false, Bool.false_eq_true, mk_size, List.size_toArray, ByteArray.size_append, ByteArray.size_extract, List.length_cons, List.length_nil, ba_get, ba_empty, Int.toNat_natCast] at hW))
      | (refine And.intro (?_ : _ → _) (?_ : _ → _))
      | (refine FinR.drop 0 (Nat.zero_le _) (Closed.zero _) rfl ?_)
      | (refine FinR.keep ?_)
      | (refine And.intro (det3_agg rfl) ?_)
      | (refine fL_mk ?_)
      | (refine And.intro (by (try simp only [mk_size, List.size_toArray, ByteArray.size_append, ByteArray.size_extract, List.length_cons, List.length_nil]); omega) ?_)
      | (refine And.intro (by (try simp only [mk_size, List.size_toArray, ByteArray.size_append, ByteArray.size_extract, List.length_cons, List.length_nil, wrap64_eq]); omega) ?_)
      | fail)
    all_goals exact kSh h0 ((r 1).trans (congrArg _ (qq 1 (by decide)))) ((r 2).trans (congrArg _ (qq 2 (by decide)))) ((r 3).trans (congrArg _ (qq 3 (by decide)))) ((r 4).trans (congrArg _ (qq 4 (by decide)))) ((r 5).trans (congrArg _ (qq 5 (by decide)))) ((r 0).trans (congrArg _ (qq 0 (by decide))))
theorem d_l2ShiftN (n : Nat) (dx dy : Int) (x y : Nat) (hx : dx % 6 = x) (hy : dy % 6 = y) (K : Cont) (h0 : K (ShN (mvN (shG x y) n 36)) σ) : ACall Try.prog W0 119 [ShN n, I dx, I dy] σ K :=
  ACall.lift rfl (fun _ => rfl) (fun W1 K _ hK => c_l2ShiftN n dx dy x y hx hy K hK) h0
end Go.Proofs.Ythncpkdhcfaflaa
