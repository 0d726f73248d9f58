import Derived.Test.YtkcbhdjhbnnlgaaZE4
section
/- Contracts of small functions: what they compute. -/
set_option linter.unusedVariables false
set_option linter.unusedSimpArgs false
namespace Go.Proofs.Ytkcbhdjhbnnlgaa
open Go Go.RowKit Go.Proofs.Ytkcbhdjhbnnlgaa.Abs
theorem fL_mk {l : List AV} {K : List AV → Prop} (h : K l) : fL l K := by rw [fL_eq]; exact h
def litAll : List AV → Bool
  | [] => true
  | .lit _ :: l => litAll l
  | _ :: _ => false
theorem det3_agg {σ : List Blk} : ∀ {cs : List AV}, litAll cs = true → det3 σ (.agg cs) := by
  intro cs h v hv
  induction cs with
  | nil => cases hv
  | cons a cs ih =>
    cases a with
    | lit x => cases hv with
      | head => exact trivial
      | tail _ hv => exact ih h hv
    | _ => cases h
abbrev I (n : Int) : AV := .lit (.int .i64 n)
abbrev Bo (b : Bool) : AV := .lit (.bool b)
abbrev St (s : ByteArray) : AV := .lit (.string s)
variable {W0 : World} {σ : List Blk}
def inB (x a b : Int) : Bool := decide (a ≤ x) && decide (x ≤ b)
theorem c_l1In (x a b : Int) (K : Cont) (h0 : K (Bo (inB x a b)) []) : ACall Try.prog W0 109 [I x, I a, I b] [] K := by
  refine by109 (Nat.le_of_ble_eq_true rfl) ?_
  repeat' ((conv => whnf); first | (refine Exists.intro ([] : List Nat) ?_) | (refine And.intro rfl ?_) | (refine And.intro (by decide +kernel) ?_) | (refine And.intro trivial ?_) | (refine Exists.intro _ (And.intro rfl (And.intro rfl (And.intro (Nat.le_of_ble_eq_true rfl) ?_)))) | (refine Exists.intro _ (And.intro rfl (And.intro rfl (And.intro rfl (And.intro (Nat.le_of_ble_eq_true rfl) ?_))))) | (refine And.intro (Exists.intro _ (And.intro rfl rfl)) ?_) | (exact fun hW => absurd hW (by decide +kernel)) | (intro hW; (try simp only [Bool.not_true, Bool.not_false, Bool.not_eq_true', Bool.not_eq_false', decide_eq_true_eq, decide_eq_false_iff_not, reduceCtorEq, Bool.true_eq_false, Bool.false_eq_true, mk_size, List.size_toArray, ByteArray.size_append, ByteArray.size_extract, List.length_cons, List.length_nil, ba_get, ba_empty, Int.toNat_natCast] at hW)) | (refine And.intro (?_ : _ → _) (?_ : _ → _)) | (refine FinR.drop 0 (Nat.zero_le _) (Closed.zero _) rfl ?_) | (refine FinR.keep ?_) | (refine And.intro (det3_agg rfl) ?_) | (refine fL_mk ?_) | (refine And.intro (by (try simp only [mk_size, List.size_toArray, ByteArray.size_append, ByteArray.size_extract, List.length_cons, List.length_nil]); omega) ?_) | (refine And.intro (by (try simp only [mk_size, List.size_toArray, ByteArray.size_append, ByteArray.size_extract, List.length_cons, List.length_nil, wrap64_eq]); omega) ?_) | fail)
  all_goals first | exact h0 | (refine Eq.mp (congrArg (fun v => K v []) ?_) h0; clear h0; simp_all [inB] <;> omega)
theorem d_l1In (x a b : Int) (K : Cont) (h0 : K (Bo (inB x a b)) σ) : ACall Try.prog W0 109 [I x, I a, I b] σ K :=
  ACall.lift rfl (fun _ => rfl) (fun W1 K _ h => c_l1In x a b K h) h0
abbrev Sh (a b c d e f : Int) : AV := .agg [I a, I b, I c, I d, I e, I f]
def shB6 (a b c d e f : Int) : Bool := inB a 0 63 && inB b 0 63 && inB c 0 63 && inB d 0 63 && inB e 0 63 && inB f 0 63
theorem c_l2Sheet (a b c d e f : Int) (K : Cont) (h0 : K (Bo (shB6 a b c d e f)) []) : ACall Try.prog W0 77 [Sh a b c d e f] [] K := by
  refine by77 (Nat.le_of_ble_eq_true rfl) ?_
  repeat' ((conv => whnf); first | (refine Exists.intro ([] : List Nat) ?_) | (refine And.intro rfl ?_) | (refine And.intro (by decide +kernel) ?_) | (refine And.intro trivial ?_) | (refine LoopR.unroll 7 ?_) | (refine d_l1In (h0 := ?_) ..) | (refine Exists.intro _ (And.intro (fun τ => callW_fn (d_l1In (h0 := And.intro rfl rfl) ..)) ?_)) | (refine Exists.intro _ (And.intro (callW_fn (d_l1In (h0 := And.intro rfl rfl) ..)) (And.intro trivial ?_))) | (refine Exists.intro _ (And.intro (callW_fn (d_l1In (h0 := And.intro rfl rfl) ..)) ?_)) | (refine Exists.intro _ (And.intro (fun τ _ => callW_fn (d_l1In (h0 := And.intro rfl rfl) ..)) ?_)) | (refine Exists.intro _ (And.intro rfl (And.intro rfl (And.intro (Nat.le_of_ble_eq_true rfl) ?_)))) | (refine Exists.intro _ (And.intro rfl (And.intro rfl (And.intro rfl (And.intro (Nat.le_of_ble_eq_true rfl) ?_))))) | (refine And.intro (Exists.intro _ (And.intro rfl rfl)) ?_) | (exact fun hW => absurd hW (by decide +kernel)) | (intro hW; (try simp only [Bool.not_true, Bool.not_false, Bool.not_eq_true', Bool.not_eq_false', decide_eq_true_eq, decide_eq_false_iff_not, reduceCtorEq, Bool.true_eq_false, Bool.false_eq_true, mk_size, List.size_toArray, ByteArray.size_append, ByteArray.size_extract, List.length_cons, List.length_nil, ba_get, ba_empty, Int.toNat_natCast] at hW)) | (refine And.intro (?_ : _ → _) (?_ : _ → _)) | (refine FinR.drop 0 (Nat.zero_le _) (Closed.zero _) rfl ?_) | (refine FinR.keep ?_) | (refine And.intro (det3_agg rfl) ?_) | (refine fL_mk ?_) | (refine And.intro (by (try simp only [mk_size, List.size_toArray, ByteArray.size_append, ByteArray.size_extract, List.length_cons, List.length_nil]); omega) ?_) | (refine And.intro (by (try simp only [mk_size, List.size_toArray, ByteArray.size_append, ByteArray.size_extract, List.length_cons, List.length_nil, wrap64_eq]); omega) ?_) | fail)
  all_goals first | exact h0 | (refine Eq.mp (congrArg (fun v => K v []) ?_) h0; clear h0; simp_all [shB6] <;> omega)
theorem d_l2Sheet (a b c d e f : Int) (K : Cont) (h0 : K (Bo (shB6 a b c d e f)) σ) : ACall Try.prog W0 77 [Sh a b c d e f] σ K :=
  ACall.lift rfl (fun _ => rfl) (fun W1 K _ h => c_l2Sheet a b c d e f K h) h0
end Go.Proofs.Ytkcbhdjhbnnlgaa
end

section
/- Contracts: sheets and shops. -/
set_option linter.unusedVariables false
set_option linter.unusedSimpArgs false
namespace Go.Proofs.Ytkcbhdjhbnnlgaa
open Go Go.RowKit Go.Proofs.Ytkcbhdjhbnnlgaa.Abs
variable {W0 : World} {σ : List Blk}
abbrev U (n : Int) : AV := .lit (.int .u64 n)
def setI (a b c d e f : Int) : Int :=
  bOr .u64 (bOr .u64 (bOr .u64 (bOr .u64 (bOr .u64 (bOr .u64 0 (shL .u64 (IntKind.u64.wrap a) 0)) (shL .u64 (IntKind.u64.wrap b) 6)) (shL .u64 (IntKind.u64.wrap c) 12)) (shL .u64 (IntKind.u64.wrap d) 18)) (shL .u64 (IntKind.u64.wrap e) 24)) (shL .u64 (IntKind.u64.wrap f) 30)
def setR (a b c d e f : Int) : AV := .tup [U (if shB6 a b c d e f = true then setI a b c d e f else 0), Bo (shB6 a b c d e f)]
theorem c_setOf (a b c d e f : Int) (K : Cont) (h0 : K (setR a b c d e f) []) : ACall Try.prog W0 74 [Sh a b c d e f] [] K := by
  refine by74 (Nat.le_of_ble_eq_true rfl) ?_
  repeat' ((conv => whnf); first | (refine Exists.intro ([] : List Nat) ?_) | (refine And.intro rfl ?_) | (refine And.intro (by decide +kernel) ?_) | (refine And.intro trivial ?_) | (refine LoopR.unroll 7 ?_) | (refine Exists.intro _ (And.intro rfl (And.intro rfl (And.intro (Nat.le_of_ble_eq_true rfl) ?_)))) | (refine Exists.intro _ (And.intro rfl (And.intro rfl (And.intro rfl (And.intro (Nat.le_of_ble_eq_true rfl) ?_))))) | (refine And.intro (Exists.intro _ (And.intro rfl rfl)) ?_) | (exact fun hW => absurd hW (by decide +kernel)) | (intro hW; (try simp only [Bool.not_true, Bool.not_false, Bool.not_eq_true', Bool.not_eq_false', decide_eq_true_eq, decide_eq_false_iff_not, reduceCtorEq, Bool.true_eq_false, Bool.false_eq_true, mk_size, List.size_toArray, ByteArray.size_append, ByteArray.size_extract, List.length_cons, List.length_nil, ba_get, ba_empty, Int.toNat_natCast] at hW)) | (refine And.intro (?_ : _ → _) (?_ : _ → _)) | (refine FinR.drop 0 (Nat.zero_le _) (Closed.zero _) rfl ?_) | (refine FinR.keep ?_) | (refine And.intro (det3_agg rfl) ?_) | (refine fL_mk ?_) | (refine And.intro (by (try simp only [mk_size, List.size_toArray, ByteArray.size_append, ByteArray.size_extract, List.length_cons, List.length_nil]); omega) ?_) | (refine And.intro (by (try simp only [mk_size, List.size_toArray, ByteArray.size_append, ByteArray.size_extract, List.length_cons, List.length_nil, wrap64_eq]); omega) ?_) | fail)
  all_goals first
    | (have hs : shB6 a b c d e f = false := by (simp_all [shB6, inB] <;> omega)
       rw [setR, hs] at h0
       exact h0)
    | (have hs : shB6 a b c d e f = true := by (simp_all [shB6, inB] <;> omega)
       rw [setR, hs, if_pos rfl] at h0
       exact h0)
abbrev Sp (a b c d e f a' b' c' d' e' f' p q : Int) : AV := .agg [I a, I b, I c, I d, I e, I f, I a', I b', I c', I d', I e', I f', I p, I q]
end Go.Proofs.Ytkcbhdjhbnnlgaa
end

section
/- Contracts: new shops, and that two shops are the same. -/
set_option linter.unusedVariables false
set_option linter.unusedSimpArgs false
namespace Go.Proofs.Ytkcbhdjhbnnlgaa
open Go Go.RowKit Go.Proofs.Ytkcbhdjhbnnlgaa.Abs
variable {W0 : World} {σ : List Blk}
def eq6 (a b c d e f a' b' c' d' e' f' : Int) : Bool := decide (a = a') && decide (b = b') && decide (c = c') && decide (d = d') && decide (e = e') && decide (f = f')
end Go.Proofs.Ytkcbhdjhbnnlgaa
end

section
/- Contracts: the laws of new shops and of new consoles. -/
set_option linter.unusedVariables false
set_option linter.unusedSimpArgs false
namespace Go.Proofs.Ytkcbhdjhbnnlgaa
open Go Go.RowKit Go.Proofs.Ytkcbhdjhbnnlgaa.Abs
variable {W0 : World} {σ : List Blk}
abbrev Co (a b c d e f a' b' c' d' e' f' p q : Int) (s t : ByteArray) (n : Int) : AV := .agg [I a, I b, I c, I d, I e, I f, I a', I b', I c', I d', I e', I f', I p, I q, St s, St t, I n]
end Go.Proofs.Ytkcbhdjhbnnlgaa
end

section
/- Plain laws: digits of numbers, and that the parallel count of bits counts them. -/
set_option linter.unusedVariables false
set_option linter.unusedSimpArgs false
namespace Go.Proofs.Ytkcbhdjhbnnlgaa
open Go Go.Proofs.Ytkcbhdjhbnnlgaa.Abs
theorem testBit_dig (k d x i : Nat) (hd : d < 2 ^ k) : (d + 2 ^ k * x).testBit i = if i < k then d.testBit i else x.testBit (i - k) := by
  rw [Nat.add_comm, Nat.testBit_two_pow_mul_add x hd i]
theorem lor_dig (k d e x y : Nat) (hd : d < 2 ^ k) (he : e < 2 ^ k) : (d + 2 ^ k * x) ||| (e + 2 ^ k * y) = (d ||| e) + 2 ^ k * (x ||| y) := by
  apply Nat.eq_of_testBit_eq
  intro i
  rw [Nat.testBit_or, testBit_dig k d x i hd, testBit_dig k e y i he, testBit_dig k (d ||| e) _ i (Nat.or_lt_two_pow hd he)]
  split <;> simp [Nat.testBit_or]
/-! ### the parallel count, byte by byte -/
def mk (m : Nat) : Nat → Nat
  | 0 => 0
  | n + 1 => m + 256 * mk m n
def s1 (n x : Nat) : Nat := ((x >>> 1) &&& mk 85 n) + (x &&& mk 85 n)
def s2 (n x : Nat) : Nat := ((x >>> 2) &&& mk 51 n) + (x &&& mk 51 n)
def s3 (n x : Nat) : Nat := ((x >>> 4) + x) &&& mk 15 n
def b1 (d : Nat) : Nat := ((d >>> 1) &&& 85) + (d &&& 85)
def b2 (d : Nat) : Nat := ((d >>> 2) &&& 51) + (d &&& 51)
def b3 (d : Nat) : Nat := ((d >>> 4) + d) &&& 15
end Go.Proofs.Ytkcbhdjhbnnlgaa
end

section
/- Plain laws: operations on the machine's unsigned words, as numbers. -/
set_option linter.unusedVariables false
set_option linter.unusedSimpArgs false
namespace Go.Proofs.Ytkcbhdjhbnnlgaa
open Go Go.Proofs.Ytkcbhdjhbnnlgaa.Abs
theorem wrap_u64 (n : Nat) (h : n < 18446744073709551616) : IntKind.u64.wrap (n : Int) = (n : Int) := by
  simp [IntKind.wrap, IntKind.signed, IntKind.bits]
  omega
theorem wrap_i64 (n : Int) (h0 : -9223372036854775808 ≤ n) (h1 : n ≤ 9223372036854775807) : IntKind.i64.wrap n = n := by
  simp [IntKind.wrap, IntKind.signed, IntKind.bits]
  omega
theorem bAnd_u64 (n m : Nat) (hn : n < 18446744073709551616) (hm : m < 18446744073709551616) : bAnd .u64 n m = ((n &&& m : Nat) : Int) := by
  have h : n &&& m < 18446744073709551616 := Nat.lt_of_le_of_lt Nat.and_le_left hn
  have e : (BitVec.ofInt 64 (n : Int) &&& BitVec.ofInt 64 (m : Int)).toNat = n &&& m := by
    rw [BitVec.toNat_and, BitVec.ofInt_natCast, BitVec.ofInt_natCast, BitVec.toNat_ofNat, BitVec.toNat_ofNat, Nat.mod_eq_of_lt hn, Nat.mod_eq_of_lt hm]
  unfold bAnd
  rw [show IntKind.u64.bits = 64 from rfl, e]
  exact wrap_u64 _ h
theorem bOr_u64 (n m : Nat) (hn : n < 18446744073709551616) (hm : m < 18446744073709551616) : bOr .u64 n m = ((n ||| m : Nat) : Int) := by
  have h : n ||| m < 18446744073709551616 := Nat.or_lt_two_pow (n := 64) hn hm
  have e : (BitVec.ofInt 64 (n : Int) ||| BitVec.ofInt 64 (m : Int)).toNat = n ||| m := by
    rw [BitVec.toNat_or, BitVec.ofInt_natCast, BitVec.ofInt_natCast, BitVec.toNat_ofNat, BitVec.toNat_ofNat, Nat.mod_eq_of_lt hn, Nat.mod_eq_of_lt hm]
  unfold bOr
  rw [show IntKind.u64.bits = 64 from rfl, e]
  exact wrap_u64 _ h
theorem bXor_u64 (n m : Nat) (hn : n < 18446744073709551616) (hm : m < 18446744073709551616) : bXor .u64 n m = ((n ^^^ m : Nat) : Int) := by
  have h : n ^^^ m < 18446744073709551616 := Nat.xor_lt_two_pow (n := 64) hn hm
  have e : (BitVec.ofInt 64 (n : Int) ^^^ BitVec.ofInt 64 (m : Int)).toNat = n ^^^ m := by
    rw [BitVec.toNat_xor, BitVec.ofInt_natCast, BitVec.ofInt_natCast, BitVec.toNat_ofNat, BitVec.toNat_ofNat, Nat.mod_eq_of_lt hn, Nat.mod_eq_of_lt hm]
  unfold bXor
  rw [show IntKind.u64.bits = 64 from rfl, e]
  exact wrap_u64 _ h
theorem shR_u64 (n s : Nat) (hs : s ≤ 64) : shR .u64 n s = ((n >>> s : Nat) : Int) := by
  unfold shR
  rw [show IntKind.u64.bits = 64 from rfl, Int.toNat_natCast, Nat.min_eq_left hs, Nat.shiftRight_eq_div_pow, Int.fdiv_eq_ediv_of_nonneg _ (Int.le_of_lt (Int.pow_pos (by decide)))]
  simp
theorem shL_u64 (n s : Nat) (hs : s ≤ 64) (h : n * 2 ^ s < 18446744073709551616) : shL .u64 n s = ((n * 2 ^ s : Nat) : Int) := by
  unfold shL
  rw [show IntKind.u64.bits = 64 from rfl, Int.toNat_natCast, Nat.min_eq_left hs]
  have := wrap_u64 (n * 2 ^ s) h
  simpa using this
end Go.Proofs.Ytkcbhdjhbnnlgaa
end

section
/- Plain law: what the library's count of ones computes is the number of ones. -/
set_option linter.unusedVariables false
set_option linter.unusedSimpArgs false
namespace Go.Proofs.Ytkcbhdjhbnnlgaa
open Go Go.Proofs.Ytkcbhdjhbnnlgaa.Abs
def p1 (x : Int) : Int := IntKind.u64.wrap (bAnd .u64 (shR .u64 x 1) 6148914691236517205 + bAnd .u64 x 6148914691236517205)
def p2 (x : Int) : Int := IntKind.u64.wrap (bAnd .u64 (shR .u64 x 2) 3689348814741910323 + bAnd .u64 x 3689348814741910323)
def p3 (x : Int) : Int := bAnd .u64 (IntKind.u64.wrap (shR .u64 x 4 + x)) 1085102592571150095
def p4 (k : Int) (x : Int) : Int := IntKind.u64.wrap (x + shR .u64 x k)
end Go.Proofs.Ytkcbhdjhbnnlgaa
end

section
/- Contracts: the cells that sheet and stamp have in common. -/
set_option linter.unusedVariables false
set_option linter.unusedSimpArgs false
namespace Go.Proofs.Ytkcbhdjhbnnlgaa
open Go Go.RowKit Go.Proofs.Ytkcbhdjhbnnlgaa.Abs
variable {W0 : World} {σ : List Blk}
theorem row_and : ∀ x : Nat, x < 64 → ∀ y : Nat, y < 64 → bAnd .i64 (x : Int) (y : Int) = ((x &&& y : Nat) : Int) := by decide +kernel
theorem inB_iff (x a b : Int) : inB x a b = true ↔ a ≤ x ∧ x ≤ b := by simp [inB]
/-- the rows of a sheet that is right, as numbers -/
theorem rows_of (a b c d e f : Int) (h : shB6 a b c d e f = true) : ∃ a0 b0 c0 d0 e0 f0 : Nat, a = a0 ∧ b = b0 ∧ c = c0 ∧ d = d0 ∧ e = e0 ∧ f = f0 ∧ a0 < 64 ∧ b0 < 64 ∧ c0 < 64 ∧ d0 < 64 ∧ e0 < 64 ∧ f0 < 64 := by
  simp only [shB6, Bool.and_eq_true, inB_iff] at h
  exact ⟨a.toNat, b.toNat, c.toNat, d.toNat, e.toNat, f.toNat, by omega, by omega, by omega, by omega, by omega, by omega, by omega, by omega, by omega, by omega, by omega, by omega⟩
/-- the number of a sheet's set -/
def setN (a b c d e f : Nat) : Nat := a + 64 * (b + 64 * (c + 64 * (d + 64 * (e + 64 * f))))
theorem wrapu (x : Nat) (h : x < 64) : IntKind.u64.wrap (x : Int) = x := wrap_u64 x (by omega)
theorem setI_nat (a b c d e f : Nat) (ha : a < 64) (hb : b < 64) (hc : c < 64) (hd : d < 64) (he : e < 64) (hf : f < 64) : setI a b c d e f = (setN a b c d e f : Nat) := by
  have or_step : ∀ k x y : Nat, x < 2 ^ k → k ≤ 30 → y < 64 → bOr .u64 (x : Int) (shL .u64 (IntKind.u64.wrap (y : Int)) ((k : Nat) : Int)) = ((x + 2 ^ k * y : Nat) : Int) := by
    intro k x y hx hk hy
    have hp : 2 ^ k ≤ 2 ^ 30 := Nat.pow_le_pow_right (by omega) hk
    have hy' : y * 2 ^ k ≤ 63 * 2 ^ 30 := Nat.mul_le_mul (by omega) hp
    rw [wrapu y hy, shL_u64 y k (by omega) (Nat.lt_of_le_of_lt hy' (by decide)), bOr_u64 _ _ (by omega) (Nat.lt_of_le_of_lt hy' (by decide))]
    have h1 := lor_dig k x 0 0 y hx (Nat.two_pow_pos k)
    rw [Nat.mul_zero, Nat.add_zero, Nat.zero_add, Nat.or_zero, Nat.zero_or] at h1
    rw [Nat.mul_comm y, h1]
  unfold setI setN
  have e0 : bOr .u64 0 (shL .u64 (IntKind.u64.wrap (a : Int)) 0) = ((a : Nat) : Int) := by
    have := or_step 0 0 a (by decide) (by omega) ha
    simpa using this
  rw [e0]
  have e1 := or_step 6 a b (by omega) (by omega) hb
  have e2 := or_step 12 _ c (show a + 2 ^ 6 * b < 2 ^ 12 by omega) (by omega) hc
  have e3 := or_step 18 _ d (show a + 2 ^ 6 * b + 2 ^ 12 * c < 2 ^ 18 by omega) (by omega) hd
  have e4 := or_step 24 _ e (show a + 2 ^ 6 * b + 2 ^ 12 * c + 2 ^ 18 * d < 2 ^ 24 by omega) (by omega) he
  have e5 := or_step 30 _ f (show a + 2 ^ 6 * b + 2 ^ 12 * c + 2 ^ 18 * d + 2 ^ 24 * e < 2 ^ 30 by omega) (by omega) hf
  rw [show (6 : Int) = ((6 : Nat) : Int) from rfl, e1, show (12 : Int) = ((12 : Nat) : Int) from rfl, e2, show (18 : Int) = ((18 : Nat) : Int) from rfl, e3, show (24 : Int) = ((24 : Nat) : Int) from rfl, e4, show (30 : Int) = ((30 : Nat) : Int) from rfl, e5]
  refine congrArg (fun n : Nat => (n : Int)) ?_
  omega
theorem setN_lt (a b c d e f : Nat) (ha : a < 64) (hb : b < 64) (hc : c < 64) (hd : d < 64) (he : e < 64) (hf : f < 64) : setN a b c d e f < 68719476736 := by unfold setN; omega
end Go.Proofs.Ytkcbhdjhbnnlgaa
end

section
/- Arithmetic: sets of cells as numbers; cells that go elsewhere; sheets by their sets. -/
set_option linter.unusedVariables false
set_option linter.unusedSimpArgs false
namespace Go.Proofs.Ytkcbhdjhbnnlgaa
open Go Go.RowKit Go.Proofs.Ytkcbhdjhbnnlgaa.Abs
/-- the cells that go where g tells -/
def mvN (g : Nat → Nat) (n : Nat) : Nat → Nat
  | 0 => 0
  | m + 1 => mvN g n m ||| (if n.testBit m then 2 ^ g m else 0)
theorem mvN_succ (g : Nat → Nat) (n m : Nat) : mvN g n (m + 1) = mvN g n m ||| (if n.testBit m then 2 ^ g m else 0) := rfl
theorem mvN_bit (g : Nat → Nat) (n j : Nat) : ∀ m, (mvN g n m).testBit j = true ↔ ∃ k, k < m ∧ n.testBit k = true ∧ g k = j
  | 0 => by simp [mvN]
  | m + 1 => by
    rw [mvN_succ, Nat.testBit_or, Bool.or_eq_true, mvN_bit g n j m]
    constructor
    · rintro (⟨k, h1, h2, h3⟩ | h)
      · exact ⟨k, by omega, h2, h3⟩
      · split at h
        · rename_i hm
          rw [Nat.testBit_two_pow] at h
          exact ⟨m, by omega, hm, by simpa using h⟩
        · simp at h
    · rintro ⟨k, h1, h2, h3⟩
      by_cases e : k = m
      · subst e
        right
        rw [if_pos h2, Nat.testBit_two_pow]
        simpa using h3
      · exact .inl ⟨k, by omega, h2, h3⟩
abbrev Perm (g h : Nat → Nat) : Prop := ∀ k, k < 36 → g k < 36 ∧ h k < 36 ∧ g (h k) = k ∧ h (g k) = k
theorem mvN_perm {g h : Nat → Nat} (hp : Perm g h) (n : Nat) {j : Nat} (hj : j < 36) : (mvN g n 36).testBit j = n.testBit (h j) := by
  rw [Bool.eq_iff_iff, mvN_bit]
  obtain ⟨_, h2, h3, _⟩ := hp j hj
  constructor
  · rintro ⟨k, k1, k2, k3⟩
    rw [← k3, (hp k k1).2.2.2]; exact k2
  · intro hb
    exact ⟨h j, h2, hb, h3⟩
theorem mvN_lt {g h : Nat → Nat} (hp : Perm g h) (n : Nat) : mvN g n 36 < 2 ^ 36 := by
  refine Nat.lt_pow_two_of_testBit _ fun i hi => ?_
  rw [Bool.eq_false_iff]
  intro hc
  obtain ⟨k, k1, _, k3⟩ := (mvN_bit g n i 36).1 hc
  have := (hp k k1).1
  omega
theorem mvN_lt' {g : Nat → Nat} (hp : ∀ k, k < 36 → g k < 36) (n m : Nat) (hm : m ≤ 36) : mvN g n m < 2 ^ 36 := by
  refine Nat.lt_pow_two_of_testBit _ fun i hi => ?_
  rw [Bool.eq_false_iff]
  intro hc
  obtain ⟨k, k1, _, k3⟩ := (mvN_bit g n i m).1 hc
  have := hp k (by omega)
  omega
/-- a row of a set -/
def rowN (n i : Nat) : Nat := (n >>> (6 * i)) % 64
theorem rowN_lt (n i : Nat) : rowN n i < 64 := Nat.mod_lt _ (by decide)
theorem rowN_bit (n i j : Nat) : (rowN n i).testBit j = (decide (j < 6) && n.testBit (6 * i + j)) := by
  unfold rowN
  rw [show (64 : Nat) = 2 ^ 6 from rfl, Nat.testBit_mod_two_pow, Nat.testBit_shiftRight]
abbrev ShN (n : Nat) : AV := Sh (rowN n 0 : Nat) (rowN n 1 : Nat) (rowN n 2 : Nat) (rowN n 3 : Nat) (rowN n 4 : Nat) (rowN n 5 : Nat)
theorem rowN_eq (n : Nat) : rowN n 0 = n % 64 ∧ rowN n 1 = n / 64 % 64 ∧ rowN n 2 = n / 4096 % 64 ∧ rowN n 3 = n / 262144 % 64 ∧ rowN n 4 = n / 16777216 % 64 ∧ rowN n 5 = n / 1073741824 % 64 := by
  refine ⟨?_, ?_, ?_, ?_, ?_, ?_⟩ <;> simp [rowN, Nat.shiftRight_eq_div_pow]
theorem setN_rows {n : Nat} (h : n < 2 ^ 36) : setN (rowN n 0) (rowN n 1) (rowN n 2) (rowN n 3) (rowN n 4) (rowN n 5) = n := by
  obtain ⟨e0, e1, e2, e3, e4, e5⟩ := rowN_eq n
  rw [e0, e1, e2, e3, e4, e5]; unfold setN; omega
theorem rows_setN {a b c d e f : Nat} (ha : a < 64) (hb : b < 64) (hc : c < 64) (hd : d < 64) (he : e < 64) (hf : f < 64) :
    rowN (setN a b c d e f) 0 = a ∧ rowN (setN a b c d e f) 1 = b ∧ rowN (setN a b c d e f) 2 = c ∧ rowN (setN a b c d e f) 3 = d ∧ rowN (setN a b c d e f) 4 = e ∧ rowN (setN a b c d e f) 5 = f := by
  obtain ⟨e0, e1, e2, e3, e4, e5⟩ := rowN_eq (setN a b c d e f)
  rw [e0, e1, e2, e3, e4, e5]; unfold setN; omega
theorem shN_of {a b c d e f : Int} (h : shB6 a b c d e f = true) : ∃ n, n < 2 ^ 36 ∧ (rowN n 0 : Nat) = a ∧ (rowN n 1 : Nat) = b ∧ (rowN n 2 : Nat) = c ∧ (rowN n 3 : Nat) = d ∧ (rowN n 4 : Nat) = e ∧ (rowN n 5 : Nat) = f := by
  obtain ⟨a0, b0, c0, d0, e0, f0, rfl, rfl, rfl, rfl, rfl, rfl, h1, h2, h3, h4, h5, h6⟩ := rows_of a b c d e f h
  obtain ⟨r0, r1, r2, r3, r4, r5⟩ := rows_setN h1 h2 h3 h4 h5 h6
  exact ⟨setN a0 b0 c0 d0 e0 f0, setN_lt _ _ _ _ _ _ h1 h2 h3 h4 h5 h6, by rw [r0], by rw [r1], by rw [r2], by rw [r3], by rw [r4], by rw [r5]⟩
theorem shB6_ShN (n : Nat) : shB6 (rowN n 0 : Nat) (rowN n 1 : Nat) (rowN n 2 : Nat) (rowN n 3 : Nat) (rowN n 4 : Nat) (rowN n 5 : Nat) = true := by
  have h := rowN_lt n
  have h0 := h 0; have h1 := h 1; have h2 := h 2; have h3 := h 3; have h4 := h 4; have h5 := h 5
  simp [shB6, inB]; omega
theorem setI_ShN {n : Nat} (h : n < 2 ^ 36) : setI (rowN n 0 : Nat) (rowN n 1 : Nat) (rowN n 2 : Nat) (rowN n 3 : Nat) (rowN n 4 : Nat) (rowN n 5 : Nat) = (n : Nat) := by
  rw [setI_nat _ _ _ _ _ _ (rowN_lt n 0) (rowN_lt n 1) (rowN_lt n 2) (rowN_lt n 3) (rowN_lt n 4) (rowN_lt n 5), setN_rows h]
theorem kSh {K : Cont} {σ : List Blk} {a b c d e f a' b' c' d' e' f' : Int} (h : K (Sh a b c d e f) σ) (ha : a' = a) (hb : b' = b) (hc : c' = c) (hd : d' = d) (he : e' = e) (hf : f' = f) : K (Sh a' b' c' d' e' f') σ := by
  subst ha; subst hb; subst hc; subst hd; subst he; subst hf; exact h
/-! rows of results -/
theorem row_or (n m i : Nat) : rowN (n ||| m) i = rowN n i ||| rowN m i := by
  apply Nat.eq_of_testBit_eq; intro j; simp only [rowN_bit, Nat.testBit_or]; cases decide (j < 6) <;> simp
theorem row_andN (n m i : Nat) : rowN (n &&& m) i = rowN n i &&& rowN m i := by
  apply Nat.eq_of_testBit_eq; intro j; simp only [rowN_bit, Nat.testBit_and]; cases decide (j < 6) <;> simp
theorem row_xor (n m i : Nat) : rowN (n ^^^ m) i = rowN n i ^^^ rowN m i := by
  apply Nat.eq_of_testBit_eq; intro j; simp only [rowN_bit, Nat.testBit_xor]; cases decide (j < 6) <;> simp
theorem b_or : ∀ x : Nat, x < 64 → ∀ y : Nat, y < 64 → bOr .i64 (x : Int) (y : Int) = ((x ||| y : Nat) : Int) := by decide +kernel
theorem b_xor : ∀ x : Nat, x < 64 → ∀ y : Nat, y < 64 → bXor .i64 (x : Int) (y : Int) = ((x ^^^ y : Nat) : Int) := by decide +kernel
/-- all cells -/
def fullN : Nat := 68719476735
theorem full_bit {j : Nat} (h : j < 36) : fullN.testBit j = true := by
  rw [show fullN = 2 ^ 36 - 1 from rfl, Nat.testBit_two_pow_sub_one]; simpa using h
theorem fullRow : ∀ i, i < 6 → rowN fullN i = 63 := by decide +kernel
theorem b_not : ∀ x : Nat, x < 64 → IntKind.i64.wrap (63 - (x : Int)) = ((63 ^^^ x : Nat) : Int) := by decide +kernel
theorem row_not (n i : Nat) (hi : i < 6) : rowN (fullN ^^^ n) i = 63 ^^^ rowN n i := by rw [row_xor, fullRow i hi]
/-! shifts -/
def shG (x y k : Nat) : Nat := (k / 6 + y) % 6 * 6 + (k % 6 + x) % 6
def shH (x y k : Nat) : Nat := (k / 6 + (6 - y)) % 6 * 6 + (k % 6 + (6 - x)) % 6
theorem sh_perm : ∀ x, x < 6 → ∀ y, y < 6 → Perm (shG x y) (shH x y) := by decide +kernel
def rotN (x r : Nat) : Nat := ((r <<< x) &&& 63) ||| (r >>> (6 - x))
theorem rot_bit : ∀ x, x < 6 → ∀ r, r < 64 → rotN x r < 64 ∧ ∀ j, j < 6 → (rotN x r).testBit j = r.testBit ((j + (6 - x)) % 6) := by decide +kernel
theorem rot_int : ∀ x : Nat, x < 6 → ∀ r : Nat, r < 64 → bOr .i64 (bAnd .i64 (shL .i64 (r : Int) (x : Int)) 63) (shR .i64 (r : Int) (IntKind.i64.wrap (6 - (x : Int)))) = ((rotN x r : Nat) : Int) := by decide +kernel
theorem rot_row (n x y i : Nat) (hx : x < 6) (hy : y < 6) (hi : i < 6) : rotN x (rowN n i) = rowN (mvN (shG x y) n 36) ((i + y) % 6) := by
  obtain ⟨h1, h2⟩ := rot_bit x hx _ (rowN_lt n i)
  apply Nat.eq_of_testBit_eq; intro j
  rw [rowN_bit]
  by_cases hj : j < 6
  · rw [h2 j hj, rowN_bit, mvN_perm (sh_perm x hx y hy) n (by omega)]
    have e : 6 * i + (j + (6 - x)) % 6 = shH x y (6 * ((i + y) % 6) + j) := by unfold shH; omega
    rw [e]; simp [hj]; omega
  · rw [Nat.testBit_lt_two_pow (Nat.lt_of_lt_of_le h1 (Nat.pow_le_pow_right (by decide : 0 < 2) (by omega : 6 ≤ j)))]
    simp [hj]
end Go.Proofs.Ytkcbhdjhbnnlgaa
end

section
/- Contracts: sets that move; sheets by their sets. -/
set_option linter.unusedVariables false
set_option linter.unusedSimpArgs false
set_option maxRecDepth 100000
set_option maxHeartbeats 4000000
namespace Go.Proofs.Ytkcbhdjhbnnlgaa
open Go Go.RowKit Go.Proofs.Ytkcbhdjhbnnlgaa.Abs
variable {W0 : World} {σ : List Blk}
theorem kU {K : Cont} {σ : List Blk} {x y : Int} (h : K (U x) σ) (e : y = x) : K (U y) σ := e ▸ h
theorem kB' {K : Cont} {σ : List Blk} {x y : Bool} (h : K (Bo x) σ) (e : y = x) : K (Bo y) σ := e ▸ h
theorem kI' {K : Cont} {σ : List Blk} {x y : Int} (h : K (I x) σ) (e : y = x) : K (I y) σ := e ▸ h
theorem kT2 {K : Cont} {σ : List Blk} {x y x' y' : Int} (h : K (.tup [I x, I y]) σ) (e : x' = x) (e' : y' = y) : K (.tup [I x', I y']) σ := e ▸ e' ▸ h
theorem has_eq (n k : Nat) (hn : n < 18446744073709551616) (hk : k ≤ 64) : decide (bAnd .u64 (shR .u64 (n : Nat) (k : Nat)) 1 = 1) = n.testBit k := by
  rw [shR_u64 n k hk, show (1 : Int) = ((1 : Nat) : Int) from rfl, bAnd_u64 _ _ (Nat.lt_of_le_of_lt (by rw [Nat.shiftRight_eq_div_pow]; exact Nat.div_le_self _ _) hn) (by decide), Bool.eq_iff_iff, decide_eq_true_iff, Nat.testBit, bne_iff_ne, Nat.and_comm]
  have h := Nat.and_one_is_mod (n >>> k)
  rw [Nat.and_comm] at h
  rw [h]; omega
theorem c_has (n k : Nat) (hn : n < 18446744073709551616) (hk : k ≤ 64) (K : Cont) (h0 : K (Bo (n.testBit k)) []) : ACall Try.prog W0 84 [U n, I k] [] K := by
  refine by84 (Nat.le_of_ble_eq_true rfl) ?_
  repeat' ((conv => whnf); first | (refine Exists.intro ([] : List Nat) ?_) | (refine And.intro rfl ?_) | (refine And.intro (by decide +kernel) ?_) | (refine And.intro trivial ?_) | (refine Exists.intro _ (And.intro rfl (And.intro rfl (And.intro (Nat.le_of_ble_eq_true rfl) ?_)))) | (refine Exists.intro _ (And.intro rfl (And.intro rfl (And.intro rfl (And.intro (Nat.le_of_ble_eq_true rfl) ?_))))) | (refine And.intro (Exists.intro _ (And.intro rfl rfl)) ?_) | (exact fun hW => absurd hW (by decide +kernel)) | (intro hW; (try simp only [Bool.not_true, Bool.not_false, Bool.not_eq_true', Bool.not_eq_false', decide_eq_true_eq, decide_eq_false_iff_not, reduceCtorEq, Bool.true_eq_false, Bool.false_eq_true, mk_size, List.size_toArray, ByteArray.size_append, ByteArray.size_extract, List.length_cons, List.length_nil, ba_get, ba_empty, Int.toNat_natCast] at hW)) | (refine And.intro (?_ : _ → _) (?_ : _ → _)) | (refine FinR.drop 0 (Nat.zero_le _) (Closed.zero _) rfl ?_) | (refine FinR.keep ?_) | (refine And.intro (det3_agg rfl) ?_) | (refine fL_mk ?_) | (refine And.intro (by (try simp only [mk_size, List.size_toArray, ByteArray.size_append, ByteArray.size_extract, List.length_cons, List.length_nil]); omega) ?_) | (refine And.intro (by (try simp only [mk_size, List.size_toArray, ByteArray.size_append, ByteArray.size_extract, List.length_cons, List.length_nil, wrap64_eq]); omega) ?_) | fail)
  all_goals exact kB' h0 (has_eq n k hn hk)
theorem d_has (n k : Nat) (hn : n < 18446744073709551616) (hk : k ≤ 64) (K : Cont) (h0 : K (Bo (n.testBit k)) σ) : ACall Try.prog W0 84 [U n, I k] σ K :=
  ACall.lift rfl (fun _ => rfl) (fun W1 K _ hK => c_has n k hn hk K hK) h0
theorem or_bit (g : Nat → Nat) (n k x y : Nat) (hk : k < 36) (hg : ∀ k, k < 36 → g k < 36) (hx : x < 6) (hy : y < 6) (he : g k = y * 6 + x) (hb : n.testBit k = true) :
    bOr .u64 (mvN g n k : Nat) (shL .u64 1 (IntKind.i64.wrap (IntKind.i64.wrap ((y : Int) * 6) + (x : Int)))) = (mvN g n (k + 1) : Nat) := by
  rw [wrap_i64 ((y : Int) * 6) (by omega) (by omega), wrap_i64 _ (by omega) (by omega), show ((y : Int) * 6 + (x : Int)) = ((g k : Nat) : Int) by omega]
  have h36 := hg k hk
  have hp : 2 ^ g k < 2 ^ 36 := Nat.pow_lt_pow_right (by decide) h36
  rw [show (1 : Int) = ((1 : Nat) : Int) from rfl, shL_u64 1 _ (by omega) (by rw [Nat.one_mul]; exact Nat.lt_trans hp (by decide)), Nat.one_mul, bOr_u64 _ _ (Nat.lt_trans (mvN_lt' hg n k (by omega)) (by decide)) (Nat.lt_trans hp (by decide)), mvN_succ, if_pos hb]
theorem slU {a b : Int} (h : a = b) : AV.lit (.int .u64 a) = U b := by rw [h]
theorem slI' {a b : Int} (h : a = b) : AV.lit (.int .i64 a) = I b := by rw [h]
theorem c_moved (n : Nat) (g0 : FuncId) (caps : List AV) (g : Nat → Nat) (hn : n < 2 ^ 36) (hg : ∀ k, k < 36 → g k < 36) (hc : ∀ k : Nat, k < 36 → ∃ x y : Nat, x < 6 ∧ y < 6 ∧ g k = y * 6 + x ∧ ∀ K : Cont, K (.tup [I x, I y]) σ → ACall Try.prog W0 g0 (I (k % 6 : Nat) :: I (k / 6 : Nat) :: caps) σ K)
    (K : Cont) (h0 : K (U (mvN g n 36 : Nat)) σ) : ACall Try.prog W0 114 [U n, .fn (.func g0) [] caps] σ K := by
  refine by114 (Nat.le_of_ble_eq_true rfl) ?_
  repeat' ((conv => whnf); first | (refine Exists.intro ([] : List Nat) ?_) | (refine And.intro rfl ?_) | (refine And.intro (by decide +kernel) ?_) | (refine And.intro trivial ?_) | (refine Exists.intro _ (And.intro rfl (And.intro rfl (And.intro (Nat.le_of_ble_eq_true rfl) ?_)))) | (refine Exists.intro _ (And.intro rfl (And.intro rfl (And.intro rfl (And.intro (Nat.le_of_ble_eq_true rfl) ?_))))) | (refine And.intro (Exists.intro _ (And.intro rfl rfl)) ?_) | (exact fun hW => absurd hW (by decide +kernel)) | (intro hW; (try simp only [Bool.not_true, Bool.not_false, Bool.not_eq_true', Bool.not_eq_false', decide_eq_true_eq, decide_eq_false_iff_not, reduceCtorEq, Bool.true_eq_false, Bool.false_eq_true, mk_size, List.size_toArray, ByteArray.size_append, ByteArray.size_extract, List.length_cons, List.length_nil, ba_get, ba_empty, Int.toNat_natCast] at hW)) | (refine And.intro (?_ : _ → _) (?_ : _ → _)) | (refine FinR.drop 0 (Nat.zero_le _) (Closed.zero _) rfl ?_) | (refine FinR.keep ?_) | (refine And.intro (det3_agg rfl) ?_) | (refine fL_mk ?_) | (refine And.intro (by (try simp only [mk_size, List.size_toArray, ByteArray.size_append, ByteArray.size_extract, List.length_cons, List.length_nil]); omega) ?_) | (refine And.intro (by (try simp only [mk_size, List.size_toArray, ByteArray.size_append, ByteArray.size_extract, List.length_cons, List.length_nil, wrap64_eq]); omega) ?_) | fail)
  refine LoopR.live (fun k : Nat => [(0, U n), (1, .fn (.func g0) [] caps), (5, U (mvN g n k : Nat)), (9, I k)]) (fun _ => σ) (fun k => k ≤ 36) (fun k => 36 - k) 0 ⟨rfl, rfl, rfl, rfl, trivial⟩ (.keep rfl) (Nat.zero_le _) ?_
  intro k hk
  have e1 : ((k : Int)).tmod 6 = ((k % 6 : Nat) : Int) := by rw [Int.tmod_eq_emod_of_nonneg (by omega)]; rfl
  have e2 : IntKind.i64.wrap ((k : Int).tdiv 6) = ((k / 6 : Nat) : Int) := by rw [Int.tdiv_eq_ediv_of_nonneg (by omega), wrap_i64 _ (by omega) (by omega)]; rfl
  have e3 : IntKind.i64.wrap ((k : Int) + 1) = ((k + 1 : Nat) : Int) := by rw [wrap_i64 _ (by omega) (by omega)]; rfl
  by_cases hlt : k < 36
  · obtain ⟨x, y, hx, hy, he, hcall⟩ := hc k hlt
    have hcall' : ∀ K : Cont, K (.tup [I x, I y]) σ → ACall Try.prog W0 g0 (I ((k : Int).tmod 6) :: I (IntKind.i64.wrap ((k : Int).tdiv 6)) :: caps) σ K := by rw [e1, e2]; exact hcall
    have e4 : 0 ≤ IntKind.i64.wrap (IntKind.i64.wrap ((y : Int) * 6) + (x : Int)) := by rw [wrap_i64 ((y : Int) * 6) (by omega) (by omega), wrap_i64 _ (by omega) (by omega)]; omega
    repeat' ((conv => whnf); first | (refine hcall' _ ?_) | (refine And.intro e4 ?_) | (refine Exists.intro ([] : List Nat) ?_) | (refine And.intro rfl ?_) | (refine And.intro (by decide +kernel) ?_) | (refine And.intro trivial ?_) | (refine d_has (hn := Nat.lt_trans hn (by decide)) (hk := by omega) (h0 := ?_) ..) | (refine Exists.intro _ (And.intro rfl (And.intro rfl (And.intro (Nat.le_of_ble_eq_true rfl) ?_)))) | (refine Exists.intro _ (And.intro rfl (And.intro rfl (And.intro rfl (And.intro (Nat.le_of_ble_eq_true rfl) ?_))))) | (refine And.intro (Exists.intro _ (And.intro rfl rfl)) ?_) | (exact fun hW => absurd hW (by decide +kernel)) | (intro hW; (try simp only [Bool.not_true, Bool.not_false, Bool.not_eq_true', Bool.not_eq_false', decide_eq_true_eq, decide_eq_false_iff_not, reduceCtorEq, Bool.true_eq_false, Bool.false_eq_true, mk_size, List.size_toArray, ByteArray.size_append, ByteArray.size_extract, List.length_cons, List.length_nil, ba_get, ba_empty, Int.toNat_natCast] at hW)) | (refine And.intro (?_ : _ → _) (?_ : _ → _)) | (refine FinR.drop 0 (Nat.zero_le _) (Closed.zero _) rfl ?_) | (refine FinR.keep ?_) | (refine And.intro (det3_agg rfl) ?_) | (refine fL_mk ?_) | (refine And.intro (by (try simp only [mk_size, List.size_toArray, ByteArray.size_append, ByteArray.size_extract, List.length_cons, List.length_nil]); omega) ?_) | (refine And.intro (by (try simp only [mk_size, List.size_toArray, ByteArray.size_append, ByteArray.size_extract, List.length_cons, List.length_nil, wrap64_eq]); omega) ?_) | fail)
    all_goals first | (exfalso; omega) | skip
    · exact Again.go (k + 1) ⟨rfl, rfl, slU (or_bit g n k x y hlt hg hx hy he (by assumption)), slI' e3, trivial⟩ (.keep rfl) (by omega) (by omega)
    · refine Again.go (k + 1) ⟨rfl, rfl, slU ?_, slI' e3, trivial⟩ (.keep rfl) (by omega) (by omega)
      rw [mvN_succ, if_neg (by rw [hW]; decide), Nat.or_zero]
  · obtain rfl : k = 36 := by omega
    repeat' ((conv => whnf); first | (refine Exists.intro ([] : List Nat) ?_) | (refine And.intro rfl ?_) | (refine And.intro (by decide +kernel) ?_) | (refine And.intro trivial ?_) | (refine Exists.intro _ (And.intro rfl (And.intro rfl (And.intro (Nat.le_of_ble_eq_true rfl) ?_)))) | (refine Exists.intro _ (And.intro rfl (And.intro rfl (And.intro rfl (And.intro (Nat.le_of_ble_eq_true rfl) ?_))))) | (refine And.intro (Exists.intro _ (And.intro rfl rfl)) ?_) | (exact fun hW => absurd hW (by decide +kernel)) | (intro hW; (try simp only [Bool.not_true, Bool.not_false, Bool.not_eq_true', Bool.not_eq_false', decide_eq_true_eq, decide_eq_false_iff_not, reduceCtorEq, Bool.true_eq_false, Bool.false_eq_true, mk_size, List.size_toArray, ByteArray.size_append, ByteArray.size_extract, List.length_cons, List.length_nil, ba_get, ba_empty, Int.toNat_natCast] at hW)) | (refine And.intro (?_ : _ → _) (?_ : _ → _)) | (refine FinR.drop 0 (Nat.zero_le _) (Closed.zero _) rfl ?_) | (refine FinR.keep ?_) | (refine And.intro (det3_agg rfl) ?_) | (refine fL_mk ?_) | (refine And.intro (by (try simp only [mk_size, List.size_toArray, ByteArray.size_append, ByteArray.size_extract, List.length_cons, List.length_nil]); omega) ?_) | (refine And.intro (by (try simp only [mk_size, List.size_toArray, ByteArray.size_append, ByteArray.size_extract, List.length_cons, List.length_nil, wrap64_eq]); omega) ?_) | fail)
    all_goals first | (exfalso; omega) | exact h0
end Go.Proofs.Ytkcbhdjhbnnlgaa
end

section
/- Contracts: shifted sets; sheets of sets; sheets by their sets. -/
set_option linter.unusedVariables false
set_option linter.unusedSimpArgs false
set_option maxRecDepth 100000
set_option maxHeartbeats 4000000
namespace Go.Proofs.Ytkcbhdjhbnnlgaa
open Go Go.RowKit Go.Proofs.Ytkcbhdjhbnnlgaa.Abs
variable {W0 : World} {σ : List Blk}
theorem tmod6 (n : Int) : n.tmod 6 = if 0 ≤ n then n % 6 else -((-n) % 6) := by
  split
  · rename_i h; exact Int.tmod_eq_emod_of_nonneg h
  · rename_i h
    rw [← Int.tmod_eq_emod_of_nonneg (by omega : 0 ≤ -n), Int.neg_tmod]; omega
theorem rest_eq (n : Int) : (IntKind.i64.wrap (n.tmod 6 + 6)).tmod 6 = n % 6 := by
  rw [tmod6 n]
  have : 0 ≤ (if 0 ≤ n then n % 6 else -((-n) % 6)) + 6 ∧ (if 0 ≤ n then n % 6 else -((-n) % 6)) + 6 < 12 ∧ ((if 0 ≤ n then n % 6 else -((-n) % 6)) + 6) % 6 = n % 6 := by split <;> omega
  rw [wrap_i64 _ (by omega) (by omega), Int.tmod_eq_emod_of_nonneg this.1]
  exact this.2.2
theorem c_rest (n : Int) (x : Nat) (hx : n % 6 = x) (K : Cont) (h0 : K (I x) []) : ACall Try.prog W0 113 [I n] [] K := by
  refine by113 (Nat.le_of_ble_eq_true rfl) ?_
  have e := rest_eq n
  repeat' ((conv => whnf); first | (refine Exists.intro ([] : List Nat) ?_) | (refine And.intro rfl ?_) | (refine And.intro (by decide +kernel) ?_) | (refine And.intro trivial ?_) | (refine Exists.intro _ (And.intro rfl (And.intro rfl (And.intro (Nat.le_of_ble_eq_true rfl) ?_)))) | (refine Exists.intro _ (And.intro rfl (And.intro rfl (And.intro rfl (And.intro (Nat.le_of_ble_eq_true rfl) ?_))))) | (refine And.intro (Exists.intro _ (And.intro rfl rfl)) ?_) | (exact fun hW => absurd hW (by decide +kernel)) | (intro hW; (try simp only [Bool.not_true, Bool.not_false, Bool.not_eq_true', Bool.not_eq_false', decide_eq_true_eq, decide_eq_false_iff_not, reduceCtorEq, Bool.true_eq_false, Bool.false_eq_true, mk_size, List.size_toArray, ByteArray.size_append, ByteArray.size_extract, List.length_cons, List.length_nil, ba_get, ba_empty, Int.toNat_natCast] at hW)) | (refine And.intro (?_ : _ → _) (?_ : _ → _)) | (refine FinR.drop 0 (Nat.zero_le _) (Closed.zero _) rfl ?_) | (refine FinR.keep ?_) | (refine And.intro (det3_agg rfl) ?_) | (refine fL_mk ?_) | (refine And.intro (by (try simp only [mk_size, List.size_toArray, ByteArray.size_append, ByteArray.size_extract, List.length_cons, List.length_nil]); omega) ?_) | (refine And.intro (by (try simp only [mk_size, List.size_toArray, ByteArray.size_append, ByteArray.size_extract, List.length_cons, List.length_nil, wrap64_eq]); omega) ?_) | fail)
  all_goals exact kI' h0 (by rw [e, hx])
theorem d_rest (n : Int) (x : Nat) (hx : n % 6 = x) (K : Cont) (h0 : K (I x) σ) : ACall Try.prog W0 113 [I n] σ K :=
  ACall.lift rfl (fun _ => rfl) (fun W1 K _ hK => c_rest n x hx K hK) h0
theorem c_l2Mod (n : Int) (x : Nat) (hx : n % 6 = x) (K : Cont) (h0 : K (I x) []) : ACall Try.prog W0 116 [I n] [] K := by
  refine by116 (Nat.le_of_ble_eq_true rfl) ?_
  have e := rest_eq n
  repeat' ((conv => whnf); first | (refine Exists.intro ([] : List Nat) ?_) | (refine And.intro rfl ?_) | (refine And.intro (by decide +kernel) ?_) | (refine And.intro trivial ?_) | (refine Exists.intro _ (And.intro rfl (And.intro rfl (And.intro (Nat.le_of_ble_eq_true rfl) ?_)))) | (refine Exists.intro _ (And.intro rfl (And.intro rfl (And.intro rfl (And.intro (Nat.le_of_ble_eq_true rfl) ?_))))) | (refine And.intro (Exists.intro _ (And.intro rfl rfl)) ?_) | (exact fun hW => absurd hW (by decide +kernel)) | (intro hW; (try simp only [Bool.not_true, Bool.not_false, Bool.not_eq_true', Bool.not_eq_false', decide_eq_true_eq, decide_eq_false_iff_not, reduceCtorEq, Bool.true_eq_false, Bool.false_eq_true, mk_size, List.size_toArray, ByteArray.size_append, ByteArray.size_extract, List.length_cons, List.length_nil, ba_get, ba_empty, Int.toNat_natCast] at hW)) | (refine And.intro (?_ : _ → _) (?_ : _ → _)) | (refine FinR.drop 0 (Nat.zero_le _) (Closed.zero _) rfl ?_) | (refine FinR.keep ?_) | (refine And.intro (det3_agg rfl) ?_) | (refine fL_mk ?_) | (refine And.intro (by (try simp only [mk_size, List.size_toArray, ByteArray.size_append, ByteArray.size_extract, List.length_cons, List.length_nil]); omega) ?_) | (refine And.intro (by (try simp only [mk_size, List.size_toArray, ByteArray.size_append, ByteArray.size_extract, List.length_cons, List.length_nil, wrap64_eq]); omega) ?_) | fail)
  all_goals exact kI' h0 (by rw [e, hx])
theorem d_l2Mod (n : Int) (x : Nat) (hx : n % 6 = x) (K : Cont) (h0 : K (I x) σ) : ACall Try.prog W0 116 [I n] σ K :=
  ACall.lift rfl (fun _ => rfl) (fun W1 K _ hK => c_l2Mod n x hx K hK) h0
theorem addrem (a b : Nat) (ha : a < 36) (hb : b < 6) : (IntKind.i64.wrap ((a : Int) + (b : Int))).tmod 6 = (((a + b) % 6 : Nat) : Int) := by
  rw [wrap_i64 _ (by omega) (by omega), Int.tmod_eq_emod_of_nonneg (by omega)]; omega
theorem shClo (x y : Nat) (hx : x < 6) (hy : y < 6) (k : Nat) (hk : k < 36) : ∃ x' y' : Nat, x' < 6 ∧ y' < 6 ∧ shG x y k = y' * 6 + x' ∧ ∀ K : Cont, K (.tup [I x', I y']) [⟨[I x], 0, 3, 0, false, false⟩, ⟨[I y], 0, 3, 0, false, false⟩] →
    ACall Try.prog W0 115 (I (k % 6 : Nat) :: I (k / 6 : Nat) :: [.ptr 0 0 0, .ptr 1 0 0]) [⟨[I x], 0, 3, 0, false, false⟩, ⟨[I y], 0, 3, 0, false, false⟩] K := by
  refine ⟨(k % 6 + x) % 6, (k / 6 + y) % 6, by omega, by omega, rfl, fun K h0 => ?_⟩
  refine by115 (Nat.le_of_ble_eq_true rfl) ?_
  have e1 := addrem (k % 6) x (by omega) hx
  have e2 := addrem (k / 6) y (by omega) hy
  repeat' ((conv => whnf); first | (refine Exists.intro ([] : List Nat) ?_) | (refine And.intro rfl ?_) | (refine And.intro (by decide +kernel) ?_) | (refine And.intro trivial ?_) | (refine Exists.intro _ (And.intro rfl (And.intro rfl (And.intro (Nat.le_of_ble_eq_true rfl) ?_)))) | (refine Exists.intro _ (And.intro rfl (And.intro rfl (And.intro rfl (And.intro (Nat.le_of_ble_eq_true rfl) ?_))))) | (refine And.intro (Exists.intro _ (And.intro rfl rfl)) ?_) | (exact fun hW => absurd hW (by decide +kernel)) | (intro hW; (try simp only [Bool.not_true, Bool.not_false, Bool.not_eq_true', Bool.not_eq_false', decide_eq_true_eq, decide_eq_false_iff_not, reduceCtorEq, Bool.true_eq_false, Bool.false_eq_true, mk_size, List.size_toArray, ByteArray.size_append, ByteArray.size_extract, List.length_cons, List.length_nil, ba_get, ba_empty, Int.toNat_natCast] at hW)) | (refine And.intro (?_ : _ → _) (?_ : _ → _)) | (refine FinR.drop 0 (Nat.zero_le _) (Closed.zero _) rfl ?_) | (refine FinR.keep ?_) | (refine And.intro (det3_agg rfl) ?_) | (refine fL_mk ?_) | (refine And.intro (by (try simp only [mk_size, List.size_toArray, ByteArray.size_append, ByteArray.size_extract, List.length_cons, List.length_nil]); omega) ?_) | (refine And.intro (by (try simp only [mk_size, List.size_toArray, ByteArray.size_append, ByteArray.size_extract, List.length_cons, List.length_nil, wrap64_eq]); omega) ?_) | fail)
  all_goals exact kT2 h0 e1 e2
theorem c_shifted (n : Nat) (hn : n < 2 ^ 36) (dx dy : Int) (x y : Nat) (hx : dx % 6 = x) (hy : dy % 6 = y) (K : Cont) (h0 : K (U (mvN (shG x y) n 36 : Nat)) []) : ACall Try.prog W0 75 [U n, I dx, I dy] [] K := by
  refine by75 (Nat.le_of_ble_eq_true rfl) ?_
  have hx' : x < 6 := by omega
  have hy' : y < 6 := by omega
  repeat' ((conv => whnf); first | (refine Exists.intro ([] : List Nat) ?_) | (refine And.intro rfl ?_) | (refine And.intro (by decide +kernel) ?_) | (refine And.intro trivial ?_) | (refine d_rest (hx := hx) (h0 := ?_) ..) | (refine Exists.intro _ (And.intro (fun τ => callW_fn (d_rest (hx := hx) (h0 := And.intro rfl rfl) ..)) ?_)) | (refine Exists.intro _ (And.intro (callW_fn (d_rest (hx := hx) (h0 := And.intro rfl rfl) ..)) (And.intro trivial ?_))) | (refine Exists.intro _ (And.intro (callW_fn (d_rest (hx := hx) (h0 := And.intro rfl rfl) ..)) ?_)) | (refine Exists.intro _ (And.intro (fun τ _ => callW_fn (d_rest (hx := hx) (h0 := And.intro rfl rfl) ..)) ?_)) | (refine d_rest (hx := hy) (h0 := ?_) ..) | (refine Exists.intro _ (And.intro (fun τ => callW_fn (d_rest (hx := hy) (h0 := And.intro rfl rfl) ..)) ?_)) | (refine Exists.intro _ (And.intro (callW_fn (d_rest (hx := hy) (h0 := And.intro rfl rfl) ..)) (And.intro trivial ?_))) | (refine Exists.intro _ (And.intro (callW_fn (d_rest (hx := hy) (h0 := And.intro rfl rfl) ..)) ?_)) | (refine Exists.intro _ (And.intro (fun τ _ => callW_fn (d_rest (hx := hy) (h0 := And.intro rfl rfl) ..)) ?_)) | (refine c_moved (hn := hn) (hg := fun k hk => (sh_perm x hx' y hy' k hk).1) (hc := fun k hk => shClo x y hx' hy' k hk) (h0 := ?_) ..) | (refine Exists.intro _ (And.intro rfl (And.intro rfl (And.intro (Nat.le_of_ble_eq_true rfl) ?_)))) | (refine Exists.intro _ (And.intro rfl (And.intro rfl (And.intro rfl (And.intro (Nat.le_of_ble_eq_true rfl) ?_))))) | (refine And.intro (Exists.intro _ (And.intro rfl rfl)) ?_) | (exact fun hW => absurd hW (by decide +kernel)) | (intro hW; (try simp only [Bool.not_true, Bool.not_false, Bool.not_eq_true', Bool.not_eq_false', decide_eq_true_eq, decide_eq_false_iff_not, reduceCtorEq, Bool.true_eq_false, Bool.false_eq_true, mk_size, List.size_toArray, ByteArray.size_append, ByteArray.size_extract, List.length_cons, List.length_nil, ba_get, ba_empty, Int.toNat_natCast] at hW)) | (refine And.intro (?_ : _ → _) (?_ : _ → _)) | (refine FinR.drop 0 (Nat.zero_le _) (Closed.zero _) rfl ?_) | (refine FinR.keep ?_) | (refine And.intro (det3_agg rfl) ?_) | (refine fL_mk ?_) | (refine And.intro (by (try simp only [mk_size, List.size_toArray, ByteArray.size_append, ByteArray.size_extract, List.length_cons, List.length_nil]); omega) ?_) | (refine And.intro (by (try simp only [mk_size, List.size_toArray, ByteArray.size_append, ByteArray.size_extract, List.length_cons, List.length_nil, wrap64_eq]); omega) ?_) | fail)
  all_goals exact h0
theorem d_shifted (n : Nat) (hn : n < 2 ^ 36) (dx dy : Int) (x y : Nat) (hx : dx % 6 = x) (hy : dy % 6 = y) (K : Cont) (h0 : K (U (mvN (shG x y) n 36 : Nat)) σ) : ACall Try.prog W0 75 [U n, I dx, I dy] σ K :=
  ACall.lift rfl (fun _ => rfl) (fun W1 K _ hK => c_shifted n hn dx dy x y hx hy K hK) h0
end Go.Proofs.Ytkcbhdjhbnnlgaa
end

section
/- Contracts: sheets of sets; the reference's sheets by their sets. -/
set_option linter.unusedVariables false
set_option linter.unusedSimpArgs false
set_option maxRecDepth 100000
set_option maxHeartbeats 4000000
namespace Go.Proofs.Ytkcbhdjhbnnlgaa
open Go Go.RowKit Go.Proofs.Ytkcbhdjhbnnlgaa.Abs
variable {W0 : World} {σ : List Blk}
theorem row_conv (n k i : Nat) (hk : k = 6 * i) (hi : i < 6) (hn : n < 2 ^ 64) : IntKind.i64.wrap (bAnd .u64 (shR .u64 (n : Nat) (k : Nat)) 63) = (rowN n i : Nat) := by
  subst hk
  rw [shR_u64 n _ (by omega), show (63 : Int) = ((63 : Nat) : Int) from rfl, bAnd_u64 _ _ (Nat.lt_of_le_of_lt (by rw [Nat.shiftRight_eq_div_pow]; exact Nat.div_le_self _ _) hn) (by decide)]
  have e : (n >>> (6 * i)) &&& 63 = rowN n i := by unfold rowN; exact Nat.and_two_pow_sub_one_eq_mod _ 6
  rw [e]
  have := rowN_lt n i
  exact wrap_i64 _ (by omega) (by omega)
theorem c_sheet (n : Nat) (hn : n < 2 ^ 64) (K : Cont) (h0 : K (ShN n) []) : ACall Try.prog W0 76 [U n] [] K := by
  refine by76 (Nat.le_of_ble_eq_true rfl) ?_
  repeat' ((conv => whnf); first | (refine Exists.intro ([] : List Nat) ?_) | (refine And.intro rfl ?_) | (refine And.intro (by decide +kernel) ?_) | (refine And.intro trivial ?_) | (refine LoopR.unroll 7 ?_) | (refine Exists.intro _ (And.intro rfl (And.intro rfl (And.intro (Nat.le_of_ble_eq_true rfl) ?_)))) | (refine Exists.intro _ (And.intro rfl (And.intro rfl (And.intro rfl (And.intro (Nat.le_of_ble_eq_true rfl) ?_))))) | (refine And.intro (Exists.intro _ (And.intro rfl rfl)) ?_) | (exact fun hW => absurd hW (by decide +kernel)) | (intro hW; (try simp only [Bool.not_true, Bool.not_false, Bool.not_eq_true', Bool.not_eq_false', decide_eq_true_eq, decide_eq_false_iff_not, reduceCtorEq, Bool.true_eq_false, Bool.false_eq_true, mk_size, List.size_toArray, ByteArray.size_append, ByteArray.size_extract, List.length_cons, List.length_nil, ba_get, ba_empty, Int.toNat_natCast] at hW)) | (refine And.intro (?_ : _ → _) (?_ : _ → _)) | (refine FinR.drop 0 (Nat.zero_le _) (Closed.zero _) rfl ?_) | (refine FinR.keep ?_) | (refine And.intro (det3_agg rfl) ?_) | (refine fL_mk ?_) | (refine And.intro (by (try simp only [mk_size, List.size_toArray, ByteArray.size_append, ByteArray.size_extract, List.length_cons, List.length_nil]); omega) ?_) | (refine And.intro (by (try simp only [mk_size, List.size_toArray, ByteArray.size_append, ByteArray.size_extract, List.length_cons, List.length_nil, wrap64_eq]); omega) ?_) | fail)
  all_goals exact kSh h0 (row_conv n 0 0 rfl (by decide) hn) (row_conv n 6 1 rfl (by decide) hn) (row_conv n 12 2 rfl (by decide) hn) (row_conv n 18 3 rfl (by decide) hn) (row_conv n 24 4 rfl (by decide) hn) (row_conv n 30 5 rfl (by decide) hn)
theorem d_sheet (n : Nat) (hn : n < 2 ^ 64) (K : Cont) (h0 : K (ShN n) σ) : ACall Try.prog W0 76 [U n] σ K :=
  ACall.lift rfl (fun _ => rfl) (fun W1 K _ hK => c_sheet n hn K hK) h0
theorem c_setOfN (n : Nat) (hn : n < 2 ^ 36) (K : Cont) (h0 : K (.tup [U n, Bo true]) []) : ACall Try.prog W0 74 [ShN n] [] K := by
  refine c_setOf (K := K) (h0 := ?_) ..
  unfold setR
  rw [shB6_ShN, if_pos rfl, setI_ShN hn]; exact h0
theorem d_setOfN (n : Nat) (hn : n < 2 ^ 36) (K : Cont) (h0 : K (.tup [U n, Bo true]) σ) : ACall Try.prog W0 74 [ShN n] σ K :=
  ACall.lift rfl (fun _ => rfl) (fun W1 K _ hK => c_setOfN n hn K hK) h0
theorem c_setOfF (a b c d e f : Int) (hb : shB6 a b c d e f = false) (K : Cont) (h0 : K (.tup [U 0, Bo false]) []) : ACall Try.prog W0 74 [Sh a b c d e f] [] K := by
  refine c_setOf (K := K) (h0 := ?_) ..
  unfold setR
  rw [hb]; exact h0
theorem d_setOfF (a b c d e f : Int) (hb : shB6 a b c d e f = false) (K : Cont) (h0 : K (.tup [U 0, Bo false]) σ) : ACall Try.prog W0 74 [Sh a b c d e f] σ K :=
  ACall.lift rfl (fun _ => rfl) (fun W1 K _ hK => c_setOfF a b c d e f hb K hK) h0
abbrev Ce (x y : Int) : AV := .agg [I x, I y]
def cellB (x y : Int) : Bool := inB x 0 5 && inB y 0 5
theorem c_l2Cell (x y : Int) (K : Cont) (h0 : K (Bo (cellB x y)) []) : ACall Try.prog W0 82 [Ce x y] [] K := by
  refine by82 (Nat.le_of_ble_eq_true rfl) ?_
  repeat' ((conv => whnf); first | (refine Exists.intro ([] : List Nat) ?_) | (refine And.intro rfl ?_) | (refine And.intro (by decide +kernel) ?_) | (refine And.intro trivial ?_) | (refine d_l1In (h0 := ?_) ..) | (refine Exists.intro _ (And.intro (fun τ => callW_fn (d_l1In (h0 := And.intro rfl rfl) ..)) ?_)) | (refine Exists.intro _ (And.intro (callW_fn (d_l1In (h0 := And.intro rfl rfl) ..)) (And.intro trivial ?_))) | (refine Exists.intro _ (And.intro (callW_fn (d_l1In (h0 := And.intro rfl rfl) ..)) ?_)) | (refine Exists.intro _ (And.intro (fun τ _ => callW_fn (d_l1In (h0 := And.intro rfl rfl) ..)) ?_)) | (refine Exists.intro _ (And.intro rfl (And.intro rfl (And.intro (Nat.le_of_ble_eq_true rfl) ?_)))) | (refine Exists.intro _ (And.intro rfl (And.intro rfl (And.intro rfl (And.intro (Nat.le_of_ble_eq_true rfl) ?_))))) | (refine And.intro (Exists.intro _ (And.intro rfl rfl)) ?_) | (exact fun hW => absurd hW (by decide +kernel)) | (intro hW; (try simp only [Bool.not_true, Bool.not_false, Bool.not_eq_true', Bool.not_eq_false', decide_eq_true_eq, decide_eq_false_iff_not, reduceCtorEq, Bool.true_eq_false, Bool.false_eq_true, mk_size, List.size_toArray, ByteArray.size_append, ByteArray.size_extract, List.length_cons, List.length_nil, ba_get, ba_empty, Int.toNat_natCast] at hW)) | (refine And.intro (?_ : _ → _) (?_ : _ → _)) | (refine FinR.drop 0 (Nat.zero_le _) (Closed.zero _) rfl ?_) | (refine FinR.keep ?_) | (refine And.intro (det3_agg rfl) ?_) | (refine fL_mk ?_) | (refine And.intro (by (try simp only [mk_size, List.size_toArray, ByteArray.size_append, ByteArray.size_extract, List.length_cons, List.length_nil]); omega) ?_) | (refine And.intro (by (try simp only [mk_size, List.size_toArray, ByteArray.size_append, ByteArray.size_extract, List.length_cons, List.length_nil, wrap64_eq]); omega) ?_) | fail)
  all_goals first | exact h0 | (refine Eq.mp (congrArg (fun v => K v []) ?_) h0; clear h0; simp_all [cellB] <;> omega)
theorem d_l2Cell (x y : Int) (K : Cont) (h0 : K (Bo (cellB x y)) σ) : ACall Try.prog W0 82 [Ce x y] σ K :=
  ACall.lift rfl (fun _ => rfl) (fun W1 K _ hK => c_l2Cell x y K hK) h0
theorem cellB_iff {x y : Int} : cellB x y = true ↔ 0 ≤ x ∧ x < 6 ∧ 0 ≤ y ∧ y < 6 := by
  simp [cellB, inB]; omega
theorem c_isCell (x y : Int) (K : Cont) (h0 : K (Bo (cellB x y)) []) : ACall Try.prog W0 80 [Ce x y] [] K := by
  refine by80 (Nat.le_of_ble_eq_true rfl) ?_
  repeat' ((conv => whnf); first | (refine Exists.intro ([] : List Nat) ?_) | (refine And.intro rfl ?_) | (refine And.intro (by decide +kernel) ?_) | (refine And.intro trivial ?_) | (refine Exists.intro _ (And.intro rfl (And.intro rfl (And.intro (Nat.le_of_ble_eq_true rfl) ?_)))) | (refine Exists.intro _ (And.intro rfl (And.intro rfl (And.intro rfl (And.intro (Nat.le_of_ble_eq_true rfl) ?_))))) | (refine And.intro (Exists.intro _ (And.intro rfl rfl)) ?_) | (exact fun hW => absurd hW (by decide +kernel)) | (intro hW; (try simp only [Bool.not_true, Bool.not_false, Bool.not_eq_true', Bool.not_eq_false', decide_eq_true_eq, decide_eq_false_iff_not, reduceCtorEq, Bool.true_eq_false, Bool.false_eq_true, mk_size, List.size_toArray, ByteArray.size_append, ByteArray.size_extract, List.length_cons, List.length_nil, ba_get, ba_empty, Int.toNat_natCast] at hW)) | (refine And.intro (?_ : _ → _) (?_ : _ → _)) | (refine FinR.drop 0 (Nat.zero_le _) (Closed.zero _) rfl ?_) | (refine FinR.keep ?_) | (refine And.intro (det3_agg rfl) ?_) | (refine fL_mk ?_) | (refine And.intro (by (try simp only [mk_size, List.size_toArray, ByteArray.size_append, ByteArray.size_extract, List.length_cons, List.length_nil]); omega) ?_) | (refine And.intro (by (try simp only [mk_size, List.size_toArray, ByteArray.size_append, ByteArray.size_extract, List.length_cons, List.length_nil, wrap64_eq]); omega) ?_) | fail)
  all_goals (refine kB' h0 ?_; rw [Bool.eq_iff_iff, cellB_iff]; simp only [decide_eq_true_eq, Bool.false_eq_true]; refine Iff.intro (fun h => ?_) (fun h => ?_) <;> first | exact h.elim | omega)
theorem d_isCell (x y : Int) (K : Cont) (h0 : K (Bo (cellB x y)) σ) : ACall Try.prog W0 80 [Ce x y] σ K :=
  ACall.lift rfl (fun _ => rfl) (fun W1 K _ hK => c_isCell x y K hK) h0
theorem c_number (x y : Nat) (hx : x < 1000) (hy : y < 1000) (K : Cont) (h0 : K (I (y * 6 + x : Nat)) []) : ACall Try.prog W0 81 [Ce x y] [] K := by
  refine by81 (Nat.le_of_ble_eq_true rfl) ?_
  have e : IntKind.i64.wrap (IntKind.i64.wrap ((y : Int) * 6) + (x : Int)) = ((y * 6 + x : Nat) : Int) := by
    rw [wrap_i64 ((y : Int) * 6) (by omega) (by omega), wrap_i64 ((y : Int) * 6 + (x : Int)) (by omega) (by omega)]; omega
  repeat' ((conv => whnf); first | (refine Exists.intro ([] : List Nat) ?_) | (refine And.intro rfl ?_) | (refine And.intro (by decide +kernel) ?_) | (refine And.intro trivial ?_) | (refine Exists.intro _ (And.intro rfl (And.intro rfl (And.intro (Nat.le_of_ble_eq_true rfl) ?_)))) | (refine Exists.intro _ (And.intro rfl (And.intro rfl (And.intro rfl (And.intro (Nat.le_of_ble_eq_true rfl) ?_))))) | (refine And.intro (Exists.intro _ (And.intro rfl rfl)) ?_) | (exact fun hW => absurd hW (by decide +kernel)) | (intro hW; (try simp only [Bool.not_true, Bool.not_false, Bool.not_eq_true', Bool.not_eq_false', decide_eq_true_eq, decide_eq_false_iff_not, reduceCtorEq, Bool.true_eq_false, Bool.false_eq_true, mk_size, List.size_toArray, ByteArray.size_append, ByteArray.size_extract, List.length_cons, List.length_nil, ba_get, ba_empty, Int.toNat_natCast] at hW)) | (refine And.intro (?_ : _ → _) (?_ : _ → _)) | (refine FinR.drop 0 (Nat.zero_le _) (Closed.zero _) rfl ?_) | (refine FinR.keep ?_) | (refine And.intro (det3_agg rfl) ?_) | (refine fL_mk ?_) | (refine And.intro (by (try simp only [mk_size, List.size_toArray, ByteArray.size_append, ByteArray.size_extract, List.length_cons, List.length_nil]); omega) ?_) | (refine And.intro (by (try simp only [mk_size, List.size_toArray, ByteArray.size_append, ByteArray.size_extract, List.length_cons, List.length_nil, wrap64_eq]); omega) ?_) | fail)
  all_goals exact kI' h0 e
theorem d_number (x y : Nat) (hx : x < 1000) (hy : y < 1000) (K : Cont) (h0 : K (I (y * 6 + x : Nat)) σ) : ACall Try.prog W0 81 [Ce x y] σ K :=
  ACall.lift rfl (fun _ => rfl) (fun W1 K _ hK => c_number x y hx hy K hK) h0
theorem c_pressed (n k : Nat) (hn : n < 2 ^ 36) (hk : k < 36) (K : Cont) (h0 : K (U (mvN (shG (k % 6) (k / 6)) n 36 : Nat)) []) : ACall Try.prog W0 111 [U n, I k] [] K := by
  refine by111 (Nat.le_of_ble_eq_true rfl) ?_
  have e1 : ((k : Int)).tmod 6 = ((k % 6 : Nat) : Int) := by rw [Int.tmod_eq_emod_of_nonneg (by omega)]; rfl
  have e2 : IntKind.i64.wrap ((k : Int).tdiv 6) = ((k / 6 : Nat) : Int) := by rw [Int.tdiv_eq_ediv_of_nonneg (by omega), wrap_i64 _ (by omega) (by omega)]; rfl
  have h1 : ((k : Int)).tmod 6 % 6 = ((k % 6 : Nat) : Int) := by rw [e1]; omega
  have h2 : IntKind.i64.wrap ((k : Int).tdiv 6) % 6 = ((k / 6 : Nat) : Int) := by rw [e2]; omega
  repeat' ((conv => whnf); first | (refine Exists.intro ([] : List Nat) ?_) | (refine And.intro rfl ?_) | (refine And.intro (by decide +kernel) ?_) | (refine And.intro trivial ?_) | (refine d_shifted (hn := hn) (hx := h1) (hy := h2) (h0 := ?_) ..) | (refine Exists.intro _ (And.intro rfl (And.intro rfl (And.intro (Nat.le_of_ble_eq_true rfl) ?_)))) | (refine Exists.intro _ (And.intro rfl (And.intro rfl (And.intro rfl (And.intro (Nat.le_of_ble_eq_true rfl) ?_))))) | (refine And.intro (Exists.intro _ (And.intro rfl rfl)) ?_) | (exact fun hW => absurd hW (by decide +kernel)) | (intro hW; (try simp only [Bool.not_true, Bool.not_false, Bool.not_eq_true', Bool.not_eq_false', decide_eq_true_eq, decide_eq_false_iff_not, reduceCtorEq, Bool.true_eq_false, Bool.false_eq_true, mk_size, List.size_toArray, ByteArray.size_append, ByteArray.size_extract, List.length_cons, List.length_nil, ba_get, ba_empty, Int.toNat_natCast] at hW)) | (refine And.intro (?_ : _ → _) (?_ : _ → _)) | (refine FinR.drop 0 (Nat.zero_le _) (Closed.zero _) rfl ?_) | (refine FinR.keep ?_) | (refine And.intro (det3_agg rfl) ?_) | (refine fL_mk ?_) | (refine And.intro (by (try simp only [mk_size, List.size_toArray, ByteArray.size_append, ByteArray.size_extract, List.length_cons, List.length_nil]); omega) ?_) | (refine And.intro (by (try simp only [mk_size, List.size_toArray, ByteArray.size_append, ByteArray.size_extract, List.length_cons, List.length_nil, wrap64_eq]); omega) ?_) | fail)
  all_goals exact h0
theorem d_pressed (n k : Nat) (hn : n < 2 ^ 36) (hk : k < 36) (K : Cont) (h0 : K (U (mvN (shG (k % 6) (k / 6)) n 36 : Nat)) σ) : ACall Try.prog W0 111 [U n, I k] σ K :=
  ACall.lift rfl (fun _ => rfl) (fun W1 K _ hK => c_pressed n k hn hk K hK) h0
/-! ### the reference's sheets -/
theorem c_l2ShiftN (n : Nat) (dx dy : Int) (x y : Nat) (hx : dx % 6 = x) (hy : dy % 6 = y) (K : Cont) (h0 : K (ShN (mvN (shG x y) n 36)) []) : ACall Try.prog W0 78 [ShN n, I dx, I dy] [] K := by
  refine by78 (Nat.le_of_ble_eq_true rfl) ?_
  have hx' : x < 6 := by omega
  have r : ∀ i, bOr .i64 (bAnd .i64 (shL .i64 (rowN n i : Nat) (x : Int)) 63) (shR .i64 (rowN n i : Nat) (IntKind.i64.wrap (6 - (x : Int)))) = ((rotN x (rowN n i) : Nat) : Int) := fun i => rot_int x hx' _ (rowN_lt n i)
  have e6 : 0 ≤ IntKind.i64.wrap (6 - (x : Int)) := by rw [wrap_i64 _ (by omega) (by omega)]; omega
  have e0 : 0 ≤ (x : Int) := by omega
  have hy' : y < 6 := by omega
  have qq := fun (i : Nat) (hi : i < 6) => rot_row n x y i hx' hy' hi
  obtain rfl | rfl | rfl | rfl | rfl | rfl : y = 0 ∨ y = 1 ∨ y = 2 ∨ y = 3 ∨ y = 4 ∨ y = 5 := by omega
  · skip
    repeat' ((conv => whnf); first | (refine And.intro e0 ?_) | (refine And.intro e6 ?_) | (refine Exists.intro ([] : List Nat) ?_) | (refine And.intro rfl ?_) | (refine And.intro (by decide +kernel) ?_) | (refine And.intro trivial ?_) | (refine LoopR.unroll 7 ?_) | (refine d_l2Mod (hx := hx) (h0 := ?_) ..) | (refine Exists.intro _ (And.intro (fun τ => callW_fn (d_l2Mod (hx := hx) (h0 := And.intro rfl rfl) ..)) ?_)) | (refine Exists.intro _ (And.intro (callW_fn (d_l2Mod (hx := hx) (h0 := And.intro rfl rfl) ..)) (And.intro trivial ?_))) | (refine Exists.intro _ (And.intro (callW_fn (d_l2Mod (hx := hx) (h0 := And.intro rfl rfl) ..)) ?_)) | (refine Exists.intro _ (And.intro (fun τ _ => callW_fn (d_l2Mod (hx := hx) (h0 := And.intro rfl rfl) ..)) ?_)) | (refine d_l2Mod (hx := hy) (h0 := ?_) ..) | (refine Exists.intro _ (And.intro (fun τ => callW_fn (d_l2Mod (hx := hy) (h0 := And.intro rfl rfl) ..)) ?_)) | (refine Exists.intro _ (And.intro (callW_fn (d_l2Mod (hx := hy) (h0 := And.intro rfl rfl) ..)) (And.intro trivial ?_))) | (refine Exists.intro _ (And.intro (callW_fn (d_l2Mod (hx := hy) (h0 := And.intro rfl rfl) ..)) ?_)) | (refine Exists.intro _ (And.intro (fun τ _ => callW_fn (d_l2Mod (hx := hy) (h0 := And.intro rfl rfl) ..)) ?_)) | (refine Exists.intro _ (And.intro rfl (And.intro rfl (And.intro (Nat.le_of_ble_eq_true rfl) ?_)))) | (refine Exists.intro _ (And.intro rfl (And.intro rfl (And.intro rfl (And.intro (Nat.le_of_ble_eq_true rfl) ?_))))) | (refine And.intro (Exists.intro _ (And.intro rfl rfl)) ?_) | (exact fun hW => absurd hW (by decide +kernel)) | (intro hW; (try simp only [Bool.not_true, Bool.not_false, Bool.not_eq_true', Bool.not_eq_false', decide_eq_true_eq, decide_eq_false_iff_not, reduceCtorEq, Bool.true_eq_false, Bool.false_eq_true, mk_size, List.size_toArray, ByteArray.size_append, ByteArray.size_extract, List.length_cons, List.length_nil, ba_get, ba_empty, Int.toNat_natCast] at hW)) | (refine And.intro (?_ : _ → _) (?_ : _ → _)) | (refine FinR.drop 0 (Nat.zero_le _) (Closed.zero _) rfl ?_) | (refine FinR.keep ?_) | (refine And.intro (det3_agg rfl) ?_) | (refine fL_mk ?_) | (refine And.intro (by (try simp only [mk_size, List.size_toArray, ByteArray.size_append, ByteArray.size_extract, List.length_cons, List.length_nil]); omega) ?_) | (refine And.intro (by (try simp only [mk_size, List.size_toArray, ByteArray.size_append, ByteArray.size_extract, List.length_cons, List.length_nil, wrap64_eq]); omega) ?_) | fail)
    all_goals exact kSh h0 ((r 0).trans (congrArg _ (qq 0 (by decide)))) ((r 1).trans (congrArg _ (qq 1 (by decide)))) ((r 2).trans (congrArg _ (qq 2 (by decide)))) ((r 3).trans (congrArg _ (qq 3 (by decide)))) ((r 4).trans (congrArg _ (qq 4 (by decide)))) ((r 5).trans (congrArg _ (qq 5 (by decide))))
  · skip
    repeat' ((conv => whnf); first | (refine And.intro e0 ?_) | (refine And.intro e6 ?_) | (refine Exists.intro ([] : List Nat) ?_) | (refine And.intro rfl ?_) | (refine And.intro (by decide +kernel) ?_) | (refine And.intro trivial ?_) | (refine LoopR.unroll 7 ?_) | (refine d_l2Mod (hx := hx) (h0 := ?_) ..) | (refine Exists.intro _ (And.intro (fun τ => callW_fn (d_l2Mod (hx := hx) (h0 := And.intro rfl rfl) ..)) ?_)) | (refine Exists.intro _ (And.intro (callW_fn (d_l2Mod (hx := hx) (h0 := And.intro rfl rfl) ..)) (And.intro trivial ?_))) | (refine Exists.intro _ (And.intro (callW_fn (d_l2Mod (hx := hx) (h0 := And.intro rfl rfl) ..)) ?_)) | (refine Exists.intro _ (And.intro (fun τ _ => callW_fn (d_l2Mod (hx := hx) (h0 := And.intro rfl rfl) ..)) ?_)) | (refine d_l2Mod (hx := hy) (h0 := ?_) ..) | (refine Exists.intro _ (And.intro (fun τ => callW_fn (d_l2Mod (hx := hy) (h0 := And.intro rfl rfl) ..)) ?_)) | (refine Exists.intro _ (And.intro (callW_fn (d_l2Mod (hx := hy) (h0 := And.intro rfl rfl) ..)) (And.intro trivial ?_))) | (refine Exists.intro _ (And.intro (callW_fn (d_l2Mod (hx := hy) (h0 := And.intro rfl rfl) ..)) ?_)) | (refine Exists.intro _ (And.intro (fun τ _ => callW_fn (d_l2Mod (hx := hy) (h0 := And.intro rfl rfl) ..)) ?_)) | (refine Exists.intro _ (And.intro rfl (And.intro rfl (And.intro (Nat.le_of_ble_eq_true rfl) ?_)))) | (refine Exists.intro _ (And.intro rfl (And.intro rfl (And.intro rfl (And.intro (Nat.le_of_ble_eq_true rfl) ?_))))) | (refine And.intro (Exists.intro _ (And.intro rfl rfl)) ?_) | (exact fun hW => absurd hW (by decide +kernel)) | (intro hW; (try simp only [Bool.not_true, Bool.not_false, Bool.not_eq_true', Bool.not_eq_false', decide_eq_true_eq, decide_eq_false_iff_not, reduceCtorEq, Bool.true_eq_false, Bool.false_eq_true, mk_size, List.size_toArray, ByteArray.size_append, ByteArray.size_extract, List.length_cons, List.length_nil, ba_get, ba_empty, Int.toNat_natCast] at hW)) | (refine And.intro (?_ : _ → _) (?_ : _ → _)) | (refine FinR.drop 0 (Nat.zero_le _) (Closed.zero _) rfl ?_) | (refine FinR.keep ?_) | (refine And.intro (det3_agg rfl) ?_) | (refine fL_mk ?_) | (refine And.intro (by (try simp only [mk_size, List.size_toArray, ByteArray.size_append, ByteArray.size_extract, List.length_cons, List.length_nil]); omega) ?_) | (refine And.intro (by (try simp only [mk_size, List.size_toArray, ByteArray.size_append, ByteArray.size_extract, List.length_cons, List.length_nil, wrap64_eq]); omega) ?_) | fail)
    all_goals exact kSh h0 ((r 5).trans (congrArg _ (qq 5 (by decide)))) ((r 0).trans (congrArg _ (qq 0 (by decide)))) ((r 1).trans (congrArg _ (qq 1 (by decide)))) ((r 2).trans (congrArg _ (qq 2 (by decide)))) ((r 3).trans (congrArg _ (qq 3 (by decide)))) ((r 4).trans (congrArg _ (qq 4 (by decide))))
  · skip
    repeat' ((conv => whnf); first | (refine And.intro e0 ?_) | (refine And.intro e6 ?_) | (refine Exists.intro ([] : List Nat) ?_) | (refine And.intro rfl ?_) | (refine And.intro (by decide +kernel) ?_) | (refine And.intro trivial ?_) | (refine LoopR.unroll 7 ?_) | (refine d_l2Mod (hx := hx) (h0 := ?_) ..) | (refine Exists.intro _ (And.intro (fun τ => callW_fn (d_l2Mod (hx := hx) (h0 := And.intro rfl rfl) ..)) ?_)) | (refine Exists.intro _ (And.intro (callW_fn (d_l2Mod (hx := hx) (h0 := And.intro rfl rfl) ..)) (And.intro trivial ?_))) | (refine Exists.intro _ (And.intro (callW_fn (d_l2Mod (hx := hx) (h0 := And.intro rfl rfl) ..)) ?_)) | (refine Exists.intro _ (And.intro (fun τ _ => callW_fn (d_l2Mod (hx := hx) (h0 := And.intro rfl rfl) ..)) ?_)) | (refine d_l2Mod (hx := hy) (h0 := ?_) ..) | (refine Exists.intro _ (And.intro (fun τ => callW_fn (d_l2Mod (hx := hy) (h0 := And.intro rfl rfl) ..)) ?_)) | (refine Exists.intro _ (And.intro (callW_fn (d_l2Mod (hx := hy) (h0 := And.intro rfl rfl) ..)) (And.intro trivial ?_))) | (refine Exists.intro _ (And.intro (callW_fn (d_l2Mod (hx := hy) (h0 := And.intro rfl rfl) ..)) ?_)) | (refine Exists.intro _ (And.intro (fun τ _ => callW_fn (d_l2Mod (hx := hy) (h0 := And.intro rfl rfl) ..)) ?_)) | (refine Exists.intro _ (And.intro rfl (And.intro rfl (And.intro (Nat.le_of_ble_eq_true rfl) ?_)))) | (refine Exists.intro _ (And.intro rfl (And.intro rfl (And.intro rfl (And.intro (Nat.le_of_ble_eq_true rfl) ?_))))) | (refine And.intro (Exists.intro _ (And.intro rfl rfl)) ?_) | (exact fun hW => absurd hW (by decide +kernel)) | (intro hW; (try simp only [Bool.not_true, Bool.not_false, Bool.not_eq_true', Bool.not_eq_false', decide_eq_true_eq, decide_eq_false_iff_not, reduceCtorEq, Bool.true_eq_false, Bool.false_eq_true, mk_size, List.size_toArray, ByteArray.size_append, ByteArray.size_extract, List.length_cons, List.length_nil, ba_get, ba_empty, Int.toNat_natCast] at hW)) | (refine And.intro (?_ : _ → _) (?_ : _ → _)) | (refine FinR.drop 0 (Nat.zero_le _) (Closed.zero _) rfl ?_) | (refine FinR.keep ?_) | (refine And.intro (det3_agg rfl) ?_) | (refine fL_mk ?_) | (refine And.intro (by (try simp only [mk_size, List.size_toArray, ByteArray.size_append, ByteArray.size_extract, List.length_cons, List.length_nil]); omega) ?_) | (refine And.intro (by (try simp only [mk_size, List.size_toArray, ByteArray.size_append, ByteArray.size_extract, List.length_cons, List.length_nil, wrap64_eq]); omega) ?_) | fail)
    all_goals exact kSh h0 ((r 4).trans (congrArg _ (qq 4 (by decide)))) ((r 5).trans (congrArg _ (qq 5 (by decide)))) ((r 0).trans (congrArg _ (qq 0 (by decide)))) ((r 1).trans (congrArg _ (qq 1 (by decide)))) ((r 2).trans (congrArg _ (qq 2 (by decide)))) ((r 3).trans (congrArg _ (qq 3 (by decide))))
  · skip
    repeat' ((conv => whnf); first | (refine And.intro e0 ?_) | (refine And.intro e6 ?_) | (refine Exists.intro ([] : List Nat) ?_) | (refine And.intro rfl ?_) | (refine And.intro (by decide +kernel) ?_) | (refine And.intro trivial ?_) | (refine LoopR.unroll 7 ?_) | (refine d_l2Mod (hx := hx) (h0 := ?_) ..) | (refine Exists.intro _ (And.intro (fun τ => callW_fn (d_l2Mod (hx := hx) (h0 := And.intro rfl rfl) ..)) ?_)) | (refine Exists.intro _ (And.intro (callW_fn (d_l2Mod (hx := hx) (h0 := And.intro rfl rfl) ..)) (And.intro trivial ?_))) | (refine Exists.intro _ (And.intro (callW_fn (d_l2Mod (hx := hx) (h0 := And.intro rfl rfl) ..)) ?_)) | (refine Exists.intro _ (And.intro (fun τ _ => callW_fn (d_l2Mod (hx := hx) (h0 := And.intro rfl rfl) ..)) ?_)) | (refine d_l2Mod (hx := hy) (h0 := ?_) ..) | (refine Exists.intro _ (And.intro (fun τ => callW_fn (d_l2Mod (hx := hy) (h0 := And.intro rfl rfl) ..)) ?_)) | (refine Exists.intro _ (And.intro (callW_fn (d_l2Mod (hx := hy) (h0 := And.intro rfl rfl) ..)) (And.intro trivial ?_))) | (refine Exists.intro _ (And.intro (callW_fn (d_l2Mod (hx := hy) (h0 := And.intro rfl rfl) ..)) ?_)) | (refine Exists.intro _ (And.intro (fun τ _ => callW_fn (d_l2Mod (hx := hy) (h0 := And.intro rfl rfl) ..)) ?_)) | (refine Exists.intro _ (And.intro rfl (And.intro rfl (And.intro (Nat.le_of_ble_eq_true rfl) ?_)))) | (refine Exists.intro _ (And.intro rfl (And.intro rfl (And.intro rfl (And.intro (Nat.le_of_ble_eq_true rfl) ?_))))) | (refine And.intro (Exists.intro _ (And.intro rfl rfl)) ?_) | (exact fun hW => absurd hW (by decide +kernel)) | (intro hW; (try simp only [Bool.not_true, Bool.not_false, Bool.not_eq_true', Bool.not_eq_false', decide_eq_true_eq, decide_eq_false_iff_not, reduceCtorEq, Bool.true_eq_false, Bool.false_eq_true, mk_size, List.size_toArray, ByteArray.size_append, ByteArray.size_extract, List.length_cons, List.length_nil, ba_get, ba_empty, Int.toNat_natCast] at hW)) | (refine And.intro (?_ : _ → _) (?_ : _ → _)) | (refine FinR.drop 0 (Nat.zero_le _) (Closed.zero _) rfl ?_) | (refine FinR.keep ?_) | (refine And.intro (det3_agg rfl) ?_) | (refine fL_mk ?_) | (refine And.intro (by (try simp only [mk_size, List.size_toArray, ByteArray.size_append, ByteArray.size_extract, List.length_cons, List.length_nil]); omega) ?_) | (refine And.intro (by (try simp only [mk_size, List.size_toArray, ByteArray.size_append, ByteArray.size_extract, List.length_cons, List.length_nil, wrap64_eq]); omega) ?_) | fail)
    all_goals exact kSh h0 ((r 3).trans (congrArg _ (qq 3 (by decide)))) ((r 4).trans (congrArg _ (qq 4 (by decide)))) ((r 5).trans (congrArg _ (qq 5 (by decide)))) ((r 0).trans (congrArg _ (qq 0 (by decide)))) ((r 1).trans (congrArg _ (qq 1 (by decide)))) ((r 2).trans (congrArg _ (qq 2 (by decide))))
  · skip
    repeat' ((conv => whnf); first | (refine And.intro e0 ?_) | (refine And.intro e6 ?_) | (refine Exists.intro ([] : List Nat) ?_) | (refine And.intro rfl ?_) | (refine And.intro (by decide +kernel) ?_) | (refine And.intro trivial ?_) | (refine LoopR.unroll 7 ?_) | (refine d_l2Mod (hx := hx) (h0 := ?_) ..) | (refine Exists.intro _ (And.intro (fun τ => callW_fn (d_l2Mod (hx := hx) (h0 := And.intro rfl rfl) ..)) ?_)) | (refine Exists.intro _ (And.intro (callW_fn (d_l2Mod (hx := hx) (h0 := And.intro rfl rfl) ..)) (And.intro trivial ?_))) | (refine Exists.intro _ (And.intro (callW_fn (d_l2Mod (hx := hx) (h0 := And.intro rfl rfl) ..)) ?_)) | (refine Exists.intro _ (And.intro (fun τ _ => callW_fn (d_l2Mod (hx := hx) (h0 := And.intro rfl rfl) ..)) ?_)) | (refine d_l2Mod (hx := hy) (h0 := ?_) ..) | (refine Exists.intro _ (And.intro (fun τ => callW_fn (d_l2Mod (hx := hy) (h0 := And.intro rfl rfl) ..)) ?_)) | (refine Exists.intro _ (And.intro (callW_fn (d_l2Mod (hx := hy) (h0 := And.intro rfl rfl) ..)) (And.intro trivial ?_))) | (refine Exists.intro _ (And.intro (callW_fn (d_l2Mod (hx := hy) (h0 := And.intro rfl rfl) ..)) ?_)) | (refine Exists.intro _ (And.intro (fun τ _ => callW_fn (d_l2Mod (hx := hy) (h0 := And.intro rfl rfl) ..)) ?_)) | (refine Exists.intro _ (And.intro rfl (And.intro rfl (And.intro (Nat.le_of_ble_eq_true rfl) ?_)))) | (refine Exists.intro _ (And.intro rfl (And.intro rfl (And.intro rfl (And.intro (Nat.le_of_ble_eq_true rfl) ?_))))) | (refine And.intro (Exists.intro _ (And.intro rfl rfl)) ?_) | (exact fun hW => absurd hW (by decide +kernel)) | (intro hW; (try simp only [Bool.not_true, Bool.not_false, Bool.not_eq_true', Bool.not_eq_false', decide_eq_true_eq, decide_eq_false_iff_not, reduceCtorEq, Bool.true_eq_false, Bool.false_eq_true, mk_size, List.size_toArray, ByteArray.size_append, ByteArray.size_extract, List.length_cons, List.length_nil, ba_get, ba_empty, Int.toNat_natCast] at hW)) | (refine And.intro (?_ : _ → _) (?_ : _ → _)) | (refine FinR.drop 0 (Nat.zero_le _) (Closed.zero _) rfl ?_) | (refine FinR.keep ?_) | (refine And.intro (det3_agg rfl) ?_) | (refine fL_mk ?_) | (refine And.intro (by (try simp only [mk_size, List.size_toArray, ByteArray.size_append, ByteArray.size_extract, List.length_cons, List.length_nil]); omega) ?_) | (refine And.intro (by (try simp only [mk_size, List.size_toArray, ByteArray.size_append, ByteArray.size_extract, List.length_cons, List.length_nil, wrap64_eq]); omega) ?_) | fail)
    all_goals exact kSh h0 ((r 2).trans (congrArg _ (qq 2 (by decide)))) ((r 3).trans (congrArg _ (qq 3 (by decide)))) ((r 4).trans (congrArg _ (qq 4 (by decide)))) ((r 5).trans (congrArg _ (qq 5 (by decide)))) ((r 0).trans (congrArg _ (qq 0 (by decide)))) ((r 1).trans (congrArg _ (qq 1 (by decide))))
  · skip
    repeat' ((conv => whnf); first | (refine And.intro e0 ?_) | (refine And.intro e6 ?_) | (refine Exists.intro ([] : List Nat) ?_) | (refine And.intro rfl ?_) | (refine And.intro (by decide +kernel) ?_) | (refine And.intro trivial ?_) | (refine LoopR.unroll 7 ?_) | (refine d_l2Mod (hx := hx) (h0 := ?_) ..) | (refine Exists.intro _ (And.intro (fun τ => callW_fn (d_l2Mod (hx := hx) (h0 := And.intro rfl rfl) ..)) ?_)) | (refine Exists.intro _ (And.intro (callW_fn (d_l2Mod (hx := hx) (h0 := And.intro rfl rfl) ..)) (And.intro trivial ?_))) | (refine Exists.intro _ (And.intro (callW_fn (d_l2Mod (hx := hx) (h0 := And.intro rfl rfl) ..)) ?_)) | (refine Exists.intro _ (And.intro (fun τ _ => callW_fn (d_l2Mod (hx := hx) (h0 := And.intro rfl rfl) ..)) ?_)) | (refine d_l2Mod (hx := hy) (h0 := ?_) ..) | (refine Exists.intro _ (And.intro (fun τ => callW_fn (d_l2Mod (hx := hy) (h0 := And.intro rfl rfl) ..)) ?_)) | (refine Exists.intro _ (And.intro (callW_fn (d_l2Mod (hx := hy) (h0 := And.intro rfl rfl) ..)) (And.intro trivial ?_))) | (refine Exists.intro _ (And.intro (callW_fn (d_l2Mod (hx := hy) (h0 := And.intro rfl rfl) ..)) ?_)) | (refine Exists.intro _ (And.intro (fun τ _ => callW_fn (d_l2Mod (hx := hy) (h0 := And.intro rfl rfl) ..)) ?_)) | (refine Exists.intro _ (And.intro rfl (And.intro rfl (And.intro (Nat.le_of_ble_eq_true rfl) ?_)))) | (refine Exists.intro _ (And.intro rfl (And.intro rfl (And.intro rfl (And.intro (Nat.le_of_ble_eq_true rfl) ?_))))) | (refine And.intro (Exists.intro _ (And.intro rfl rfl)) ?_) | (exact fun hW => absurd hW (by decide +kernel)) | (intro hW; (try simp only [Bool.not_true, Bool.not_false, Bool.not_eq_true', Bool.not_eq_false', decide_eq_true_eq, decide_eq_false_iff_not, reduceCtorEq, Bool.true_eq_false, Bool.false_eq_true, mk_size, List.size_toArray, ByteArray.size_append, ByteArray.size_extract, List.length_cons, List.length_nil, ba_get, ba_empty, Int.toNat_natCast] at hW)) | (refine And.intro (?_ : _ → _) (?_ : _ → _)) | (refine FinR.drop 0 (Nat.zero_le _) (Closed.zero _) rfl ?_) | (refine FinR.keep ?_) | (refine And.intro (det3_agg rfl) ?_) | (refine fL_mk ?_) | (refine And.intro (by (try simp only [mk_size, List.size_toArray, ByteArray.size_append, ByteArray.size_extract, List.length_cons, List.length_nil]); omega) ?_) | (refine And.intro (by (try simp only [mk_size, List.size_toArray, ByteArray.size_append, ByteArray.size_extract, List.length_cons, List.length_nil, wrap64_eq]); omega) ?_) | fail)
    all_goals exact kSh h0 ((r 1).trans (congrArg _ (qq 1 (by decide)))) ((r 2).trans (congrArg _ (qq 2 (by decide)))) ((r 3).trans (congrArg _ (qq 3 (by decide)))) ((r 4).trans (congrArg _ (qq 4 (by decide)))) ((r 5).trans (congrArg _ (qq 5 (by decide)))) ((r 0).trans (congrArg _ (qq 0 (by decide))))
theorem d_l2ShiftN (n : Nat) (dx dy : Int) (x y : Nat) (hx : dx % 6 = x) (hy : dy % 6 = y) (K : Cont) (h0 : K (ShN (mvN (shG x y) n 36)) σ) : ACall Try.prog W0 78 [ShN n, I dx, I dy] σ K :=
  ACall.lift rfl (fun _ => rfl) (fun W1 K _ hK => c_l2ShiftN n dx dy x y hx hy K hK) h0
end Go.Proofs.Ytkcbhdjhbnnlgaa
end

section
/- Contracts: presses, flips. -/
set_option linter.unusedVariables false
set_option linter.unusedSimpArgs false
set_option maxRecDepth 100000
set_option maxHeartbeats 4000000
namespace Go.Proofs.Ytkcbhdjhbnnlgaa
open Go Go.RowKit Go.Proofs.Ytkcbhdjhbnnlgaa.Abs
variable {W0 : World} {σ : List Blk}
theorem c_l2XorN (n m : Nat) (K : Cont) (h0 : K (ShN (n ^^^ m)) []) : ACall Try.prog W0 64 [ShN n, ShN m] [] K := by
  refine by64 (Nat.le_of_ble_eq_true rfl) ?_
  have q := fun (i : Nat) => (b_xor _ (rowN_lt n i) _ (rowN_lt m i)).trans (congrArg (fun x : Nat => (x : Int)) (row_xor n m i).symm)
  repeat' ((conv => whnf); first | (refine Exists.intro ([] : List Nat) ?_) | (refine And.intro rfl ?_) | (refine And.intro (by decide +kernel) ?_) | (refine And.intro trivial ?_) | (refine LoopR.unroll 7 ?_) | (refine Exists.intro _ (And.intro rfl (And.intro rfl (And.intro (Nat.le_of_ble_eq_true rfl) ?_)))) | (refine Exists.intro _ (And.intro rfl (And.intro rfl (And.intro rfl (And.intro (Nat.le_of_ble_eq_true rfl) ?_))))) | (refine And.intro (Exists.intro _ (And.intro rfl rfl)) ?_) | (exact fun hW => absurd hW (by decide +kernel)) | (intro hW; (try simp only [Bool.not_true, Bool.not_false, Bool.not_eq_true', Bool.not_eq_false', decide_eq_true_eq, decide_eq_false_iff_not, reduceCtorEq, Bool.true_eq_false, Bool.false_eq_true, mk_size, List.size_toArray, ByteArray.size_append, ByteArray.size_extract, List.length_cons, List.length_nil, ba_get, ba_empty, Int.toNat_natCast] at hW)) | (refine And.intro (?_ : _ → _) (?_ : _ → _)) | (refine FinR.drop 0 (Nat.zero_le _) (Closed.zero _) rfl ?_) | (refine FinR.keep ?_) | (refine And.intro (det3_agg rfl) ?_) | (refine fL_mk ?_) | (refine And.intro (by (try simp only [mk_size, List.size_toArray, ByteArray.size_append, ByteArray.size_extract, List.length_cons, List.length_nil]); omega) ?_) | (refine And.intro (by (try simp only [mk_size, List.size_toArray, ByteArray.size_append, ByteArray.size_extract, List.length_cons, List.length_nil, wrap64_eq]); omega) ?_) | fail)
  all_goals exact kSh h0 (q 0) (q 1) (q 2) (q 3) (q 4) (q 5)
theorem d_l2XorN (n m : Nat) (K : Cont) (h0 : K (ShN (n ^^^ m)) σ) : ACall Try.prog W0 64 [ShN n, ShN m] σ K :=
  ACall.lift rfl (fun _ => rfl) (fun W1 K _ hK => c_l2XorN n m K hK) h0
theorem c_l2OrN (n m : Nat) (K : Cont) (h0 : K (ShN (n ||| m)) []) : ACall Try.prog W0 67 [ShN n, ShN m] [] K := by
  refine by67 (Nat.le_of_ble_eq_true rfl) ?_
  have q := fun (i : Nat) => (b_or _ (rowN_lt n i) _ (rowN_lt m i)).trans (congrArg (fun x : Nat => (x : Int)) (row_or n m i).symm)
  repeat' ((conv => whnf); first | (refine Exists.intro ([] : List Nat) ?_) | (refine And.intro rfl ?_) | (refine And.intro (by decide +kernel) ?_) | (refine And.intro trivial ?_) | (refine LoopR.unroll 7 ?_) | (refine Exists.intro _ (And.intro rfl (And.intro rfl (And.intro (Nat.le_of_ble_eq_true rfl) ?_)))) | (refine Exists.intro _ (And.intro rfl (And.intro rfl (And.intro rfl (And.intro (Nat.le_of_ble_eq_true rfl) ?_))))) | (refine And.intro (Exists.intro _ (And.intro rfl rfl)) ?_) | (exact fun hW => absurd hW (by decide +kernel)) | (intro hW; (try simp only [Bool.not_true, Bool.not_false, Bool.not_eq_true', Bool.not_eq_false', decide_eq_true_eq, decide_eq_false_iff_not, reduceCtorEq, Bool.true_eq_false, Bool.false_eq_true, mk_size, List.size_toArray, ByteArray.size_append, ByteArray.size_extract, List.length_cons, List.length_nil, ba_get, ba_empty, Int.toNat_natCast] at hW)) | (refine And.intro (?_ : _ → _) (?_ : _ → _)) | (refine FinR.drop 0 (Nat.zero_le _) (Closed.zero _) rfl ?_) | (refine FinR.keep ?_) | (refine And.intro (det3_agg rfl) ?_) | (refine fL_mk ?_) | (refine And.intro (by (try simp only [mk_size, List.size_toArray, ByteArray.size_append, ByteArray.size_extract, List.length_cons, List.length_nil]); omega) ?_) | (refine And.intro (by (try simp only [mk_size, List.size_toArray, ByteArray.size_append, ByteArray.size_extract, List.length_cons, List.length_nil, wrap64_eq]); omega) ?_) | fail)
  all_goals exact kSh h0 (q 0) (q 1) (q 2) (q 3) (q 4) (q 5)
theorem d_l2OrN (n m : Nat) (K : Cont) (h0 : K (ShN (n ||| m)) σ) : ACall Try.prog W0 67 [ShN n, ShN m] σ K :=
  ACall.lift rfl (fun _ => rfl) (fun W1 K _ hK => c_l2OrN n m K hK) h0
theorem c_l2AndM (n m : Nat) (K : Cont) (h0 : K (ShN (n &&& m)) []) : ACall Try.prog W0 69 [ShN n, ShN m] [] K := by
  refine by69 (Nat.le_of_ble_eq_true rfl) ?_
  have q := fun (i : Nat) => (row_and _ (rowN_lt n i) _ (rowN_lt m i)).trans (congrArg (fun x : Nat => (x : Int)) (row_andN n m i).symm)
  repeat' ((conv => whnf); first | (refine Exists.intro ([] : List Nat) ?_) | (refine And.intro rfl ?_) | (refine And.intro (by decide +kernel) ?_) | (refine And.intro trivial ?_) | (refine LoopR.unroll 7 ?_) | (refine Exists.intro _ (And.intro rfl (And.intro rfl (And.intro (Nat.le_of_ble_eq_true rfl) ?_)))) | (refine Exists.intro _ (And.intro rfl (And.intro rfl (And.intro rfl (And.intro (Nat.le_of_ble_eq_true rfl) ?_))))) | (refine And.intro (Exists.intro _ (And.intro rfl rfl)) ?_) | (exact fun hW => absurd hW (by decide +kernel)) | (intro hW; (try simp only [Bool.not_true, Bool.not_false, Bool.not_eq_true', Bool.not_eq_false', decide_eq_true_eq, decide_eq_false_iff_not, reduceCtorEq, Bool.true_eq_false, Bool.false_eq_true, mk_size, List.size_toArray, ByteArray.size_append, ByteArray.size_extract, List.length_cons, List.length_nil, ba_get, ba_empty, Int.toNat_natCast] at hW)) | (refine And.intro (?_ : _ → _) (?_ : _ → _)) | (refine FinR.drop 0 (Nat.zero_le _) (Closed.zero _) rfl ?_) | (refine FinR.keep ?_) | (refine And.intro (det3_agg rfl) ?_) | (refine fL_mk ?_) | (refine And.intro (by (try simp only [mk_size, List.size_toArray, ByteArray.size_append, ByteArray.size_extract, List.length_cons, List.length_nil]); omega) ?_) | (refine And.intro (by (try simp only [mk_size, List.size_toArray, ByteArray.size_append, ByteArray.size_extract, List.length_cons, List.length_nil, wrap64_eq]); omega) ?_) | fail)
  all_goals exact kSh h0 (q 0) (q 1) (q 2) (q 3) (q 4) (q 5)
theorem d_l2AndM (n m : Nat) (K : Cont) (h0 : K (ShN (n &&& m)) σ) : ACall Try.prog W0 69 [ShN n, ShN m] σ K :=
  ACall.lift rfl (fun _ => rfl) (fun W1 K _ hK => c_l2AndM n m K hK) h0
theorem c_l2NotN (n : Nat) (K : Cont) (h0 : K (ShN (fullN ^^^ n)) []) : ACall Try.prog W0 70 [ShN n] [] K := by
  refine by70 (Nat.le_of_ble_eq_true rfl) ?_
  have q := fun (i : Nat) (hi : i < 6) => (b_not _ (rowN_lt n i)).trans (congrArg (fun x : Nat => (x : Int)) (row_not n i hi).symm)
  repeat' ((conv => whnf); first | (refine Exists.intro ([] : List Nat) ?_) | (refine And.intro rfl ?_) | (refine And.intro (by decide +kernel) ?_) | (refine And.intro trivial ?_) | (refine LoopR.unroll 7 ?_) | (refine Exists.intro _ (And.intro rfl (And.intro rfl (And.intro (Nat.le_of_ble_eq_true rfl) ?_)))) | (refine Exists.intro _ (And.intro rfl (And.intro rfl (And.intro rfl (And.intro (Nat.le_of_ble_eq_true rfl) ?_))))) | (refine And.intro (Exists.intro _ (And.intro rfl rfl)) ?_) | (exact fun hW => absurd hW (by decide +kernel)) | (intro hW; (try simp only [Bool.not_true, Bool.not_false, Bool.not_eq_true', Bool.not_eq_false', decide_eq_true_eq, decide_eq_false_iff_not, reduceCtorEq, Bool.true_eq_false, Bool.false_eq_true, mk_size, List.size_toArray, ByteArray.size_append, ByteArray.size_extract, List.length_cons, List.length_nil, ba_get, ba_empty, Int.toNat_natCast] at hW)) | (refine And.intro (?_ : _ → _) (?_ : _ → _)) | (refine FinR.drop 0 (Nat.zero_le _) (Closed.zero _) rfl ?_) | (refine FinR.keep ?_) | (refine And.intro (det3_agg rfl) ?_) | (refine fL_mk ?_) | (refine And.intro (by (try simp only [mk_size, List.size_toArray, ByteArray.size_append, ByteArray.size_extract, List.length_cons, List.length_nil]); omega) ?_) | (refine And.intro (by (try simp only [mk_size, List.size_toArray, ByteArray.size_append, ByteArray.size_extract, List.length_cons, List.length_nil, wrap64_eq]); omega) ?_) | fail)
  all_goals exact kSh h0 (q 0 (by decide)) (q 1 (by decide)) (q 2 (by decide)) (q 3 (by decide)) (q 4 (by decide)) (q 5 (by decide))
theorem d_l2NotN (n : Nat) (K : Cont) (h0 : K (ShN (fullN ^^^ n)) σ) : ACall Try.prog W0 70 [ShN n] σ K :=
  ACall.lift rfl (fun _ => rfl) (fun W1 K _ hK => c_l2NotN n K hK) h0
/-- a stamp that is pressed at a cell -/
def prN (m x y : Nat) : Nat := mvN (shG x y) m 36
theorem prN_lt {m x y : Nat} (hx : x < 6) (hy : y < 6) : prN m x y < 2 ^ 36 := mvN_lt (sh_perm x hx y hy) m
theorem c_l2AtN (n x y : Nat) (hx : x < 6) (hy : y < 6) (K : Cont) (h0 : K (ShN (prN n x y)) []) : ACall Try.prog W0 65 [ShN n, Ce x y] [] K := by
  refine by65 (Nat.le_of_ble_eq_true rfl) ?_
  have h1 : (x : Int) % 6 = x := by omega
  have h2 : (y : Int) % 6 = y := by omega
  repeat' ((conv => whnf); first | (refine Exists.intro ([] : List Nat) ?_) | (refine And.intro rfl ?_) | (refine And.intro (by decide +kernel) ?_) | (refine And.intro trivial ?_) | (refine d_l2ShiftN (hx := h1) (hy := h2) (h0 := ?_) ..) | (refine Exists.intro _ (And.intro rfl (And.intro rfl (And.intro (Nat.le_of_ble_eq_true rfl) ?_)))) | (refine Exists.intro _ (And.intro rfl (And.intro rfl (And.intro rfl (And.intro (Nat.le_of_ble_eq_true rfl) ?_))))) | (refine And.intro (Exists.intro _ (And.intro rfl rfl)) ?_) | (exact fun hW => absurd hW (by decide +kernel)) | (intro hW; (try simp only [Bool.not_true, Bool.not_false, Bool.not_eq_true', Bool.not_eq_false', decide_eq_true_eq, decide_eq_false_iff_not, reduceCtorEq, Bool.true_eq_false, Bool.false_eq_true, mk_size, List.size_toArray, ByteArray.size_append, ByteArray.size_extract, List.length_cons, List.length_nil, ba_get, ba_empty, Int.toNat_natCast] at hW)) | (refine And.intro (?_ : _ → _) (?_ : _ → _)) | (refine FinR.drop 0 (Nat.zero_le _) (Closed.zero _) rfl ?_) | (refine FinR.keep ?_) | (refine And.intro (det3_agg rfl) ?_) | (refine fL_mk ?_) | (refine And.intro (by (try simp only [mk_size, List.size_toArray, ByteArray.size_append, ByteArray.size_extract, List.length_cons, List.length_nil]); omega) ?_) | (refine And.intro (by (try simp only [mk_size, List.size_toArray, ByteArray.size_append, ByteArray.size_extract, List.length_cons, List.length_nil, wrap64_eq]); omega) ?_) | fail)
  all_goals exact h0
theorem d_l2AtN (n x y : Nat) (hx : x < 6) (hy : y < 6) (K : Cont) (h0 : K (ShN (prN n x y)) σ) : ACall Try.prog W0 65 [ShN n, Ce x y] σ K :=
  ACall.lift rfl (fun _ => rfl) (fun W1 K _ hK => c_l2AtN n x y hx hy K hK) h0
abbrev Sh0 : AV := Sh 0 0 0 0 0 0
end Go.Proofs.Ytkcbhdjhbnnlgaa
end

section
/- Contracts: the program's presses; flips. -/
set_option linter.unusedVariables false
set_option linter.unusedSimpArgs false
set_option maxRecDepth 100000
set_option maxHeartbeats 4000000
namespace Go.Proofs.Ytkcbhdjhbnnlgaa
open Go Go.RowKit Go.Proofs.Ytkcbhdjhbnnlgaa.Abs
variable {W0 : World} {σ : List Blk}
theorem bXorU {n m : Nat} (hn : n < 2 ^ 36) (hm : m < 2 ^ 36) : bXor .u64 n m = ((n ^^^ m : Nat) : Int) := bXor_u64 n m (Nat.lt_trans hn (by decide)) (Nat.lt_trans hm (by decide))
theorem bOrU {n m : Nat} (hn : n < 2 ^ 36) (hm : m < 2 ^ 36) : bOr .u64 n m = ((n ||| m : Nat) : Int) := bOr_u64 n m (Nat.lt_trans hn (by decide)) (Nat.lt_trans hm (by decide))
theorem bAndNotU {n m : Nat} (hn : n < 2 ^ 36) (hm : m < 2 ^ 36) : bAndNot .u64 n m = ((n &&& (fullN ^^^ m) : Nat) : Int) := by
  have h : n &&& (fullN ^^^ m) < 18446744073709551616 := Nat.lt_of_le_of_lt Nat.and_le_left (Nat.lt_trans hn (by decide))
  have e : (BitVec.ofInt 64 (n : Int) &&& ~~~ BitVec.ofInt 64 (m : Int)).toNat = n &&& (fullN ^^^ m) := by
    apply Nat.eq_of_testBit_eq; intro j
    rw [BitVec.testBit_toNat, BitVec.getLsbD_and, BitVec.getLsbD_not, BitVec.ofInt_natCast, BitVec.ofInt_natCast, BitVec.getLsbD_ofNat, BitVec.getLsbD_ofNat, Nat.testBit_and, Nat.testBit_xor, show fullN = 2 ^ 36 - 1 from rfl, Nat.testBit_two_pow_sub_one]
    by_cases hj : j < 36
    · have : j < 64 := by omega
      simp [hj, this]
    · rw [Nat.testBit_lt_two_pow (Nat.lt_of_lt_of_le hn (Nat.pow_le_pow_right (by decide) (by omega : 36 ≤ j)))]
      simp
  unfold bAndNot
  rw [show IntKind.u64.bits = 64 from rfl, e]
  exact wrap_u64 _ h
theorem c_toggled (n m : Nat) (hn : n < 2 ^ 36) (hm : m < 2 ^ 36) (K : Cont) (h0 : K (U (n ^^^ m : Nat)) []) : ACall Try.prog W0 62 [U n, U m] [] K := by
  refine by62 (Nat.le_of_ble_eq_true rfl) ?_
  repeat' ((conv => whnf); first | (refine Exists.intro ([] : List Nat) ?_) | (refine And.intro rfl ?_) | (refine And.intro (by decide +kernel) ?_) | (refine And.intro trivial ?_) | (refine Exists.intro _ (And.intro rfl (And.intro rfl (And.intro (Nat.le_of_ble_eq_true rfl) ?_)))) | (refine Exists.intro _ (And.intro rfl (And.intro rfl (And.intro rfl (And.intro (Nat.le_of_ble_eq_true rfl) ?_))))) | (refine And.intro (Exists.intro _ (And.intro rfl rfl)) ?_) | (exact fun hW => absurd hW (by decide +kernel)) | (intro hW; (try simp only [Bool.not_true, Bool.not_false, Bool.not_eq_true', Bool.not_eq_false', decide_eq_true_eq, decide_eq_false_iff_not, reduceCtorEq, Bool.true_eq_false, Bool.false_eq_true, mk_size, List.size_toArray, ByteArray.size_append, ByteArray.size_extract, List.length_cons, List.length_nil, ba_get, ba_empty, Int.toNat_natCast] at hW)) | (refine And.intro (?_ : _ → _) (?_ : _ → _)) | (refine FinR.drop 0 (Nat.zero_le _) (Closed.zero _) rfl ?_) | (refine FinR.keep ?_) | (refine And.intro (det3_agg rfl) ?_) | (refine fL_mk ?_) | (refine And.intro (by (try simp only [mk_size, List.size_toArray, ByteArray.size_append, ByteArray.size_extract, List.length_cons, List.length_nil]); omega) ?_) | (refine And.intro (by (try simp only [mk_size, List.size_toArray, ByteArray.size_append, ByteArray.size_extract, List.length_cons, List.length_nil, wrap64_eq]); omega) ?_) | fail)
  all_goals exact kU h0 (bXorU hn hm)
theorem d_toggled (n m : Nat) (hn : n < 2 ^ 36) (hm : m < 2 ^ 36) (K : Cont) (h0 : K (U (n ^^^ m : Nat)) σ) : ACall Try.prog W0 62 [U n, U m] σ K :=
  ACall.lift rfl (fun _ => rfl) (fun W1 K _ hK => c_toggled n m hn hm K hK) h0
theorem c_inked (n m : Nat) (hn : n < 2 ^ 36) (hm : m < 2 ^ 36) (K : Cont) (h0 : K (U (n ||| m : Nat)) []) : ACall Try.prog W0 66 [U n, U m] [] K := by
  refine by66 (Nat.le_of_ble_eq_true rfl) ?_
  repeat' ((conv => whnf); first | (refine Exists.intro ([] : List Nat) ?_) | (refine And.intro rfl ?_) | (refine And.intro (by decide +kernel) ?_) | (refine And.intro trivial ?_) | (refine Exists.intro _ (And.intro rfl (And.intro rfl (And.intro (Nat.le_of_ble_eq_true rfl) ?_)))) | (refine Exists.intro _ (And.intro rfl (And.intro rfl (And.intro rfl (And.intro (Nat.le_of_ble_eq_true rfl) ?_))))) | (refine And.intro (Exists.intro _ (And.intro rfl rfl)) ?_) | (exact fun hW => absurd hW (by decide +kernel)) | (intro hW; (try simp only [Bool.not_true, Bool.not_false, Bool.not_eq_true', Bool.not_eq_false', decide_eq_true_eq, decide_eq_false_iff_not, reduceCtorEq, Bool.true_eq_false, Bool.false_eq_true, mk_size, List.size_toArray, ByteArray.size_append, ByteArray.size_extract, List.length_cons, List.length_nil, ba_get, ba_empty, Int.toNat_natCast] at hW)) | (refine And.intro (?_ : _ → _) (?_ : _ → _)) | (refine FinR.drop 0 (Nat.zero_le _) (Closed.zero _) rfl ?_) | (refine FinR.keep ?_) | (refine And.intro (det3_agg rfl) ?_) | (refine fL_mk ?_) | (refine And.intro (by (try simp only [mk_size, List.size_toArray, ByteArray.size_append, ByteArray.size_extract, List.length_cons, List.length_nil]); omega) ?_) | (refine And.intro (by (try simp only [mk_size, List.size_toArray, ByteArray.size_append, ByteArray.size_extract, List.length_cons, List.length_nil, wrap64_eq]); omega) ?_) | fail)
  all_goals exact kU h0 (bOrU hn hm)
theorem d_inked (n m : Nat) (hn : n < 2 ^ 36) (hm : m < 2 ^ 36) (K : Cont) (h0 : K (U (n ||| m : Nat)) σ) : ACall Try.prog W0 66 [U n, U m] σ K :=
  ACall.lift rfl (fun _ => rfl) (fun W1 K _ hK => c_inked n m hn hm K hK) h0
theorem c_wiped (n m : Nat) (hn : n < 2 ^ 36) (hm : m < 2 ^ 36) (K : Cont) (h0 : K (U (n &&& (fullN ^^^ m) : Nat)) []) : ACall Try.prog W0 68 [U n, U m] [] K := by
  refine by68 (Nat.le_of_ble_eq_true rfl) ?_
  repeat' ((conv => whnf); first | (refine Exists.intro ([] : List Nat) ?_) | (refine And.intro rfl ?_) | (refine And.intro (by decide +kernel) ?_) | (refine And.intro trivial ?_) | (refine Exists.intro _ (And.intro rfl (And.intro rfl (And.intro (Nat.le_of_ble_eq_true rfl) ?_)))) | (refine Exists.intro _ (And.intro rfl (And.intro rfl (And.intro rfl (And.intro (Nat.le_of_ble_eq_true rfl) ?_))))) | (refine And.intro (Exists.intro _ (And.intro rfl rfl)) ?_) | (exact fun hW => absurd hW (by decide +kernel)) | (intro hW; (try simp only [Bool.not_true, Bool.not_false, Bool.not_eq_true', Bool.not_eq_false', decide_eq_true_eq, decide_eq_false_iff_not, reduceCtorEq, Bool.true_eq_false, Bool.false_eq_true, mk_size, List.size_toArray, ByteArray.size_append, ByteArray.size_extract, List.length_cons, List.length_nil, ba_get, ba_empty, Int.toNat_natCast] at hW)) | (refine And.intro (?_ : _ → _) (?_ : _ → _)) | (refine FinR.drop 0 (Nat.zero_le _) (Closed.zero _) rfl ?_) | (refine FinR.keep ?_) | (refine And.intro (det3_agg rfl) ?_) | (refine fL_mk ?_) | (refine And.intro (by (try simp only [mk_size, List.size_toArray, ByteArray.size_append, ByteArray.size_extract, List.length_cons, List.length_nil]); omega) ?_) | (refine And.intro (by (try simp only [mk_size, List.size_toArray, ByteArray.size_append, ByteArray.size_extract, List.length_cons, List.length_nil, wrap64_eq]); omega) ?_) | fail)
  all_goals exact kU h0 (bAndNotU hn hm)
theorem d_wiped (n m : Nat) (hn : n < 2 ^ 36) (hm : m < 2 ^ 36) (K : Cont) (h0 : K (U (n &&& (fullN ^^^ m) : Nat)) σ) : ACall Try.prog W0 68 [U n, U m] σ K :=
  ACall.lift rfl (fun _ => rfl) (fun W1 K _ hK => c_wiped n m hn hm K hK) h0
end Go.Proofs.Ytkcbhdjhbnnlgaa
end

section
/- Contracts: flips, turns. -/
set_option linter.unusedVariables false
set_option linter.unusedSimpArgs false
set_option maxRecDepth 100000
set_option maxHeartbeats 4000000
namespace Go.Proofs.Ytkcbhdjhbnnlgaa
open Go Go.RowKit Go.Proofs.Ytkcbhdjhbnnlgaa.Abs
variable {W0 : World} {σ : List Blk}
theorem flip_row : ∀ x : Nat, x < 6 → ∀ r : Nat, r < 64 → bXor .i64 (r : Int) (shL .i64 1 (x : Int)) = ((r ^^^ 2 ^ x : Nat) : Int) := by decide +kernel
theorem pow_row : ∀ x : Nat, x < 6 → ∀ y : Nat, y < 6 → ∀ i : Nat, i < 6 → rowN (2 ^ (6 * y + x)) i = if i = y then 2 ^ x else 0 := by decide +kernel
theorem flip_rowN (n x y i : Nat) (hx : x < 6) (hy : y < 6) (hi : i < 6) : rowN (n ^^^ 2 ^ (6 * y + x)) i = if i = y then rowN n i ^^^ 2 ^ x else rowN n i := by
  rw [row_xor, pow_row x hx y hy i hi]; split <;> simp
theorem c_l2FlipN (n x y : Nat) (hx : x < 6) (hy : y < 6) (K : Cont) (h0 : K (ShN (n ^^^ 2 ^ (6 * y + x))) []) : ACall Try.prog W0 83 [ShN n, I x, I y] [] K := by
  refine by83 (Nat.le_of_ble_eq_true rfl) ?_
  have e0 : 0 ≤ (x : Int) := by omega
  have q := fun (i : Nat) (hi : i < 6) => congrArg (fun x : Nat => (x : Int)) (flip_rowN n x y i hx hy hi).symm
  have r := fun (i : Nat) => flip_row x hx _ (rowN_lt n i)
  obtain rfl | rfl | rfl | rfl | rfl | rfl : y = 0 ∨ y = 1 ∨ y = 2 ∨ y = 3 ∨ y = 4 ∨ y = 5 := by omega
  · skip
    repeat' ((conv => whnf); first | (refine And.intro e0 ?_) | (refine Exists.intro ([] : List Nat) ?_) | (refine And.intro rfl ?_) | (refine And.intro (by decide +kernel) ?_) | (refine And.intro trivial ?_) | (refine Exists.intro _ (And.intro rfl (And.intro rfl (And.intro (Nat.le_of_ble_eq_true rfl) ?_)))) | (refine Exists.intro _ (And.intro rfl (And.intro rfl (And.intro rfl (And.intro (Nat.le_of_ble_eq_true rfl) ?_))))) | (refine And.intro (Exists.intro _ (And.intro rfl rfl)) ?_) | (exact fun hW => absurd hW (by decide +kernel)) | (intro hW; (try simp only [Bool.not_true, Bool.not_false, Bool.not_eq_true', Bool.not_eq_false', decide_eq_true_eq, decide_eq_false_iff_not, reduceCtorEq, Bool.true_eq_false, Bool.false_eq_true, mk_size, List.size_toArray, ByteArray.size_append, ByteArray.size_extract, List.length_cons, List.length_nil, ba_get, ba_empty, Int.toNat_natCast] at hW)) | (refine And.intro (?_ : _ → _) (?_ : _ → _)) | (refine FinR.drop 0 (Nat.zero_le _) (Closed.zero _) rfl ?_) | (refine FinR.keep ?_) | (refine And.intro (det3_agg rfl) ?_) | (refine fL_mk ?_) | (refine And.intro (by (try simp only [mk_size, List.size_toArray, ByteArray.size_append, ByteArray.size_extract, List.length_cons, List.length_nil]); omega) ?_) | (refine And.intro (by (try simp only [mk_size, List.size_toArray, ByteArray.size_append, ByteArray.size_extract, List.length_cons, List.length_nil, wrap64_eq]); omega) ?_) | fail)
    all_goals exact kSh h0 ((r 0).trans (q 0 (by decide))) (q 1 (by decide)) (q 2 (by decide)) (q 3 (by decide)) (q 4 (by decide)) (q 5 (by decide))
  · skip
    repeat' ((conv => whnf); first | (refine And.intro e0 ?_) | (refine Exists.intro ([] : List Nat) ?_) | (refine And.intro rfl ?_) | (refine And.intro (by decide +kernel) ?_) | (refine And.intro trivial ?_) | (refine Exists.intro _ (And.intro rfl (And.intro rfl (And.intro (Nat.le_of_ble_eq_true rfl) ?_)))) | (refine Exists.intro _ (And.intro rfl (And.intro rfl (And.intro rfl (And.intro (Nat.le_of_ble_eq_true rfl) ?_))))) | (refine And.intro (Exists.intro _ (And.intro rfl rfl)) ?_) | (exact fun hW => absurd hW (by decide +kernel)) | (intro hW; (try simp only [Bool.not_true, Bool.not_false, Bool.not_eq_true', Bool.not_eq_false', decide_eq_true_eq, decide_eq_false_iff_not, reduceCtorEq, Bool.true_eq_false, Bool.false_eq_true, mk_size, List.size_toArray, ByteArray.size_append, ByteArray.size_extract, List.length_cons, List.length_nil, ba_get, ba_empty, Int.toNat_natCast] at hW)) | (refine And.intro (?_ : _ → _) (?_ : _ → _)) | (refine FinR.drop 0 (Nat.zero_le _) (Closed.zero _) rfl ?_) | (refine FinR.keep ?_) | (refine And.intro (det3_agg rfl) ?_) | (refine fL_mk ?_) | (refine And.intro (by (try simp only [mk_size, List.size_toArray, ByteArray.size_append, ByteArray.size_extract, List.length_cons, List.length_nil]); omega) ?_) | (refine And.intro (by (try simp only [mk_size, List.size_toArray, ByteArray.size_append, ByteArray.size_extract, List.length_cons, List.length_nil, wrap64_eq]); omega) ?_) | fail)
    all_goals exact kSh h0 (q 0 (by decide)) ((r 1).trans (q 1 (by decide))) (q 2 (by decide)) (q 3 (by decide)) (q 4 (by decide)) (q 5 (by decide))
  · skip
    repeat' ((conv => whnf); first | (refine And.intro e0 ?_) | (refine Exists.intro ([] : List Nat) ?_) | (refine And.intro rfl ?_) | (refine And.intro (by decide +kernel) ?_) | (refine And.intro trivial ?_) | (refine Exists.intro _ (And.intro rfl (And.intro rfl (And.intro (Nat.le_of_ble_eq_true rfl) ?_)))) | (refine Exists.intro _ (And.intro rfl (And.intro rfl (And.intro rfl (And.intro (Nat.le_of_ble_eq_true rfl) ?_))))) | (refine And.intro (Exists.intro _ (And.intro rfl rfl)) ?_) | (exact fun hW => absurd hW (by decide +kernel)) | (intro hW; (try simp only [Bool.not_true, Bool.not_false, Bool.not_eq_true', Bool.not_eq_false', decide_eq_true_eq, decide_eq_false_iff_not, reduceCtorEq, Bool.true_eq_false, Bool.false_eq_true, mk_size, List.size_toArray, ByteArray.size_append, ByteArray.size_extract, List.length_cons, List.length_nil, ba_get, ba_empty, Int.toNat_natCast] at hW)) | (refine And.intro (?_ : _ → _) (?_ : _ → _)) | (refine FinR.drop 0 (Nat.zero_le _) (Closed.zero _) rfl ?_) | (refine FinR.keep ?_) | (refine And.intro (det3_agg rfl) ?_) | (refine fL_mk ?_) | (refine And.intro (by (try simp only [mk_size, List.size_toArray, ByteArray.size_append, ByteArray.size_extract, List.length_cons, List.length_nil]); omega) ?_) | (refine And.intro (by (try simp only [mk_size, List.size_toArray, ByteArray.size_append, ByteArray.size_extract, List.length_cons, List.length_nil, wrap64_eq]); omega) ?_) | fail)
    all_goals exact kSh h0 (q 0 (by decide)) (q 1 (by decide)) ((r 2).trans (q 2 (by decide))) (q 3 (by decide)) (q 4 (by decide)) (q 5 (by decide))
  · skip
    repeat' ((conv => whnf); first | (refine And.intro e0 ?_) | (refine Exists.intro ([] : List Nat) ?_) | (refine And.intro rfl ?_) | (refine And.intro (by decide +kernel) ?_) | (refine And.intro trivial ?_) | (refine Exists.intro _ (And.intro rfl (And.intro rfl (And.intro (Nat.le_of_ble_eq_true rfl) ?_)))) | (refine Exists.intro _ (And.intro rfl (And.intro rfl (And.intro rfl (And.intro (Nat.le_of_ble_eq_true rfl) ?_))))) | (refine And.intro (Exists.intro _ (And.intro rfl rfl)) ?_) | (exact fun hW => absurd hW (by decide +kernel)) | (intro hW; (try simp only [Bool.not_true, Bool.not_false, Bool.not_eq_true', Bool.not_eq_false', decide_eq_true_eq, decide_eq_false_iff_not, reduceCtorEq, Bool.true_eq_false, Bool.false_eq_true, mk_size, List.size_toArray, ByteArray.size_append, ByteArray.size_extract, List.length_cons, List.length_nil, ba_get, ba_empty, Int.toNat_natCast] at hW)) | (refine And.intro (?_ : _ → _) (?_ : _ → _)) | (refine FinR.drop 0 (Nat.zero_le _) (Closed.zero _) rfl ?_) | (refine FinR.keep ?_) | (refine And.intro (det3_agg rfl) ?_) | (refine fL_mk ?_) | (refine And.intro (by (try simp only [mk_size, List.size_toArray, ByteArray.size_append, ByteArray.size_extract, List.length_cons, List.length_nil]); omega) ?_) | (refine And.intro (by (try simp only [mk_size, List.size_toArray, ByteArray.size_append, ByteArray.size_extract, List.length_cons, List.length_nil, wrap64_eq]); omega) ?_) | fail)
    all_goals exact kSh h0 (q 0 (by decide)) (q 1 (by decide)) (q 2 (by decide)) ((r 3).trans (q 3 (by decide))) (q 4 (by decide)) (q 5 (by decide))
  · skip
    repeat' ((conv => whnf); first | (refine And.intro e0 ?_) | (refine Exists.intro ([] : List Nat) ?_) | (refine And.intro rfl ?_) | (refine And.intro (by decide +kernel) ?_) | (refine And.intro trivial ?_) | (refine Exists.intro _ (And.intro rfl (And.intro rfl (And.intro (Nat.le_of_ble_eq_true rfl) ?_)))) | (refine Exists.intro _ (And.intro rfl (And.intro rfl (And.intro rfl (And.intro (Nat.le_of_ble_eq_true rfl) ?_))))) | (refine And.intro (Exists.intro _ (And.intro rfl rfl)) ?_) | (exact fun hW => absurd hW (by decide +kernel)) | (intro hW; (try simp only [Bool.not_true, Bool.not_false, Bool.not_eq_true', Bool.not_eq_false', decide_eq_true_eq, decide_eq_false_iff_not, reduceCtorEq, Bool.true_eq_false, Bool.false_eq_true, mk_size, List.size_toArray, ByteArray.size_append, ByteArray.size_extract, List.length_cons, List.length_nil, ba_get, ba_empty, Int.toNat_natCast] at hW)) | (refine And.intro (?_ : _ → _) (?_ : _ → _)) | (refine FinR.drop 0 (Nat.zero_le _) (Closed.zero _) rfl ?_) | (refine FinR.keep ?_) | (refine And.intro (det3_agg rfl) ?_) | (refine fL_mk ?_) | (refine And.intro (by (try simp only [mk_size, List.size_toArray, ByteArray.size_append, ByteArray.size_extract, List.length_cons, List.length_nil]); omega) ?_) | (refine And.intro (by (try simp only [mk_size, List.size_toArray, ByteArray.size_append, ByteArray.size_extract, List.length_cons, List.length_nil, wrap64_eq]); omega) ?_) | fail)
    all_goals exact kSh h0 (q 0 (by decide)) (q 1 (by decide)) (q 2 (by decide)) (q 3 (by decide)) ((r 4).trans (q 4 (by decide))) (q 5 (by decide))
  · skip
    repeat' ((conv => whnf); first | (refine And.intro e0 ?_) | (refine Exists.intro ([] : List Nat) ?_) | (refine And.intro rfl ?_) | (refine And.intro (by decide +kernel) ?_) | (refine And.intro trivial ?_) | (refine Exists.intro _ (And.intro rfl (And.intro rfl (And.intro (Nat.le_of_ble_eq_true rfl) ?_)))) | (refine Exists.intro _ (And.intro rfl (And.intro rfl (And.intro rfl (And.intro (Nat.le_of_ble_eq_true rfl) ?_))))) | (refine And.intro (Exists.intro _ (And.intro rfl rfl)) ?_) | (exact fun hW => absurd hW (by decide +kernel)) | (intro hW; (try simp only [Bool.not_true, Bool.not_false, Bool.not_eq_true', Bool.not_eq_false', decide_eq_true_eq, decide_eq_false_iff_not, reduceCtorEq, Bool.true_eq_false, Bool.false_eq_true, mk_size, List.size_toArray, ByteArray.size_append, ByteArray.size_extract, List.length_cons, List.length_nil, ba_get, ba_empty, Int.toNat_natCast] at hW)) | (refine And.intro (?_ : _ → _) (?_ : _ → _)) | (refine FinR.drop 0 (Nat.zero_le _) (Closed.zero _) rfl ?_) | (refine FinR.keep ?_) | (refine And.intro (det3_agg rfl) ?_) | (refine fL_mk ?_) | (refine And.intro (by (try simp only [mk_size, List.size_toArray, ByteArray.size_append, ByteArray.size_extract, List.length_cons, List.length_nil]); omega) ?_) | (refine And.intro (by (try simp only [mk_size, List.size_toArray, ByteArray.size_append, ByteArray.size_extract, List.length_cons, List.length_nil, wrap64_eq]); omega) ?_) | fail)
    all_goals exact kSh h0 (q 0 (by decide)) (q 1 (by decide)) (q 2 (by decide)) (q 3 (by decide)) (q 4 (by decide)) ((r 5).trans (q 5 (by decide)))
theorem d_l2FlipN (n x y : Nat) (hx : x < 6) (hy : y < 6) (K : Cont) (h0 : K (ShN (n ^^^ 2 ^ (6 * y + x))) σ) : ACall Try.prog W0 83 [ShN n, I x, I y] σ K :=
  ACall.lift rfl (fun _ => rfl) (fun W1 K _ hK => c_l2FlipN n x y hx hy K hK) h0
theorem get_row : ∀ x : Nat, x < 6 → ∀ r : Nat, r < 64 → decide (bAnd .i64 (shR .i64 (r : Int) (x : Int)) 1 = 1) = r.testBit x := by decide +kernel
theorem c_l2GetN (n x y : Nat) (hx : x < 6) (hy : y < 6) (K : Cont) (h0 : K (Bo (n.testBit (6 * y + x))) []) : ACall Try.prog W0 85 [ShN n, I x, I y] [] K := by
  refine by85 (Nat.le_of_ble_eq_true rfl) ?_
  have e0 : 0 ≤ (x : Int) := by omega
  have r := fun (i : Nat) => (get_row x hx _ (rowN_lt n i)).trans ((rowN_bit n i x).trans (by rw [decide_eq_true hx, Bool.true_and]) : _ = n.testBit (6 * i + x))
  obtain rfl | rfl | rfl | rfl | rfl | rfl : y = 0 ∨ y = 1 ∨ y = 2 ∨ y = 3 ∨ y = 4 ∨ y = 5 := by omega
  · skip
    repeat' ((conv => whnf); first | (refine And.intro e0 ?_) | (refine Exists.intro ([] : List Nat) ?_) | (refine And.intro rfl ?_) | (refine And.intro (by decide +kernel) ?_) | (refine And.intro trivial ?_) | (refine Exists.intro _ (And.intro rfl (And.intro rfl (And.intro (Nat.le_of_ble_eq_true rfl) ?_)))) | (refine Exists.intro _ (And.intro rfl (And.intro rfl (And.intro rfl (And.intro (Nat.le_of_ble_eq_true rfl) ?_))))) | (refine And.intro (Exists.intro _ (And.intro rfl rfl)) ?_) | (exact fun hW => absurd hW (by decide +kernel)) | (intro hW; (try simp only [Bool.not_true, Bool.not_false, Bool.not_eq_true', Bool.not_eq_false', decide_eq_true_eq, decide_eq_false_iff_not, reduceCtorEq, Bool.true_eq_false, Bool.false_eq_true, mk_size, List.size_toArray, ByteArray.size_append, ByteArray.size_extract, List.length_cons, List.length_nil, ba_get, ba_empty, Int.toNat_natCast] at hW)) | (refine And.intro (?_ : _ → _) (?_ : _ → _)) | (refine FinR.drop 0 (Nat.zero_le _) (Closed.zero _) rfl ?_) | (refine FinR.keep ?_) | (refine And.intro (det3_agg rfl) ?_) | (refine fL_mk ?_) | (refine And.intro (by (try simp only [mk_size, List.size_toArray, ByteArray.size_append, ByteArray.size_extract, List.length_cons, List.length_nil]); omega) ?_) | (refine And.intro (by (try simp only [mk_size, List.size_toArray, ByteArray.size_append, ByteArray.size_extract, List.length_cons, List.length_nil, wrap64_eq]); omega) ?_) | fail)
    all_goals exact kB' h0 (r 0)
  · skip
    repeat' ((conv => whnf); first | (refine And.intro e0 ?_) | (refine Exists.intro ([] : List Nat) ?_) | (refine And.intro rfl ?_) | (refine And.intro (by decide +kernel) ?_) | (refine And.intro trivial ?_) | (refine Exists.intro _ (And.intro rfl (And.intro rfl (And.intro (Nat.le_of_ble_eq_true rfl) ?_)))) | (refine Exists.intro _ (And.intro rfl (And.intro rfl (And.intro rfl (And.intro (Nat.le_of_ble_eq_true rfl) ?_))))) | (refine And.intro (Exists.intro _ (And.intro rfl rfl)) ?_) | (exact fun hW => absurd hW (by decide +kernel)) | (intro hW; (try simp only [Bool.not_true, Bool.not_false, Bool.not_eq_true', Bool.not_eq_false', decide_eq_true_eq, decide_eq_false_iff_not, reduceCtorEq, Bool.true_eq_false, Bool.false_eq_true, mk_size, List.size_toArray, ByteArray.size_append, ByteArray.size_extract, List.length_cons, List.length_nil, ba_get, ba_empty, Int.toNat_natCast] at hW)) | (refine And.intro (?_ : _ → _) (?_ : _ → _)) | (refine FinR.drop 0 (Nat.zero_le _) (Closed.zero _) rfl ?_) | (refine FinR.keep ?_) | (refine And.intro (det3_agg rfl) ?_) | (refine fL_mk ?_) | (refine And.intro (by (try simp only [mk_size, List.size_toArray, ByteArray.size_append, ByteArray.size_extract, List.length_cons, List.length_nil]); omega) ?_) | (refine And.intro (by (try simp only [mk_size, List.size_toArray, ByteArray.size_append, ByteArray.size_extract, List.length_cons, List.length_nil, wrap64_eq]); omega) ?_) | fail)
    all_goals exact kB' h0 (r 1)
  · skip
    repeat' ((conv => whnf); first | (refine And.intro e0 ?_) | (refine Exists.intro ([] : List Nat) ?_) | (refine And.intro rfl ?_) | (refine And.intro (by decide +kernel) ?_) | (refine And.intro trivial ?_) | (refine Exists.intro _ (And.intro rfl (And.intro rfl (And.intro (Nat.le_of_ble_eq_true rfl) ?_)))) | (refine Exists.intro _ (And.intro rfl (And.intro rfl (And.intro rfl (And.intro (Nat.le_of_ble_eq_true rfl) ?_))))) | (refine And.intro (Exists.intro _ (And.intro rfl rfl)) ?_) | (exact fun hW => absurd hW (by decide +kernel)) | (intro hW; (try simp only [Bool.not_true, Bool.not_false, Bool.not_eq_true', Bool.not_eq_false', decide_eq_true_eq, decide_eq_false_iff_not, reduceCtorEq, Bool.true_eq_false, Bool.false_eq_true, mk_size, List.size_toArray, ByteArray.size_append, ByteArray.size_extract, List.length_cons, List.length_nil, ba_get, ba_empty, Int.toNat_natCast] at hW)) | (refine And.intro (?_ : _ → _) (?_ : _ → _)) | (refine FinR.drop 0 (Nat.zero_le _) (Closed.zero _) rfl ?_) | (refine FinR.keep ?_) | (refine And.intro (det3_agg rfl) ?_) | (refine fL_mk ?_) | (refine And.intro (by (try simp only [mk_size, List.size_toArray, ByteArray.size_append, ByteArray.size_extract, List.length_cons, List.length_nil]); omega) ?_) | (refine And.intro (by (try simp only [mk_size, List.size_toArray, ByteArray.size_append, ByteArray.size_extract, List.length_cons, List.length_nil, wrap64_eq]); omega) ?_) | fail)
    all_goals exact kB' h0 (r 2)
  · skip
    repeat' ((conv => whnf); first | (refine And.intro e0 ?_) | (refine Exists.intro ([] : List Nat) ?_) | (refine And.intro rfl ?_) | (refine And.intro (by decide +kernel) ?_) | (refine And.intro trivial ?_) | (refine Exists.intro _ (And.intro rfl (And.intro rfl (And.intro (Nat.le_of_ble_eq_true rfl) ?_)))) | (refine Exists.intro _ (And.intro rfl (And.intro rfl (And.intro rfl (And.intro (Nat.le_of_ble_eq_true rfl) ?_))))) | (refine And.intro (Exists.intro _ (And.intro rfl rfl)) ?_) | (exact fun hW => absurd hW (by decide +kernel)) | (intro hW; (try simp only [Bool.not_true, Bool.not_false, Bool.not_eq_true', Bool.not_eq_false', decide_eq_true_eq, decide_eq_false_iff_not, reduceCtorEq, Bool.true_eq_false, Bool.false_eq_true, mk_size, List.size_toArray, ByteArray.size_append, ByteArray.size_extract, List.length_cons, List.length_nil, ba_get, ba_empty, Int.toNat_natCast] at hW)) | (refine And.intro (?_ : _ → _) (?_ : _ → _)) | (refine FinR.drop 0 (Nat.zero_le _) (Closed.zero _) rfl ?_) | (refine FinR.keep ?_) | (refine And.intro (det3_agg rfl) ?_) | (refine fL_mk ?_) | (refine And.intro (by (try simp only [mk_size, List.size_toArray, ByteArray.size_append, ByteArray.size_extract, List.length_cons, List.length_nil]); omega) ?_) | (refine And.intro (by (try simp only [mk_size, List.size_toArray, ByteArray.size_append, ByteArray.size_extract, List.length_cons, List.length_nil, wrap64_eq]); omega) ?_) | fail)
    all_goals exact kB' h0 (r 3)
  · skip
    repeat' ((conv => whnf); first | (refine And.intro e0 ?_) | (refine Exists.intro ([] : List Nat) ?_) | (refine And.intro rfl ?_) | (refine And.intro (by decide +kernel) ?_) | (refine And.intro trivial ?_) | (refine Exists.intro _ (And.intro rfl (And.intro rfl (And.intro (Nat.le_of_ble_eq_true rfl) ?_)))) | (refine Exists.intro _ (And.intro rfl (And.intro rfl (And.intro rfl (And.intro (Nat.le_of_ble_eq_true rfl) ?_))))) | (refine And.intro (Exists.intro _ (And.intro rfl rfl)) ?_) | (exact fun hW => absurd hW (by decide +kernel)) | (intro hW; (try simp only [Bool.not_true, Bool.not_false, Bool.not_eq_true', Bool.not_eq_false', decide_eq_true_eq, decide_eq_false_iff_not, reduceCtorEq, Bool.true_eq_false, Bool.false_eq_true, mk_size, List.size_toArray, ByteArray.size_append, ByteArray.size_extract, List.length_cons, List.length_nil, ba_get, ba_empty, Int.toNat_natCast] at hW)) | (refine And.intro (?_ : _ → _) (?_ : _ → _)) | (refine FinR.drop 0 (Nat.zero_le _) (Closed.zero _) rfl ?_) | (refine FinR.keep ?_) | (refine And.intro (det3_agg rfl) ?_) | (refine fL_mk ?_) | (refine And.intro (by (try simp only [mk_size, List.size_toArray, ByteArray.size_append, ByteArray.size_extract, List.length_cons, List.length_nil]); omega) ?_) | (refine And.intro (by (try simp only [mk_size, List.size_toArray, ByteArray.size_append, ByteArray.size_extract, List.length_cons, List.length_nil, wrap64_eq]); omega) ?_) | fail)
    all_goals exact kB' h0 (r 4)
  · skip
    repeat' ((conv => whnf); first | (refine And.intro e0 ?_) | (refine Exists.intro ([] : List Nat) ?_) | (refine And.intro rfl ?_) | (refine And.intro (by decide +kernel) ?_) | (refine And.intro trivial ?_) | (refine Exists.intro _ (And.intro rfl (And.intro rfl (And.intro (Nat.le_of_ble_eq_true rfl) ?_)))) | (refine Exists.intro _ (And.intro rfl (And.intro rfl (And.intro rfl (And.intro (Nat.le_of_ble_eq_true rfl) ?_))))) | (refine And.intro (Exists.intro _ (And.intro rfl rfl)) ?_) | (exact fun hW => absurd hW (by decide +kernel)) | (intro hW; (try simp only [Bool.not_true, Bool.not_false, Bool.not_eq_true', Bool.not_eq_false', decide_eq_true_eq, decide_eq_false_iff_not, reduceCtorEq, Bool.true_eq_false, Bool.false_eq_true, mk_size, List.size_toArray, ByteArray.size_append, ByteArray.size_extract, List.length_cons, List.length_nil, ba_get, ba_empty, Int.toNat_natCast] at hW)) | (refine And.intro (?_ : _ → _) (?_ : _ → _)) | (refine FinR.drop 0 (Nat.zero_le _) (Closed.zero _) rfl ?_) | (refine FinR.keep ?_) | (refine And.intro (det3_agg rfl) ?_) | (refine fL_mk ?_) | (refine And.intro (by (try simp only [mk_size, List.size_toArray, ByteArray.size_append, ByteArray.size_extract, List.length_cons, List.length_nil]); omega) ?_) | (refine And.intro (by (try simp only [mk_size, List.size_toArray, ByteArray.size_append, ByteArray.size_extract, List.length_cons, List.length_nil, wrap64_eq]); omega) ?_) | fail)
    all_goals exact kB' h0 (r 5)
theorem d_l2GetN (n x y : Nat) (hx : x < 6) (hy : y < 6) (K : Cont) (h0 : K (Bo (n.testBit (6 * y + x))) σ) : ACall Try.prog W0 85 [ShN n, I x, I y] σ K :=
  ACall.lift rfl (fun _ => rfl) (fun W1 K _ hK => c_l2GetN n x y hx hy K hK) h0
end Go.Proofs.Ytkcbhdjhbnnlgaa
end

section
/- Contracts: the reference's turns. -/
set_option linter.unusedVariables false
set_option linter.unusedSimpArgs false
set_option maxRecDepth 100000
set_option maxHeartbeats 4000000
namespace Go.Proofs.Ytkcbhdjhbnnlgaa
open Go Go.RowKit Go.Proofs.Ytkcbhdjhbnnlgaa.Abs
variable {W0 : World} {σ : List Blk}
def rwL (n : Nat) : List AV := [I (rowN n 0 : Nat), I (rowN n 1 : Nat), I (rowN n 2 : Nat), I (rowN n 3 : Nat), I (rowN n 4 : Nat), I (rowN n 5 : Nat)]
def bl (n : Nat) : Blk := ⟨rwL n, 0, 26, 0, false, false⟩
theorem wsucc (x : Nat) (hx : x < 1000000) : IntKind.i64.wrap ((x : Int) + 1) = ((x + 1 : Nat) : Int) := by rw [wrap_i64 _ (by omega) (by omega)]; omega
end Go.Proofs.Ytkcbhdjhbnnlgaa
end

section
/- Contracts: jobs in a shop. -/
set_option linter.unusedVariables false
set_option linter.unusedSimpArgs false
set_option maxRecDepth 100000
set_option maxHeartbeats 4000000
namespace Go.Proofs.Ytkcbhdjhbnnlgaa
open Go Go.RowKit Go.Proofs.Ytkcbhdjhbnnlgaa.Abs
variable {W0 : World} {σ : List Blk}
abbrev SpN (n m : Nat) (p q : Int) : AV := Sp (rowN n 0 : Nat) (rowN n 1 : Nat) (rowN n 2 : Nat) (rowN n 3 : Nat) (rowN n 4 : Nat) (rowN n 5 : Nat) (rowN m 0 : Nat) (rowN m 1 : Nat) (rowN m 2 : Nat) (rowN m 3 : Nat) (rowN m 4 : Nat) (rowN m 5 : Nat) p q
abbrev Jb (k a b : Int) : AV := .agg [I k, I a, I b]
abbrev Sp0 : AV := Sp 0 0 0 0 0 0 0 0 0 0 0 0 0 0
end Go.Proofs.Ytkcbhdjhbnnlgaa
end

section
/- Contracts: lists of jobs. -/
set_option linter.unusedVariables false
set_option linter.unusedSimpArgs false
set_option maxRecDepth 100000
set_option maxHeartbeats 4000000
namespace Go.Proofs.Ytkcbhdjhbnnlgaa
open Go Go.RowKit Go.Proofs.Ytkcbhdjhbnnlgaa.Abs
variable {W0 : World} {σ : List Blk}
theorem wsucc' (x : Nat) (hx : x < 4611686018427387904) : IntKind.i64.wrap ((x : Int) + 1) = ((x + 1 : Nat) : Int) := by rw [wrap_i64 _ (by omega) (by omega)]; omega
abbrev enI (l : List Int) : List Value := l.map (Value.int .i64)
/-- the cells of a list of rows -/
def jc (l : List (List Int)) : List AV := (l.map fun x => x.map I).flatten
theorem jc_len {s : Nat} : ∀ {l : List (List Int)}, (∀ x ∈ l, x.length = s) → (jc l).length = l.length * s
  | [], _ => by simp [jc]
  | x :: l, h => by
    have h1 := jc_len (l := l) fun y hy => h y (List.mem_cons_of_mem _ hy)
    have h2 := h x List.mem_cons_self
    show (x.map I ++ jc l).length = _
    rw [List.length_append, List.length_map, h1, h2, List.length_cons, Nat.add_mul]; omega
theorem jc_snoc (l : List (List Int)) (x : List Int) : jc (l ++ [x]) = jc l ++ x.map I := by simp [jc]
theorem jc_sh (k : Nat) (l : List (List Int)) : (jc l).map (sh1 k) = jc l := by
  unfold jc
  induction l with
  | nil => rfl
  | cons x l ih =>
    simp only [List.map_cons, List.flatten_cons, List.map_append, ih]
    congr 1
    rw [List.map_map]; rfl
/-- an own list of jobs -/
theorem jc_get {s : Nat} {xs : List (List Int)} (hx : ∀ x ∈ xs, x.length = s) {i : Nat} {x : List Int} (hi : xs[i]? = some x) {j : Nat} {n : Int} (hj : x[j]? = some n) : (jc xs)[i * s + j]? = some (I n) := by
  have hlt := getElem?_lt hi
  have hl : (jc (xs.take i)).length = i * s := by rw [jc_len (s := s) fun x h => hx x (List.mem_of_mem_take h), List.length_take, Nat.min_eq_left (by omega)]
  have e : xs = xs.take i ++ x :: xs.drop (i + 1) := by
    rw [← List.take_append_drop i xs]
    simp only [List.take_append_drop]
    conv => lhs; rw [← List.take_append_drop i xs]
    rw [List.drop_eq_getElem_cons hlt, (List.getElem?_eq_some_iff.1 hi).2]
  have e2 : jc xs = jc (xs.take i) ++ (x.map I ++ jc (xs.drop (i + 1))) := by
    conv => lhs; rw [e]
    simp [jc]
  rw [e2, List.getElem?_append_right (by omega), hl, show i * s + j - i * s = j by omega, List.getElem?_append_left (by rw [List.length_map]; exact getElem?_lt hj), List.getElem?_map, hj]; rfl
end Go.Proofs.Ytkcbhdjhbnnlgaa
end

section
/- Contracts: lists of numbers and of pairs that the laws compare, mark, hold. -/
set_option linter.unusedVariables false
set_option linter.unusedSimpArgs false
set_option maxRecDepth 100000
set_option maxHeartbeats 4000000
namespace Go.Proofs.Ytkcbhdjhbnnlgaa
open Go Go.RowKit Go.Proofs.Ytkcbhdjhbnnlgaa.Abs
variable {W0 : World} {σ : List Blk}
theorem fS_mk {l : List Blk} {K : List Blk → Prop} (h : K l) : fS l K := by rw [fS_eq]; exact h
theorem set_self {α : Type} {l : List α} {i : Nat} {a : α} (h : l[i]? = some a) : l.set i a = l := by
  have := (List.getElem?_eq_some_iff.1 h)
  obtain ⟨h1, h2⟩ := this
  subst h2
  exact List.set_getElem_self h1
theorem get_set {α : Type} {l : List α} {i : Nat} {a b : α} (h : l[i]? = some a) : (l.set i b)[i]? = some b := by
  rw [List.getElem?_set_self (getElem?_lt h)]
abbrev en1 (n : Int) : List Value := [.int .i64 n]
theorem sli_ints {l : List Int} {b ver : Nat} {e : TypeId} {r m : Bool} {cap : Nat} (hb : σ[b]? = some ⟨l.map I, ver, e, 1, r, m⟩) : Sli W0 σ 1 en1 (.sl b ver 0 l.length cap) l :=
  .own b ver 0 _ cap _ _ hb rfl rfl fun i x hi j v hj => by
    cases j with
    | zero =>
      simp only [List.getElem?_cons_zero, Option.some.injEq] at hj
      subst hj
      show (l.map I)[0 + i * 1 + 0]? = _
      rw [show 0 + i * 1 + 0 = i by omega, List.getElem?_map, hi]; rfl
    | succ j => simp at hj
theorem lift_Ss {α : Type} {enc : α → List Value} {g : FuncId} {a b : AV} {r : AV} {xs ys : List α} {s : Nat} (hok : callOK Try.prog g = true) (hr : ∀ k, sh3 k r = r) (hs : Sli W0 σ s enc a xs) (hs2 : Sli W0 σ s enc b ys) (h : ∀ (W1 : World) (a' b' : AV), Sli W1 [] s enc a' xs → Sli W1 [] s enc b' ys → ∀ K : Cont, K r [] → ACall Try.prog W1 g [a', b'] [] K) (K : Cont) (h0 : K r σ) : ACall Try.prog W0 g [a, b] σ K := by
  refine ACall.frameA (K0 := fun v σ' => v = r ∧ σ' = []) hok (fun W1 ι vs hh hrr => ?_) ?_
  · obtain ⟨v1, vs', rfl, hr1, hr2⟩ := Rels.uncons hrr
    obtain ⟨v2, vs'', rfl, hr3, hr4⟩ := Rels.uncons hr2
    obtain ⟨a', ha, hs'⟩ := hs.conc hh ⟨v1, hr1⟩
    obtain ⟨b', hb, hs2'⟩ := hs2.conc hh ⟨v2, hr3⟩
    obtain rfl := hr4.nil_inv
    exact ⟨[a', b'], Rels.cons (ha _ hr1) (Rels.cons (hb _ hr3) Rels.nil), h W1 a' b' hs' hs2' _ ⟨rfl, rfl⟩⟩
  · rintro v σ' ⟨rfl, rfl⟩
    have e : σ ++ shB σ.length [] = σ := by simp [shB]
    rw [e, hr]; exact h0
theorem lift_Sp {α : Type} {enc : α → List Value} {g : FuncId} {a b : AV} {r : AV} {xs : List α} {s : Nat} (hok : callOK Try.prog g = true) (hb : pure3 b = true) (hr : ∀ k, sh3 k r = r) (hs : Sli W0 σ s enc a xs) (h : ∀ (W1 : World) (a' : AV), Sli W1 [] s enc a' xs → ∀ K : Cont, K r [] → ACall Try.prog W1 g [a', b] [] K) (K : Cont) (h0 : K r σ) : ACall Try.prog W0 g [a, b] σ K := by
  refine ACall.frameA (K0 := fun v σ' => v = r ∧ σ' = []) hok (fun W1 ι vs hh hrr => ?_) ?_
  · obtain ⟨v1, vs', rfl, hr1, hr2⟩ := Rels.uncons hrr
    obtain ⟨v2, vs'', rfl, hr3, hr4⟩ := Rels.uncons hr2
    obtain ⟨a', ha, hs'⟩ := hs.conc hh ⟨v1, hr1⟩
    obtain rfl := hr4.nil_inv
    exact ⟨[a', b], Rels.cons (ha _ hr1) (Rels.cons (rel3_pure hb hr3) Rels.nil), h W1 a' hs' _ ⟨rfl, rfl⟩⟩
  · rintro v σ' ⟨rfl, rfl⟩
    have e : σ ++ shB σ.length [] = σ := by simp [shB]
    rw [e, hr]; exact h0
end Go.Proofs.Ytkcbhdjhbnnlgaa
end

section
/- Contracts: pairs, prints: made, compared, marked. -/
set_option linter.unusedVariables false
set_option linter.unusedSimpArgs false
set_option maxRecDepth 100000
set_option maxHeartbeats 4000000
namespace Go.Proofs.Ytkcbhdjhbnnlgaa
open Go Go.RowKit Go.Proofs.Ytkcbhdjhbnnlgaa.Abs
variable {W0 : World} {σ : List Blk}
theorem sli_rows {xs : List (List Int)} {b ver s : Nat} {e : TypeId} {z : Nat} {r m : Bool} {cap : Nat} (hx : ∀ x ∈ xs, x.length = s) (hb : σ[b]? = some ⟨jc xs, ver, e, z, r, m⟩) : Sli W0 σ s enI (.sl b ver 0 xs.length cap) xs :=
  .own b ver 0 _ cap _ _ hb rfl rfl fun i x hi j v hj => by
    rw [List.getElem?_map, Option.map_eq_some_iff] at hj
    obtain ⟨n, hn, rfl⟩ := hj
    rw [Nat.zero_add]
    exact jc_get hx hi hn
/-! prints -/
abbrev Pr (a b c d e f g h i : Int) : AV := .agg [I a, I b, I c, I d, I e, I f, I g, I h, I i]
abbrev z9 : List AV := [I 0, I 0, I 0, I 0, I 0, I 0, I 0, I 0, I 0]
end Go.Proofs.Ytkcbhdjhbnnlgaa
end

section
/- Contracts: CommonCells. -/
set_option linter.unusedVariables false
set_option linter.unusedSimpArgs false
namespace Go.Proofs.Ytkcbhdjhbnnlgaa
open Go Go.RowKit Go.Proofs.Ytkcbhdjhbnnlgaa.Abs
variable {W0 : World} {σ : List Blk}
abbrev R64 (a b c d e f : Nat) : Prop := a < 64 ∧ b < 64 ∧ c < 64 ∧ d < 64 ∧ e < 64 ∧ f < 64
end Go.Proofs.Ytkcbhdjhbnnlgaa
end

section
/- Contracts: prints and their cells; lists of prints; layers. -/
set_option linter.unusedVariables false
set_option linter.unusedSimpArgs false
set_option maxRecDepth 100000
set_option maxHeartbeats 4000000
namespace Go.Proofs.Ytkcbhdjhbnnlgaa
open Go Go.RowKit Go.Proofs.Ytkcbhdjhbnnlgaa.Abs
variable {W0 : World} {σ : List Blk}
def pSet (x : List Int) : Nat := prN (setN (x.getD 1 0).toNat (x.getD 2 0).toNat (x.getD 3 0).toNat (x.getD 4 0).toNat (x.getD 5 0).toNat (x.getD 6 0).toNat) (x.getD 7 0).toNat (x.getD 8 0).toNat
def pInk (x : List Int) : Int := x.getD 0 0
/-- a valid print by its parts -/
structure PrParts (x : List Int) where
  n : Nat
  u : Nat
  v : Nat
end Go.Proofs.Ytkcbhdjhbnnlgaa
end

section
/- Contracts: layers of prints. -/
set_option linter.unusedVariables false
set_option linter.unusedSimpArgs false
set_option maxRecDepth 100000
set_option maxHeartbeats 4000000
namespace Go.Proofs.Ytkcbhdjhbnnlgaa
open Go Go.RowKit Go.Proofs.Ytkcbhdjhbnnlgaa.Abs
variable {W0 : World} {σ : List Blk}
theorem sli_lit {α : Type} {W0 : World} {s : Nat} {enc : α → List Value} {a : AV} {xs : List α} (h : Sli W0 [] s enc a xs) : ∃ v, a = .lit v := by
  cases h with
  | nil => exact ⟨_, rfl⟩
  | inn ad n cap xs hn hc hm hb hx => exact ⟨_, rfl⟩
  | own b ver off n cap B xs hB => simp at hB
theorem sli_up {α : Type} {W0 : World} {σ : List Blk} {s : Nat} {enc : α → List Value} {a : AV} {xs : List α} (h : Sli W0 [] s enc a xs) : Sli W0 σ s enc a xs := by
  cases h with
  | nil => exact .nil
  | inn ad n cap xs hn hc hm hb hx => exact .inn ad n cap xs hn hc hm hb hx
  | own b ver off n cap B xs hB => simp at hB
theorem closNil (k : Nat) : Closed k [] := fun B hB => by cases hB
theorem closCons {k : Nat} {B : Blk} {l : List Blk} (h : B.cells.all (bel1 k) = true) (hs : Closed k l) : Closed k (B :: l) := fun B' hB => by
  rcases List.mem_cons.1 hB with rfl | hB
  · exact h
  · exact hs B' hB
theorem belI (k : Nat) (l : List Int) : (l.map I).all (bel1 k) = true := by
  rw [List.all_map]; exact List.all_eq_true.2 fun _ _ => rfl
theorem take_snoc {α : Type} {xs : List α} {i : Nat} {x : α} (h : xs[i]? = some x) : xs.take (i + 1) = xs.take i ++ [x] := by rw [List.take_add_one, h]; rfl
end Go.Proofs.Ytkcbhdjhbnnlgaa
end

section
/- Contracts: places of layers of which something is so. -/
set_option linter.unusedVariables false
set_option linter.unusedSimpArgs false
set_option maxRecDepth 100000
set_option maxHeartbeats 4000000
namespace Go.Proofs.Ytkcbhdjhbnnlgaa
open Go Go.RowKit Go.Proofs.Ytkcbhdjhbnnlgaa.Abs
variable {W0 : World} {σ : List Blk}
/-- the places at which something is so, rising; and those from the end on, falling -/
def selN (q : Nat → Bool) : Nat → List Int
  | 0 => []
  | n + 1 => selN q n ++ if q n then [(n : Int)] else []
theorem selN_succ (q : Nat → Bool) (n : Nat) : selN q (n + 1) = selN q n ++ if q n then [(n : Int)] else [] := rfl
theorem selN_len (q : Nat → Bool) : ∀ n, (selN q n).length ≤ n
  | 0 => Nat.le_refl _
  | n + 1 => by
    have := selN_len q n
    rw [selN_succ, List.length_append]; split <;> simp <;> omega
end Go.Proofs.Ytkcbhdjhbnnlgaa
end

section
/- Contracts: hidden and whole prints. -/
set_option linter.unusedVariables false
set_option linter.unusedSimpArgs false
set_option maxRecDepth 100000
set_option maxHeartbeats 4000000
namespace Go.Proofs.Ytkcbhdjhbnnlgaa
open Go Go.RowKit Go.Proofs.Ytkcbhdjhbnnlgaa.Abs
variable {W0 : World} {σ : List Blk}
theorem sh_I (k : Nat) (l : List Int) : (l.map I).map (sh1 k) = l.map I := by rw [List.map_map]; rfl
abbrev outB (l : List Int) : Blk := ⟨l.map I, l.length, 3, 1, true, true⟩
abbrev nilA : AV := .lit (.slice none 0 0)
/-! the reference: what is seen of prints -/
def shR (n : Nat) : List Int := [(rowN n 0 : Nat), (rowN n 1 : Nat), (rowN n 2 : Nat), (rowN n 3 : Nat), (rowN n 4 : Nat), (rowN n 5 : Nat)]
abbrev z6 : List Int := [0, 0, 0, 0, 0, 0]
end Go.Proofs.Ytkcbhdjhbnnlgaa
end

section
/- Contracts: hidden and whole prints of the reference. -/
set_option linter.unusedVariables false
set_option linter.unusedSimpArgs false
set_option maxRecDepth 100000
set_option maxHeartbeats 4000000
namespace Go.Proofs.Ytkcbhdjhbnnlgaa
open Go Go.RowKit Go.Proofs.Ytkcbhdjhbnnlgaa.Abs
variable {W0 : World} {σ : List Blk}
theorem rows_ext {n m : Nat} (hn : n < 2 ^ 36) (hm : m < 2 ^ 36) (h0 : rowN n 0 = rowN m 0) (h1 : rowN n 1 = rowN m 1) (h2 : rowN n 2 = rowN m 2) (h3 : rowN n 3 = rowN m 3) (h4 : rowN n 4 = rowN m 4) (h5 : rowN n 5 = rowN m 5) : n = m := by
  rw [← setN_rows hn, ← setN_rows hm, h0, h1, h2, h3, h4, h5]
theorem row_dec {n m : Nat} (hn : n < 2 ^ 36) (hm : m < 2 ^ 36) : (decide ((rowN n 0 : Int) = rowN m 0) && (decide ((rowN n 1 : Int) = rowN m 1) && (decide ((rowN n 2 : Int) = rowN m 2) && (decide ((rowN n 3 : Int) = rowN m 3) && (decide ((rowN n 4 : Int) = rowN m 4) && (decide ((rowN n 5 : Int) = rowN m 5) && true)))))) = decide (n = m) := by
  rw [Bool.eq_iff_iff]
  simp only [Bool.and_eq_true, decide_eq_true_eq]
  constructor
  · rintro ⟨h0, h1, h2, h3, h4, h5, _⟩
    exact rows_ext hn hm (by omega) (by omega) (by omega) (by omega) (by omega) (by omega)
  · rintro rfl; simp
end Go.Proofs.Ytkcbhdjhbnnlgaa
end

section
/- Contracts: prints that overlap. -/
set_option linter.unusedVariables false
set_option linter.unusedSimpArgs false
set_option maxRecDepth 100000
set_option maxHeartbeats 4000000
namespace Go.Proofs.Ytkcbhdjhbnnlgaa
open Go Go.RowKit Go.Proofs.Ytkcbhdjhbnnlgaa.Abs
variable {W0 : World} {σ : List Blk}
/-- pairs of places -/
def inn (q : Nat → Nat → Bool) (i : Nat) : Nat → List (List Int)
  | 0 => []
  | m + 1 => inn q i m ++ if q i (i + 1 + m) then [[(i : Int), ((i + 1 + m : Nat) : Int)]] else []
abbrev prsB (l : List (List Int)) : Blk := ⟨jc l, l.length, 27, 2, true, true⟩
end Go.Proofs.Ytkcbhdjhbnnlgaa
end

section
/- Contracts: pictures. -/
set_option linter.unusedVariables false
set_option linter.unusedSimpArgs false
set_option maxRecDepth 100000
set_option maxHeartbeats 4000000
namespace Go.Proofs.Ytkcbhdjhbnnlgaa
open Go Go.RowKit Go.Proofs.Ytkcbhdjhbnnlgaa.Abs
variable {W0 : World} {σ : List Blk}
abbrev Pi (q : List Int) : AV := .agg (q.map I)
theorem sh_Pi (k : Nat) (q : List Int) : sh3 k (Pi q) = Pi q := by show AV.agg ((q.map I).map (sh1 k)) = _; rw [sh_I]
theorem pic_le {q : List Int} (hq : q.length = 36) {off : Nat} (ho : off = 0) : off + 36 ≤ (q.map I).length := by rw [List.length_map]; omega
theorem pic_len {q : List Int} (hq : q.length = 36) : (q.map I).length = 36 := by rw [List.length_map]; exact hq
theorem pic_ld {q : List Int} (hq : q.length = 36) (off : Nat) (ho : off = 0) : mkAV true (((q.map I).drop off).take 36) = Pi q := by
  subst ho
  show AV.agg (((q.map I).drop 0).take 36) = _
  rw [List.drop_zero, List.take_of_length_le (by rw [pic_len hq]; exact Nat.le_refl _)]
theorem pic_res {q : List Int} (hq : q.length = 36) (Z : List AV) : mkAV true (((Z.take 0 ++ q.map I ++ Z.drop (0 + 36)).drop 0).take 36) = Pi q := by
  show AV.agg _ = _
  rw [List.take_zero, List.nil_append, List.drop_zero, List.take_left' (pic_len hq)]
theorem pic_rle {q : List Int} (hq : q.length = 36) (Z : List AV) : 0 + 36 ≤ (Z.take 0 ++ q.map I ++ Z.drop (0 + 36)).length := by
  rw [List.length_append, List.length_append, pic_len hq]; omega
theorem cell_le {q : List Int} {off : Nat} (h : off < q.length) : off + 1 ≤ (q.map I).length := by rw [List.length_map]; omega
theorem cell_ld {q : List Int} {off : Nat} (h : off < q.length) : mkAV false (((q.map I).drop off).take 1) = I (q.getD off 0) := by
  rw [← List.map_drop, ← List.map_take, List.drop_eq_getElem_cons h, List.getD_eq_getElem?_getD, List.getElem?_eq_getElem h]; rfl
theorem cell_st {q : List Int} {off : Nat} (v : Int) (h : off < q.length) : (q.map I).take off ++ [I v] ++ (q.map I).drop (off + 1) = (q.set off v).map I := by
  rw [List.set_eq_take_append_cons_drop, if_pos h, List.map_append, List.map_cons, List.map_take, List.map_drop, List.append_assoc]; rfl
def bQ (q : List Int) (e : TypeId) : Blk := ⟨q.map I, 0, e, 0, false, false⟩
abbrev z36 : List Int := List.replicate 36 0
theorem belPi (k : Nat) (q : List Int) : bel3 k (Pi q) = true := belI k q
/-! prints made -/
def madeK (q : List Int) (n : Nat) (ink : Int) : Nat → List Int
  | 0 => q
  | k + 1 => if n.testBit k then (madeK q n ink k).set k ink else madeK q n ink k
end Go.Proofs.Ytkcbhdjhbnnlgaa
end

section
/- Contracts: the last prints. -/
set_option linter.unusedVariables false
set_option linter.unusedSimpArgs false
set_option maxRecDepth 100000
set_option maxHeartbeats 4000000
namespace Go.Proofs.Ytkcbhdjhbnnlgaa
open Go Go.RowKit Go.Proofs.Ytkcbhdjhbnnlgaa.Abs
variable {W0 : World} {σ : List Blk}
theorem lits_I : ∀ l : List Int, litsA (l.map I) = some (l.map (Value.int .i64))
  | [] => rfl
  | x :: l => by
    show (litsA (l.map I)).map _ = _
    rw [lits_I l]; rfl
theorem eqC_I : ∀ (n : Nat) (l m : List Int), l.length = n → m.length = n → eqC (List.replicate n .int) (l.map (Value.int .i64)) (m.map (Value.int .i64)) = some (decide (l = m))
  | 0, [], [], _, _ => rfl
  | n + 1, x :: l, y :: m, h1, h2 => by
    have h := eqC_I n l m (by simpa using h1) (by simpa using h2)
    show (if IntKind.i64 = IntKind.i64 then (eqC (List.replicate n .int) (l.map (Value.int .i64)) (m.map (Value.int .i64))).map (decide (x = y) && ·) else none) = _
    rw [if_pos rfl, h]
    show some (decide (x = y) && decide (l = m)) = _
    congr 1
    rw [Bool.eq_iff_iff]; simp
  | 0, _ :: _, _, h, _ => by simp at h
  | n + 1, [], _, h, _ => by simp at h
  | 0, [], _ :: _, _, h => by simp at h
  | n + 1, _ :: _, [], _, h => by simp at h
theorem eqC36 {l m : List Int} (hl : l.length = 36) (hm : m.length = 36) : eqC [.int, .int, .int, .int, .int, .int, .int, .int, .int, .int, .int, .int, .int, .int, .int, .int, .int, .int, .int, .int, .int, .int, .int, .int, .int, .int, .int, .int, .int, .int, .int, .int, .int, .int, .int, .int] (l.map (Value.int .i64)) (m.map (Value.int .i64)) = some (decide (l = m)) := eqC_I 36 l m hl hm
end Go.Proofs.Ytkcbhdjhbnnlgaa
end

section
/- Contracts: orders of prints: lists of numbers. -/
set_option linter.unusedVariables false
set_option linter.unusedSimpArgs false
set_option maxRecDepth 100000
set_option maxHeartbeats 4000000
namespace Go.Proofs.Ytkcbhdjhbnnlgaa
open Go Go.RowKit Go.Proofs.Ytkcbhdjhbnnlgaa.Abs
variable {W0 : World} {σ : List Blk}
/-- a slice that came in, nil or not -/
theorem sli_form {α : Type} {s : Nat} {enc : α → List Value} {a : AV} {xs : List α} (h : Sli W0 [] s enc a xs) : ∃ o n cap, a = .lit (.slice o n cap) ∧ n = xs.length ∧ n ≤ cap ∧ cap ≤ maxLen ∧ ∀ (i : Nat) (x : α), xs[i]? = some x → ∃ ad, o = some ad ∧ ad.block < W0.heap.size ∧ ∀ i x, xs[i]? = some x → ∀ j v, (enc x)[j]? = some v → W0.cell? ((ad.add (i * s)).add j) = some v ∧ v.oneCell' = true := by
  cases h with
  | nil => exact ⟨none, 0, 0, rfl, rfl, Nat.le_refl _, Nat.zero_le _, fun i x h => by simp at h⟩
  | inn ad n cap xs hn hc hm hb hx => exact ⟨some ad, n, cap, rfl, hn, hc, hm, fun i x h => ⟨ad, rfl, hb, hx⟩⟩
  | own b ver off n cap B xs hB => simp at hB
theorem mem_take_succ {l : List Int} {i : Nat} {x n : Int} (h : l[i]? = some x) : n ∈ l.take (i + 1) ↔ n ∈ l.take i ∨ n = x := by rw [take_snoc h, List.mem_append, List.mem_singleton]
theorem c_l1Has (a : AV) (l : List Int) (n : Int) (ha : Sli W0 [] 1 en1 a l) (hl : l.length ≤ 1048576) (K : Cont) (h0 : K (Bo (decide (n ∈ l))) []) : ACall Try.prog W0 103 [a, I n] [] K := by
  refine by103 (Nat.le_of_ble_eq_true rfl) ?_
  obtain ⟨o, n', cap, rfl, hn, hc, hm, hf⟩ := sli_form ha
  subst hn
  repeat' ((conv => whnf); first | (refine Exists.intro ([] : List Nat) ?_) | (refine And.intro rfl ?_) | (refine And.intro (by decide +kernel) ?_) | (refine And.intro trivial ?_) | (refine Exists.intro _ (And.intro rfl (And.intro rfl (And.intro (Nat.le_of_ble_eq_true rfl) ?_)))) | (refine Exists.intro _ (And.intro rfl (And.intro rfl (And.intro rfl (And.intro (Nat.le_of_ble_eq_true rfl) ?_))))) | (refine And.intro (Exists.intro _ (And.intro rfl rfl)) ?_) | (exact fun hW => absurd hW (by decide +kernel)) | (intro hW; (try simp only [Bool.not_true, Bool.not_false, Bool.not_eq_true', Bool.not_eq_false', decide_eq_true_eq, decide_eq_false_iff_not, reduceCtorEq, Bool.true_eq_false, Bool.false_eq_true, mk_size, List.size_toArray, ByteArray.size_append, ByteArray.size_extract, List.length_cons, List.length_nil, ba_get, ba_empty, Int.toNat_natCast] at hW)) | (refine And.intro (?_ : _ → _) (?_ : _ → _)) | (refine FinR.drop 0 (Nat.zero_le _) (Closed.zero _) rfl ?_) | (refine FinR.keep ?_) | (refine And.intro (det3_agg rfl) ?_) | (refine fL_mk ?_) | (refine And.intro (by (try simp only [mk_size, List.size_toArray, ByteArray.size_append, ByteArray.size_extract, List.length_cons, List.length_nil]); omega) ?_) | (refine And.intro (by (try simp only [mk_size, List.size_toArray, ByteArray.size_append, ByteArray.size_extract, List.length_cons, List.length_nil, wrap64_eq]); omega) ?_) | fail)
  refine LoopR.live (fun i : Nat => [(0, .lit (.slice o l.length cap)), (1, I n), (5, I i)]) (fun i => []) (fun i => i ≤ l.length ∧ n ∉ l.take i) (fun i => l.length - i) 0 ⟨rfl, rfl, rfl, trivial⟩ (.keep rfl) ⟨Nat.zero_le _, by simp⟩ ?_
  rintro i ⟨hi, hni⟩
  by_cases hlt : i < l.length
  · have hxi : l[i]? = some l[i] := List.getElem?_eq_getElem hlt
    obtain ⟨ad, rfl, hb, hxx⟩ := hf i _ hxi
    have hld := fun C h => ldIn (W0 := W0) (s := 1) (enc := en1) hb hxx (k := i) hxi rfl (C := C) h
    have hms := mem_take_succ (n := n) hxi
    by_cases he : l[i] = n
    · rw [decide_eq_true (show n ∈ l from he ▸ List.getElem_mem hlt)] at h0
      repeat' ((conv => whnf); first | (refine Exists.intro ([] : List Nat) ?_) | (refine And.intro rfl ?_) | (refine And.intro (by decide +kernel) ?_) | (refine And.intro trivial ?_) | (refine hld _ ?_) | (refine Exists.intro _ (And.intro rfl (And.intro rfl (And.intro (Nat.le_of_ble_eq_true rfl) ?_)))) | (refine Exists.intro _ (And.intro rfl (And.intro rfl (And.intro rfl (And.intro (Nat.le_of_ble_eq_true rfl) ?_))))) | (refine And.intro (Exists.intro _ (And.intro rfl rfl)) ?_) | (exact fun hW => absurd hW (by decide +kernel)) | (intro hW; (try simp only [Bool.not_true, Bool.not_false, Bool.not_eq_true', Bool.not_eq_false', decide_eq_true_eq, decide_eq_false_iff_not, reduceCtorEq, Bool.true_eq_false, Bool.false_eq_true, mk_size, List.size_toArray, ByteArray.size_append, ByteArray.size_extract, List.length_cons, List.length_nil, ba_get, ba_empty, Int.toNat_natCast] at hW)) | (refine And.intro (?_ : _ → _) (?_ : _ → _)) | (refine FinR.drop 0 (Nat.zero_le _) (Closed.zero _) rfl ?_) | (refine FinR.keep ?_) | (refine And.intro (det3_agg rfl) ?_) | (refine fL_mk ?_) | (refine And.intro (by (try simp only [mk_size, List.size_toArray, ByteArray.size_append, ByteArray.size_extract, List.length_cons, List.length_nil]); omega) ?_) | (refine And.intro (by (try simp only [mk_size, List.size_toArray, ByteArray.size_append, ByteArray.size_extract, List.length_cons, List.length_nil, wrap64_eq]); omega) ?_) | fail)
      all_goals first | (exfalso; omega) | exact h0
    · skip
      repeat' ((conv => whnf); first | (refine Exists.intro ([] : List Nat) ?_) | (refine And.intro rfl ?_) | (refine And.intro (by decide +kernel) ?_) | (refine And.intro trivial ?_) | (refine hld _ ?_) | (refine Exists.intro _ (And.intro rfl (And.intro rfl (And.intro (Nat.le_of_ble_eq_true rfl) ?_)))) | (refine Exists.intro _ (And.intro rfl (And.intro rfl (And.intro rfl (And.intro (Nat.le_of_ble_eq_true rfl) ?_))))) | (refine And.intro (Exists.intro _ (And.intro rfl rfl)) ?_) | (exact fun hW => absurd hW (by decide +kernel)) | (intro hW; (try simp only [Bool.not_true, Bool.not_false, Bool.not_eq_true', Bool.not_eq_false', decide_eq_true_eq, decide_eq_false_iff_not, reduceCtorEq, Bool.true_eq_false, Bool.false_eq_true, mk_size, List.size_toArray, ByteArray.size_append, ByteArray.size_extract, List.length_cons, List.length_nil, ba_get, ba_empty, Int.toNat_natCast] at hW)) | (refine And.intro (?_ : _ → _) (?_ : _ → _)) | (refine FinR.drop 0 (Nat.zero_le _) (Closed.zero _) rfl ?_) | (refine FinR.keep ?_) | (refine And.intro (det3_agg rfl) ?_) | (refine fL_mk ?_) | (refine And.intro (by (try simp only [mk_size, List.size_toArray, ByteArray.size_append, ByteArray.size_extract, List.length_cons, List.length_nil]); omega) ?_) | (refine And.intro (by (try simp only [mk_size, List.size_toArray, ByteArray.size_append, ByteArray.size_extract, List.length_cons, List.length_nil, wrap64_eq]); omega) ?_) | fail)
      all_goals first | (exfalso; omega) | skip
      exact Again.go (i + 1) ⟨rfl, rfl, slI' (wsucc' i (by omega)), trivial⟩ (.keep rfl) ⟨by omega, by rw [hms]; rintro (h | h); exact hni h; exact he h.symm⟩ (by omega)
  · obtain rfl : i = l.length := by omega
    rw [List.take_length] at hni
    rw [decide_eq_false hni] at h0
    repeat' ((conv => whnf); first | (refine Exists.intro ([] : List Nat) ?_) | (refine And.intro rfl ?_) | (refine And.intro (by decide +kernel) ?_) | (refine And.intro trivial ?_) | (refine Exists.intro _ (And.intro rfl (And.intro rfl (And.intro (Nat.le_of_ble_eq_true rfl) ?_)))) | (refine Exists.intro _ (And.intro rfl (And.intro rfl (And.intro rfl (And.intro (Nat.le_of_ble_eq_true rfl) ?_))))) | (refine And.intro (Exists.intro _ (And.intro rfl rfl)) ?_) | (exact fun hW => absurd hW (by decide +kernel)) | (intro hW; (try simp only [Bool.not_true, Bool.not_false, Bool.not_eq_true', Bool.not_eq_false', decide_eq_true_eq, decide_eq_false_iff_not, reduceCtorEq, Bool.true_eq_false, Bool.false_eq_true, mk_size, List.size_toArray, ByteArray.size_append, ByteArray.size_extract, List.length_cons, List.length_nil, ba_get, ba_empty, Int.toNat_natCast] at hW)) | (refine And.intro (?_ : _ → _) (?_ : _ → _)) | (refine FinR.drop 0 (Nat.zero_le _) (Closed.zero _) rfl ?_) | (refine FinR.keep ?_) | (refine And.intro (det3_agg rfl) ?_) | (refine fL_mk ?_) | (refine And.intro (by (try simp only [mk_size, List.size_toArray, ByteArray.size_append, ByteArray.size_extract, List.length_cons, List.length_nil]); omega) ?_) | (refine And.intro (by (try simp only [mk_size, List.size_toArray, ByteArray.size_append, ByteArray.size_extract, List.length_cons, List.length_nil, wrap64_eq]); omega) ?_) | fail)
    all_goals first | (exfalso; omega) | exact h0
theorem d_l1Has (a : AV) (l : List Int) (n : Int) (ha : Sli W0 σ 1 en1 a l) (hl : l.length ≤ 1048576) (K : Cont) (h0 : K (Bo (decide (n ∈ l))) σ) : ACall Try.prog W0 103 [a, I n] σ K :=
  lift_Sp (by kernel_rfl) rfl (fun _ => rfl) ha (fun W1 a' h K hK => c_l1Has a' l n h hl K hK) K h0
theorem c_Index (a : AV) (l : List Int) (n : Int) (ha : Sli W0 [] 1 en1 a l) (hl : l.length ≤ 1048576) (K : Cont) (h1 : ∀ i : Nat, n ∈ l → K (I i) []) (h2 : n ∉ l → K (I (-1)) []) : ACall Try.prog W0 126 [a, I n] [] K := by
  refine by126 (Nat.le_of_ble_eq_true rfl) ?_
  obtain ⟨o, n', cap, rfl, hn, hc, hm, hf⟩ := sli_form ha
  subst hn
  repeat' ((conv => whnf); first | (refine Exists.intro ([] : List Nat) ?_) | (refine And.intro rfl ?_) | (refine And.intro (by decide +kernel) ?_) | (refine And.intro trivial ?_) | (refine Exists.intro _ (And.intro rfl (And.intro rfl (And.intro (Nat.le_of_ble_eq_true rfl) ?_)))) | (refine Exists.intro _ (And.intro rfl (And.intro rfl (And.intro rfl (And.intro (Nat.le_of_ble_eq_true rfl) ?_))))) | (refine And.intro (Exists.intro _ (And.intro rfl rfl)) ?_) | (exact fun hW => absurd hW (by decide +kernel)) | (intro hW; (try simp only [Bool.not_true, Bool.not_false, Bool.not_eq_true', Bool.not_eq_false', decide_eq_true_eq, decide_eq_false_iff_not, reduceCtorEq, Bool.true_eq_false, Bool.false_eq_true, mk_size, List.size_toArray, ByteArray.size_append, ByteArray.size_extract, List.length_cons, List.length_nil, ba_get, ba_empty, Int.toNat_natCast] at hW)) | (refine And.intro (?_ : _ → _) (?_ : _ → _)) | (refine FinR.drop 0 (Nat.zero_le _) (Closed.zero _) rfl ?_) | (refine FinR.keep ?_) | (refine And.intro (det3_agg rfl) ?_) | (refine fL_mk ?_) | (refine And.intro (by (try simp only [mk_size, List.size_toArray, ByteArray.size_append, ByteArray.size_extract, List.length_cons, List.length_nil]); omega) ?_) | (refine And.intro (by (try simp only [mk_size, List.size_toArray, ByteArray.size_append, ByteArray.size_extract, List.length_cons, List.length_nil, wrap64_eq]); omega) ?_) | fail)
  refine LoopR.live (fun i : Nat => [(0, .lit (.slice o l.length cap)), (1, I n), (7, I l.length), (8, I i)]) (fun i => []) (fun i => i ≤ l.length ∧ n ∉ l.take i) (fun i => l.length - i) 0 ⟨rfl, rfl, rfl, rfl, trivial⟩ (.keep rfl) ⟨Nat.zero_le _, by simp⟩ ?_
  rintro i ⟨hi, hni⟩
  by_cases hlt : i < l.length
  · have hxi : l[i]? = some l[i] := List.getElem?_eq_getElem hlt
    obtain ⟨ad, rfl, hb, hxx⟩ := hf i _ hxi
    have hld := fun C h => ldIn (W0 := W0) (s := 1) (enc := en1) hb hxx (k := i) hxi rfl (C := C) h
    have hms := mem_take_succ (n := n) hxi
    by_cases he : n = l[i]
    · have h0 := h1 i (he ▸ List.getElem_mem hlt)
      repeat' ((conv => whnf); first | (refine Exists.intro ([] : List Nat) ?_) | (refine And.intro rfl ?_) | (refine And.intro (by decide +kernel) ?_) | (refine And.intro trivial ?_) | (refine hld _ ?_) | (refine Exists.intro _ (And.intro rfl (And.intro rfl (And.intro (Nat.le_of_ble_eq_true rfl) ?_)))) | (refine Exists.intro _ (And.intro rfl (And.intro rfl (And.intro rfl (And.intro (Nat.le_of_ble_eq_true rfl) ?_))))) | (refine And.intro (Exists.intro _ (And.intro rfl rfl)) ?_) | (exact fun hW => absurd hW (by decide +kernel)) | (intro hW; (try simp only [Bool.not_true, Bool.not_false, Bool.not_eq_true', Bool.not_eq_false', decide_eq_true_eq, decide_eq_false_iff_not, reduceCtorEq, Bool.true_eq_false, Bool.false_eq_true, mk_size, List.size_toArray, ByteArray.size_append, ByteArray.size_extract, List.length_cons, List.length_nil, ba_get, ba_empty, Int.toNat_natCast] at hW)) | (refine And.intro (?_ : _ → _) (?_ : _ → _)) | (refine FinR.drop 0 (Nat.zero_le _) (Closed.zero _) rfl ?_) | (refine FinR.keep ?_) | (refine And.intro (det3_agg rfl) ?_) | (refine fL_mk ?_) | (refine And.intro (by (try simp only [mk_size, List.size_toArray, ByteArray.size_append, ByteArray.size_extract, List.length_cons, List.length_nil]); omega) ?_) | (refine And.intro (by (try simp only [mk_size, List.size_toArray, ByteArray.size_append, ByteArray.size_extract, List.length_cons, List.length_nil, wrap64_eq]); omega) ?_) | fail)
      all_goals first | (exfalso; omega) | exact h0
    · skip
      repeat' ((conv => whnf); first | (refine Exists.intro ([] : List Nat) ?_) | (refine And.intro rfl ?_) | (refine And.intro (by decide +kernel) ?_) | (refine And.intro trivial ?_) | (refine hld _ ?_) | (refine Exists.intro _ (And.intro rfl (And.intro rfl (And.intro (Nat.le_of_ble_eq_true rfl) ?_)))) | (refine Exists.intro _ (And.intro rfl (And.intro rfl (And.intro rfl (And.intro (Nat.le_of_ble_eq_true rfl) ?_))))) | (refine And.intro (Exists.intro _ (And.intro rfl rfl)) ?_) | (exact fun hW => absurd hW (by decide +kernel)) | (intro hW; (try simp only [Bool.not_true, Bool.not_false, Bool.not_eq_true', Bool.not_eq_false', decide_eq_true_eq, decide_eq_false_iff_not, reduceCtorEq, Bool.true_eq_false, Bool.false_eq_true, mk_size, List.size_toArray, ByteArray.size_append, ByteArray.size_extract, List.length_cons, List.length_nil, ba_get, ba_empty, Int.toNat_natCast] at hW)) | (refine And.intro (?_ : _ → _) (?_ : _ → _)) | (refine FinR.drop 0 (Nat.zero_le _) (Closed.zero _) rfl ?_) | (refine FinR.keep ?_) | (refine And.intro (det3_agg rfl) ?_) | (refine fL_mk ?_) | (refine And.intro (by (try simp only [mk_size, List.size_toArray, ByteArray.size_append, ByteArray.size_extract, List.length_cons, List.length_nil]); omega) ?_) | (refine And.intro (by (try simp only [mk_size, List.size_toArray, ByteArray.size_append, ByteArray.size_extract, List.length_cons, List.length_nil, wrap64_eq]); omega) ?_) | fail)
      all_goals first | (exfalso; omega) | skip
      exact Again.go (i + 1) ⟨rfl, rfl, rfl, slI' (wsucc' i (by omega)), trivial⟩ (.keep rfl) ⟨by omega, by rw [hms]; rintro (h | h); exact hni h; exact he h⟩ (by omega)
  · obtain rfl : i = l.length := by omega
    rw [List.take_length] at hni
    have h0 := h2 hni
    repeat' ((conv => whnf); first | (refine Exists.intro ([] : List Nat) ?_) | (refine And.intro rfl ?_) | (refine And.intro (by decide +kernel) ?_) | (refine And.intro trivial ?_) | (refine Exists.intro _ (And.intro rfl (And.intro rfl (And.intro (Nat.le_of_ble_eq_true rfl) ?_)))) | (refine Exists.intro _ (And.intro rfl (And.intro rfl (And.intro rfl (And.intro (Nat.le_of_ble_eq_true rfl) ?_))))) | (refine And.intro (Exists.intro _ (And.intro rfl rfl)) ?_) | (exact fun hW => absurd hW (by decide +kernel)) | (intro hW; (try simp only [Bool.not_true, Bool.not_false, Bool.not_eq_true', Bool.not_eq_false', decide_eq_true_eq, decide_eq_false_iff_not, reduceCtorEq, Bool.true_eq_false, Bool.false_eq_true, mk_size, List.size_toArray, ByteArray.size_append, ByteArray.size_extract, List.length_cons, List.length_nil, ba_get, ba_empty, Int.toNat_natCast] at hW)) | (refine And.intro (?_ : _ → _) (?_ : _ → _)) | (refine FinR.drop 0 (Nat.zero_le _) (Closed.zero _) rfl ?_) | (refine FinR.keep ?_) | (refine And.intro (det3_agg rfl) ?_) | (refine fL_mk ?_) | (refine And.intro (by (try simp only [mk_size, List.size_toArray, ByteArray.size_append, ByteArray.size_extract, List.length_cons, List.length_nil]); omega) ?_) | (refine And.intro (by (try simp only [mk_size, List.size_toArray, ByteArray.size_append, ByteArray.size_extract, List.length_cons, List.length_nil, wrap64_eq]); omega) ?_) | fail)
    all_goals first | (exfalso; omega) | exact h0
theorem c_Contains (a : AV) (l : List Int) (n : Int) (ha : Sli W0 [] 1 en1 a l) (hl : l.length ≤ 1048576) (K : Cont) (h0 : K (Bo (decide (n ∈ l))) []) : ACall Try.prog W0 101 [a, I n] [] K := by
  obtain ⟨va, rfl⟩ := sli_lit ha
  refine by101 (Nat.le_of_ble_eq_true rfl) ?_
  repeat' ((conv => whnf); first | (refine Exists.intro ([] : List Nat) ?_) | (refine And.intro rfl ?_) | (refine And.intro (by decide +kernel) ?_) | (refine And.intro trivial ?_) | (refine c_Index (ha := ha) (hl := hl) (h1 := fun i h1 => ?_) (h2 := fun h2 => ?_) ..) | (refine Exists.intro _ (And.intro rfl (And.intro rfl (And.intro (Nat.le_of_ble_eq_true rfl) ?_)))) | (refine Exists.intro _ (And.intro rfl (And.intro rfl (And.intro rfl (And.intro (Nat.le_of_ble_eq_true rfl) ?_))))) | (refine And.intro (Exists.intro _ (And.intro rfl rfl)) ?_) | (exact fun hW => absurd hW (by decide +kernel)) | (intro hW; (try simp only [Bool.not_true, Bool.not_false, Bool.not_eq_true', Bool.not_eq_false', decide_eq_true_eq, decide_eq_false_iff_not, reduceCtorEq, Bool.true_eq_false, Bool.false_eq_true, mk_size, List.size_toArray, ByteArray.size_append, ByteArray.size_extract, List.length_cons, List.length_nil, ba_get, ba_empty, Int.toNat_natCast] at hW)) | (refine And.intro (?_ : _ → _) (?_ : _ → _)) | (refine FinR.drop 0 (Nat.zero_le _) (Closed.zero _) rfl ?_) | (refine FinR.keep ?_) | (refine And.intro (det3_agg rfl) ?_) | (refine fL_mk ?_) | (refine And.intro (by (try simp only [mk_size, List.size_toArray, ByteArray.size_append, ByteArray.size_extract, List.length_cons, List.length_nil]); omega) ?_) | (refine And.intro (by (try simp only [mk_size, List.size_toArray, ByteArray.size_append, ByteArray.size_extract, List.length_cons, List.length_nil, wrap64_eq]); omega) ?_) | fail)
  · rw [decide_eq_true h1] at h0
    refine kB' h0 ?_
    simp
  · rw [decide_eq_false h2] at h0
    exact kB' h0 rfl
theorem d_Contains (a : AV) (l : List Int) (n : Int) (ha : Sli W0 σ 1 en1 a l) (hl : l.length ≤ 1048576) (K : Cont) (h0 : K (Bo (decide (n ∈ l))) σ) : ACall Try.prog W0 101 [a, I n] σ K :=
  lift_Sp (by kernel_rfl) rfl (fun _ => rfl) ha (fun W1 a' h K hK => c_Contains a' l n h hl K hK) K h0
end Go.Proofs.Ytkcbhdjhbnnlgaa
end

section
/- Contracts: pictures of prints in an order. -/
set_option linter.unusedVariables false
set_option linter.unusedSimpArgs false
set_option maxRecDepth 100000
set_option maxHeartbeats 4000000
namespace Go.Proofs.Ytkcbhdjhbnnlgaa
open Go Go.RowKit Go.Proofs.Ytkcbhdjhbnnlgaa.Abs
variable {W0 : World} {σ : List Blk}
def picY (ys : List (List Int)) : List Int := ys.foldl (fun P x => madeK P (pSet x) (pInk x) 36) z36
def ordL (xs : List (List Int)) (ord : List Int) : List (List Int) := ord.map fun k => xs.getD k.toNat []
theorem xget {xs : List (List Int)} {k : Int} (h : 0 ≤ k ∧ k < (xs.length : Int)) : xs[k.toNat]? = some (xs.getD k.toNat []) := by
  have hlt : k.toNat < xs.length := by omega
  rw [List.getD_eq_getElem?_getD, List.getElem?_eq_getElem hlt]; rfl
end Go.Proofs.Ytkcbhdjhbnnlgaa
end

section
/- Contracts: lists in order; blocks that grow. -/
set_option linter.unusedVariables false
set_option linter.unusedSimpArgs false
set_option maxRecDepth 100000
set_option maxHeartbeats 4000000
namespace Go.Proofs.Ytkcbhdjhbnnlgaa
open Go Go.RowKit Go.Proofs.Ytkcbhdjhbnnlgaa.Abs
variable {W0 : World} {σ : List Blk}
theorem getl {σ : List Blk} {B : Blk} : (σ ++ [B])[σ.length]? = some B := by simp
theorem set_last {σ : List Blk} {B B' : Blk} : (σ ++ [B]).set σ.length B' = σ ++ [B'] := by
  rw [List.set_append_right _ _ (Nat.le_refl _), Nat.sub_self]; rfl
theorem getx1 {σ τ : List Blk} {b : Nat} {B : Blk} (h : σ[b]? = some B) : (σ ++ τ)[b]? = some B := by
  rw [List.getElem?_append_left (getElem?_lt h)]; exact h
/-! lists before others -/
def lexLt : List Int → List Int → Bool
  | [], [] => false
  | [], _ :: _ => true
  | _ :: _, [] => false
  | x :: a, y :: b => if x = y then lexLt a b else decide (x < y)
def sooner (a b : List Int) : Bool := if a.length = b.length then lexLt a b else decide (a.length < b.length)
/-! the first one of the shortest -/
section
variable (M : Nat → Bool) (s : Nat → List Int) (pl : List Int)
def bestS : Nat → List Int
  | 0 => pl
  | c + 1 => if M c && sooner (s c) (bestS c) then s c else bestS c
def takeI (o : Option (List Int)) (x : List Int) : Bool := match o with
  | none => true
  | some b => sooner x b
def bestI : Nat → Option (List Int)
  | 0 => none
  | c + 1 => if M c && takeI (bestI c) (s c) then some (s c) else bestI c
end
abbrev plainL (n : Nat) : List Int := selN (fun _ => true) n
end Go.Proofs.Ytkcbhdjhbnnlgaa
end

section
/- Contracts: choices read from bytes. -/
set_option linter.unusedVariables false
set_option linter.unusedSimpArgs false
set_option maxRecDepth 100000
set_option maxHeartbeats 4000000
namespace Go.Proofs.Ytkcbhdjhbnnlgaa
open Go Go.RowKit Go.Proofs.Ytkcbhdjhbnnlgaa.Abs
variable {W0 : World} {σ : List Blk}
/-- bytes in memory -/
abbrev enB (x : Int) : List Value := [.int .u8 x]
/-- a cursor over bytes -/
abbrev CurB (v : Value) (at' : Nat) (sd : Int) : Blk := ⟨[.lit v, I at', U sd], 0, 92, 0, false, false⟩
/-- a cursor lies at b, and has gone so far at most -/
def CurAt (b : Nat) (v : Value) (n : Nat) (R : List Blk) : Prop := ∃ (a : Nat) (sd : Int), a ≤ n ∧ R[b]? = some (CurB v a sd)
/-- all blocks but one are as they were -/
def Keeps (b : Nat) (σ R : List Blk) : Prop := σ.length ≤ R.length ∧ ∀ (j : Nat) (B : Blk), j ≠ b → σ[j]? = some B → R[j]? = some B
theorem Keeps.refl {b : Nat} {σ : List Blk} : Keeps b σ σ := ⟨Nat.le_refl _, fun _ _ _ h => h⟩
theorem Keeps.trans {b : Nat} {σ R S : List Blk} (h : Keeps b σ R) (k : Keeps b R S) : Keeps b σ S := ⟨Nat.le_trans h.1 k.1, fun j B hj hB => k.2 j B hj (h.2 j B hj hB)⟩
theorem Keeps.set {b : Nat} {σ : List Blk} {X : Blk} : Keeps b σ (σ.set b X) := ⟨by rw [List.length_set]; exact Nat.le_refl _, fun j B hj hB => by rw [List.getElem?_set_ne (Ne.symm hj)]; exact hB⟩
theorem Keeps.app {b : Nat} {σ τ : List Blk} : Keeps b σ (σ ++ τ) := ⟨by rw [List.length_append]; omega, fun j B hj hB => getx1 hB⟩
theorem Keeps.setT {b : Nat} {σ R : List Blk} {X : Blk} (h : Keeps b σ R) : Keeps b σ (R.set b X) := h.trans .set
/-- the bytes that a cursor reads -/
structure Code (W0 : World) (v : Value) (xs : List Int) : Prop where
  sli : Sli W0 [] 1 enB (.lit v) xs
  rng : ∀ x ∈ xs, 0 ≤ x ∧ x < 256
  len : xs.length ≤ 1048576
theorem and255 (y : Int) : 0 ≤ bAnd .u64 y 255 ∧ bAnd .u64 y 255 < 256 := by
  have h : ∃ n : Nat, bAnd .u64 y 255 = IntKind.u64.wrap (n : Int) ∧ n < 256 := by
    refine ⟨(BitVec.ofInt 64 y &&& BitVec.ofInt 64 255).toNat, rfl, ?_⟩
    rw [BitVec.toNat_and]
    exact Nat.lt_of_le_of_lt Nat.and_le_right (by decide)
  obtain ⟨n, h1, h2⟩ := h
  rw [h1, wrap_u64 _ (by omega)]; omega
theorem wrap255 (y : Int) : IntKind.i64.wrap (bAnd .u64 y 255) = bAnd .u64 y 255 := by have := and255 y; exact wrap_i64 _ (by omega) (by omega)
theorem d_next (b n : Nat) (v : Value) (xs : List Int) (hcd : Code W0 v xs) (hc : CurAt b v n σ) (hn : n < 1000000000) (K : Cont) (h0 : ∀ x R, 0 ≤ x → x < 256 → CurAt b v (n + 1) R → Keeps b σ R → K (I x) R) : ACall Try.prog W0 112 [.ptr b 0 0] σ K := by
  obtain ⟨a, sd, ha, hB⟩ := hc
  refine by112 (Nat.le_of_ble_eq_true rfl) ?_
  obtain ⟨o, m, cap, hv, hm, hmc, hcm, hel⟩ := sli_form hcd.sli
  cases hv
  subst hm
  have c1 : IntKind.i64.wrap ((a : Int) + 1) = ((a + 1 : Nat) : Int) := by rw [wrap_i64 _ (by omega) (by omega)]; rfl
  by_cases hlt : a < xs.length
  · obtain ⟨ad, rfl, hb, hxx⟩ := hel 0 xs[0] (List.getElem?_eq_getElem (by omega))
    have hxi : xs[a]? = some xs[a] := List.getElem?_eq_getElem hlt
    have hr := hcd.rng xs[a] (List.getElem_mem hlt)
    generalize xs[a] = x at hxi hr
    have hld := fun C h => ldIn (W0 := W0) (s := 1) (enc := enB) hb hxx (k := a) hxi rfl (C := C) h
    have cx : IntKind.i64.wrap x = x := wrap_i64 _ (by omega) (by omega)
    repeat' ((conv => whnf); first | (refine Exists.intro ([] : List Nat) ?_) | (refine And.intro rfl ?_) | (refine And.intro (by decide +kernel) ?_) | (refine And.intro trivial ?_) | (refine fS_mk ?_) | (refine And.intro ⟨_, hB, rfl⟩ ?_) | (refine Exists.intro _ (And.intro (hB) (And.intro rfl (And.intro (Nat.le_of_ble_eq_true rfl) ?_)))) | (refine Exists.intro _ (And.intro (hB) (And.intro rfl (And.intro rfl (And.intro (Nat.le_of_ble_eq_true rfl) ?_))))) | (refine And.intro ⟨_, get_set hB, rfl⟩ ?_) | (refine Exists.intro _ (And.intro (get_set hB) (And.intro rfl (And.intro (Nat.le_of_ble_eq_true rfl) ?_)))) | (refine Exists.intro _ (And.intro (get_set hB) (And.intro rfl (And.intro rfl (And.intro (Nat.le_of_ble_eq_true rfl) ?_))))) | (refine And.intro ⟨_, get_set (get_set hB), rfl⟩ ?_) | (refine Exists.intro _ (And.intro (get_set (get_set hB)) (And.intro rfl (And.intro (Nat.le_of_ble_eq_true rfl) ?_)))) | (refine Exists.intro _ (And.intro (get_set (get_set hB)) (And.intro rfl (And.intro rfl (And.intro (Nat.le_of_ble_eq_true rfl) ?_))))) | (refine hld _ ?_) | (refine Exists.intro _ (And.intro rfl (And.intro rfl (And.intro (Nat.le_of_ble_eq_true rfl) ?_)))) | (refine Exists.intro _ (And.intro rfl (And.intro rfl (And.intro rfl (And.intro (Nat.le_of_ble_eq_true rfl) ?_))))) | (refine And.intro (Exists.intro _ (And.intro rfl rfl)) ?_) | (exact fun hW => absurd hW (by decide +kernel)) | (intro hW; (try simp only [Bool.not_true, Bool.not_false, Bool.not_eq_true', Bool.not_eq_false', decide_eq_true_eq, decide_eq_false_iff_not, reduceCtorEq, Bool.true_eq_false, Bool.false_eq_true, mk_size, List.size_toArray, ByteArray.size_append, ByteArray.size_extract, List.length_cons, List.length_nil, ba_get, ba_empty, Int.toNat_natCast] at hW)) | (refine And.intro (?_ : _ → _) (?_ : _ → _)) | (refine FinR.drop 0 (Nat.zero_le _) (Closed.zero _) rfl ?_) | (refine FinR.keep ?_) | (refine And.intro (det3_agg rfl) ?_) | (refine fL_mk ?_) | (refine And.intro (by (try simp only [mk_size, List.size_toArray, ByteArray.size_append, ByteArray.size_extract, List.length_cons, List.length_nil]); omega) ?_) | (refine And.intro (by (try simp only [mk_size, List.size_toArray, ByteArray.size_append, ByteArray.size_extract, List.length_cons, List.length_nil, wrap64_eq]); omega) ?_) | fail)
    all_goals first
      | (exfalso; omega)
      | (refine h0 _ _ ?_ ?_ ⟨a + 1, _, by omega, (get_set (get_set hB)).trans (show some (⟨[.lit _, I (IntKind.i64.wrap ((a : Int) + 1)), U _], 0, _, 0, false, false⟩ : Blk) = _ from by rw [c1])⟩ (Keeps.set.setT)
         all_goals first
           | (rw [cx]; omega)
           | (show 0 ≤ IntKind.i64.wrap (bAnd _ _ _); rw [wrap255]; exact (and255 _).1)
           | (show IntKind.i64.wrap (bAnd _ _ _) < 256; rw [wrap255]; exact (and255 _).2)
           | (show (0 : Int) ≤ 0; decide)
           | (show (0 : Int) < 256; decide))
      | skip
  · skip
    repeat' ((conv => whnf); first | (refine Exists.intro ([] : List Nat) ?_) | (refine And.intro rfl ?_) | (refine And.intro (by decide +kernel) ?_) | (refine And.intro trivial ?_) | (refine fS_mk ?_) | (refine And.intro ⟨_, hB, rfl⟩ ?_) | (refine Exists.intro _ (And.intro (hB) (And.intro rfl (And.intro (Nat.le_of_ble_eq_true rfl) ?_)))) | (refine Exists.intro _ (And.intro (hB) (And.intro rfl (And.intro rfl (And.intro (Nat.le_of_ble_eq_true rfl) ?_))))) | (refine And.intro ⟨_, get_set hB, rfl⟩ ?_) | (refine Exists.intro _ (And.intro (get_set hB) (And.intro rfl (And.intro (Nat.le_of_ble_eq_true rfl) ?_)))) | (refine Exists.intro _ (And.intro (get_set hB) (And.intro rfl (And.intro rfl (And.intro (Nat.le_of_ble_eq_true rfl) ?_))))) | (refine And.intro ⟨_, get_set (get_set hB), rfl⟩ ?_) | (refine Exists.intro _ (And.intro (get_set (get_set hB)) (And.intro rfl (And.intro (Nat.le_of_ble_eq_true rfl) ?_)))) | (refine Exists.intro _ (And.intro (get_set (get_set hB)) (And.intro rfl (And.intro rfl (And.intro (Nat.le_of_ble_eq_true rfl) ?_))))) | (refine Exists.intro _ (And.intro rfl (And.intro rfl (And.intro (Nat.le_of_ble_eq_true rfl) ?_)))) | (refine Exists.intro _ (And.intro rfl (And.intro rfl (And.intro rfl (And.intro (Nat.le_of_ble_eq_true rfl) ?_))))) | (refine And.intro (Exists.intro _ (And.intro rfl rfl)) ?_) | (exact fun hW => absurd hW (by decide +kernel)) | (intro hW; (try simp only [Bool.not_true, Bool.not_false, Bool.not_eq_true', Bool.not_eq_false', decide_eq_true_eq, decide_eq_false_iff_not, reduceCtorEq, Bool.true_eq_false, Bool.false_eq_true, mk_size, List.size_toArray, ByteArray.size_append, ByteArray.size_extract, List.length_cons, List.length_nil, ba_get, ba_empty, Int.toNat_natCast] at hW)) | (refine And.intro (?_ : _ → _) (?_ : _ → _)) | (refine FinR.drop 0 (Nat.zero_le _) (Closed.zero _) rfl ?_) | (refine FinR.keep ?_) | (refine And.intro (det3_agg rfl) ?_) | (refine fL_mk ?_) | (refine And.intro (by (try simp only [mk_size, List.size_toArray, ByteArray.size_append, ByteArray.size_extract, List.length_cons, List.length_nil]); omega) ?_) | (refine And.intro (by (try simp only [mk_size, List.size_toArray, ByteArray.size_append, ByteArray.size_extract, List.length_cons, List.length_nil, wrap64_eq]); omega) ?_) | fail)
    all_goals first
      | (exfalso; omega)
      | (refine h0 _ _ ?_ ?_ ⟨a + 1, _, by omega, (get_set (get_set hB)).trans (show some (⟨[.lit _, I (IntKind.i64.wrap ((a : Int) + 1)), U _], 0, _, 0, false, false⟩ : Blk) = _ from by rw [c1])⟩ (Keeps.set.setT)
         all_goals first
           | (rw [cx]; omega)
           | (show 0 ≤ IntKind.i64.wrap (bAnd _ _ _); rw [wrap255]; exact (and255 _).1)
           | (show IntKind.i64.wrap (bAnd _ _ _) < 256; rw [wrap255]; exact (and255 _).2)
           | (show (0 : Int) ≤ 0; decide)
           | (show (0 : Int) < 256; decide))
      | skip
end Go.Proofs.Ytkcbhdjhbnnlgaa
end

section
/- From a contract to the statement: bytes that came in. -/
set_option linter.unusedVariables false
set_option linter.unusedSimpArgs false
namespace Go.Proofs.Ytkcbhdjhbnnlgaa
open Go Go.RowKit Go.Proofs.Ytkcbhdjhbnnlgaa.Abs Go.ChangeShapes Go.WideShapes
section
variable {H : Type} {enc : TypeId × Value → H} {P : Program} {w : World} {base : Nat} {spare : Nat → Bool} {held : Bool}
theorem sli_argB {t e : TypeId} {v : Value} {d : DataW H} {ps : List MemPlace} {b0 : Nat} (ht : P.underlying t = some (.slice e)) (he : P.underlying e = some (.int .u8)) (hs : P.cellsOf e = 1) (hv : Value.okWide P w .any b0 t v)
    (h : DataW.Trod enc P w base spare held t v d ps) : ∃ xs : List Int, Sli w [] 1 enB (.lit v) xs ∧ (∀ x ∈ xs, 0 ≤ x ∧ x < 256) ∧ xs.length ≤ maxLen := by
  obtain ⟨fuel, h⟩ := h
  have hc : v.cells.toList = [v] := by
    unfold Value.okWide at hv
    rw [ht] at hv
    unfold Cell.okWide at hv
    rw [ht] at hv
    unfold Cell.ok at hv
    rw [ht] at hv
    cases v <;> first | rfl | exact hv.elim
  rw [hc] at h
  generalize (d, ps) = z at h
  rcases Deep.open_slice ht h with ⟨hc, _⟩ | ⟨a, len, cap, m, n, D, Pl, hc, hb, hl, hm, hmm, rfl, hx⟩
  · cases hc
    exact ⟨[], .nil, (fun x hx => by cases hx), Nat.zero_le _⟩
  · cases hc
    have hlm : len ≤ m := by rw [hmm]; split <;> omega
    have hblk : a.block < w.heap.size := by
      unfold Value.okWide at hv
      rw [ht] at hv
      unfold Cell.okWide at hv
      rw [ht] at hv
      unfold Cell.ok at hv
      rw [ht] at hv
      obtain ⟨_, _, _, _, row, cells, hsh, _⟩ := hv
      exact shape_lt hsh
    have hel : ∀ i, i < len → ∃ y : Int, (0 ≤ y ∧ y < 256) ∧ w.cell? ((a.add (i * 1)).add 0) = some (.int .u8 y) := by
      intro i hi
      obtain ⟨cs', h1, h2⟩ := hx i (by omega)
      rw [hs] at h1
      obtain ⟨_, hlen, hcell⟩ := World.cells?_some h1
      obtain ⟨y, rfl, -, hw⟩ := DataW.trod_int he h2
      simp only [Lit.wf, Bool.and_eq_true, decide_eq_true_eq] at hw
      exact ⟨y, ⟨hw.1, Int.lt_of_le_of_lt hw.2 (by decide)⟩, by rw [hcell 0 (by decide)]; rfl⟩
    obtain ⟨f, hf⟩ := Deep.choose_lt (α := Int) hel
    refine ⟨(List.range len).map f, .inn a len cap _ (by simp) hl hm hblk ?_, ?_, ?_⟩
    · intro i x hi j v hj
      rw [List.getElem?_map, Option.map_eq_some_iff] at hi
      obtain ⟨i', hi', rfl⟩ := hi
      have hi2 : i' = i ∧ i < len := by
        have h5 := getElem?_lt hi'
        rw [List.length_range] at h5
        rw [List.getElem?_range h5] at hi'
        exact ⟨(Option.some.inj hi').symm, h5⟩
      obtain ⟨rfl, h6⟩ := hi2
      have hj0 : j = 0 := by have := getElem?_lt hj; simpa using this
      subst hj0
      simp at hj; subst hj
      exact ⟨(hf i' h6).2, rfl⟩
    · intro x hx'
      obtain ⟨i, hi, rfl⟩ := List.mem_map.1 hx'
      exact (hf i (List.mem_range.1 hi)).1
    · simp; omega
end
end Go.Proofs.Ytkcbhdjhbnnlgaa
end

section
/- Contracts: numbers drawn from bytes. -/
set_option linter.unusedVariables false
set_option linter.unusedSimpArgs false
set_option maxRecDepth 100000
set_option maxHeartbeats 4000000
namespace Go.Proofs.Ytkcbhdjhbnnlgaa
open Go Go.RowKit Go.Proofs.Ytkcbhdjhbnnlgaa.Abs
variable {W0 : World} {σ : List Blk}
theorem CurAt.mono {b : Nat} {v : Value} {n m : Nat} {R : List Blk} (h : CurAt b v n R) (hm : n ≤ m) : CurAt b v m R := by
  obtain ⟨a, sd, h1, h2⟩ := h
  exact ⟨a, sd, by omega, h2⟩
theorem CurAt.app {b : Nat} {v : Value} {n : Nat} {R τ : List Blk} (h : CurAt b v n R) : CurAt b v n (R ++ τ) := by
  obtain ⟨a, sd, h1, h2⟩ := h
  exact ⟨a, sd, h1, getx1 h2⟩
theorem CurAt.lt {b : Nat} {v : Value} {n : Nat} {R : List Blk} (h : CurAt b v n R) : b < R.length := by
  obtain ⟨a, sd, h1, h2⟩ := h
  exact getElem?_lt h2
theorem CurAt.set {b i : Nat} {v : Value} {n : Nat} {R : List Blk} {X : Blk} (h : CurAt b v n R) (hi : i ≠ b) : CurAt b v n (R.set i X) := by
  obtain ⟨a, sd, h1, h2⟩ := h
  exact ⟨a, sd, h1, by rw [List.getElem?_set_ne hi]; exact h2⟩
theorem Keeps.snoc {b : Nat} {σ R : List Blk} {X : Blk} (h : Keeps b (σ ++ [X]) R) : Keeps b σ R := Keeps.app.trans h
theorem ldC {cs : List AV} {i off : Nat} {a : AV} (h : cs[i]? = some a) (ho : off = i) : mkAV false ((cs.drop off).take 1) = a := by
  subst ho
  have hlt := getElem?_lt h
  rw [List.drop_eq_getElem_cons hlt]
  rw [List.getElem?_eq_getElem hlt] at h
  cases h; rfl
theorem d_pick (m : Int) (b n : Nat) (v : Value) (xs : List Int) (hcd : Code W0 v xs) (hc : CurAt b v n σ) (hn : n < 900000000) (hm : m ≤ 65536) (K : Cont) (h0 : ∀ x R, 0 ≤ x → (x < m ∨ x = 0 ∧ m ≤ 1) → CurAt b v (n + 2) R → Keeps b σ R → K (I x) R) : ACall Try.prog W0 71 [.ptr b 0 0, I m] σ K := by
  refine by71 (Nat.le_of_ble_eq_true rfl) ?_
  by_cases h1 : m ≤ 1
  · skip
    repeat' ((conv => whnf); first | (refine Exists.intro ([] : List Nat) ?_) | (refine And.intro rfl ?_) | (refine And.intro (by decide +kernel) ?_) | (refine And.intro trivial ?_) | (refine Exists.intro _ (And.intro rfl (And.intro rfl (And.intro (Nat.le_of_ble_eq_true rfl) ?_)))) | (refine Exists.intro _ (And.intro rfl (And.intro rfl (And.intro rfl (And.intro (Nat.le_of_ble_eq_true rfl) ?_))))) | (refine And.intro (Exists.intro _ (And.intro rfl rfl)) ?_) | (exact fun hW => absurd hW (by decide +kernel)) | (intro hW; (try simp only [Bool.not_true, Bool.not_false, Bool.not_eq_true', Bool.not_eq_false', decide_eq_true_eq, decide_eq_false_iff_not, reduceCtorEq, Bool.true_eq_false, Bool.false_eq_true, mk_size, List.size_toArray, ByteArray.size_append, ByteArray.size_extract, List.length_cons, List.length_nil, ba_get, ba_empty, Int.toNat_natCast] at hW)) | (refine And.intro (?_ : _ → _) (?_ : _ → _)) | (refine FinR.drop 0 (Nat.zero_le _) (Closed.zero _) rfl ?_) | (refine FinR.keep ?_) | (refine And.intro (det3_agg rfl) ?_) | (refine fL_mk ?_) | (refine And.intro (by (try simp only [mk_size, List.size_toArray, ByteArray.size_append, ByteArray.size_extract, List.length_cons, List.length_nil]); omega) ?_) | (refine And.intro (by (try simp only [mk_size, List.size_toArray, ByteArray.size_append, ByteArray.size_extract, List.length_cons, List.length_nil, wrap64_eq]); omega) ?_) | fail)
    all_goals first | (exfalso; omega) | exact h0 _ _ (Int.le_refl _) (.inr ⟨rfl, h1⟩) (hc.mono (by omega)) .refl | skip
  · have hmod : ∀ x : Int, 0 ≤ x → 0 ≤ x.tmod m ∧ x.tmod m < m := fun x hx => by
      rw [Int.tmod_eq_emod_of_nonneg hx]
      exact ⟨Int.emod_nonneg _ (by omega), Int.emod_lt_of_pos _ (by omega)⟩
    have hm0 : m ≠ 0 := by omega
    by_cases h2 : m ≤ 200
    · skip
      repeat' ((conv => whnf); first | (refine And.intro hm0 ?_) | (refine Exists.intro ([] : List Nat) ?_) | (refine And.intro rfl ?_) | (refine And.intro (by decide +kernel) ?_) | (refine And.intro trivial ?_) | (refine d_next (hcd := hcd) (hc := hc) (hn := by omega) (h0 := fun x R hx1 hx2 hc1 hk1 => ?_) ..; have hx3 := hmod x hx1) | (refine Exists.intro _ (And.intro rfl (And.intro rfl (And.intro (Nat.le_of_ble_eq_true rfl) ?_)))) | (refine Exists.intro _ (And.intro rfl (And.intro rfl (And.intro rfl (And.intro (Nat.le_of_ble_eq_true rfl) ?_))))) | (refine And.intro (Exists.intro _ (And.intro rfl rfl)) ?_) | (exact fun hW => absurd hW (by decide +kernel)) | (intro hW; (try simp only [Bool.not_true, Bool.not_false, Bool.not_eq_true', Bool.not_eq_false', decide_eq_true_eq, decide_eq_false_iff_not, reduceCtorEq, Bool.true_eq_false, Bool.false_eq_true, mk_size, List.size_toArray, ByteArray.size_append, ByteArray.size_extract, List.length_cons, List.length_nil, ba_get, ba_empty, Int.toNat_natCast] at hW)) | (refine And.intro (?_ : _ → _) (?_ : _ → _)) | (refine FinR.drop 0 (Nat.zero_le _) (Closed.zero _) rfl ?_) | (refine FinR.keep ?_) | (refine And.intro (det3_agg rfl) ?_) | (refine fL_mk ?_) | (refine And.intro (by (try simp only [mk_size, List.size_toArray, ByteArray.size_append, ByteArray.size_extract, List.length_cons, List.length_nil]); omega) ?_) | (refine And.intro (by (try simp only [mk_size, List.size_toArray, ByteArray.size_append, ByteArray.size_extract, List.length_cons, List.length_nil, wrap64_eq]); omega) ?_) | fail)
      all_goals first | (exfalso; omega) | exact h0 _ _ hx3.1 (.inl hx3.2) (hc1.mono (by omega)) hk1 | skip
    · skip
      repeat' ((conv => whnf); first | (refine And.intro hm0 ?_) | (refine Exists.intro ([] : List Nat) ?_) | (refine And.intro rfl ?_) | (refine And.intro (by decide +kernel) ?_) | (refine And.intro trivial ?_) | (refine d_next (hcd := hcd) (hc := hc1) (hn := by omega) (h0 := fun y R2 hy1 hy2 hc2 hk2 => ?_) ..; have e1 : IntKind.i64.wrap (IntKind.i64.wrap (x * 256) + y) = x * 256 + y := by rw [wrap_i64 (x * 256) (by omega) (by omega), wrap_i64 _ (by omega) (by omega)]) | (refine d_next (hcd := hcd) (hc := hc) (hn := by omega) (h0 := fun x R hx1 hx2 hc1 hk1 => ?_) ..) | (refine Exists.intro _ (And.intro rfl (And.intro rfl (And.intro (Nat.le_of_ble_eq_true rfl) ?_)))) | (refine Exists.intro _ (And.intro rfl (And.intro rfl (And.intro rfl (And.intro (Nat.le_of_ble_eq_true rfl) ?_))))) | (refine And.intro (Exists.intro _ (And.intro rfl rfl)) ?_) | (exact fun hW => absurd hW (by decide +kernel)) | (intro hW; (try simp only [Bool.not_true, Bool.not_false, Bool.not_eq_true', Bool.not_eq_false', decide_eq_true_eq, decide_eq_false_iff_not, reduceCtorEq, Bool.true_eq_false, Bool.false_eq_true, mk_size, List.size_toArray, ByteArray.size_append, ByteArray.size_extract, List.length_cons, List.length_nil, ba_get, ba_empty, Int.toNat_natCast] at hW)) | (refine And.intro (?_ : _ → _) (?_ : _ → _)) | (refine FinR.drop 0 (Nat.zero_le _) (Closed.zero _) rfl ?_) | (refine FinR.keep ?_) | (refine And.intro (det3_agg rfl) ?_) | (refine fL_mk ?_) | (refine And.intro (by (try simp only [mk_size, List.size_toArray, ByteArray.size_append, ByteArray.size_extract, List.length_cons, List.length_nil]); omega) ?_) | (refine And.intro (by (try simp only [mk_size, List.size_toArray, ByteArray.size_append, ByteArray.size_extract, List.length_cons, List.length_nil, wrap64_eq]); omega) ?_) | fail)
      all_goals first | (exfalso; omega) | (refine h0 _ _ ?_ (.inl ?_) hc2 (hk1.trans hk2) <;> rw [e1] <;> first | exact (hmod _ (by omega)).1 | exact (hmod _ (by omega)).2) | skip
theorem d_one (m : Int) (b n : Nat) (v : Value) (xs : List Int) (hcd : Code W0 v xs) (hc : CurAt b v n σ) (hn : n < 900000000) (hm : m ≤ 65536) (K : Cont) (h0 : ∀ x R, CurAt b v (n + 2) R → Keeps b σ R → K (Bo x) R) : ACall Try.prog W0 72 [.ptr b 0 0, I m] σ K := by
  refine by72 (Nat.le_of_ble_eq_true rfl) ?_
  repeat' ((conv => whnf); first | (refine Exists.intro ([] : List Nat) ?_) | (refine And.intro rfl ?_) | (refine And.intro (by decide +kernel) ?_) | (refine And.intro trivial ?_) | (refine d_pick (hcd := hcd) (hc := hc) (hn := hn) (hm := hm) (h0 := fun x R hx1 hx2 hc1 hk1 => ?_) ..) | (refine Exists.intro _ (And.intro rfl (And.intro rfl (And.intro (Nat.le_of_ble_eq_true rfl) ?_)))) | (refine Exists.intro _ (And.intro rfl (And.intro rfl (And.intro rfl (And.intro (Nat.le_of_ble_eq_true rfl) ?_))))) | (refine And.intro (Exists.intro _ (And.intro rfl rfl)) ?_) | (exact fun hW => absurd hW (by decide +kernel)) | (intro hW; (try simp only [Bool.not_true, Bool.not_false, Bool.not_eq_true', Bool.not_eq_false', decide_eq_true_eq, decide_eq_false_iff_not, reduceCtorEq, Bool.true_eq_false, Bool.false_eq_true, mk_size, List.size_toArray, ByteArray.size_append, ByteArray.size_extract, List.length_cons, List.length_nil, ba_get, ba_empty, Int.toNat_natCast] at hW)) | (refine And.intro (?_ : _ → _) (?_ : _ → _)) | (refine FinR.drop 0 (Nat.zero_le _) (Closed.zero _) rfl ?_) | (refine FinR.keep ?_) | (refine And.intro (det3_agg rfl) ?_) | (refine fL_mk ?_) | (refine And.intro (by (try simp only [mk_size, List.size_toArray, ByteArray.size_append, ByteArray.size_extract, List.length_cons, List.length_nil]); omega) ?_) | (refine And.intro (by (try simp only [mk_size, List.size_toArray, ByteArray.size_append, ByteArray.size_extract, List.length_cons, List.length_nil, wrap64_eq]); omega) ?_) | fail)
  all_goals first | exact h0 _ _ hc1 hk1 | skip
theorem d_among (bl ver cap : Nat) (ys : List Int) (y0 : Int) (r m' : Bool) (e : TypeId) (hL : σ[bl]? = some ⟨(y0 :: ys).map I, ver, e, 1, r, m'⟩) (hys : ys.length ≤ 1000) (b n : Nat) (v : Value) (xs : List Int) (hcd : Code W0 v xs) (hc : CurAt b v n σ) (hbl : bl ≠ b) (hn : n < 900000000) (K : Cont) (h0 : ∀ x R, x ∈ y0 :: ys → CurAt b v (n + 2) R → Keeps b σ R → K (I x) R) : ACall Try.prog W0 73 [.ptr b 0 0, .sl bl ver 0 (ys.length + 1) cap] σ K := by
  refine by73 (Nat.le_of_ble_eq_true rfl) ?_
  repeat' ((conv => whnf); first | (refine Exists.intro ([] : List Nat) ?_) | (refine And.intro rfl ?_) | (refine And.intro (by decide +kernel) ?_) | (refine And.intro trivial ?_) | (refine And.intro ⟨_, hL, rfl⟩ ?_) | (refine d_pick (m := ((ys.length + 1 : Nat) : Int)) (hcd := hcd) (hc := hc) (hn := hn) (hm := by omega) (h0 := fun x R hx1 hx2 hc1 hk1 => ?_) ..; have hL := hk1.2 _ _ hbl hL) | (refine Exists.intro _ (And.intro rfl (And.intro rfl (And.intro (Nat.le_of_ble_eq_true rfl) ?_)))) | (refine Exists.intro _ (And.intro rfl (And.intro rfl (And.intro rfl (And.intro (Nat.le_of_ble_eq_true rfl) ?_))))) | (refine And.intro (Exists.intro _ (And.intro rfl rfl)) ?_) | (exact fun hW => absurd hW (by decide +kernel)) | (intro hW; (try simp only [Bool.not_true, Bool.not_false, Bool.not_eq_true', Bool.not_eq_false', decide_eq_true_eq, decide_eq_false_iff_not, reduceCtorEq, Bool.true_eq_false, Bool.false_eq_true, mk_size, List.size_toArray, ByteArray.size_append, ByteArray.size_extract, List.length_cons, List.length_nil, ba_get, ba_empty, Int.toNat_natCast] at hW)) | (refine And.intro (?_ : _ → _) (?_ : _ → _)) | (refine FinR.drop 0 (Nat.zero_le _) (Closed.zero _) rfl ?_) | (refine FinR.keep ?_) | (refine And.intro (det3_agg rfl) ?_) | (refine fL_mk ?_) | (refine And.intro (by (try simp only [mk_size, List.size_toArray, ByteArray.size_append, ByteArray.size_extract, List.length_cons, List.length_nil]); omega) ?_) | (refine And.intro (by (try simp only [mk_size, List.size_toArray, ByteArray.size_append, ByteArray.size_extract, List.length_cons, List.length_nil, wrap64_eq]); omega) ?_) | fail)
  obtain ⟨i, rfl⟩ : ∃ i : Nat, x = i := ⟨x.toNat, by omega⟩
  have hi : i < (y0 :: ys).length := by rw [List.length_cons]; omega
  have hyi : (y0 :: ys)[i]? = some (y0 :: ys)[i] := List.getElem?_eq_getElem hi
  have hmem : (y0 :: ys)[i] ∈ y0 :: ys := List.getElem_mem hi
  generalize (y0 :: ys)[i] = y at hyi hmem
  have hci : ((y0 :: ys).map I)[i]? = some (I y) := by rw [List.getElem?_map, hyi]; rfl
  have hoff : 0 + ((i : Nat) : Int).toNat * 1 = i := by rw [Int.toNat_natCast]; omega
  refine Exists.intro _ (And.intro hL (And.intro rfl (And.intro (by show _ ≤ ((y0 :: ys).map I).length; rw [List.length_map, hoff]; omega) ?_)))
  rw [ldC hci hoff]
  repeat' ((conv => whnf); first | (refine Exists.intro ([] : List Nat) ?_) | (refine And.intro rfl ?_) | (refine And.intro (by decide +kernel) ?_) | (refine And.intro trivial ?_) | (refine Exists.intro _ (And.intro rfl (And.intro rfl (And.intro (Nat.le_of_ble_eq_true rfl) ?_)))) | (refine Exists.intro _ (And.intro rfl (And.intro rfl (And.intro rfl (And.intro (Nat.le_of_ble_eq_true rfl) ?_))))) | (refine And.intro (Exists.intro _ (And.intro rfl rfl)) ?_) | (exact fun hW => absurd hW (by decide +kernel)) | (intro hW; (try simp only [Bool.not_true, Bool.not_false, Bool.not_eq_true', Bool.not_eq_false', decide_eq_true_eq, decide_eq_false_iff_not, reduceCtorEq, Bool.true_eq_false, Bool.false_eq_true, mk_size, List.size_toArray, ByteArray.size_append, ByteArray.size_extract, List.length_cons, List.length_nil, ba_get, ba_empty, Int.toNat_natCast] at hW)) | (refine And.intro (?_ : _ → _) (?_ : _ → _)) | (refine FinR.drop 0 (Nat.zero_le _) (Closed.zero _) rfl ?_) | (refine FinR.keep ?_) | (refine And.intro (det3_agg rfl) ?_) | (refine fL_mk ?_) | (refine And.intro (by (try simp only [mk_size, List.size_toArray, ByteArray.size_append, ByteArray.size_extract, List.length_cons, List.length_nil]); omega) ?_) | (refine And.intro (by (try simp only [mk_size, List.size_toArray, ByteArray.size_append, ByteArray.size_extract, List.length_cons, List.length_nil, wrap64_eq]); omega) ?_) | fail)
  all_goals first | exact h0 _ _ hmem hc1 hk1 | skip
end Go.Proofs.Ytkcbhdjhbnnlgaa
end

section
/- Contracts: cells, sheets and stamps drawn from bytes. -/
set_option linter.unusedVariables false
set_option linter.unusedSimpArgs false
set_option maxRecDepth 100000
set_option maxHeartbeats 4000000
namespace Go.Proofs.Ytkcbhdjhbnnlgaa
open Go Go.RowKit Go.Proofs.Ytkcbhdjhbnnlgaa.Abs
variable {W0 : World} {σ : List Blk}
theorem Keeps.setO {b i : Nat} {σ R : List Blk} {X : Blk} (h : Keeps b σ R) (hi : σ.length ≤ i) : Keeps b σ (R.set i X) := ⟨by rw [List.length_set]; exact h.1, fun j B hj hB => by rw [List.getElem?_set_ne (by have := getElem?_lt hB; omega)]; exact h.2 j B hj hB⟩
theorem getn {i j : Nat} {S : List Blk} {B X : Blk} (h : S[j]? = some B) (hi : i ≠ j) : (S.set i X)[j]? = some B := by rw [List.getElem?_set_ne hi]; exact h
theorem d_cell (b n : Nat) (v : Value) (xs : List Int) (hcd : Code W0 v xs) (hc : CurAt b v n σ) (hn : n < 800000000) (K : Cont) (h0 : ∀ x y R, CurAt b v (n + 10) R → Keeps b σ R → K (Ce x y) R) : ACall Try.prog W0 58 [.ptr b 0 0] σ K := by
  refine by58 (Nat.le_of_ble_eq_true rfl) ?_
  have hbl := hc.lt
  repeat' ((conv => whnf); first | (refine Exists.intro ([] : List Nat) ?_) | (refine And.intro rfl ?_) | (refine And.intro (by decide +kernel) ?_) | (refine And.intro trivial ?_) | (refine Exists.intro _ (And.intro rfl (And.intro rfl (And.intro (Nat.le_of_ble_eq_true rfl) ?_)))) | (refine Exists.intro _ (And.intro rfl (And.intro rfl (And.intro rfl (And.intro (Nat.le_of_ble_eq_true rfl) ?_))))) | (refine And.intro (Exists.intro _ (And.intro rfl rfl)) ?_) | (exact fun hW => absurd hW (by decide +kernel)) | (intro hW; (try simp only [Bool.not_true, Bool.not_false, Bool.not_eq_true', Bool.not_eq_false', decide_eq_true_eq, decide_eq_false_iff_not, reduceCtorEq, Bool.true_eq_false, Bool.false_eq_true, mk_size, List.size_toArray, ByteArray.size_append, ByteArray.size_extract, List.length_cons, List.length_nil, ba_get, ba_empty, Int.toNat_natCast] at hW)) | (refine And.intro (?_ : _ → _) (?_ : _ → _)) | (refine FinR.drop 0 (Nat.zero_le _) (Closed.zero _) rfl ?_) | (refine FinR.keep ?_) | (refine And.intro (det3_agg rfl) ?_) | (refine fL_mk ?_) | (refine And.intro (by (try simp only [mk_size, List.size_toArray, ByteArray.size_append, ByteArray.size_extract, List.length_cons, List.length_nil]); omega) ?_) | (refine And.intro (by (try simp only [mk_size, List.size_toArray, ByteArray.size_append, ByteArray.size_extract, List.length_cons, List.length_nil, wrap64_eq]); omega) ?_) | fail)
  have hc := hc.app (τ := [⟨[I 0, I 0], 0, 27, 0, false, false⟩])
  have q : (σ ++ [(⟨[I 0, I 0], 0, 27, 0, false, false⟩ : Blk)])[σ.length]? = some ⟨[I 0, I 0], 0, 27, 0, false, false⟩ := getl
  have hk : Keeps b σ (σ ++ [(⟨[I 0, I 0], 0, 27, 0, false, false⟩ : Blk)]) := .app
  repeat' ((conv => whnf); first | (refine Exists.intro ([] : List Nat) ?_) | (refine And.intro rfl ?_) | (refine And.intro (by decide +kernel) ?_) | (refine And.intro trivial ?_) | (refine fS_mk ?_) | (refine d_one (hcd := hcd) (hc := hc) (hn := by omega) (hm := by decide) (h0 := fun w R hc1 hk1 => ?_) ..; have q := hk1.2 _ _ (by omega) q; have hk := hk.trans hk1; have hc := hc1) | (refine d_among (y0 := -1) (ys := [6, 0]) (hL := getl) (hys := by decide) (hcd := hcd) (hc := hc.app) (hbl := by have := hc.lt; omega) (hn := by omega) (h0 := fun x R hxx hc1 hk1 => ?_) ..; have q := hk1.2 _ _ (by omega) (getx1 q); have hk := hk.trans hk1.snoc; have hc := hc1) | (refine d_among (y0 := 6) (ys := [-1, 4611686018427387904]) (hL := getl) (hys := by decide) (hcd := hcd) (hc := hc.app) (hbl := by have := hc.lt; omega) (hn := by omega) (h0 := fun y R hxy hc1 hk1 => ?_) ..; have q := hk1.2 _ _ (by omega) (getx1 q); have hk := hk.trans hk1.snoc; have hc := hc1) | (refine d_pick (m := 6) (hcd := hcd) (hc := hc) (hn := by omega) (hm := by decide) (h0 := fun x R hx hx' hc1 hk1 => ?_) ..; have q := hk1.2 _ _ (by omega) q; have hk := hk.trans hk1; have hc := hc1) | (refine Exists.intro _ (And.intro q (And.intro rfl (And.intro rfl (And.intro (Nat.le_of_ble_eq_true rfl) ?_))))) | (refine Exists.intro _ (And.intro (get_set q) (And.intro rfl (And.intro (Nat.le_of_ble_eq_true rfl) ?_)))) | (refine Exists.intro _ (And.intro rfl (And.intro rfl (And.intro (Nat.le_of_ble_eq_true rfl) ?_)))) | (refine Exists.intro _ (And.intro rfl (And.intro rfl (And.intro rfl (And.intro (Nat.le_of_ble_eq_true rfl) ?_))))) | (refine And.intro (Exists.intro _ (And.intro rfl rfl)) ?_) | (exact fun hW => absurd hW (by decide +kernel)) | (intro hW; (try simp only [Bool.not_true, Bool.not_false, Bool.not_eq_true', Bool.not_eq_false', decide_eq_true_eq, decide_eq_false_iff_not, reduceCtorEq, Bool.true_eq_false, Bool.false_eq_true, mk_size, List.size_toArray, ByteArray.size_append, ByteArray.size_extract, List.length_cons, List.length_nil, ba_get, ba_empty, Int.toNat_natCast] at hW)) | (refine And.intro (?_ : _ → _) (?_ : _ → _)) | (refine FinR.drop 0 (Nat.zero_le _) (Closed.zero _) rfl ?_) | (refine FinR.keep ?_) | (refine And.intro (det3_agg rfl) ?_) | (refine fL_mk ?_) | (refine And.intro (by (try simp only [mk_size, List.size_toArray, ByteArray.size_append, ByteArray.size_extract, List.length_cons, List.length_nil]); omega) ?_) | (refine And.intro (by (try simp only [mk_size, List.size_toArray, ByteArray.size_append, ByteArray.size_extract, List.length_cons, List.length_nil, wrap64_eq]); omega) ?_) | fail)
  all_goals
    refine h0 _ _ _ (CurAt.mono ?_ (m := n + 10) (n := n + 6) (by omega)) ?_
    · repeat' (first | exact hc | refine CurAt.set ?_ (by omega))
    · repeat' (first | exact hk | refine Keeps.setO ?_ (Nat.le_refl _))
end Go.Proofs.Ytkcbhdjhbnnlgaa
end
