import Derived.Test.YtcclhjohpicleaaV3
section
/- Contract: how many cells of a sheet are black. -/
set_option linter.unusedVariables false
set_option linter.unusedSimpArgs false
namespace Go.Proofs.Ytcclhjohpicleaa
open Go Go.RowKit Go.Proofs.Ytcclhjohpicleaa.Abs
variable {W0 : World} {σ : List Blk}
/-- the ones of a row -/
def pcz (r : Int) : Int := (ones 6 r.toNat : Nat)
theorem pcz_step : ∀ r : Nat, r < 64 → ones 6 r = r % 2 + ones 6 (r / 2) ∧ ones 6 r ≤ 6 := by decide +kernel
def frC (fr : Fr) (r acc : Int) : Fr := fun t => if t = 3 then I acc else if t = 5 then I r else if Nat.ble 14 t && Nat.ble t 21 then .junk else fr t
theorem tmod2 (r : Int) (h : 0 ≤ r) : r.tmod 2 = r % 2 := Int.tmod_eq_emod_of_nonneg h
theorem tdiv2 (r : Int) (h : 0 ≤ r) : r.tdiv 2 = r / 2 := Int.tdiv_eq_ediv_of_nonneg h
def innerC : RC := .seq (.seq (.reg [.op (some 14) (.mv (.t 5)), .op (some 15) (.binI .gtr (.t 14) (.v (.lit (.int .i64 (0)))))]) (.cond (.t 15) .skip (.exit 2)))
  (.seq (.block 3 (.reg [.op (some 18) (.mv (.t 3)), .op (some 19) (.mv (.t 5)), .op (some 20) (.binI .rem (.t 19) (.v (.lit (.int .i64 (2))))), .op (some 21) (.binI .add (.t 18) (.t 20)), .op (some 3) (.mv (.t 21))]))
    (.reg [.op (some 16) (.mv (.t 5)), .op (some 17) (.binI .quo (.t 16) (.v (.lit (.int .i64 (2))))), .op (some 5) (.mv (.t 17))]))
theorem body_l2Count {b0 : Nat} {fr : Fr} {σ : List Blk} (r acc : Int) (Q : CPost) (hr0 : 0 ≤ r) (hr : r < 64) (ha0 : 0 ≤ acc) (ha : acc ≤ 1006) (h1 : r = 0 → Q (.exit 2) (upd (upd (frC fr 0 acc) 14 (I 0)) 15 (Bo false)) σ)
    (h2 : 0 < r → ∀ fr', (∀ t, frC fr (r / 2) (acc + r % 2) t = .junk ∨ frC fr (r / 2) (acc + r % 2) t = fr' t) → Q .normal fr' σ) : rW Try.prog W0 b0 innerC (frC fr r acc) σ Q := by
  have e1 : IntKind.i64.wrap (acc + r.tmod 2) = acc + r % 2 := by rw [tmod2 r hr0]; exact wrap_i64 _ (by omega) (by omega)
  have e2 : IntKind.i64.wrap (r.tdiv 2) = r / 2 := by rw [tdiv2 r hr0]; exact wrap_i64 _ (by omega) (by omega)
  by_cases h : r = 0
  · subst h
    repeat' ((conv => whnf); first | (refine Exists.intro ([] : List Nat) ?_) | (refine And.intro rfl ?_) | (refine And.intro (by decide +kernel) ?_) | (refine And.intro trivial ?_) | (refine Exists.intro _ (And.intro rfl (And.intro rfl (And.intro (Nat.le_of_ble_eq_true rfl) ?_)))) | (refine Exists.intro _ (And.intro rfl (And.intro rfl (And.intro rfl (And.intro (Nat.le_of_ble_eq_true rfl) ?_))))) | (refine And.intro (Exists.intro _ (And.intro rfl rfl)) ?_) | (exact fun hW => absurd hW (by decide +kernel)) | (intro hW; (try simp only [Bool.not_true, Bool.not_false, Bool.not_eq_true', Bool.not_eq_false', decide_eq_true_eq, decide_eq_false_iff_not, reduceCtorEq, Bool.true_eq_false, Bool.false_eq_true, mk_size, List.size_toArray, ByteArray.size_append, ByteArray.size_extract, List.length_cons, List.length_nil, ba_get, ba_empty, Int.toNat_natCast] at hW)) | (refine And.intro (?_ : _ → _) (?_ : _ → _)) | (refine FinR.drop 0 (Nat.zero_le _) (Closed.zero _) rfl ?_) | (refine FinR.keep ?_) | (refine And.intro (det3_agg rfl) ?_) | (refine fL_mk ?_) | (refine And.intro (by (try simp only [mk_size, List.size_toArray, ByteArray.size_append, ByteArray.size_extract, List.length_cons, List.length_nil]); omega) ?_) | (refine And.intro (by (try simp only [mk_size, List.size_toArray, ByteArray.size_append, ByteArray.size_extract, List.length_cons, List.length_nil, wrap64_eq]); omega) ?_) | fail)
    exact h1 rfl
  · skip
    repeat' ((conv => whnf); first | (refine Exists.intro ([] : List Nat) ?_) | (refine And.intro rfl ?_) | (refine And.intro (by decide +kernel) ?_) | (refine And.intro trivial ?_) | (refine Exists.intro _ (And.intro rfl (And.intro rfl (And.intro (Nat.le_of_ble_eq_true rfl) ?_)))) | (refine Exists.intro _ (And.intro rfl (And.intro rfl (And.intro rfl (And.intro (Nat.le_of_ble_eq_true rfl) ?_))))) | (refine And.intro (Exists.intro _ (And.intro rfl rfl)) ?_) | (exact fun hW => absurd hW (by decide +kernel)) | (intro hW; (try simp only [Bool.not_true, Bool.not_false, Bool.not_eq_true', Bool.not_eq_false', decide_eq_true_eq, decide_eq_false_iff_not, reduceCtorEq, Bool.true_eq_false, Bool.false_eq_true, mk_size, List.size_toArray, ByteArray.size_append, ByteArray.size_extract, List.length_cons, List.length_nil, ba_get, ba_empty, Int.toNat_natCast] at hW)) | (refine And.intro (?_ : _ → _) (?_ : _ → _)) | (refine FinR.drop 0 (Nat.zero_le _) (Closed.zero _) rfl ?_) | (refine FinR.keep ?_) | (refine And.intro (det3_agg rfl) ?_) | (refine fL_mk ?_) | (refine And.intro (by (try simp only [mk_size, List.size_toArray, ByteArray.size_append, ByteArray.size_extract, List.length_cons, List.length_nil]); omega) ?_) | (refine And.intro (by (try simp only [mk_size, List.size_toArray, ByteArray.size_append, ByteArray.size_extract, List.length_cons, List.length_nil, wrap64_eq]); omega) ?_) | fail)
    · refine h2 (by omega) _ fun t => ?_
      rw [← e1, ← e2]
      simp only [frC, updO, upd]
      by_cases t3 : t = 3
      · subst t3; exact .inr rfl
      · by_cases t5 : t = 5
        · subst t5; exact .inr rfl
        · by_cases tj : (Nat.ble 14 t && Nat.ble t 21) = true
          · simp [t3, t5, tj]
          · have : t ≠ 14 ∧ t ≠ 15 ∧ t ≠ 16 ∧ t ≠ 17 ∧ t ≠ 18 ∧ t ≠ 19 ∧ t ≠ 20 ∧ t ≠ 21 := by
              refine ⟨?_, ?_, ?_, ?_, ?_, ?_, ?_, ?_⟩ <;> (intro e; subst e; exact tj rfl)
            simp [t3, t5, tj, this]
    · omega
theorem inner_l2Count {b0 : Nat} {fr : Fr} {Q : CPost} (acc r : Int) (hr0 : 0 ≤ r) (hr : r < 64) (ha0 : 0 ≤ acc) (ha : acc ≤ 1000) (h3 : fr 3 = I acc) (h5 : fr 5 = I r)
    (hq : Q (.exit 2) (upd (upd (frC fr 0 (acc + pcz r)) 14 (I 0)) 15 (Bo false)) σ) : LoopR b0 (fun fr σ Q => rW Try.prog W0 b0 innerC fr σ Q) fr σ Q := by
  refine LoopR.inv ⟨fun m fr' σ' => ∃ r' acc' : Int, fr' = frC fr r' acc' ∧ σ' = σ ∧ 0 ≤ r' ∧ r' < 64 ∧ m = r'.toNat ∧ 0 ≤ acc' ∧ acc' + pcz r' = acc + pcz r, r.toNat, frC fr r acc, σ, .inl ⟨rfl, fun t => ?_⟩, ⟨r, acc, rfl, rfl, hr0, hr, rfl, ha0, rfl⟩, ?_⟩
  · unfold frC
    split
    · rename_i e; right; rw [e, h3]
    · split
      · rename_i e; right; rw [e, h5]
      · split
        · exact .inl rfl
        · exact .inr rfl
  · rintro m fr' σ' ⟨r', acc', rfl, rfl, k1, k2, rfl, k3, k4⟩
    have hp : pcz r ≤ 6 := by unfold pcz; have := (pcz_step r.toNat (by omega)).2; omega
    have hp' : 0 ≤ pcz r' := by unfold pcz; omega
    refine body_l2Count r' acc' _ k1 k2 k3 (by omega) (fun e => ?_) (fun e fr'' hfr => ?_)
    · subst e
      have : acc' = acc + pcz r := by rw [← k4]; simp [pcz, ones]
      subst this
      exact hq
    · refine ⟨(r' / 2).toNat, frC fr (r' / 2) (acc' + r' % 2), σ', by omega, .inl ⟨rfl, hfr⟩, r' / 2, acc' + r' % 2, rfl, rfl, by omega, by omega, rfl, by omega, ?_⟩
      rw [← k4]
      unfold pcz
      have h1 := (pcz_step r'.toNat (by omega)).1
      rw [show (r' / 2).toNat = r'.toNat / 2 by omega]
      omega
theorem pcz_bd (r : Int) (h0 : 0 ≤ r) (h1 : r < 64) : 0 ≤ pcz r ∧ pcz r ≤ 6 := by
  unfold pcz; have := (pcz_step r.toNat (by omega)).2; omega
set_option maxRecDepth 100000 in
theorem c_l2Count (a b c d e f : Int) (ha : 0 ≤ a ∧ a < 64) (hb : 0 ≤ b ∧ b < 64) (hc : 0 ≤ c ∧ c < 64) (hd : 0 ≤ d ∧ d < 64) (he : 0 ≤ e ∧ e < 64) (hf : 0 ≤ f ∧ f < 64) (K : Cont) (h0 : K (I (0 + pcz a + pcz b + pcz c + pcz d + pcz e + pcz f)) []) : ACall Try.prog W0 61 [Sh a b c d e f] [] K := by
  refine by61 (Nat.le_of_ble_eq_true rfl) ?_
  have pa := pcz_bd a ha.1 ha.2
  have pb := pcz_bd b hb.1 hb.2
  have pc := pcz_bd c hc.1 hc.2
  have pd := pcz_bd d hd.1 hd.2
  have pe := pcz_bd e he.1 he.2
  have pf := pcz_bd f hf.1 hf.2
  repeat' ((conv => whnf); first | (refine Exists.intro ([] : List Nat) ?_) | (refine And.intro rfl ?_) | (refine And.intro (by decide +kernel) ?_) | (refine And.intro trivial ?_) | (refine Exists.intro _ (And.intro rfl (And.intro rfl (And.intro (Nat.le_of_ble_eq_true rfl) ?_)))) | (refine Exists.intro _ (And.intro rfl (And.intro rfl (And.intro rfl (And.intro (Nat.le_of_ble_eq_true rfl) ?_))))) | (refine And.intro (Exists.intro _ (And.intro rfl rfl)) ?_) | (exact fun hW => absurd hW (by decide +kernel)) | (intro hW; (try simp only [Bool.not_true, Bool.not_false, Bool.not_eq_true', Bool.not_eq_false', decide_eq_true_eq, decide_eq_false_iff_not, reduceCtorEq, Bool.true_eq_false, Bool.false_eq_true, mk_size, List.size_toArray, ByteArray.size_append, ByteArray.size_extract, List.length_cons, List.length_nil, ba_get, ba_empty, Int.toNat_natCast] at hW)) | (refine And.intro (?_ : _ → _) (?_ : _ → _)) | (refine FinR.drop 0 (Nat.zero_le _) (Closed.zero _) rfl ?_) | (refine FinR.keep ?_) | (refine And.intro (det3_agg rfl) ?_) | (refine fL_mk ?_) | (refine And.intro (by (try simp only [mk_size, List.size_toArray, ByteArray.size_append, ByteArray.size_extract, List.length_cons, List.length_nil]); omega) ?_) | (refine And.intro (by (try simp only [mk_size, List.size_toArray, ByteArray.size_append, ByteArray.size_extract, List.length_cons, List.length_nil, wrap64_eq]); omega) ?_) | fail)
  refine LoopR.unroll 7 ?_
  repeat' ((conv => whnf); first | (refine Exists.intro ([] : List Nat) ?_) | (refine And.intro rfl ?_) | (refine And.intro (by decide +kernel) ?_) | (refine And.intro trivial ?_) | (refine inner_l2Count _ _ (by omega) (by omega) (by omega) (by omega) rfl rfl ?_) | (refine Exists.intro _ (And.intro rfl (And.intro rfl (And.intro (Nat.le_of_ble_eq_true rfl) ?_)))) | (refine Exists.intro _ (And.intro rfl (And.intro rfl (And.intro rfl (And.intro (Nat.le_of_ble_eq_true rfl) ?_))))) | (refine And.intro (Exists.intro _ (And.intro rfl rfl)) ?_) | (exact fun hW => absurd hW (by decide +kernel)) | (intro hW; (try simp only [Bool.not_true, Bool.not_false, Bool.not_eq_true', Bool.not_eq_false', decide_eq_true_eq, decide_eq_false_iff_not, reduceCtorEq, Bool.true_eq_false, Bool.false_eq_true, mk_size, List.size_toArray, ByteArray.size_append, ByteArray.size_extract, List.length_cons, List.length_nil, ba_get, ba_empty, Int.toNat_natCast] at hW)) | (refine And.intro (?_ : _ → _) (?_ : _ → _)) | (refine FinR.drop 0 (Nat.zero_le _) (Closed.zero _) rfl ?_) | (refine FinR.keep ?_) | (refine And.intro (det3_agg rfl) ?_) | (refine fL_mk ?_) | (refine And.intro (by (try simp only [mk_size, List.size_toArray, ByteArray.size_append, ByteArray.size_extract, List.length_cons, List.length_nil]); omega) ?_) | (refine And.intro (by (try simp only [mk_size, List.size_toArray, ByteArray.size_append, ByteArray.size_extract, List.length_cons, List.length_nil, wrap64_eq]); omega) ?_) | fail)
  all_goals exact h0
end Go.Proofs.Ytcclhjohpicleaa
end

section
/- Contracts: the cells that sheet and stamp have in common. -/
set_option linter.unusedVariables false
set_option linter.unusedSimpArgs false
namespace Go.Proofs.Ytcclhjohpicleaa
open Go Go.RowKit Go.Proofs.Ytcclhjohpicleaa.Abs
variable {W0 : World} {σ : List Blk}
theorem row_and : ∀ x : Nat, x < 64 → ∀ y : Nat, y < 64 → bAnd .i64 (x : Int) (y : Int) = ((x &&& y : Nat) : Int) := by decide +kernel
theorem inB_iff (x a b : Int) : inB x a b = true ↔ a ≤ x ∧ x ≤ b := by simp [inB]
/-- the rows of a sheet that is right, as numbers -/
theorem rows_of (a b c d e f : Int) (h : shB6 a b c d e f = true) : ∃ a0 b0 c0 d0 e0 f0 : Nat, a = a0 ∧ b = b0 ∧ c = c0 ∧ d = d0 ∧ e = e0 ∧ f = f0 ∧ a0 < 64 ∧ b0 < 64 ∧ c0 < 64 ∧ d0 < 64 ∧ e0 < 64 ∧ f0 < 64 := by
  simp only [shB6, Bool.and_eq_true, inB_iff] at h
  exact ⟨a.toNat, b.toNat, c.toNat, d.toNat, e.toNat, f.toNat, by omega, by omega, by omega, by omega, by omega, by omega, by omega, by omega, by omega, by omega, by omega, by omega⟩
/-- the number of a sheet's set -/
def setN (a b c d e f : Nat) : Nat := a + 64 * (b + 64 * (c + 64 * (d + 64 * (e + 64 * f))))
theorem wrapu (x : Nat) (h : x < 64) : IntKind.u64.wrap (x : Int) = x := wrap_u64 x (by omega)
theorem setI_nat (a b c d e f : Nat) (ha : a < 64) (hb : b < 64) (hc : c < 64) (hd : d < 64) (he : e < 64) (hf : f < 64) : setI a b c d e f = (setN a b c d e f : Nat) := by
  have or_step : ∀ k x y : Nat, x < 2 ^ k → k ≤ 30 → y < 64 → bOr .u64 (x : Int) (shL .u64 (IntKind.u64.wrap (y : Int)) ((k : Nat) : Int)) = ((x + 2 ^ k * y : Nat) : Int) := by
    intro k x y hx hk hy
    have hp : 2 ^ k ≤ 2 ^ 30 := Nat.pow_le_pow_right (by omega) hk
    have hy' : y * 2 ^ k ≤ 63 * 2 ^ 30 := Nat.mul_le_mul (by omega) hp
    rw [wrapu y hy, shL_u64 y k (by omega) (Nat.lt_of_le_of_lt hy' (by decide)), bOr_u64 _ _ (by omega) (Nat.lt_of_le_of_lt hy' (by decide))]
    have h1 := lor_dig k x 0 0 y hx (Nat.two_pow_pos k)
    rw [Nat.mul_zero, Nat.add_zero, Nat.zero_add, Nat.or_zero, Nat.zero_or] at h1
    rw [Nat.mul_comm y, h1]
  unfold setI setN
  have e0 : bOr .u64 0 (shL .u64 (IntKind.u64.wrap (a : Int)) 0) = ((a : Nat) : Int) := by
    have := or_step 0 0 a (by decide) (by omega) ha
    simpa using this
  rw [e0]
  have e1 := or_step 6 a b (by omega) (by omega) hb
  have e2 := or_step 12 _ c (show a + 2 ^ 6 * b < 2 ^ 12 by omega) (by omega) hc
  have e3 := or_step 18 _ d (show a + 2 ^ 6 * b + 2 ^ 12 * c < 2 ^ 18 by omega) (by omega) hd
  have e4 := or_step 24 _ e (show a + 2 ^ 6 * b + 2 ^ 12 * c + 2 ^ 18 * d < 2 ^ 24 by omega) (by omega) he
  have e5 := or_step 30 _ f (show a + 2 ^ 6 * b + 2 ^ 12 * c + 2 ^ 18 * d + 2 ^ 24 * e < 2 ^ 30 by omega) (by omega) hf
  rw [show (6 : Int) = ((6 : Nat) : Int) from rfl, e1, show (12 : Int) = ((12 : Nat) : Int) from rfl, e2, show (18 : Int) = ((18 : Nat) : Int) from rfl, e3, show (24 : Int) = ((24 : Nat) : Int) from rfl, e4, show (30 : Int) = ((30 : Nat) : Int) from rfl, e5]
  refine congrArg (fun n : Nat => (n : Int)) ?_
  omega
theorem ones_zero : ∀ n, ones n 0 = 0
  | 0 => rfl
  | n + 1 => by simp only [ones]; rw [Nat.zero_div, ones_zero n]
theorem ones6 (d x : Nat) (hd : d < 64) : ones 6 (d + 64 * x) = ones 6 d := by
  simp only [ones]; omega
theorem ones_step6 (m d x : Nat) (hd : d < 64) : ones (6 + m) (d + 64 * x) = ones 6 d + ones m x := by
  rw [ones_add 6 m, ones6 d x hd, show (d + 64 * x) / 2 ^ 6 = x from div_dig 64 d x hd]
theorem ones_setN (a b c d e f : Nat) (ha : a < 64) (hb : b < 64) (hc : c < 64) (hd : d < 64) (he : e < 64) (hf : f < 64) : ones 64 (setN a b c d e f) = ones 6 a + (ones 6 b + (ones 6 c + (ones 6 d + (ones 6 e + ones 6 f)))) := by
  have h64 : ∀ y, ones 64 y = ones (6 + (6 + (6 + (6 + (6 + (6 + 28)))))) y := fun _ => rfl
  have hl : ones (6 + 28) f = ones 6 f := by
    have h := ones_step6 28 f 0 hf
    rw [Nat.mul_zero, Nat.add_zero, ones_zero, Nat.add_zero] at h
    exact h
  unfold setN
  rw [h64, ones_step6 _ a _ ha, ones_step6 _ b _ hb, ones_step6 _ c _ hc, ones_step6 _ d _ hd, ones_step6 _ e _ he, hl]
theorem setN_lt (a b c d e f : Nat) (ha : a < 64) (hb : b < 64) (hc : c < 64) (hd : d < 64) (he : e < 64) (hf : f < 64) : setN a b c d e f < 68719476736 := by unfold setN; omega
end Go.Proofs.Ytcclhjohpicleaa
end

section
/- Arithmetic: sets of cells as numbers; cells that go elsewhere; sheets by their sets. -/
set_option linter.unusedVariables false
set_option linter.unusedSimpArgs false
namespace Go.Proofs.Ytcclhjohpicleaa
open Go Go.RowKit Go.Proofs.Ytcclhjohpicleaa.Abs
/-- the cells that go where g tells -/
def mvN (g : Nat → Nat) (n : Nat) : Nat → Nat
  | 0 => 0
  | m + 1 => mvN g n m ||| (if n.testBit m then 2 ^ g m else 0)
theorem mvN_succ (g : Nat → Nat) (n m : Nat) : mvN g n (m + 1) = mvN g n m ||| (if n.testBit m then 2 ^ g m else 0) := rfl
theorem mvN_bit (g : Nat → Nat) (n j : Nat) : ∀ m, (mvN g n m).testBit j = true ↔ ∃ k, k < m ∧ n.testBit k = true ∧ g k = j
  | 0 => by simp [mvN]
  | m + 1 => by
    rw [mvN_succ, Nat.testBit_or, Bool.or_eq_true, mvN_bit g n j m]
    constructor
    · rintro (⟨k, h1, h2, h3⟩ | h)
      · exact ⟨k, by omega, h2, h3⟩
      · split at h
        · rename_i hm
          rw [Nat.testBit_two_pow] at h
          exact ⟨m, by omega, hm, by simpa using h⟩
        · simp at h
    · rintro ⟨k, h1, h2, h3⟩
      by_cases e : k = m
      · subst e
        right
        rw [if_pos h2, Nat.testBit_two_pow]
        simpa using h3
      · exact .inl ⟨k, by omega, h2, h3⟩
abbrev Perm (g h : Nat → Nat) : Prop := ∀ k, k < 36 → g k < 36 ∧ h k < 36 ∧ g (h k) = k ∧ h (g k) = k
theorem mvN_perm {g h : Nat → Nat} (hp : Perm g h) (n : Nat) {j : Nat} (hj : j < 36) : (mvN g n 36).testBit j = n.testBit (h j) := by
  rw [Bool.eq_iff_iff, mvN_bit]
  obtain ⟨_, h2, h3, _⟩ := hp j hj
  constructor
  · rintro ⟨k, k1, k2, k3⟩
    rw [← k3, (hp k k1).2.2.2]; exact k2
  · intro hb
    exact ⟨h j, h2, hb, h3⟩
theorem mvN_lt {g h : Nat → Nat} (hp : Perm g h) (n : Nat) : mvN g n 36 < 2 ^ 36 := by
  refine Nat.lt_pow_two_of_testBit _ fun i hi => ?_
  rw [Bool.eq_false_iff]
  intro hc
  obtain ⟨k, k1, _, k3⟩ := (mvN_bit g n i 36).1 hc
  have := (hp k k1).1
  omega
theorem mvN_lt' {g : Nat → Nat} (hp : ∀ k, k < 36 → g k < 36) (n m : Nat) (hm : m ≤ 36) : mvN g n m < 2 ^ 36 := by
  refine Nat.lt_pow_two_of_testBit _ fun i hi => ?_
  rw [Bool.eq_false_iff]
  intro hc
  obtain ⟨k, k1, _, k3⟩ := (mvN_bit g n i m).1 hc
  have := hp k (by omega)
  omega
/-- a row of a set -/
def rowN (n i : Nat) : Nat := (n >>> (6 * i)) % 64
theorem rowN_lt (n i : Nat) : rowN n i < 64 := Nat.mod_lt _ (by decide)
theorem rowN_bit (n i j : Nat) : (rowN n i).testBit j = (decide (j < 6) && n.testBit (6 * i + j)) := by
  unfold rowN
  rw [show (64 : Nat) = 2 ^ 6 from rfl, Nat.testBit_mod_two_pow, Nat.testBit_shiftRight]
abbrev ShN (n : Nat) : AV := Sh (rowN n 0 : Nat) (rowN n 1 : Nat) (rowN n 2 : Nat) (rowN n 3 : Nat) (rowN n 4 : Nat) (rowN n 5 : Nat)
theorem rowN_eq (n : Nat) : rowN n 0 = n % 64 ∧ rowN n 1 = n / 64 % 64 ∧ rowN n 2 = n / 4096 % 64 ∧ rowN n 3 = n / 262144 % 64 ∧ rowN n 4 = n / 16777216 % 64 ∧ rowN n 5 = n / 1073741824 % 64 := by
  refine ⟨?_, ?_, ?_, ?_, ?_, ?_⟩ <;> simp [rowN, Nat.shiftRight_eq_div_pow]
theorem setN_rows {n : Nat} (h : n < 2 ^ 36) : setN (rowN n 0) (rowN n 1) (rowN n 2) (rowN n 3) (rowN n 4) (rowN n 5) = n := by
  obtain ⟨e0, e1, e2, e3, e4, e5⟩ := rowN_eq n
  rw [e0, e1, e2, e3, e4, e5]; unfold setN; omega
theorem rows_setN {a b c d e f : Nat} (ha : a < 64) (hb : b < 64) (hc : c < 64) (hd : d < 64) (he : e < 64) (hf : f < 64) :
    rowN (setN a b c d e f) 0 = a ∧ rowN (setN a b c d e f) 1 = b ∧ rowN (setN a b c d e f) 2 = c ∧ rowN (setN a b c d e f) 3 = d ∧ rowN (setN a b c d e f) 4 = e ∧ rowN (setN a b c d e f) 5 = f := by
  obtain ⟨e0, e1, e2, e3, e4, e5⟩ := rowN_eq (setN a b c d e f)
  rw [e0, e1, e2, e3, e4, e5]; unfold setN; omega
theorem shN_of {a b c d e f : Int} (h : shB6 a b c d e f = true) : ∃ n, n < 2 ^ 36 ∧ (rowN n 0 : Nat) = a ∧ (rowN n 1 : Nat) = b ∧ (rowN n 2 : Nat) = c ∧ (rowN n 3 : Nat) = d ∧ (rowN n 4 : Nat) = e ∧ (rowN n 5 : Nat) = f := by
  obtain ⟨a0, b0, c0, d0, e0, f0, rfl, rfl, rfl, rfl, rfl, rfl, h1, h2, h3, h4, h5, h6⟩ := rows_of a b c d e f h
  obtain ⟨r0, r1, r2, r3, r4, r5⟩ := rows_setN h1 h2 h3 h4 h5 h6
  exact ⟨setN a0 b0 c0 d0 e0 f0, setN_lt _ _ _ _ _ _ h1 h2 h3 h4 h5 h6, by rw [r0], by rw [r1], by rw [r2], by rw [r3], by rw [r4], by rw [r5]⟩
theorem shB6_ShN (n : Nat) : shB6 (rowN n 0 : Nat) (rowN n 1 : Nat) (rowN n 2 : Nat) (rowN n 3 : Nat) (rowN n 4 : Nat) (rowN n 5 : Nat) = true := by
  have h := rowN_lt n
  have h0 := h 0; have h1 := h 1; have h2 := h 2; have h3 := h 3; have h4 := h 4; have h5 := h 5
  simp [shB6, inB]; omega
theorem setI_ShN {n : Nat} (h : n < 2 ^ 36) : setI (rowN n 0 : Nat) (rowN n 1 : Nat) (rowN n 2 : Nat) (rowN n 3 : Nat) (rowN n 4 : Nat) (rowN n 5 : Nat) = (n : Nat) := by
  rw [setI_nat _ _ _ _ _ _ (rowN_lt n 0) (rowN_lt n 1) (rowN_lt n 2) (rowN_lt n 3) (rowN_lt n 4) (rowN_lt n 5), setN_rows h]
theorem kSh {K : Cont} {σ : List Blk} {a b c d e f a' b' c' d' e' f' : Int} (h : K (Sh a b c d e f) σ) (ha : a' = a) (hb : b' = b) (hc : c' = c) (hd : d' = d) (he : e' = e) (hf : f' = f) : K (Sh a' b' c' d' e' f') σ := by
  subst ha; subst hb; subst hc; subst hd; subst he; subst hf; exact h
/-! rows of results -/
theorem row_or (n m i : Nat) : rowN (n ||| m) i = rowN n i ||| rowN m i := by
  apply Nat.eq_of_testBit_eq; intro j; simp only [rowN_bit, Nat.testBit_or]; cases decide (j < 6) <;> simp
theorem row_andN (n m i : Nat) : rowN (n &&& m) i = rowN n i &&& rowN m i := by
  apply Nat.eq_of_testBit_eq; intro j; simp only [rowN_bit, Nat.testBit_and]; cases decide (j < 6) <;> simp
theorem b_or : ∀ x : Nat, x < 64 → ∀ y : Nat, y < 64 → bOr .i64 (x : Int) (y : Int) = ((x ||| y : Nat) : Int) := by decide +kernel
/-! shifts -/
def shG (x y k : Nat) : Nat := (k / 6 + y) % 6 * 6 + (k % 6 + x) % 6
def shH (x y k : Nat) : Nat := (k / 6 + (6 - y)) % 6 * 6 + (k % 6 + (6 - x)) % 6
theorem sh_perm : ∀ x, x < 6 → ∀ y, y < 6 → Perm (shG x y) (shH x y) := by decide +kernel
def rotN (x r : Nat) : Nat := ((r <<< x) &&& 63) ||| (r >>> (6 - x))
theorem rot_bit : ∀ x, x < 6 → ∀ r, r < 64 → rotN x r < 64 ∧ ∀ j, j < 6 → (rotN x r).testBit j = r.testBit ((j + (6 - x)) % 6) := by decide +kernel
theorem rot_int : ∀ x : Nat, x < 6 → ∀ r : Nat, r < 64 → bOr .i64 (bAnd .i64 (shL .i64 (r : Int) (x : Int)) 63) (shR .i64 (r : Int) (IntKind.i64.wrap (6 - (x : Int)))) = ((rotN x r : Nat) : Int) := by decide +kernel
theorem rot_row (n x y i : Nat) (hx : x < 6) (hy : y < 6) (hi : i < 6) : rotN x (rowN n i) = rowN (mvN (shG x y) n 36) ((i + y) % 6) := by
  obtain ⟨h1, h2⟩ := rot_bit x hx _ (rowN_lt n i)
  apply Nat.eq_of_testBit_eq; intro j
  rw [rowN_bit]
  by_cases hj : j < 6
  · rw [h2 j hj, rowN_bit, mvN_perm (sh_perm x hx y hy) n (by omega)]
    have e : 6 * i + (j + (6 - x)) % 6 = shH x y (6 * ((i + y) % 6) + j) := by unfold shH; omega
    rw [e]; simp [hj]; omega
  · rw [Nat.testBit_lt_two_pow (Nat.lt_of_lt_of_le h1 (Nat.pow_le_pow_right (by decide : 0 < 2) (by omega : 6 ≤ j)))]
    simp [hj]
end Go.Proofs.Ytcclhjohpicleaa
end

section
/- Contracts: sets that move; sheets by their sets. -/
set_option linter.unusedVariables false
set_option linter.unusedSimpArgs false
set_option maxRecDepth 100000
set_option maxHeartbeats 4000000
namespace Go.Proofs.Ytcclhjohpicleaa
open Go Go.RowKit Go.Proofs.Ytcclhjohpicleaa.Abs
variable {W0 : World} {σ : List Blk}
theorem kB' {K : Cont} {σ : List Blk} {x y : Bool} (h : K (Bo x) σ) (e : y = x) : K (Bo y) σ := e ▸ h
theorem kI' {K : Cont} {σ : List Blk} {x y : Int} (h : K (I x) σ) (e : y = x) : K (I y) σ := e ▸ h
theorem kT2 {K : Cont} {σ : List Blk} {x y x' y' : Int} (h : K (.tup [I x, I y]) σ) (e : x' = x) (e' : y' = y) : K (.tup [I x', I y']) σ := e ▸ e' ▸ h
theorem has_eq (n k : Nat) (hn : n < 18446744073709551616) (hk : k ≤ 64) : decide (bAnd .u64 (shR .u64 (n : Nat) (k : Nat)) 1 = 1) = n.testBit k := by
  rw [shR_u64 n k hk, show (1 : Int) = ((1 : Nat) : Int) from rfl, bAnd_u64 _ _ (Nat.lt_of_le_of_lt (by rw [Nat.shiftRight_eq_div_pow]; exact Nat.div_le_self _ _) hn) (by decide), Bool.eq_iff_iff, decide_eq_true_iff, Nat.testBit, bne_iff_ne, Nat.and_comm]
  have h := Nat.and_one_is_mod (n >>> k)
  rw [Nat.and_comm] at h
  rw [h]; omega
theorem c_has (n k : Nat) (hn : n < 18446744073709551616) (hk : k ≤ 64) (K : Cont) (h0 : K (Bo (n.testBit k)) []) : ACall Try.prog W0 73 [U n, I k] [] K := by
  refine by73 (Nat.le_of_ble_eq_true rfl) ?_
  repeat' ((conv => whnf); first | (refine Exists.intro ([] : List Nat) ?_) | (refine And.intro rfl ?_) | (refine And.intro (by decide +kernel) ?_) | (refine And.intro trivial ?_) | (refine Exists.intro _ (And.intro rfl (And.intro rfl (And.intro (Nat.le_of_ble_eq_true rfl) ?_)))) | (refine Exists.intro _ (And.intro rfl (And.intro rfl (And.intro rfl (And.intro (Nat.le_of_ble_eq_true rfl) ?_))))) | (refine And.intro (Exists.intro _ (And.intro rfl rfl)) ?_) | (exact fun hW => absurd hW (by decide +kernel)) | (intro hW; (try simp only [Bool.not_true, Bool.not_false, Bool.not_eq_true', Bool.not_eq_false', decide_eq_true_eq, decide_eq_false_iff_not, reduceCtorEq, Bool.true_eq_false, Bool.false_eq_true, mk_size, List.size_toArray, ByteArray.size_append, ByteArray.size_extract, List.length_cons, List.length_nil, ba_get, ba_empty, Int.toNat_natCast] at hW)) | (refine And.intro (?_ : _ → _) (?_ : _ → _)) | (refine FinR.drop 0 (Nat.zero_le _) (Closed.zero _) rfl ?_) | (refine FinR.keep ?_) | (refine And.intro (det3_agg rfl) ?_) | (refine fL_mk ?_) | (refine And.intro (by (try simp only [mk_size, List.size_toArray, ByteArray.size_append, ByteArray.size_extract, List.length_cons, List.length_nil]); omega) ?_) | (refine And.intro (by (try simp only [mk_size, List.size_toArray, ByteArray.size_append, ByteArray.size_extract, List.length_cons, List.length_nil, wrap64_eq]); omega) ?_) | fail)
  all_goals exact kB' h0 (has_eq n k hn hk)
theorem d_has (n k : Nat) (hn : n < 18446744073709551616) (hk : k ≤ 64) (K : Cont) (h0 : K (Bo (n.testBit k)) σ) : ACall Try.prog W0 73 [U n, I k] σ K :=
  ACall.lift rfl (fun _ => rfl) (fun W1 K _ hK => c_has n k hn hk K hK) h0
theorem or_bit (g : Nat → Nat) (n k x y : Nat) (hk : k < 36) (hg : ∀ k, k < 36 → g k < 36) (hx : x < 6) (hy : y < 6) (he : g k = y * 6 + x) (hb : n.testBit k = true) :
    bOr .u64 (mvN g n k : Nat) (shL .u64 1 (IntKind.i64.wrap (IntKind.i64.wrap ((y : Int) * 6) + (x : Int)))) = (mvN g n (k + 1) : Nat) := by
  rw [wrap_i64 ((y : Int) * 6) (by omega) (by omega), wrap_i64 _ (by omega) (by omega), show ((y : Int) * 6 + (x : Int)) = ((g k : Nat) : Int) by omega]
  have h36 := hg k hk
  have hp : 2 ^ g k < 2 ^ 36 := Nat.pow_lt_pow_right (by decide) h36
  rw [show (1 : Int) = ((1 : Nat) : Int) from rfl, shL_u64 1 _ (by omega) (by rw [Nat.one_mul]; exact Nat.lt_trans hp (by decide)), Nat.one_mul, bOr_u64 _ _ (Nat.lt_trans (mvN_lt' hg n k (by omega)) (by decide)) (Nat.lt_trans hp (by decide)), mvN_succ, if_pos hb]
theorem slU {a b : Int} (h : a = b) : AV.lit (.int .u64 a) = U b := by rw [h]
theorem slI' {a b : Int} (h : a = b) : AV.lit (.int .i64 a) = I b := by rw [h]
theorem c_moved (n : Nat) (g0 : FuncId) (caps : List AV) (g : Nat → Nat) (hn : n < 2 ^ 36) (hg : ∀ k, k < 36 → g k < 36) (hc : ∀ k : Nat, k < 36 → ∃ x y : Nat, x < 6 ∧ y < 6 ∧ g k = y * 6 + x ∧ ∀ K : Cont, K (.tup [I x, I y]) σ → ACall Try.prog W0 g0 (I (k % 6 : Nat) :: I (k / 6 : Nat) :: caps) σ K)
    (K : Cont) (h0 : K (U (mvN g n 36 : Nat)) σ) : ACall Try.prog W0 86 [U n, .fn (.func g0) [] caps] σ K := by
  refine by86 (Nat.le_of_ble_eq_true rfl) ?_
  repeat' ((conv => whnf); first | (refine Exists.intro ([] : List Nat) ?_) | (refine And.intro rfl ?_) | (refine And.intro (by decide +kernel) ?_) | (refine And.intro trivial ?_) | (refine Exists.intro _ (And.intro rfl (And.intro rfl (And.intro (Nat.le_of_ble_eq_true rfl) ?_)))) | (refine Exists.intro _ (And.intro rfl (And.intro rfl (And.intro rfl (And.intro (Nat.le_of_ble_eq_true rfl) ?_))))) | (refine And.intro (Exists.intro _ (And.intro rfl rfl)) ?_) | (exact fun hW => absurd hW (by decide +kernel)) | (intro hW; (try simp only [Bool.not_true, Bool.not_false, Bool.not_eq_true', Bool.not_eq_false', decide_eq_true_eq, decide_eq_false_iff_not, reduceCtorEq, Bool.true_eq_false, Bool.false_eq_true, mk_size, List.size_toArray, ByteArray.size_append, ByteArray.size_extract, List.length_cons, List.length_nil, ba_get, ba_empty, Int.toNat_natCast] at hW)) | (refine And.intro (?_ : _ → _) (?_ : _ → _)) | (refine FinR.drop 0 (Nat.zero_le _) (Closed.zero _) rfl ?_) | (refine FinR.keep ?_) | (refine And.intro (det3_agg rfl) ?_) | (refine fL_mk ?_) | (refine And.intro (by (try simp only [mk_size, List.size_toArray, ByteArray.size_append, ByteArray.size_extract, List.length_cons, List.length_nil]); omega) ?_) | (refine And.intro (by (try simp only [mk_size, List.size_toArray, ByteArray.size_append, ByteArray.size_extract, List.length_cons, List.length_nil, wrap64_eq]); omega) ?_) | fail)
  refine LoopR.live (fun k : Nat => [(0, U n), (1, .fn (.func g0) [] caps), (5, U (mvN g n k : Nat)), (9, I k)]) (fun _ => σ) (fun k => k ≤ 36) (fun k => 36 - k) 0 ⟨rfl, rfl, rfl, rfl, trivial⟩ (.keep rfl) (Nat.zero_le _) ?_
  intro k hk
  have e1 : ((k : Int)).tmod 6 = ((k % 6 : Nat) : Int) := by rw [Int.tmod_eq_emod_of_nonneg (by omega)]; rfl
  have e2 : IntKind.i64.wrap ((k : Int).tdiv 6) = ((k / 6 : Nat) : Int) := by rw [Int.tdiv_eq_ediv_of_nonneg (by omega), wrap_i64 _ (by omega) (by omega)]; rfl
  have e3 : IntKind.i64.wrap ((k : Int) + 1) = ((k + 1 : Nat) : Int) := by rw [wrap_i64 _ (by omega) (by omega)]; rfl
  by_cases hlt : k < 36
  · obtain ⟨x, y, hx, hy, he, hcall⟩ := hc k hlt
    have hcall' : ∀ K : Cont, K (.tup [I x, I y]) σ → ACall Try.prog W0 g0 (I ((k : Int).tmod 6) :: I (IntKind.i64.wrap ((k : Int).tdiv 6)) :: caps) σ K := by rw [e1, e2]; exact hcall
    have e4 : 0 ≤ IntKind.i64.wrap (IntKind.i64.wrap ((y : Int) * 6) + (x : Int)) := by rw [wrap_i64 ((y : Int) * 6) (by omega) (by omega), wrap_i64 _ (by omega) (by omega)]; omega
    repeat' ((conv => whnf); first | (refine hcall' _ ?_) | (refine And.intro e4 ?_) | (refine Exists.intro ([] : List Nat) ?_) | (refine And.intro rfl ?_) | (refine And.intro (by decide +kernel) ?_) | (refine And.intro trivial ?_) | (refine d_has (hn := Nat.lt_trans hn (by decide)) (hk := by omega) (h0 := ?_) ..) | (refine Exists.intro _ (And.intro rfl (And.intro rfl (And.intro (Nat.le_of_ble_eq_true rfl) ?_)))) | (refine Exists.intro _ (And.intro rfl (And.intro rfl (And.intro rfl (And.intro (Nat.le_of_ble_eq_true rfl) ?_))))) | (refine And.intro (Exists.intro _ (And.intro rfl rfl)) ?_) | (exact fun hW => absurd hW (by decide +kernel)) | (intro hW; (try simp only [Bool.not_true, Bool.not_false, Bool.not_eq_true', Bool.not_eq_false', decide_eq_true_eq, decide_eq_false_iff_not, reduceCtorEq, Bool.true_eq_false, Bool.false_eq_true, mk_size, List.size_toArray, ByteArray.size_append, ByteArray.size_extract, List.length_cons, List.length_nil, ba_get, ba_empty, Int.toNat_natCast] at hW)) | (refine And.intro (?_ : _ → _) (?_ : _ → _)) | (refine FinR.drop 0 (Nat.zero_le _) (Closed.zero _) rfl ?_) | (refine FinR.keep ?_) | (refine And.intro (det3_agg rfl) ?_) | (refine fL_mk ?_) | (refine And.intro (by (try simp only [mk_size, List.size_toArray, ByteArray.size_append, ByteArray.size_extract, List.length_cons, List.length_nil]); omega) ?_) | (refine And.intro (by (try simp only [mk_size, List.size_toArray, ByteArray.size_append, ByteArray.size_extract, List.length_cons, List.length_nil, wrap64_eq]); omega) ?_) | fail)
    all_goals first | (exfalso; omega) | skip
    · exact Again.go (k + 1) ⟨rfl, rfl, slU (or_bit g n k x y hlt hg hx hy he (by assumption)), slI' e3, trivial⟩ (.keep rfl) (by omega) (by omega)
    · refine Again.go (k + 1) ⟨rfl, rfl, slU ?_, slI' e3, trivial⟩ (.keep rfl) (by omega) (by omega)
      rw [mvN_succ, if_neg (by rw [hW]; decide), Nat.or_zero]
  · obtain rfl : k = 36 := by omega
    repeat' ((conv => whnf); first | (refine Exists.intro ([] : List Nat) ?_) | (refine And.intro rfl ?_) | (refine And.intro (by decide +kernel) ?_) | (refine And.intro trivial ?_) | (refine Exists.intro _ (And.intro rfl (And.intro rfl (And.intro (Nat.le_of_ble_eq_true rfl) ?_)))) | (refine Exists.intro _ (And.intro rfl (And.intro rfl (And.intro rfl (And.intro (Nat.le_of_ble_eq_true rfl) ?_))))) | (refine And.intro (Exists.intro _ (And.intro rfl rfl)) ?_) | (exact fun hW => absurd hW (by decide +kernel)) | (intro hW; (try simp only [Bool.not_true, Bool.not_false, Bool.not_eq_true', Bool.not_eq_false', decide_eq_true_eq, decide_eq_false_iff_not, reduceCtorEq, Bool.true_eq_false, Bool.false_eq_true, mk_size, List.size_toArray, ByteArray.size_append, ByteArray.size_extract, List.length_cons, List.length_nil, ba_get, ba_empty, Int.toNat_natCast] at hW)) | (refine And.intro (?_ : _ → _) (?_ : _ → _)) | (refine FinR.drop 0 (Nat.zero_le _) (Closed.zero _) rfl ?_) | (refine FinR.keep ?_) | (refine And.intro (det3_agg rfl) ?_) | (refine fL_mk ?_) | (refine And.intro (by (try simp only [mk_size, List.size_toArray, ByteArray.size_append, ByteArray.size_extract, List.length_cons, List.length_nil]); omega) ?_) | (refine And.intro (by (try simp only [mk_size, List.size_toArray, ByteArray.size_append, ByteArray.size_extract, List.length_cons, List.length_nil, wrap64_eq]); omega) ?_) | fail)
    all_goals first | (exfalso; omega) | exact h0
end Go.Proofs.Ytcclhjohpicleaa
end

section
/- Contracts: shifted sets; sheets of sets; sheets by their sets. -/
set_option linter.unusedVariables false
set_option linter.unusedSimpArgs false
set_option maxRecDepth 100000
set_option maxHeartbeats 4000000
namespace Go.Proofs.Ytcclhjohpicleaa
open Go Go.RowKit Go.Proofs.Ytcclhjohpicleaa.Abs
variable {W0 : World} {σ : List Blk}
theorem tmod6 (n : Int) : n.tmod 6 = if 0 ≤ n then n % 6 else -((-n) % 6) := by
  split
  · rename_i h; exact Int.tmod_eq_emod_of_nonneg h
  · rename_i h
    rw [← Int.tmod_eq_emod_of_nonneg (by omega : 0 ≤ -n), Int.neg_tmod]; omega
theorem rest_eq (n : Int) : (IntKind.i64.wrap (n.tmod 6 + 6)).tmod 6 = n % 6 := by
  rw [tmod6 n]
  have : 0 ≤ (if 0 ≤ n then n % 6 else -((-n) % 6)) + 6 ∧ (if 0 ≤ n then n % 6 else -((-n) % 6)) + 6 < 12 ∧ ((if 0 ≤ n then n % 6 else -((-n) % 6)) + 6) % 6 = n % 6 := by split <;> omega
  rw [wrap_i64 _ (by omega) (by omega), Int.tmod_eq_emod_of_nonneg this.1]
  exact this.2.2
theorem c_rest (n : Int) (x : Nat) (hx : n % 6 = x) (K : Cont) (h0 : K (I x) []) : ACall Try.prog W0 85 [I n] [] K := by
  refine by85 (Nat.le_of_ble_eq_true rfl) ?_
  have e := rest_eq n
  repeat' ((conv => whnf); first | (refine Exists.intro ([] : List Nat) ?_) | (refine And.intro rfl ?_) | (refine And.intro (by decide +kernel) ?_) | (refine And.intro trivial ?_) | (refine Exists.intro _ (And.intro rfl (And.intro rfl (And.intro (Nat.le_of_ble_eq_true rfl) ?_)))) | (refine Exists.intro _ (And.intro rfl (And.intro rfl (And.intro rfl (And.intro (Nat.le_of_ble_eq_true rfl) ?_))))) | (refine And.intro (Exists.intro _ (And.intro rfl rfl)) ?_) | (exact fun hW => absurd hW (by decide +kernel)) | (intro hW; (try simp only [Bool.not_true, Bool.not_false, Bool.not_eq_true', Bool.not_eq_false', decide_eq_true_eq, decide_eq_false_iff_not, reduceCtorEq, Bool.true_eq_false, Bool.false_eq_true, mk_size, List.size_toArray, ByteArray.size_append, ByteArray.size_extract, List.length_cons, List.length_nil, ba_get, ba_empty, Int.toNat_natCast] at hW)) | (refine And.intro (?_ : _ → _) (?_ : _ → _)) | (refine FinR.drop 0 (Nat.zero_le _) (Closed.zero _) rfl ?_) | (refine FinR.keep ?_) | (refine And.intro (det3_agg rfl) ?_) | (refine fL_mk ?_) | (refine And.intro (by (try simp only [mk_size, List.size_toArray, ByteArray.size_append, ByteArray.size_extract, List.length_cons, List.length_nil]); omega) ?_) | (refine And.intro (by (try simp only [mk_size, List.size_toArray, ByteArray.size_append, ByteArray.size_extract, List.length_cons, List.length_nil, wrap64_eq]); omega) ?_) | fail)
  all_goals exact kI' h0 (by rw [e, hx])
theorem d_rest (n : Int) (x : Nat) (hx : n % 6 = x) (K : Cont) (h0 : K (I x) σ) : ACall Try.prog W0 85 [I n] σ K :=
  ACall.lift rfl (fun _ => rfl) (fun W1 K _ hK => c_rest n x hx K hK) h0
theorem c_l2Mod (n : Int) (x : Nat) (hx : n % 6 = x) (K : Cont) (h0 : K (I x) []) : ACall Try.prog W0 84 [I n] [] K := by
  refine by84 (Nat.le_of_ble_eq_true rfl) ?_
  have e := rest_eq n
  repeat' ((conv => whnf); first | (refine Exists.intro ([] : List Nat) ?_) | (refine And.intro rfl ?_) | (refine And.intro (by decide +kernel) ?_) | (refine And.intro trivial ?_) | (refine Exists.intro _ (And.intro rfl (And.intro rfl (And.intro (Nat.le_of_ble_eq_true rfl) ?_)))) | (refine Exists.intro _ (And.intro rfl (And.intro rfl (And.intro rfl (And.intro (Nat.le_of_ble_eq_true rfl) ?_))))) | (refine And.intro (Exists.intro _ (And.intro rfl rfl)) ?_) | (exact fun hW => absurd hW (by decide +kernel)) | (intro hW; (try simp only [Bool.not_true, Bool.not_false, Bool.not_eq_true', Bool.not_eq_false', decide_eq_true_eq, decide_eq_false_iff_not, reduceCtorEq, Bool.true_eq_false, Bool.false_eq_true, mk_size, List.size_toArray, ByteArray.size_append, ByteArray.size_extract, List.length_cons, List.length_nil, ba_get, ba_empty, Int.toNat_natCast] at hW)) | (refine And.intro (?_ : _ → _) (?_ : _ → _)) | (refine FinR.drop 0 (Nat.zero_le _) (Closed.zero _) rfl ?_) | (refine FinR.keep ?_) | (refine And.intro (det3_agg rfl) ?_) | (refine fL_mk ?_) | (refine And.intro (by (try simp only [mk_size, List.size_toArray, ByteArray.size_append, ByteArray.size_extract, List.length_cons, List.length_nil]); omega) ?_) | (refine And.intro (by (try simp only [mk_size, List.size_toArray, ByteArray.size_append, ByteArray.size_extract, List.length_cons, List.length_nil, wrap64_eq]); omega) ?_) | fail)
  all_goals exact kI' h0 (by rw [e, hx])
theorem d_l2Mod (n : Int) (x : Nat) (hx : n % 6 = x) (K : Cont) (h0 : K (I x) σ) : ACall Try.prog W0 84 [I n] σ K :=
  ACall.lift rfl (fun _ => rfl) (fun W1 K _ hK => c_l2Mod n x hx K hK) h0
theorem addrem (a b : Nat) (ha : a < 36) (hb : b < 6) : (IntKind.i64.wrap ((a : Int) + (b : Int))).tmod 6 = (((a + b) % 6 : Nat) : Int) := by
  rw [wrap_i64 _ (by omega) (by omega), Int.tmod_eq_emod_of_nonneg (by omega)]; omega
theorem shClo (x y : Nat) (hx : x < 6) (hy : y < 6) (k : Nat) (hk : k < 36) : ∃ x' y' : Nat, x' < 6 ∧ y' < 6 ∧ shG x y k = y' * 6 + x' ∧ ∀ K : Cont, K (.tup [I x', I y']) [⟨[I x], 0, 3, 0, false, false⟩, ⟨[I y], 0, 3, 0, false, false⟩] →
    ACall Try.prog W0 87 (I (k % 6 : Nat) :: I (k / 6 : Nat) :: [.ptr 0 0 0, .ptr 1 0 0]) [⟨[I x], 0, 3, 0, false, false⟩, ⟨[I y], 0, 3, 0, false, false⟩] K := by
  refine ⟨(k % 6 + x) % 6, (k / 6 + y) % 6, by omega, by omega, rfl, fun K h0 => ?_⟩
  refine by87 (Nat.le_of_ble_eq_true rfl) ?_
  have e1 := addrem (k % 6) x (by omega) hx
  have e2 := addrem (k / 6) y (by omega) hy
  repeat' ((conv => whnf); first | (refine Exists.intro ([] : List Nat) ?_) | (refine And.intro rfl ?_) | (refine And.intro (by decide +kernel) ?_) | (refine And.intro trivial ?_) | (refine Exists.intro _ (And.intro rfl (And.intro rfl (And.intro (Nat.le_of_ble_eq_true rfl) ?_)))) | (refine Exists.intro _ (And.intro rfl (And.intro rfl (And.intro rfl (And.intro (Nat.le_of_ble_eq_true rfl) ?_))))) | (refine And.intro (Exists.intro _ (And.intro rfl rfl)) ?_) | (exact fun hW => absurd hW (by decide +kernel)) | (intro hW; (try simp only [Bool.not_true, Bool.not_false, Bool.not_eq_true', Bool.not_eq_false', decide_eq_true_eq, decide_eq_false_iff_not, reduceCtorEq, Bool.true_eq_false, Bool.false_eq_true, mk_size, List.size_toArray, ByteArray.size_append, ByteArray.size_extract, List.length_cons, List.length_nil, ba_get, ba_empty, Int.toNat_natCast] at hW)) | (refine And.intro (?_ : _ → _) (?_ : _ → _)) | (refine FinR.drop 0 (Nat.zero_le _) (Closed.zero _) rfl ?_) | (refine FinR.keep ?_) | (refine And.intro (det3_agg rfl) ?_) | (refine fL_mk ?_) | (refine And.intro (by (try simp only [mk_size, List.size_toArray, ByteArray.size_append, ByteArray.size_extract, List.length_cons, List.length_nil]); omega) ?_) | (refine And.intro (by (try simp only [mk_size, List.size_toArray, ByteArray.size_append, ByteArray.size_extract, List.length_cons, List.length_nil, wrap64_eq]); omega) ?_) | fail)
  all_goals exact kT2 h0 e1 e2
theorem c_shifted (n : Nat) (hn : n < 2 ^ 36) (dx dy : Int) (x y : Nat) (hx : dx % 6 = x) (hy : dy % 6 = y) (K : Cont) (h0 : K (U (mvN (shG x y) n 36 : Nat)) []) : ACall Try.prog W0 74 [U n, I dx, I dy] [] K := by
  refine by74 (Nat.le_of_ble_eq_true rfl) ?_
  have hx' : x < 6 := by omega
  have hy' : y < 6 := by omega
  repeat' ((conv => whnf); first | (refine Exists.intro ([] : List Nat) ?_) | (refine And.intro rfl ?_) | (refine And.intro (by decide +kernel) ?_) | (refine And.intro trivial ?_) | (refine d_rest (hx := hx) (h0 := ?_) ..) | (refine Exists.intro _ (And.intro (fun τ => callW_fn (d_rest (hx := hx) (h0 := And.intro rfl rfl) ..)) ?_)) | (refine Exists.intro _ (And.intro (callW_fn (d_rest (hx := hx) (h0 := And.intro rfl rfl) ..)) (And.intro trivial ?_))) | (refine Exists.intro _ (And.intro (callW_fn (d_rest (hx := hx) (h0 := And.intro rfl rfl) ..)) ?_)) | (refine Exists.intro _ (And.intro (fun τ _ => callW_fn (d_rest (hx := hx) (h0 := And.intro rfl rfl) ..)) ?_)) | (refine d_rest (hx := hy) (h0 := ?_) ..) | (refine Exists.intro _ (And.intro (fun τ => callW_fn (d_rest (hx := hy) (h0 := And.intro rfl rfl) ..)) ?_)) | (refine Exists.intro _ (And.intro (callW_fn (d_rest (hx := hy) (h0 := And.intro rfl rfl) ..)) (And.intro trivial ?_))) | (refine Exists.intro _ (And.intro (callW_fn (d_rest (hx := hy) (h0 := And.intro rfl rfl) ..)) ?_)) | (refine Exists.intro _ (And.intro (fun τ _ => callW_fn (d_rest (hx := hy) (h0 := And.intro rfl rfl) ..)) ?_)) | (refine c_moved (hn := hn) (hg := fun k hk => (sh_perm x hx' y hy' k hk).1) (hc := fun k hk => shClo x y hx' hy' k hk) (h0 := ?_) ..) | (refine Exists.intro _ (And.intro rfl (And.intro rfl (And.intro (Nat.le_of_ble_eq_true rfl) ?_)))) | (refine Exists.intro _ (And.intro rfl (And.intro rfl (And.intro rfl (And.intro (Nat.le_of_ble_eq_true rfl) ?_))))) | (refine And.intro (Exists.intro _ (And.intro rfl rfl)) ?_) | (exact fun hW => absurd hW (by decide +kernel)) | (intro hW; (try simp only [Bool.not_true, Bool.not_false, Bool.not_eq_true', Bool.not_eq_false', decide_eq_true_eq, decide_eq_false_iff_not, reduceCtorEq, Bool.true_eq_false, Bool.false_eq_true, mk_size, List.size_toArray, ByteArray.size_append, ByteArray.size_extract, List.length_cons, List.length_nil, ba_get, ba_empty, Int.toNat_natCast] at hW)) | (refine And.intro (?_ : _ → _) (?_ : _ → _)) | (refine FinR.drop 0 (Nat.zero_le _) (Closed.zero _) rfl ?_) | (refine FinR.keep ?_) | (refine And.intro (det3_agg rfl) ?_) | (refine fL_mk ?_) | (refine And.intro (by (try simp only [mk_size, List.size_toArray, ByteArray.size_append, ByteArray.size_extract, List.length_cons, List.length_nil]); omega) ?_) | (refine And.intro (by (try simp only [mk_size, List.size_toArray, ByteArray.size_append, ByteArray.size_extract, List.length_cons, List.length_nil, wrap64_eq]); omega) ?_) | fail)
  all_goals exact h0
theorem d_shifted (n : Nat) (hn : n < 2 ^ 36) (dx dy : Int) (x y : Nat) (hx : dx % 6 = x) (hy : dy % 6 = y) (K : Cont) (h0 : K (U (mvN (shG x y) n 36 : Nat)) σ) : ACall Try.prog W0 74 [U n, I dx, I dy] σ K :=
  ACall.lift rfl (fun _ => rfl) (fun W1 K _ hK => c_shifted n hn dx dy x y hx hy K hK) h0
end Go.Proofs.Ytcclhjohpicleaa
end

section
/- Contracts: sheets of sets; the reference's sheets by their sets. -/
set_option linter.unusedVariables false
set_option linter.unusedSimpArgs false
set_option maxRecDepth 100000
set_option maxHeartbeats 4000000
namespace Go.Proofs.Ytcclhjohpicleaa
open Go Go.RowKit Go.Proofs.Ytcclhjohpicleaa.Abs
variable {W0 : World} {σ : List Blk}
theorem c_setOfN (n : Nat) (hn : n < 2 ^ 36) (K : Cont) (h0 : K (.tup [U n, Bo true]) []) : ACall Try.prog W0 79 [ShN n] [] K := by
  refine c_setOf (K := K) (h0 := ?_) ..
  unfold setR
  rw [shB6_ShN, if_pos rfl, setI_ShN hn]; exact h0
theorem d_setOfN (n : Nat) (hn : n < 2 ^ 36) (K : Cont) (h0 : K (.tup [U n, Bo true]) σ) : ACall Try.prog W0 79 [ShN n] σ K :=
  ACall.lift rfl (fun _ => rfl) (fun W1 K _ hK => c_setOfN n hn K hK) h0
abbrev Ce (x y : Int) : AV := .agg [I x, I y]
theorem c_pressed (n k : Nat) (hn : n < 2 ^ 36) (hk : k < 36) (K : Cont) (h0 : K (U (mvN (shG (k % 6) (k / 6)) n 36 : Nat)) []) : ACall Try.prog W0 53 [U n, I k] [] K := by
  refine by53 (Nat.le_of_ble_eq_true rfl) ?_
  have e1 : ((k : Int)).tmod 6 = ((k % 6 : Nat) : Int) := by rw [Int.tmod_eq_emod_of_nonneg (by omega)]; rfl
  have e2 : IntKind.i64.wrap ((k : Int).tdiv 6) = ((k / 6 : Nat) : Int) := by rw [Int.tdiv_eq_ediv_of_nonneg (by omega), wrap_i64 _ (by omega) (by omega)]; rfl
  have h1 : ((k : Int)).tmod 6 % 6 = ((k % 6 : Nat) : Int) := by rw [e1]; omega
  have h2 : IntKind.i64.wrap ((k : Int).tdiv 6) % 6 = ((k / 6 : Nat) : Int) := by rw [e2]; omega
  repeat' ((conv => whnf); first | (refine Exists.intro ([] : List Nat) ?_) | (refine And.intro rfl ?_) | (refine And.intro (by decide +kernel) ?_) | (refine And.intro trivial ?_) | (refine d_shifted (hn := hn) (hx := h1) (hy := h2) (h0 := ?_) ..) | (refine Exists.intro _ (And.intro rfl (And.intro rfl (And.intro (Nat.le_of_ble_eq_true rfl) ?_)))) | (refine Exists.intro _ (And.intro rfl (And.intro rfl (And.intro rfl (And.intro (Nat.le_of_ble_eq_true rfl) ?_))))) | (refine And.intro (Exists.intro _ (And.intro rfl rfl)) ?_) | (exact fun hW => absurd hW (by decide +kernel)) | (intro hW; (try simp only [Bool.not_true, Bool.not_false, Bool.not_eq_true', Bool.not_eq_false', decide_eq_true_eq, decide_eq_false_iff_not, reduceCtorEq, Bool.true_eq_false, Bool.false_eq_true, mk_size, List.size_toArray, ByteArray.size_append, ByteArray.size_extract, List.length_cons, List.length_nil, ba_get, ba_empty, Int.toNat_natCast] at hW)) | (refine And.intro (?_ : _ → _) (?_ : _ → _)) | (refine FinR.drop 0 (Nat.zero_le _) (Closed.zero _) rfl ?_) | (refine FinR.keep ?_) | (refine And.intro (det3_agg rfl) ?_) | (refine fL_mk ?_) | (refine And.intro (by (try simp only [mk_size, List.size_toArray, ByteArray.size_append, ByteArray.size_extract, List.length_cons, List.length_nil]); omega) ?_) | (refine And.intro (by (try simp only [mk_size, List.size_toArray, ByteArray.size_append, ByteArray.size_extract, List.length_cons, List.length_nil, wrap64_eq]); omega) ?_) | fail)
  all_goals exact h0
theorem d_pressed (n k : Nat) (hn : n < 2 ^ 36) (hk : k < 36) (K : Cont) (h0 : K (U (mvN (shG (k % 6) (k / 6)) n 36 : Nat)) σ) : ACall Try.prog W0 53 [U n, I k] σ K :=
  ACall.lift rfl (fun _ => rfl) (fun W1 K _ hK => c_pressed n k hn hk K hK) h0
/-! ### the reference's sheets -/
theorem c_l2ShiftN (n : Nat) (dx dy : Int) (x y : Nat) (hx : dx % 6 = x) (hy : dy % 6 = y) (K : Cont) (h0 : K (ShN (mvN (shG x y) n 36)) []) : ACall Try.prog W0 70 [ShN n, I dx, I dy] [] K := by
  refine by70 (Nat.le_of_ble_eq_true rfl) ?_
  have hx' : x < 6 := by omega
  have r : ∀ i, bOr .i64 (bAnd .i64 (shL .i64 (rowN n i : Nat) (x : Int)) 63) (shR .i64 (rowN n i : Nat) (IntKind.i64.wrap (6 - (x : Int)))) = ((rotN x (rowN n i) : Nat) : Int) := fun i => rot_int x hx' _ (rowN_lt n i)
  have e6 : 0 ≤ IntKind.i64.wrap (6 - (x : Int)) := by rw [wrap_i64 _ (by omega) (by omega)]; omega
  have e0 : 0 ≤ (x : Int) := by omega
  have hy' : y < 6 := by omega
  have qq := fun (i : Nat) (hi : i < 6) => rot_row n x y i hx' hy' hi
  obtain rfl | rfl | rfl | rfl | rfl | rfl : y = 0 ∨ y = 1 ∨ y = 2 ∨ y = 3 ∨ y = 4 ∨ y = 5 := by omega
  · skip
    repeat' ((conv => whnf); first | (refine And.intro e0 ?_) | (refine And.intro e6 ?_) | (refine Exists.intro ([] : List Nat) ?_) | (refine And.intro rfl ?_) | (refine And.intro (by decide +kernel) ?_) | (refine And.intro trivial ?_) | (refine LoopR.unroll 7 ?_) | (refine d_l2Mod (hx := hx) (h0 := ?_) ..) | (refine Exists.intro _ (And.intro (fun τ => callW_fn (d_l2Mod (hx := hx) (h0 := And.intro rfl rfl) ..)) ?_)) | (refine Exists.intro _ (And.intro (callW_fn (d_l2Mod (hx := hx) (h0 := And.intro rfl rfl) ..)) (And.intro trivial ?_))) | (refine Exists.intro _ (And.intro (callW_fn (d_l2Mod (hx := hx) (h0 := And.intro rfl rfl) ..)) ?_)) | (refine Exists.intro _ (And.intro (fun τ _ => callW_fn (d_l2Mod (hx := hx) (h0 := And.intro rfl rfl) ..)) ?_)) | (refine d_l2Mod (hx := hy) (h0 := ?_) ..) | (refine Exists.intro _ (And.intro (fun τ => callW_fn (d_l2Mod (hx := hy) (h0 := And.intro rfl rfl) ..)) ?_)) | (refine Exists.intro _ (And.intro (callW_fn (d_l2Mod (hx := hy) (h0 := And.intro rfl rfl) ..)) (And.intro trivial ?_))) | (refine Exists.intro _ (And.intro (callW_fn (d_l2Mod (hx := hy) (h0 := And.intro rfl rfl) ..)) ?_)) | (refine Exists.intro _ (And.intro (fun τ _ => callW_fn (d_l2Mod (hx := hy) (h0 := And.intro rfl rfl) ..)) ?_)) | (refine Exists.intro _ (And.intro rfl (And.intro rfl (And.intro (Nat.le_of_ble_eq_true rfl) ?_)))) | (refine Exists.intro _ (And.intro rfl (And.intro rfl (And.intro rfl (And.intro (Nat.le_of_ble_eq_true rfl) ?_))))) | (refine And.intro (Exists.intro _ (And.intro rfl rfl)) ?_) | (exact fun hW => absurd hW (by decide +kernel)) | (intro hW; (try simp only [Bool.not_true, Bool.not_false, Bool.not_eq_true', Bool.not_eq_false', decide_eq_true_eq, decide_eq_false_iff_not, reduceCtorEq, Bool.true_eq_false, Bool.false_eq_true, mk_size, List.size_toArray, ByteArray.size_append, ByteArray.size_extract, List.length_cons, List.length_nil, ba_get, ba_empty, Int.toNat_natCast] at hW)) | (refine And.intro (?_ : _ → _) (?_ : _ → _)) | (refine FinR.drop 0 (Nat.zero_le _) (Closed.zero _) rfl ?_) | (refine FinR.keep ?_) | (refine And.intro (det3_agg rfl) ?_) | (refine fL_mk ?_) | (refine And.intro (by (try simp only [mk_size, List.size_toArray, ByteArray.size_append, ByteArray.size_extract, List.length_cons, List.length_nil]); omega) ?_) | (refine And.intro (by (try simp only [mk_size, List.size_toArray, ByteArray.size_append, ByteArray.size_extract, List.length_cons, List.length_nil, wrap64_eq]); omega) ?_) | fail)
    all_goals exact kSh h0 ((r 0).trans (congrArg _ (qq 0 (by decide)))) ((r 1).trans (congrArg _ (qq 1 (by decide)))) ((r 2).trans (congrArg _ (qq 2 (by decide)))) ((r 3).trans (congrArg _ (qq 3 (by decide)))) ((r 4).trans (congrArg _ (qq 4 (by decide)))) ((r 5).trans (congrArg _ (qq 5 (by decide))))
  · skip
    repeat' ((conv => whnf); first | (refine And.intro e0 ?_) | (refine And.intro e6 ?_) | (refine Exists.intro ([] : List Nat) ?_) | (refine And.intro rfl ?_) | (refine And.intro (by decide +kernel) ?_) | (refine And.intro trivial ?_) | (refine LoopR.unroll 7 ?_) | (refine d_l2Mod (hx := hx) (h0 := ?_) ..) | (refine Exists.intro _ (And.intro (fun τ => callW_fn (d_l2Mod (hx := hx) (h0 := And.intro rfl rfl) ..)) ?_)) | (refine Exists.intro _ (And.intro (callW_fn (d_l2Mod (hx := hx) (h0 := And.intro rfl rfl) ..)) (And.intro trivial ?_))) | (refine Exists.intro _ (And.intro (callW_fn (d_l2Mod (hx := hx) (h0 := And.intro rfl rfl) ..)) ?_)) | (refine Exists.intro _ (And.intro (fun τ _ => callW_fn (d_l2Mod (hx := hx) (h0 := And.intro rfl rfl) ..)) ?_)) | (refine d_l2Mod (hx := hy) (h0 := ?_) ..) | (refine Exists.intro _ (And.intro (fun τ => callW_fn (d_l2Mod (hx := hy) (h0 := And.intro rfl rfl) ..)) ?_)) | (refine Exists.intro _ (And.intro (callW_fn (d_l2Mod (hx := hy) (h0 := And.intro rfl rfl) ..)) (And.intro trivial ?_))) | (refine Exists.intro _ (And.intro (callW_fn (d_l2Mod (hx := hy) (h0 := And.intro rfl rfl) ..)) ?_)) | (refine Exists.intro _ (And.intro (fun τ _ => callW_fn (d_l2Mod (hx := hy) (h0 := And.intro rfl rfl) ..)) ?_)) | (refine Exists.intro _ (And.intro rfl (And.intro rfl (And.intro (Nat.le_of_ble_eq_true rfl) ?_)))) | (refine Exists.intro _ (And.intro rfl (And.intro rfl (And.intro rfl (And.intro (Nat.le_of_ble_eq_true rfl) ?_))))) | (refine And.intro (Exists.intro _ (And.intro rfl rfl)) ?_) | (exact fun hW => absurd hW (by decide +kernel)) | (intro hW; (try simp only [Bool.not_true, Bool.not_false, Bool.not_eq_true', Bool.not_eq_false', decide_eq_true_eq, decide_eq_false_iff_not, reduceCtorEq, Bool.true_eq_false, Bool.false_eq_true, mk_size, List.size_toArray, ByteArray.size_append, ByteArray.size_extract, List.length_cons, List.length_nil, ba_get, ba_empty, Int.toNat_natCast] at hW)) | (refine And.intro (?_ : _ → _) (?_ : _ → _)) | (refine FinR.drop 0 (Nat.zero_le _) (Closed.zero _) rfl ?_) | (refine FinR.keep ?_) | (refine And.intro (det3_agg rfl) ?_) | (refine fL_mk ?_) | (refine And.intro (by (try simp only [mk_size, List.size_toArray, ByteArray.size_append, ByteArray.size_extract, List.length_cons, List.length_nil]); omega) ?_) | (refine And.intro (by (try simp only [mk_size, List.size_toArray, ByteArray.size_append, ByteArray.size_extract, List.length_cons, List.length_nil, wrap64_eq]); omega) ?_) | fail)
    all_goals exact kSh h0 ((r 5).trans (congrArg _ (qq 5 (by decide)))) ((r 0).trans (congrArg _ (qq 0 (by decide)))) ((r 1).trans (congrArg _ (qq 1 (by decide)))) ((r 2).trans (congrArg _ (qq 2 (by decide)))) ((r 3).trans (congrArg _ (qq 3 (by decide)))) ((r 4).trans (congrArg _ (qq 4 (by decide))))
  · skip
    repeat' ((conv => whnf); first | (refine And.intro e0 ?_) | (refine And.intro e6 ?_) | (refine Exists.intro ([] : List Nat) ?_) | (refine And.intro rfl ?_) | (refine And.intro (by decide +kernel) ?_) | (refine And.intro trivial ?_) | (refine LoopR.unroll 7 ?_) | (refine d_l2Mod (hx := hx) (h0 := ?_) ..) | (refine Exists.intro _ (And.intro (fun τ => callW_fn (d_l2Mod (hx := hx) (h0 := And.intro rfl rfl) ..)) ?_)) | (refine Exists.intro _ (And.intro (callW_fn (d_l2Mod (hx := hx) (h0 := And.intro rfl rfl) ..)) (And.intro trivial ?_))) | (refine Exists.intro _ (And.intro (callW_fn (d_l2Mod (hx := hx) (h0 := And.intro rfl rfl) ..)) ?_)) | (refine Exists.intro _ (And.intro (fun τ _ => callW_fn (d_l2Mod (hx := hx) (h0 := And.intro rfl rfl) ..)) ?_)) | (refine d_l2Mod (hx := hy) (h0 := ?_) ..) | (refine Exists.intro _ (And.intro (fun τ => callW_fn (d_l2Mod (hx := hy) (h0 := And.intro rfl rfl) ..)) ?_)) | (refine Exists.intro _ (And.intro (callW_fn (d_l2Mod (hx := hy) (h0 := And.intro rfl rfl) ..)) (And.intro trivial ?_))) | (refine Exists.intro _ (And.intro (callW_fn (d_l2Mod (hx := hy) (h0 := And.intro rfl rfl) ..)) ?_)) | (refine Exists.intro _ (And.intro (fun τ _ => callW_fn (d_l2Mod (hx := hy) (h0 := And.intro rfl rfl) ..)) ?_)) | (refine Exists.intro _ (And.intro rfl (And.intro rfl (And.intro (Nat.le_of_ble_eq_true rfl) ?_)))) | (refine Exists.intro _ (And.intro rfl (And.intro rfl (And.intro rfl (And.intro (Nat.le_of_ble_eq_true rfl) ?_))))) | (refine And.intro (Exists.intro _ (And.intro rfl rfl)) ?_) | (exact fun hW => absurd hW (by decide +kernel)) | (intro hW; (try simp only [Bool.not_true, Bool.not_false, Bool.not_eq_true', Bool.not_eq_false', decide_eq_true_eq, decide_eq_false_iff_not, reduceCtorEq, Bool.true_eq_false, Bool.false_eq_true, mk_size, List.size_toArray, ByteArray.size_append, ByteArray.size_extract, List.length_cons, List.length_nil, ba_get, ba_empty, Int.toNat_natCast] at hW)) | (refine And.intro (?_ : _ → _) (?_ : _ → _)) | (refine FinR.drop 0 (Nat.zero_le _) (Closed.zero _) rfl ?_) | (refine FinR.keep ?_) | (refine And.intro (det3_agg rfl) ?_) | (refine fL_mk ?_) | (refine And.intro (by (try simp only [mk_size, List.size_toArray, ByteArray.size_append, ByteArray.size_extract, List.length_cons, List.length_nil]); omega) ?_) | (refine And.intro (by (try simp only [mk_size, List.size_toArray, ByteArray.size_append, ByteArray.size_extract, List.length_cons, List.length_nil, wrap64_eq]); omega) ?_) | fail)
    all_goals exact kSh h0 ((r 4).trans (congrArg _ (qq 4 (by decide)))) ((r 5).trans (congrArg _ (qq 5 (by decide)))) ((r 0).trans (congrArg _ (qq 0 (by decide)))) ((r 1).trans (congrArg _ (qq 1 (by decide)))) ((r 2).trans (congrArg _ (qq 2 (by decide)))) ((r 3).trans (congrArg _ (qq 3 (by decide))))
  · skip
    repeat' ((conv => whnf); first | (refine And.intro e0 ?_) | (refine And.intro e6 ?_) | (refine Exists.intro ([] : List Nat) ?_) | (refine And.intro rfl ?_) | (refine And.intro (by decide +kernel) ?_) | (refine And.intro trivial ?_) | (refine LoopR.unroll 7 ?_) | (refine d_l2Mod (hx := hx) (h0 := ?_) ..) | (refine Exists.intro _ (And.intro (fun τ => callW_fn (d_l2Mod (hx := hx) (h0 := And.intro rfl rfl) ..)) ?_)) | (refine Exists.intro _ (And.intro (callW_fn (d_l2Mod (hx := hx) (h0 := And.intro rfl rfl) ..)) (And.intro trivial ?_))) | (refine Exists.intro _ (And.intro (callW_fn (d_l2Mod (hx := hx) (h0 := And.intro rfl rfl) ..)) ?_)) | (refine Exists.intro _ (And.intro (fun τ _ => callW_fn (d_l2Mod (hx := hx) (h0 := And.intro rfl rfl) ..)) ?_)) | (refine d_l2Mod (hx := hy) (h0 := ?_) ..) | (refine Exists.intro _ (And.intro (fun τ => callW_fn (d_l2Mod (hx := hy) (h0 := And.intro rfl rfl) ..)) ?_)) | (refine Exists.intro _ (And.intro (callW_fn (d_l2Mod (hx := hy) (h0 := And.intro rfl rfl) ..)) (And.intro trivial ?_))) | (refine Exists.intro _ (And.intro (callW_fn (d_l2Mod (hx := hy) (h0 := And.intro rfl rfl) ..)) ?_)) | (refine Exists.intro _ (And.intro (fun τ _ => callW_fn (d_l2Mod (hx := hy) (h0 := And.intro rfl rfl) ..)) ?_)) | (refine Exists.intro _ (And.intro rfl (And.intro rfl (And.intro (Nat.le_of_ble_eq_true rfl) ?_)))) | (refine Exists.intro _ (And.intro rfl (And.intro rfl (And.intro rfl (And.intro (Nat.le_of_ble_eq_true rfl) ?_))))) | (refine And.intro (Exists.intro _ (And.intro rfl rfl)) ?_) | (exact fun hW => absurd hW (by decide +kernel)) | (intro hW; (try simp only [Bool.not_true, Bool.not_false, Bool.not_eq_true', Bool.not_eq_false', decide_eq_true_eq, decide_eq_false_iff_not, reduceCtorEq, Bool.true_eq_false, Bool.false_eq_true, mk_size, List.size_toArray, ByteArray.size_append, ByteArray.size_extract, List.length_cons, List.length_nil, ba_get, ba_empty, Int.toNat_natCast] at hW)) | (refine And.intro (?_ : _ → _) (?_ : _ → _)) | (refine FinR.drop 0 (Nat.zero_le _) (Closed.zero _) rfl ?_) | (refine FinR.keep ?_) | (refine And.intro (det3_agg rfl) ?_) | (refine fL_mk ?_) | (refine And.intro (by (try simp only [mk_size, List.size_toArray, ByteArray.size_append, ByteArray.size_extract, List.length_cons, List.length_nil]); omega) ?_) | (refine And.intro (by (try simp only [mk_size, List.size_toArray, ByteArray.size_append, ByteArray.size_extract, List.length_cons, List.length_nil, wrap64_eq]); omega) ?_) | fail)
    all_goals exact kSh h0 ((r 3).trans (congrArg _ (qq 3 (by decide)))) ((r 4).trans (congrArg _ (qq 4 (by decide)))) ((r 5).trans (congrArg _ (qq 5 (by decide)))) ((r 0).trans (congrArg _ (qq 0 (by decide)))) ((r 1).trans (congrArg _ (qq 1 (by decide)))) ((r 2).trans (congrArg _ (qq 2 (by decide))))
  · skip
    repeat' ((conv => whnf); first | (refine And.intro e0 ?_) | (refine And.intro e6 ?_) | (refine Exists.intro ([] : List Nat) ?_) | (refine And.intro rfl ?_) | (refine And.intro (by decide +kernel) ?_) | (refine And.intro trivial ?_) | (refine LoopR.unroll 7 ?_) | (refine d_l2Mod (hx := hx) (h0 := ?_) ..) | (refine Exists.intro _ (And.intro (fun τ => callW_fn (d_l2Mod (hx := hx) (h0 := And.intro rfl rfl) ..)) ?_)) | (refine Exists.intro _ (And.intro (callW_fn (d_l2Mod (hx := hx) (h0 := And.intro rfl rfl) ..)) (And.intro trivial ?_))) | (refine Exists.intro _ (And.intro (callW_fn (d_l2Mod (hx := hx) (h0 := And.intro rfl rfl) ..)) ?_)) | (refine Exists.intro _ (And.intro (fun τ _ => callW_fn (d_l2Mod (hx := hx) (h0 := And.intro rfl rfl) ..)) ?_)) | (refine d_l2Mod (hx := hy) (h0 := ?_) ..) | (refine Exists.intro _ (And.intro (fun τ => callW_fn (d_l2Mod (hx := hy) (h0 := And.intro rfl rfl) ..)) ?_)) | (refine Exists.intro _ (And.intro (callW_fn (d_l2Mod (hx := hy) (h0 := And.intro rfl rfl) ..)) (And.intro trivial ?_))) | (refine Exists.intro _ (And.intro (callW_fn (d_l2Mod (hx := hy) (h0 := And.intro rfl rfl) ..)) ?_)) | (refine Exists.intro _ (And.intro (fun τ _ => callW_fn (d_l2Mod (hx := hy) (h0 := And.intro rfl rfl) ..)) ?_)) | (refine Exists.intro _ (And.intro rfl (And.intro rfl (And.intro (Nat.le_of_ble_eq_true rfl) ?_)))) | (refine Exists.intro _ (And.intro rfl (And.intro rfl (And.intro rfl (And.intro (Nat.le_of_ble_eq_true rfl) ?_))))) | (refine And.intro (Exists.intro _ (And.intro rfl rfl)) ?_) | (exact fun hW => absurd hW (by decide +kernel)) | (intro hW; (try simp only [Bool.not_true, Bool.not_false, Bool.not_eq_true', Bool.not_eq_false', decide_eq_true_eq, decide_eq_false_iff_not, reduceCtorEq, Bool.true_eq_false, Bool.false_eq_true, mk_size, List.size_toArray, ByteArray.size_append, ByteArray.size_extract, List.length_cons, List.length_nil, ba_get, ba_empty, Int.toNat_natCast] at hW)) | (refine And.intro (?_ : _ → _) (?_ : _ → _)) | (refine FinR.drop 0 (Nat.zero_le _) (Closed.zero _) rfl ?_) | (refine FinR.keep ?_) | (refine And.intro (det3_agg rfl) ?_) | (refine fL_mk ?_) | (refine And.intro (by (try simp only [mk_size, List.size_toArray, ByteArray.size_append, ByteArray.size_extract, List.length_cons, List.length_nil]); omega) ?_) | (refine And.intro (by (try simp only [mk_size, List.size_toArray, ByteArray.size_append, ByteArray.size_extract, List.length_cons, List.length_nil, wrap64_eq]); omega) ?_) | fail)
    all_goals exact kSh h0 ((r 2).trans (congrArg _ (qq 2 (by decide)))) ((r 3).trans (congrArg _ (qq 3 (by decide)))) ((r 4).trans (congrArg _ (qq 4 (by decide)))) ((r 5).trans (congrArg _ (qq 5 (by decide)))) ((r 0).trans (congrArg _ (qq 0 (by decide)))) ((r 1).trans (congrArg _ (qq 1 (by decide))))
  · skip
    repeat' ((conv => whnf); first | (refine And.intro e0 ?_) | (refine And.intro e6 ?_) | (refine Exists.intro ([] : List Nat) ?_) | (refine And.intro rfl ?_) | (refine And.intro (by decide +kernel) ?_) | (refine And.intro trivial ?_) | (refine LoopR.unroll 7 ?_) | (refine d_l2Mod (hx := hx) (h0 := ?_) ..) | (refine Exists.intro _ (And.intro (fun τ => callW_fn (d_l2Mod (hx := hx) (h0 := And.intro rfl rfl) ..)) ?_)) | (refine Exists.intro _ (And.intro (callW_fn (d_l2Mod (hx := hx) (h0 := And.intro rfl rfl) ..)) (And.intro trivial ?_))) | (refine Exists.intro _ (And.intro (callW_fn (d_l2Mod (hx := hx) (h0 := And.intro rfl rfl) ..)) ?_)) | (refine Exists.intro _ (And.intro (fun τ _ => callW_fn (d_l2Mod (hx := hx) (h0 := And.intro rfl rfl) ..)) ?_)) | (refine d_l2Mod (hx := hy) (h0 := ?_) ..) | (refine Exists.intro _ (And.intro (fun τ => callW_fn (d_l2Mod (hx := hy) (h0 := And.intro rfl rfl) ..)) ?_)) | (refine Exists.intro _ (And.intro (callW_fn (d_l2Mod (hx := hy) (h0 := And.intro rfl rfl) ..)) (And.intro trivial ?_))) | (refine Exists.intro _ (And.intro (callW_fn (d_l2Mod (hx := hy) (h0 := And.intro rfl rfl) ..)) ?_)) | (refine Exists.intro _ (And.intro (fun τ _ => callW_fn (d_l2Mod (hx := hy) (h0 := And.intro rfl rfl) ..)) ?_)) | (refine Exists.intro _ (And.intro rfl (And.intro rfl (And.intro (Nat.le_of_ble_eq_true rfl) ?_)))) | (refine Exists.intro _ (And.intro rfl (And.intro rfl (And.intro rfl (And.intro (Nat.le_of_ble_eq_true rfl) ?_))))) | (refine And.intro (Exists.intro _ (And.intro rfl rfl)) ?_) | (exact fun hW => absurd hW (by decide +kernel)) | (intro hW; (try simp only [Bool.not_true, Bool.not_false, Bool.not_eq_true', Bool.not_eq_false', decide_eq_true_eq, decide_eq_false_iff_not, reduceCtorEq, Bool.true_eq_false, Bool.false_eq_true, mk_size, List.size_toArray, ByteArray.size_append, ByteArray.size_extract, List.length_cons, List.length_nil, ba_get, ba_empty, Int.toNat_natCast] at hW)) | (refine And.intro (?_ : _ → _) (?_ : _ → _)) | (refine FinR.drop 0 (Nat.zero_le _) (Closed.zero _) rfl ?_) | (refine FinR.keep ?_) | (refine And.intro (det3_agg rfl) ?_) | (refine fL_mk ?_) | (refine And.intro (by (try simp only [mk_size, List.size_toArray, ByteArray.size_append, ByteArray.size_extract, List.length_cons, List.length_nil]); omega) ?_) | (refine And.intro (by (try simp only [mk_size, List.size_toArray, ByteArray.size_append, ByteArray.size_extract, List.length_cons, List.length_nil, wrap64_eq]); omega) ?_) | fail)
    all_goals exact kSh h0 ((r 1).trans (congrArg _ (qq 1 (by decide)))) ((r 2).trans (congrArg _ (qq 2 (by decide)))) ((r 3).trans (congrArg _ (qq 3 (by decide)))) ((r 4).trans (congrArg _ (qq 4 (by decide)))) ((r 5).trans (congrArg _ (qq 5 (by decide)))) ((r 0).trans (congrArg _ (qq 0 (by decide))))
theorem d_l2ShiftN (n : Nat) (dx dy : Int) (x y : Nat) (hx : dx % 6 = x) (hy : dy % 6 = y) (K : Cont) (h0 : K (ShN (mvN (shG x y) n 36)) σ) : ACall Try.prog W0 70 [ShN n, I dx, I dy] σ K :=
  ACall.lift rfl (fun _ => rfl) (fun W1 K _ hK => c_l2ShiftN n dx dy x y hx hy K hK) h0
end Go.Proofs.Ytcclhjohpicleaa
end

section
/- Contracts: presses, flips. -/
set_option linter.unusedVariables false
set_option linter.unusedSimpArgs false
set_option maxRecDepth 100000
set_option maxHeartbeats 4000000
namespace Go.Proofs.Ytcclhjohpicleaa
open Go Go.RowKit Go.Proofs.Ytcclhjohpicleaa.Abs
variable {W0 : World} {σ : List Blk}
theorem c_l2OrN (n m : Nat) (K : Cont) (h0 : K (ShN (n ||| m)) []) : ACall Try.prog W0 49 [ShN n, ShN m] [] K := by
  refine by49 (Nat.le_of_ble_eq_true rfl) ?_
  have q := fun (i : Nat) => (b_or _ (rowN_lt n i) _ (rowN_lt m i)).trans (congrArg (fun x : Nat => (x : Int)) (row_or n m i).symm)
  repeat' ((conv => whnf); first | (refine Exists.intro ([] : List Nat) ?_) | (refine And.intro rfl ?_) | (refine And.intro (by decide +kernel) ?_) | (refine And.intro trivial ?_) | (refine LoopR.unroll 7 ?_) | (refine Exists.intro _ (And.intro rfl (And.intro rfl (And.intro (Nat.le_of_ble_eq_true rfl) ?_)))) | (refine Exists.intro _ (And.intro rfl (And.intro rfl (And.intro rfl (And.intro (Nat.le_of_ble_eq_true rfl) ?_))))) | (refine And.intro (Exists.intro _ (And.intro rfl rfl)) ?_) | (exact fun hW => absurd hW (by decide +kernel)) | (intro hW; (try simp only [Bool.not_true, Bool.not_false, Bool.not_eq_true', Bool.not_eq_false', decide_eq_true_eq, decide_eq_false_iff_not, reduceCtorEq, Bool.true_eq_false, Bool.false_eq_true, mk_size, List.size_toArray, ByteArray.size_append, ByteArray.size_extract, List.length_cons, List.length_nil, ba_get, ba_empty, Int.toNat_natCast] at hW)) | (refine And.intro (?_ : _ → _) (?_ : _ → _)) | (refine FinR.drop 0 (Nat.zero_le _) (Closed.zero _) rfl ?_) | (refine FinR.keep ?_) | (refine And.intro (det3_agg rfl) ?_) | (refine fL_mk ?_) | (refine And.intro (by (try simp only [mk_size, List.size_toArray, ByteArray.size_append, ByteArray.size_extract, List.length_cons, List.length_nil]); omega) ?_) | (refine And.intro (by (try simp only [mk_size, List.size_toArray, ByteArray.size_append, ByteArray.size_extract, List.length_cons, List.length_nil, wrap64_eq]); omega) ?_) | fail)
  all_goals exact kSh h0 (q 0) (q 1) (q 2) (q 3) (q 4) (q 5)
theorem d_l2OrN (n m : Nat) (K : Cont) (h0 : K (ShN (n ||| m)) σ) : ACall Try.prog W0 49 [ShN n, ShN m] σ K :=
  ACall.lift rfl (fun _ => rfl) (fun W1 K _ hK => c_l2OrN n m K hK) h0
theorem c_l2AndM (n m : Nat) (K : Cont) (h0 : K (ShN (n &&& m)) []) : ACall Try.prog W0 83 [ShN n, ShN m] [] K := by
  refine by83 (Nat.le_of_ble_eq_true rfl) ?_
  have q := fun (i : Nat) => (row_and _ (rowN_lt n i) _ (rowN_lt m i)).trans (congrArg (fun x : Nat => (x : Int)) (row_andN n m i).symm)
  repeat' ((conv => whnf); first | (refine Exists.intro ([] : List Nat) ?_) | (refine And.intro rfl ?_) | (refine And.intro (by decide +kernel) ?_) | (refine And.intro trivial ?_) | (refine LoopR.unroll 7 ?_) | (refine Exists.intro _ (And.intro rfl (And.intro rfl (And.intro (Nat.le_of_ble_eq_true rfl) ?_)))) | (refine Exists.intro _ (And.intro rfl (And.intro rfl (And.intro rfl (And.intro (Nat.le_of_ble_eq_true rfl) ?_))))) | (refine And.intro (Exists.intro _ (And.intro rfl rfl)) ?_) | (exact fun hW => absurd hW (by decide +kernel)) | (intro hW; (try simp only [Bool.not_true, Bool.not_false, Bool.not_eq_true', Bool.not_eq_false', decide_eq_true_eq, decide_eq_false_iff_not, reduceCtorEq, Bool.true_eq_false, Bool.false_eq_true, mk_size, List.size_toArray, ByteArray.size_append, ByteArray.size_extract, List.length_cons, List.length_nil, ba_get, ba_empty, Int.toNat_natCast] at hW)) | (refine And.intro (?_ : _ → _) (?_ : _ → _)) | (refine FinR.drop 0 (Nat.zero_le _) (Closed.zero _) rfl ?_) | (refine FinR.keep ?_) | (refine And.intro (det3_agg rfl) ?_) | (refine fL_mk ?_) | (refine And.intro (by (try simp only [mk_size, List.size_toArray, ByteArray.size_append, ByteArray.size_extract, List.length_cons, List.length_nil]); omega) ?_) | (refine And.intro (by (try simp only [mk_size, List.size_toArray, ByteArray.size_append, ByteArray.size_extract, List.length_cons, List.length_nil, wrap64_eq]); omega) ?_) | fail)
  all_goals exact kSh h0 (q 0) (q 1) (q 2) (q 3) (q 4) (q 5)
theorem d_l2AndM (n m : Nat) (K : Cont) (h0 : K (ShN (n &&& m)) σ) : ACall Try.prog W0 83 [ShN n, ShN m] σ K :=
  ACall.lift rfl (fun _ => rfl) (fun W1 K _ hK => c_l2AndM n m K hK) h0
/-- a stamp that is pressed at a cell -/
def prN (m x y : Nat) : Nat := mvN (shG x y) m 36
theorem prN_lt {m x y : Nat} (hx : x < 6) (hy : y < 6) : prN m x y < 2 ^ 36 := mvN_lt (sh_perm x hx y hy) m
theorem c_l2AtN (n x y : Nat) (hx : x < 6) (hy : y < 6) (K : Cont) (h0 : K (ShN (prN n x y)) []) : ACall Try.prog W0 50 [ShN n, Ce x y] [] K := by
  refine by50 (Nat.le_of_ble_eq_true rfl) ?_
  have h1 : (x : Int) % 6 = x := by omega
  have h2 : (y : Int) % 6 = y := by omega
  repeat' ((conv => whnf); first | (refine Exists.intro ([] : List Nat) ?_) | (refine And.intro rfl ?_) | (refine And.intro (by decide +kernel) ?_) | (refine And.intro trivial ?_) | (refine d_l2ShiftN (hx := h1) (hy := h2) (h0 := ?_) ..) | (refine Exists.intro _ (And.intro rfl (And.intro rfl (And.intro (Nat.le_of_ble_eq_true rfl) ?_)))) | (refine Exists.intro _ (And.intro rfl (And.intro rfl (And.intro rfl (And.intro (Nat.le_of_ble_eq_true rfl) ?_))))) | (refine And.intro (Exists.intro _ (And.intro rfl rfl)) ?_) | (exact fun hW => absurd hW (by decide +kernel)) | (intro hW; (try simp only [Bool.not_true, Bool.not_false, Bool.not_eq_true', Bool.not_eq_false', decide_eq_true_eq, decide_eq_false_iff_not, reduceCtorEq, Bool.true_eq_false, Bool.false_eq_true, mk_size, List.size_toArray, ByteArray.size_append, ByteArray.size_extract, List.length_cons, List.length_nil, ba_get, ba_empty, Int.toNat_natCast] at hW)) | (refine And.intro (?_ : _ → _) (?_ : _ → _)) | (refine FinR.drop 0 (Nat.zero_le _) (Closed.zero _) rfl ?_) | (refine FinR.keep ?_) | (refine And.intro (det3_agg rfl) ?_) | (refine fL_mk ?_) | (refine And.intro (by (try simp only [mk_size, List.size_toArray, ByteArray.size_append, ByteArray.size_extract, List.length_cons, List.length_nil]); omega) ?_) | (refine And.intro (by (try simp only [mk_size, List.size_toArray, ByteArray.size_append, ByteArray.size_extract, List.length_cons, List.length_nil, wrap64_eq]); omega) ?_) | fail)
  all_goals exact h0
theorem d_l2AtN (n x y : Nat) (hx : x < 6) (hy : y < 6) (K : Cont) (h0 : K (ShN (prN n x y)) σ) : ACall Try.prog W0 50 [ShN n, Ce x y] σ K :=
  ACall.lift rfl (fun _ => rfl) (fun W1 K _ hK => c_l2AtN n x y hx hy K hK) h0
theorem c_l2SheetN (n : Nat) (K : Cont) (h0 : K (Bo true) []) : ACall Try.prog W0 60 [ShN n] [] K := by
  refine c_l2Sheet (K := K) (h0 := ?_) ..
  rw [shB6_ShN]; exact h0
theorem d_l2SheetN (n : Nat) (K : Cont) (h0 : K (Bo true) σ) : ACall Try.prog W0 60 [ShN n] σ K :=
  ACall.lift rfl (fun _ => rfl) (fun W1 K _ hK => c_l2SheetN n K hK) h0
abbrev Sh0 : AV := Sh 0 0 0 0 0 0
end Go.Proofs.Ytcclhjohpicleaa
end

section
/- Contracts: the program's presses; flips. -/
set_option linter.unusedVariables false
set_option linter.unusedSimpArgs false
set_option maxRecDepth 100000
set_option maxHeartbeats 4000000
namespace Go.Proofs.Ytcclhjohpicleaa
open Go Go.RowKit Go.Proofs.Ytcclhjohpicleaa.Abs
variable {W0 : World} {σ : List Blk}
theorem bOrU {n m : Nat} (hn : n < 2 ^ 36) (hm : m < 2 ^ 36) : bOr .u64 n m = ((n ||| m : Nat) : Int) := bOr_u64 n m (Nat.lt_trans hn (by decide)) (Nat.lt_trans hm (by decide))
theorem c_twoSetsN (n m : Nat) (hn : n < 2 ^ 36) (hm : m < 2 ^ 36) (K : Cont) (h0 : K (.tup [U n, U m, Bo true]) []) : ACall Try.prog W0 63 [ShN n, ShN m] [] K := by
  refine by63 (Nat.le_of_ble_eq_true rfl) ?_
  repeat' ((conv => whnf); first | (refine Exists.intro ([] : List Nat) ?_) | (refine And.intro rfl ?_) | (refine And.intro (by decide +kernel) ?_) | (refine And.intro trivial ?_) | (refine d_setOfN (n := n) (hn := hn) (h0 := ?_) ..) | (refine d_setOfN (n := m) (hn := hm) (h0 := ?_) ..) | (refine Exists.intro _ (And.intro rfl (And.intro rfl (And.intro (Nat.le_of_ble_eq_true rfl) ?_)))) | (refine Exists.intro _ (And.intro rfl (And.intro rfl (And.intro rfl (And.intro (Nat.le_of_ble_eq_true rfl) ?_))))) | (refine And.intro (Exists.intro _ (And.intro rfl rfl)) ?_) | (exact fun hW => absurd hW (by decide +kernel)) | (intro hW; (try simp only [Bool.not_true, Bool.not_false, Bool.not_eq_true', Bool.not_eq_false', decide_eq_true_eq, decide_eq_false_iff_not, reduceCtorEq, Bool.true_eq_false, Bool.false_eq_true, mk_size, List.size_toArray, ByteArray.size_append, ByteArray.size_extract, List.length_cons, List.length_nil, ba_get, ba_empty, Int.toNat_natCast] at hW)) | (refine And.intro (?_ : _ → _) (?_ : _ → _)) | (refine FinR.drop 0 (Nat.zero_le _) (Closed.zero _) rfl ?_) | (refine FinR.keep ?_) | (refine And.intro (det3_agg rfl) ?_) | (refine fL_mk ?_) | (refine And.intro (by (try simp only [mk_size, List.size_toArray, ByteArray.size_append, ByteArray.size_extract, List.length_cons, List.length_nil]); omega) ?_) | (refine And.intro (by (try simp only [mk_size, List.size_toArray, ByteArray.size_append, ByteArray.size_extract, List.length_cons, List.length_nil, wrap64_eq]); omega) ?_) | fail)
  all_goals exact h0
theorem d_twoSetsN (n m : Nat) (hn : n < 2 ^ 36) (hm : m < 2 ^ 36) (K : Cont) (h0 : K (.tup [U n, U m, Bo true]) σ) : ACall Try.prog W0 63 [ShN n, ShN m] σ K :=
  ACall.lift rfl (fun _ => rfl) (fun W1 K _ hK => c_twoSetsN n m hn hm K hK) h0
end Go.Proofs.Ytcclhjohpicleaa
end

section
/- Contracts: the reference's turns. -/
set_option linter.unusedVariables false
set_option linter.unusedSimpArgs false
set_option maxRecDepth 100000
set_option maxHeartbeats 4000000
namespace Go.Proofs.Ytcclhjohpicleaa
open Go Go.RowKit Go.Proofs.Ytcclhjohpicleaa.Abs
variable {W0 : World} {σ : List Blk}
def rwL (n : Nat) : List AV := [I (rowN n 0 : Nat), I (rowN n 1 : Nat), I (rowN n 2 : Nat), I (rowN n 3 : Nat), I (rowN n 4 : Nat), I (rowN n 5 : Nat)]
def bl (n : Nat) : Blk := ⟨rwL n, 0, 27, 0, false, false⟩
end Go.Proofs.Ytcclhjohpicleaa
end

section
/- Contracts: jobs in a shop. -/
set_option linter.unusedVariables false
set_option linter.unusedSimpArgs false
set_option maxRecDepth 100000
set_option maxHeartbeats 4000000
namespace Go.Proofs.Ytcclhjohpicleaa
open Go Go.RowKit Go.Proofs.Ytcclhjohpicleaa.Abs
variable {W0 : World} {σ : List Blk}
abbrev SpN (n m : Nat) (p q : Int) : AV := Sp (rowN n 0 : Nat) (rowN n 1 : Nat) (rowN n 2 : Nat) (rowN n 3 : Nat) (rowN n 4 : Nat) (rowN n 5 : Nat) (rowN m 0 : Nat) (rowN m 1 : Nat) (rowN m 2 : Nat) (rowN m 3 : Nat) (rowN m 4 : Nat) (rowN m 5 : Nat) p q
abbrev Jb (k a b : Int) : AV := .agg [I k, I a, I b]
abbrev Sp0 : AV := Sp 0 0 0 0 0 0 0 0 0 0 0 0 0 0
end Go.Proofs.Ytcclhjohpicleaa
end

section
/- Contracts: lists of jobs. -/
set_option linter.unusedVariables false
set_option linter.unusedSimpArgs false
set_option maxRecDepth 100000
set_option maxHeartbeats 4000000
namespace Go.Proofs.Ytcclhjohpicleaa
open Go Go.RowKit Go.Proofs.Ytcclhjohpicleaa.Abs
variable {W0 : World} {σ : List Blk}
theorem wsucc' (x : Nat) (hx : x < 4611686018427387904) : IntKind.i64.wrap ((x : Int) + 1) = ((x + 1 : Nat) : Int) := by rw [wrap_i64 _ (by omega) (by omega)]; omega
abbrev enI (l : List Int) : List Value := l.map (Value.int .i64)
/-- the cells of a list of rows -/
def jc (l : List (List Int)) : List AV := (l.map fun x => x.map I).flatten
theorem jc_len {s : Nat} : ∀ {l : List (List Int)}, (∀ x ∈ l, x.length = s) → (jc l).length = l.length * s
  | [], _ => by simp [jc]
  | x :: l, h => by
    have h1 := jc_len (l := l) fun y hy => h y (List.mem_cons_of_mem _ hy)
    have h2 := h x List.mem_cons_self
    show (x.map I ++ jc l).length = _
    rw [List.length_append, List.length_map, h1, h2, List.length_cons, Nat.add_mul]; omega
theorem jc_sh (k : Nat) (l : List (List Int)) : (jc l).map (sh1 k) = jc l := by
  unfold jc
  induction l with
  | nil => rfl
  | cons x l ih =>
    simp only [List.map_cons, List.flatten_cons, List.map_append, ih]
    congr 1
    rw [List.map_map]; rfl
end Go.Proofs.Ytcclhjohpicleaa
end

section
/- Games: the order of sets, row by row. -/
set_option linter.unusedVariables false
set_option linter.unusedSimpArgs false
set_option maxRecDepth 100000
set_option maxHeartbeats 4000000
namespace Go.Proofs.Ytcclhjohpicleaa
open Go Go.RowKit Go.Proofs.Ytcclhjohpicleaa.Abs
variable {W0 : World} {σ : List Blk}
/-- the first rows as one number -/
def preK (n : Nat) : Nat → Nat
  | 0 => 0
  | y + 1 => preK n y * 64 + rowN n y
def kyN (n : Nat) : Nat := preK n 6
def ltS (a b : Nat) : Bool := decide (kyN a < kyN b)
def cmS (a b : Nat) : Int := if kyN a < kyN b then -1 else if kyN b < kyN a then 1 else 0
theorem pre_lt {a b y : Nat} (h : preK a y < preK b y) : ∀ d, preK a (y + d) < preK b (y + d)
  | 0 => h
  | d + 1 => by
    have ih := pre_lt h d
    have h1 := rowN_lt a (y + d)
    show preK a (y + d) * 64 + rowN a (y + d) < preK b (y + d) * 64 + rowN b (y + d)
    omega
theorem pre_row {a b y : Nat} (hy : y < 6) (he : preK a y = preK b y) (h : rowN a y < rowN b y) : kyN a < kyN b := by
  have h1 : preK a (y + 1) < preK b (y + 1) := by
    show preK a y * 64 + rowN a y < preK b y * 64 + rowN b y
    omega
  have h2 := pre_lt h1 (5 - y)
  rw [show y + 1 + (5 - y) = 6 by omega] at h2
  exact h2
theorem ky_inj {a b : Nat} (ha : a < 2 ^ 36) (hb : b < 2 ^ 36) (h : kyN a = kyN b) : a = b := by
  have r := rowN_lt a; have s := rowN_lt b
  have r0 := r 0; have r1 := r 1; have r2 := r 2; have r3 := r 3; have r4 := r 4; have r5 := r 5
  have s0 := s 0; have s1 := s 1; have s2 := s 2; have s3 := s 3; have s4 := s 4; have s5 := s 5
  have e : ∀ n, kyN n = ((((((0 * 64 + rowN n 0) * 64 + rowN n 1) * 64 + rowN n 2) * 64 + rowN n 3) * 64 + rowN n 4) * 64 + rowN n 5) := fun n => rfl
  rw [e, e] at h
  have q0 : rowN a 0 = rowN b 0 := by omega
  have q1 : rowN a 1 = rowN b 1 := by omega
  have q2 : rowN a 2 = rowN b 2 := by omega
  have q3 : rowN a 3 = rowN b 3 := by omega
  have q4 : rowN a 4 = rowN b 4 := by omega
  have q5 : rowN a 5 = rowN b 5 := by omega
  rw [← setN_rows ha, ← setN_rows hb, q0, q1, q2, q3, q4, q5]
theorem cmS_lt {a b : Nat} (h : kyN a < kyN b) : cmS a b = -1 := by rw [cmS, if_pos h]
theorem cmS_gt {a b : Nat} (h : kyN b < kyN a) : cmS a b = 1 := by rw [cmS, if_neg (by omega), if_pos h]
theorem cmS_eq {a b : Nat} (h : kyN a = kyN b) : cmS a b = 0 := by rw [cmS, if_neg (by omega), if_neg (by omega)]
/-! the program's comparison -/
def cpI (a b : Int) : Int := if a < b then -1 else if a > b then 1 else 0
theorem c_nanS (a : Int) (K : Cont) (h0 : K (Bo false) []) : ACall Try.prog W0 98 [U a] [] K := by
  refine by98 (Nat.le_of_ble_eq_true rfl) ?_
  repeat' ((conv => whnf); first | (refine Exists.intro ([] : List Nat) ?_) | (refine And.intro rfl ?_) | (refine And.intro (by decide +kernel) ?_) | (refine And.intro trivial ?_) | (refine Exists.intro _ (And.intro rfl (And.intro rfl (And.intro (Nat.le_of_ble_eq_true rfl) ?_)))) | (refine Exists.intro _ (And.intro rfl (And.intro rfl (And.intro rfl (And.intro (Nat.le_of_ble_eq_true rfl) ?_))))) | (refine And.intro (Exists.intro _ (And.intro rfl rfl)) ?_) | (exact fun hW => absurd hW (by decide +kernel)) | (intro hW; (try simp only [Bool.not_true, Bool.not_false, Bool.not_eq_true', Bool.not_eq_false', decide_eq_true_eq, decide_eq_false_iff_not, reduceCtorEq, Bool.true_eq_false, Bool.false_eq_true, mk_size, List.size_toArray, ByteArray.size_append, ByteArray.size_extract, List.length_cons, List.length_nil, ba_get, ba_empty, Int.toNat_natCast] at hW)) | (refine And.intro (?_ : _ → _) (?_ : _ → _)) | (refine FinR.drop 0 (Nat.zero_le _) (Closed.zero _) rfl ?_) | (refine FinR.keep ?_) | (refine And.intro (det3_agg rfl) ?_) | (refine fL_mk ?_) | (refine And.intro (by (try simp only [mk_size, List.size_toArray, ByteArray.size_append, ByteArray.size_extract, List.length_cons, List.length_nil]); omega) ?_) | (refine And.intro (by (try simp only [mk_size, List.size_toArray, ByteArray.size_append, ByteArray.size_extract, List.length_cons, List.length_nil, wrap64_eq]); omega) ?_) | fail)
  all_goals first | exact h0 | (refine kB' h0 ?_; simp)
theorem d_nanS (a : Int) (K : Cont) (h0 : K (Bo false) σ) : ACall Try.prog W0 98 [U a] σ K :=
  ACall.lift rfl (fun _ => rfl) (fun W1 K _ hK => c_nanS a K hK) h0
theorem c_cmpSet (a b : Int) (K : Cont) (h0 : K (I (cpI a b)) []) : ACall Try.prog W0 82 [U a, U b] [] K := by
  refine by82 (Nat.le_of_ble_eq_true rfl) ?_
  unfold cpI at h0
  by_cases h1 : a < b
  · rw [if_pos h1] at h0
    repeat' ((conv => whnf); first | (refine Exists.intro ([] : List Nat) ?_) | (refine And.intro rfl ?_) | (refine And.intro (by decide +kernel) ?_) | (refine And.intro trivial ?_) | (refine d_nanS (h0 := ?_) ..) | (refine Exists.intro _ (And.intro (fun τ => callW_fn (d_nanS (h0 := And.intro rfl rfl) ..)) ?_)) | (refine Exists.intro _ (And.intro (callW_fn (d_nanS (h0 := And.intro rfl rfl) ..)) (And.intro trivial ?_))) | (refine Exists.intro _ (And.intro (callW_fn (d_nanS (h0 := And.intro rfl rfl) ..)) ?_)) | (refine Exists.intro _ (And.intro (fun τ _ => callW_fn (d_nanS (h0 := And.intro rfl rfl) ..)) ?_)) | (refine Exists.intro _ (And.intro rfl (And.intro rfl (And.intro (Nat.le_of_ble_eq_true rfl) ?_)))) | (refine Exists.intro _ (And.intro rfl (And.intro rfl (And.intro rfl (And.intro (Nat.le_of_ble_eq_true rfl) ?_))))) | (refine And.intro (Exists.intro _ (And.intro rfl rfl)) ?_) | (exact fun hW => absurd hW (by decide +kernel)) | (intro hW; (try simp only [Bool.not_true, Bool.not_false, Bool.not_eq_true', Bool.not_eq_false', decide_eq_true_eq, decide_eq_false_iff_not, reduceCtorEq, Bool.true_eq_false, Bool.false_eq_true, mk_size, List.size_toArray, ByteArray.size_append, ByteArray.size_extract, List.length_cons, List.length_nil, ba_get, ba_empty, Int.toNat_natCast] at hW)) | (refine And.intro (?_ : _ → _) (?_ : _ → _)) | (refine FinR.drop 0 (Nat.zero_le _) (Closed.zero _) rfl ?_) | (refine FinR.keep ?_) | (refine And.intro (det3_agg rfl) ?_) | (refine fL_mk ?_) | (refine And.intro (by (try simp only [mk_size, List.size_toArray, ByteArray.size_append, ByteArray.size_extract, List.length_cons, List.length_nil]); omega) ?_) | (refine And.intro (by (try simp only [mk_size, List.size_toArray, ByteArray.size_append, ByteArray.size_extract, List.length_cons, List.length_nil, wrap64_eq]); omega) ?_) | fail)
    all_goals first | exact h0 | (exfalso; omega) | (exfalso; simp_all; done)
  · rw [if_neg h1] at h0
    by_cases h2 : a > b
    · rw [if_pos h2] at h0
      repeat' ((conv => whnf); first | (refine Exists.intro ([] : List Nat) ?_) | (refine And.intro rfl ?_) | (refine And.intro (by decide +kernel) ?_) | (refine And.intro trivial ?_) | (refine d_nanS (h0 := ?_) ..) | (refine Exists.intro _ (And.intro (fun τ => callW_fn (d_nanS (h0 := And.intro rfl rfl) ..)) ?_)) | (refine Exists.intro _ (And.intro (callW_fn (d_nanS (h0 := And.intro rfl rfl) ..)) (And.intro trivial ?_))) | (refine Exists.intro _ (And.intro (callW_fn (d_nanS (h0 := And.intro rfl rfl) ..)) ?_)) | (refine Exists.intro _ (And.intro (fun τ _ => callW_fn (d_nanS (h0 := And.intro rfl rfl) ..)) ?_)) | (refine Exists.intro _ (And.intro rfl (And.intro rfl (And.intro (Nat.le_of_ble_eq_true rfl) ?_)))) | (refine Exists.intro _ (And.intro rfl (And.intro rfl (And.intro rfl (And.intro (Nat.le_of_ble_eq_true rfl) ?_))))) | (refine And.intro (Exists.intro _ (And.intro rfl rfl)) ?_) | (exact fun hW => absurd hW (by decide +kernel)) | (intro hW; (try simp only [Bool.not_true, Bool.not_false, Bool.not_eq_true', Bool.not_eq_false', decide_eq_true_eq, decide_eq_false_iff_not, reduceCtorEq, Bool.true_eq_false, Bool.false_eq_true, mk_size, List.size_toArray, ByteArray.size_append, ByteArray.size_extract, List.length_cons, List.length_nil, ba_get, ba_empty, Int.toNat_natCast] at hW)) | (refine And.intro (?_ : _ → _) (?_ : _ → _)) | (refine FinR.drop 0 (Nat.zero_le _) (Closed.zero _) rfl ?_) | (refine FinR.keep ?_) | (refine And.intro (det3_agg rfl) ?_) | (refine fL_mk ?_) | (refine And.intro (by (try simp only [mk_size, List.size_toArray, ByteArray.size_append, ByteArray.size_extract, List.length_cons, List.length_nil]); omega) ?_) | (refine And.intro (by (try simp only [mk_size, List.size_toArray, ByteArray.size_append, ByteArray.size_extract, List.length_cons, List.length_nil, wrap64_eq]); omega) ?_) | fail)
      all_goals first | exact h0 | (exfalso; omega) | (exfalso; simp_all; done)
    · rw [if_neg h2] at h0
      repeat' ((conv => whnf); first | (refine Exists.intro ([] : List Nat) ?_) | (refine And.intro rfl ?_) | (refine And.intro (by decide +kernel) ?_) | (refine And.intro trivial ?_) | (refine d_nanS (h0 := ?_) ..) | (refine Exists.intro _ (And.intro (fun τ => callW_fn (d_nanS (h0 := And.intro rfl rfl) ..)) ?_)) | (refine Exists.intro _ (And.intro (callW_fn (d_nanS (h0 := And.intro rfl rfl) ..)) (And.intro trivial ?_))) | (refine Exists.intro _ (And.intro (callW_fn (d_nanS (h0 := And.intro rfl rfl) ..)) ?_)) | (refine Exists.intro _ (And.intro (fun τ _ => callW_fn (d_nanS (h0 := And.intro rfl rfl) ..)) ?_)) | (refine Exists.intro _ (And.intro rfl (And.intro rfl (And.intro (Nat.le_of_ble_eq_true rfl) ?_)))) | (refine Exists.intro _ (And.intro rfl (And.intro rfl (And.intro rfl (And.intro (Nat.le_of_ble_eq_true rfl) ?_))))) | (refine And.intro (Exists.intro _ (And.intro rfl rfl)) ?_) | (exact fun hW => absurd hW (by decide +kernel)) | (intro hW; (try simp only [Bool.not_true, Bool.not_false, Bool.not_eq_true', Bool.not_eq_false', decide_eq_true_eq, decide_eq_false_iff_not, reduceCtorEq, Bool.true_eq_false, Bool.false_eq_true, mk_size, List.size_toArray, ByteArray.size_append, ByteArray.size_extract, List.length_cons, List.length_nil, ba_get, ba_empty, Int.toNat_natCast] at hW)) | (refine And.intro (?_ : _ → _) (?_ : _ → _)) | (refine FinR.drop 0 (Nat.zero_le _) (Closed.zero _) rfl ?_) | (refine FinR.keep ?_) | (refine And.intro (det3_agg rfl) ?_) | (refine fL_mk ?_) | (refine And.intro (by (try simp only [mk_size, List.size_toArray, ByteArray.size_append, ByteArray.size_extract, List.length_cons, List.length_nil]); omega) ?_) | (refine And.intro (by (try simp only [mk_size, List.size_toArray, ByteArray.size_append, ByteArray.size_extract, List.length_cons, List.length_nil, wrap64_eq]); omega) ?_) | fail)
      all_goals first | exact h0 | (exfalso; omega) | (exfalso; simp_all; done)
theorem d_cmpSet (a b : Int) (K : Cont) (h0 : K (I (cpI a b)) σ) : ACall Try.prog W0 82 [U a, U b] σ K :=
  ACall.lift rfl (fun _ => rfl) (fun W1 K _ hK => c_cmpSet a b K hK) h0
theorem row_u (n y : Nat) (hy : y < 6) (hn : n < 2 ^ 64) : bAnd .u64 (shR .u64 (n : Nat) (IntKind.i64.wrap ((y : Int) * 6))) 63 = (rowN n y : Nat) := by
  rw [wrap_i64 _ (by omega) (by omega), show ((y : Int) * 6) = ((6 * y : Nat) : Int) by omega, shR_u64 n _ (by omega), show (63 : Int) = ((63 : Nat) : Int) from rfl, bAnd_u64 _ _ (Nat.lt_of_le_of_lt (by rw [Nat.shiftRight_eq_div_pow]; exact Nat.div_le_self _ _) hn) (by decide)]
  have e : (n >>> (6 * y)) &&& 63 = rowN n y := by unfold rowN; exact Nat.and_two_pow_sub_one_eq_mod _ 6
  rw [e]
theorem c_compareSets (a b : Nat) (ha : a < 2 ^ 36) (hb : b < 2 ^ 36) (K : Cont) (h0 : K (I (cmS a b)) []) : ACall Try.prog W0 65 [U a, U b] [] K := by
  refine by65 (Nat.le_of_ble_eq_true rfl) ?_
  repeat' ((conv => whnf); first | (refine Exists.intro ([] : List Nat) ?_) | (refine And.intro rfl ?_) | (refine And.intro (by decide +kernel) ?_) | (refine And.intro trivial ?_) | (refine Exists.intro _ (And.intro rfl (And.intro rfl (And.intro (Nat.le_of_ble_eq_true rfl) ?_)))) | (refine Exists.intro _ (And.intro rfl (And.intro rfl (And.intro rfl (And.intro (Nat.le_of_ble_eq_true rfl) ?_))))) | (refine And.intro (Exists.intro _ (And.intro rfl rfl)) ?_) | (exact fun hW => absurd hW (by decide +kernel)) | (intro hW; (try simp only [Bool.not_true, Bool.not_false, Bool.not_eq_true', Bool.not_eq_false', decide_eq_true_eq, decide_eq_false_iff_not, reduceCtorEq, Bool.true_eq_false, Bool.false_eq_true, mk_size, List.size_toArray, ByteArray.size_append, ByteArray.size_extract, List.length_cons, List.length_nil, ba_get, ba_empty, Int.toNat_natCast] at hW)) | (refine And.intro (?_ : _ → _) (?_ : _ → _)) | (refine FinR.drop 0 (Nat.zero_le _) (Closed.zero _) rfl ?_) | (refine FinR.keep ?_) | (refine And.intro (det3_agg rfl) ?_) | (refine fL_mk ?_) | (refine And.intro (by (try simp only [mk_size, List.size_toArray, ByteArray.size_append, ByteArray.size_extract, List.length_cons, List.length_nil]); omega) ?_) | (refine And.intro (by (try simp only [mk_size, List.size_toArray, ByteArray.size_append, ByteArray.size_extract, List.length_cons, List.length_nil, wrap64_eq]); omega) ?_) | fail)
  refine LoopR.live (fun y : Nat => [(0, U a), (1, U b), (7, I y)]) (fun _ => []) (fun y => y ≤ 6 ∧ preK a y = preK b y) (fun y => 6 - y) 0 ⟨rfl, rfl, rfl, trivial⟩ (.keep rfl) ⟨Nat.zero_le _, rfl⟩ ?_
  rintro y ⟨hy, he⟩
  have ew : IntKind.i64.wrap ((y : Nat) + 1 : Int) = ((y + 1 : Nat) : Int) := wsucc' y (by omega)
  by_cases hlt : y < 6
  · have e1 := row_u a y hlt (Nat.lt_trans ha (by decide))
    have e2 := row_u b y hlt (Nat.lt_trans hb (by decide))
    have e3 : 0 ≤ IntKind.i64.wrap ((y : Int) * 6) := by rw [wrap_i64 _ (by omega) (by omega)]; omega
    have hc := fun (τ : List Blk) (K : Cont) (h : K (I (cpI (rowN a y : Nat) (rowN b y : Nat))) τ) => d_cmpSet (W0 := W0) (σ := τ) _ _ K h
    unfold cpI at hc
    by_cases h1 : rowN a y < rowN b y
    · rw [if_pos (by omega)] at hc
      rw [cmS_lt (pre_row hlt he h1)] at h0
      repeat' ((conv => whnf); first | (refine And.intro e3 ?_) | (rw [e1]) | (rw [e2]) | (refine Exists.intro ([] : List Nat) ?_) | (refine And.intro rfl ?_) | (refine And.intro (by decide +kernel) ?_) | (refine And.intro trivial ?_) | (refine Exists.intro _ (And.intro (fun τ => callW_fn (hc _ _ (And.intro rfl rfl))) ?_)) | (refine Exists.intro _ (And.intro rfl (And.intro rfl (And.intro (Nat.le_of_ble_eq_true rfl) ?_)))) | (refine Exists.intro _ (And.intro rfl (And.intro rfl (And.intro rfl (And.intro (Nat.le_of_ble_eq_true rfl) ?_))))) | (refine And.intro (Exists.intro _ (And.intro rfl rfl)) ?_) | (exact fun hW => absurd hW (by decide +kernel)) | (intro hW; (try simp only [Bool.not_true, Bool.not_false, Bool.not_eq_true', Bool.not_eq_false', decide_eq_true_eq, decide_eq_false_iff_not, reduceCtorEq, Bool.true_eq_false, Bool.false_eq_true, mk_size, List.size_toArray, ByteArray.size_append, ByteArray.size_extract, List.length_cons, List.length_nil, ba_get, ba_empty, Int.toNat_natCast] at hW)) | (refine And.intro (?_ : _ → _) (?_ : _ → _)) | (refine FinR.drop 0 (Nat.zero_le _) (Closed.zero _) rfl ?_) | (refine FinR.keep ?_) | (refine And.intro (det3_agg rfl) ?_) | (refine fL_mk ?_) | (refine And.intro (by (try simp only [mk_size, List.size_toArray, ByteArray.size_append, ByteArray.size_extract, List.length_cons, List.length_nil]); omega) ?_) | (refine And.intro (by (try simp only [mk_size, List.size_toArray, ByteArray.size_append, ByteArray.size_extract, List.length_cons, List.length_nil, wrap64_eq]); omega) ?_) | fail)
      all_goals first | exact h0 | (exfalso; omega) | (exfalso; simp_all; done) | exact kB' h0 hd
    · by_cases h2 : rowN b y < rowN a y
      · rw [if_neg (by omega), if_pos (by omega)] at hc
        rw [cmS_gt (pre_row hlt he.symm h2)] at h0
        repeat' ((conv => whnf); first | (refine And.intro e3 ?_) | (rw [e1]) | (rw [e2]) | (refine Exists.intro ([] : List Nat) ?_) | (refine And.intro rfl ?_) | (refine And.intro (by decide +kernel) ?_) | (refine And.intro trivial ?_) | (refine Exists.intro _ (And.intro (fun τ => callW_fn (hc _ _ (And.intro rfl rfl))) ?_)) | (refine Exists.intro _ (And.intro rfl (And.intro rfl (And.intro (Nat.le_of_ble_eq_true rfl) ?_)))) | (refine Exists.intro _ (And.intro rfl (And.intro rfl (And.intro rfl (And.intro (Nat.le_of_ble_eq_true rfl) ?_))))) | (refine And.intro (Exists.intro _ (And.intro rfl rfl)) ?_) | (exact fun hW => absurd hW (by decide +kernel)) | (intro hW; (try simp only [Bool.not_true, Bool.not_false, Bool.not_eq_true', Bool.not_eq_false', decide_eq_true_eq, decide_eq_false_iff_not, reduceCtorEq, Bool.true_eq_false, Bool.false_eq_true, mk_size, List.size_toArray, ByteArray.size_append, ByteArray.size_extract, List.length_cons, List.length_nil, ba_get, ba_empty, Int.toNat_natCast] at hW)) | (refine And.intro (?_ : _ → _) (?_ : _ → _)) | (refine FinR.drop 0 (Nat.zero_le _) (Closed.zero _) rfl ?_) | (refine FinR.keep ?_) | (refine And.intro (det3_agg rfl) ?_) | (refine fL_mk ?_) | (refine And.intro (by (try simp only [mk_size, List.size_toArray, ByteArray.size_append, ByteArray.size_extract, List.length_cons, List.length_nil]); omega) ?_) | (refine And.intro (by (try simp only [mk_size, List.size_toArray, ByteArray.size_append, ByteArray.size_extract, List.length_cons, List.length_nil, wrap64_eq]); omega) ?_) | fail)
        all_goals first | exact h0 | (exfalso; omega) | (exfalso; simp_all; done) | skip
      · rw [if_neg (by omega), if_neg (by omega)] at hc
        repeat' ((conv => whnf); first | (rw [ew]) | (refine And.intro e3 ?_) | (rw [e1]) | (rw [e2]) | (refine Exists.intro ([] : List Nat) ?_) | (refine And.intro rfl ?_) | (refine And.intro (by decide +kernel) ?_) | (refine And.intro trivial ?_) | (refine Exists.intro _ (And.intro (fun τ => callW_fn (hc _ _ (And.intro rfl rfl))) ?_)) | (refine Exists.intro _ (And.intro rfl (And.intro rfl (And.intro (Nat.le_of_ble_eq_true rfl) ?_)))) | (refine Exists.intro _ (And.intro rfl (And.intro rfl (And.intro rfl (And.intro (Nat.le_of_ble_eq_true rfl) ?_))))) | (refine And.intro (Exists.intro _ (And.intro rfl rfl)) ?_) | (exact fun hW => absurd hW (by decide +kernel)) | (intro hW; (try simp only [Bool.not_true, Bool.not_false, Bool.not_eq_true', Bool.not_eq_false', decide_eq_true_eq, decide_eq_false_iff_not, reduceCtorEq, Bool.true_eq_false, Bool.false_eq_true, mk_size, List.size_toArray, ByteArray.size_append, ByteArray.size_extract, List.length_cons, List.length_nil, ba_get, ba_empty, Int.toNat_natCast] at hW)) | (refine And.intro (?_ : _ → _) (?_ : _ → _)) | (refine FinR.drop 0 (Nat.zero_le _) (Closed.zero _) rfl ?_) | (refine FinR.keep ?_) | (refine And.intro (det3_agg rfl) ?_) | (refine fL_mk ?_) | (refine And.intro (by (try simp only [mk_size, List.size_toArray, ByteArray.size_append, ByteArray.size_extract, List.length_cons, List.length_nil]); omega) ?_) | (refine And.intro (by (try simp only [mk_size, List.size_toArray, ByteArray.size_append, ByteArray.size_extract, List.length_cons, List.length_nil, wrap64_eq]); omega) ?_) | fail)
        all_goals first | (exfalso; omega) | (exfalso; simp_all; done) | skip
        exact Again.go (y + 1) ⟨rfl, rfl, rfl, trivial⟩ (.keep rfl) ⟨by omega, by show preK a y * 64 + rowN a y = preK b y * 64 + rowN b y; omega⟩ (by omega)
  · obtain rfl : y = 6 := by omega
    rw [cmS_eq he] at h0
    repeat' ((conv => whnf); first | (refine Exists.intro ([] : List Nat) ?_) | (refine And.intro rfl ?_) | (refine And.intro (by decide +kernel) ?_) | (refine And.intro trivial ?_) | (refine Exists.intro _ (And.intro rfl (And.intro rfl (And.intro (Nat.le_of_ble_eq_true rfl) ?_)))) | (refine Exists.intro _ (And.intro rfl (And.intro rfl (And.intro rfl (And.intro (Nat.le_of_ble_eq_true rfl) ?_))))) | (refine And.intro (Exists.intro _ (And.intro rfl rfl)) ?_) | (exact fun hW => absurd hW (by decide +kernel)) | (intro hW; (try simp only [Bool.not_true, Bool.not_false, Bool.not_eq_true', Bool.not_eq_false', decide_eq_true_eq, decide_eq_false_iff_not, reduceCtorEq, Bool.true_eq_false, Bool.false_eq_true, mk_size, List.size_toArray, ByteArray.size_append, ByteArray.size_extract, List.length_cons, List.length_nil, ba_get, ba_empty, Int.toNat_natCast] at hW)) | (refine And.intro (?_ : _ → _) (?_ : _ → _)) | (refine FinR.drop 0 (Nat.zero_le _) (Closed.zero _) rfl ?_) | (refine FinR.keep ?_) | (refine And.intro (det3_agg rfl) ?_) | (refine fL_mk ?_) | (refine And.intro (by (try simp only [mk_size, List.size_toArray, ByteArray.size_append, ByteArray.size_extract, List.length_cons, List.length_nil]); omega) ?_) | (refine And.intro (by (try simp only [mk_size, List.size_toArray, ByteArray.size_append, ByteArray.size_extract, List.length_cons, List.length_nil, wrap64_eq]); omega) ?_) | fail)
    all_goals first | exact h0 | (exfalso; omega)
/-! the reference's -/
theorem rw_ld {n y : Nat} (hy : y < 6) {off : Nat} (ho : off = y) : mkAV false (((rwL n).drop off).take 1) = I (rowN n y : Nat) := by
  subst ho
  match off, hy with
  | 0, _ => rfl
  | 1, _ => rfl
  | 2, _ => rfl
  | 3, _ => rfl
  | 4, _ => rfl
  | 5, _ => rfl
theorem c_l2Before (a b : Nat) (K : Cont) (h0 : K (Bo (ltS a b)) []) : ACall Try.prog W0 62 [ShN a, ShN b] [] K := by
  refine by62 (Nat.le_of_ble_eq_true rfl) ?_
  repeat' ((conv => whnf); first | (refine Exists.intro ([] : List Nat) ?_) | (refine And.intro rfl ?_) | (refine And.intro (by decide +kernel) ?_) | (refine And.intro trivial ?_) | (refine Exists.intro _ (And.intro rfl (And.intro rfl (And.intro (Nat.le_of_ble_eq_true rfl) ?_)))) | (refine Exists.intro _ (And.intro rfl (And.intro rfl (And.intro rfl (And.intro (Nat.le_of_ble_eq_true rfl) ?_))))) | (refine And.intro (Exists.intro _ (And.intro rfl rfl)) ?_) | (exact fun hW => absurd hW (by decide +kernel)) | (intro hW; (try simp only [Bool.not_true, Bool.not_false, Bool.not_eq_true', Bool.not_eq_false', decide_eq_true_eq, decide_eq_false_iff_not, reduceCtorEq, Bool.true_eq_false, Bool.false_eq_true, mk_size, List.size_toArray, ByteArray.size_append, ByteArray.size_extract, List.length_cons, List.length_nil, ba_get, ba_empty, Int.toNat_natCast] at hW)) | (refine And.intro (?_ : _ → _) (?_ : _ → _)) | (refine FinR.drop 0 (Nat.zero_le _) (Closed.zero _) rfl ?_) | (refine FinR.keep ?_) | (refine And.intro (det3_agg rfl) ?_) | (refine fL_mk ?_) | (refine And.intro (by (try simp only [mk_size, List.size_toArray, ByteArray.size_append, ByteArray.size_extract, List.length_cons, List.length_nil]); omega) ?_) | (refine And.intro (by (try simp only [mk_size, List.size_toArray, ByteArray.size_append, ByteArray.size_extract, List.length_cons, List.length_nil, wrap64_eq]); omega) ?_) | fail)
  refine LoopR.live (fun y : Nat => [(2, .ptr 0 0 0), (3, .ptr 1 0 0), (5, I y)]) (fun _ => [bl a, bl b]) (fun y => y ≤ 6 ∧ preK a y = preK b y) (fun y => 6 - y) 0 ⟨rfl, rfl, rfl, trivial⟩ (.keep rfl) ⟨Nat.zero_le _, rfl⟩ ?_
  rintro y ⟨hy, he⟩
  have ew : IntKind.i64.wrap ((y : Nat) + 1 : Int) = ((y + 1 : Nat) : Int) := wsucc' y (by omega)
  by_cases hlt : y < 6
  · have hoff : 0 + 0 + ((y : Nat) : Int).toNat * 1 = y := by rw [Int.toNat_natCast]; omega
    have hle : ∀ n, 0 + 0 + ((y : Nat) : Int).toNat * 1 + 1 ≤ (rwL n).length := fun n => by rw [hoff]; show y + 1 ≤ 6; omega
    have hl := fun n => rw_ld (n := n) hlt hoff
    by_cases h1 : rowN a y < rowN b y
    · have hk := pre_row hlt he h1
      rw [show ltS a b = true from decide_eq_true hk] at h0
      have hd : decide (((rowN a y : Nat) : Int) < (rowN b y : Nat)) = true := decide_eq_true (by omega)
      repeat' ((conv => whnf); first | (refine Exists.intro (bl a) (And.intro rfl (And.intro rfl (And.intro (hle a) ?_))); rw [show (bl a).cells = rwL a from rfl, hl a]) | (refine Exists.intro (bl b) (And.intro rfl (And.intro rfl (And.intro (hle b) ?_))); rw [show (bl b).cells = rwL b from rfl, hl b]) | (refine Exists.intro ([] : List Nat) ?_) | (refine And.intro rfl ?_) | (refine And.intro (by decide +kernel) ?_) | (refine And.intro trivial ?_) | (refine Exists.intro _ (And.intro rfl (And.intro rfl (And.intro (Nat.le_of_ble_eq_true rfl) ?_)))) | (refine Exists.intro _ (And.intro rfl (And.intro rfl (And.intro rfl (And.intro (Nat.le_of_ble_eq_true rfl) ?_))))) | (refine And.intro (Exists.intro _ (And.intro rfl rfl)) ?_) | (exact fun hW => absurd hW (by decide +kernel)) | (intro hW; (try simp only [Bool.not_true, Bool.not_false, Bool.not_eq_true', Bool.not_eq_false', decide_eq_true_eq, decide_eq_false_iff_not, reduceCtorEq, Bool.true_eq_false, Bool.false_eq_true, mk_size, List.size_toArray, ByteArray.size_append, ByteArray.size_extract, List.length_cons, List.length_nil, ba_get, ba_empty, Int.toNat_natCast] at hW)) | (refine And.intro (?_ : _ → _) (?_ : _ → _)) | (refine FinR.drop 0 (Nat.zero_le _) (Closed.zero _) rfl ?_) | (refine FinR.keep ?_) | (refine And.intro (det3_agg rfl) ?_) | (refine fL_mk ?_) | (refine And.intro (by (try simp only [mk_size, List.size_toArray, ByteArray.size_append, ByteArray.size_extract, List.length_cons, List.length_nil]); omega) ?_) | (refine And.intro (by (try simp only [mk_size, List.size_toArray, ByteArray.size_append, ByteArray.size_extract, List.length_cons, List.length_nil, wrap64_eq]); omega) ?_) | fail)
      all_goals first | exact h0 | (exfalso; omega) | (exfalso; simp_all; done) | exact kB' h0 hd
    · by_cases h2 : rowN b y < rowN a y
      · have hk := pre_row hlt he.symm h2
        rw [show ltS a b = false from decide_eq_false (by omega)] at h0
        have hd : decide (((rowN a y : Nat) : Int) < (rowN b y : Nat)) = false := decide_eq_false (by omega)
        repeat' ((conv => whnf); first | (refine Exists.intro (bl a) (And.intro rfl (And.intro rfl (And.intro (hle a) ?_))); rw [show (bl a).cells = rwL a from rfl, hl a]) | (refine Exists.intro (bl b) (And.intro rfl (And.intro rfl (And.intro (hle b) ?_))); rw [show (bl b).cells = rwL b from rfl, hl b]) | (refine Exists.intro ([] : List Nat) ?_) | (refine And.intro rfl ?_) | (refine And.intro (by decide +kernel) ?_) | (refine And.intro trivial ?_) | (refine Exists.intro _ (And.intro rfl (And.intro rfl (And.intro (Nat.le_of_ble_eq_true rfl) ?_)))) | (refine Exists.intro _ (And.intro rfl (And.intro rfl (And.intro rfl (And.intro (Nat.le_of_ble_eq_true rfl) ?_))))) | (refine And.intro (Exists.intro _ (And.intro rfl rfl)) ?_) | (exact fun hW => absurd hW (by decide +kernel)) | (intro hW; (try simp only [Bool.not_true, Bool.not_false, Bool.not_eq_true', Bool.not_eq_false', decide_eq_true_eq, decide_eq_false_iff_not, reduceCtorEq, Bool.true_eq_false, Bool.false_eq_true, mk_size, List.size_toArray, ByteArray.size_append, ByteArray.size_extract, List.length_cons, List.length_nil, ba_get, ba_empty, Int.toNat_natCast] at hW)) | (refine And.intro (?_ : _ → _) (?_ : _ → _)) | (refine FinR.drop 0 (Nat.zero_le _) (Closed.zero _) rfl ?_) | (refine FinR.keep ?_) | (refine And.intro (det3_agg rfl) ?_) | (refine fL_mk ?_) | (refine And.intro (by (try simp only [mk_size, List.size_toArray, ByteArray.size_append, ByteArray.size_extract, List.length_cons, List.length_nil]); omega) ?_) | (refine And.intro (by (try simp only [mk_size, List.size_toArray, ByteArray.size_append, ByteArray.size_extract, List.length_cons, List.length_nil, wrap64_eq]); omega) ?_) | fail)
        all_goals first | exact h0 | (exfalso; omega) | (exfalso; simp_all; done) | exact kB' h0 hd
      · skip
        repeat' ((conv => whnf); first | (rw [ew]) | (refine Exists.intro (bl a) (And.intro rfl (And.intro rfl (And.intro (hle a) ?_))); rw [show (bl a).cells = rwL a from rfl, hl a]) | (refine Exists.intro (bl b) (And.intro rfl (And.intro rfl (And.intro (hle b) ?_))); rw [show (bl b).cells = rwL b from rfl, hl b]) | (refine Exists.intro ([] : List Nat) ?_) | (refine And.intro rfl ?_) | (refine And.intro (by decide +kernel) ?_) | (refine And.intro trivial ?_) | (refine Exists.intro _ (And.intro rfl (And.intro rfl (And.intro (Nat.le_of_ble_eq_true rfl) ?_)))) | (refine Exists.intro _ (And.intro rfl (And.intro rfl (And.intro rfl (And.intro (Nat.le_of_ble_eq_true rfl) ?_))))) | (refine And.intro (Exists.intro _ (And.intro rfl rfl)) ?_) | (exact fun hW => absurd hW (by decide +kernel)) | (intro hW; (try simp only [Bool.not_true, Bool.not_false, Bool.not_eq_true', Bool.not_eq_false', decide_eq_true_eq, decide_eq_false_iff_not, reduceCtorEq, Bool.true_eq_false, Bool.false_eq_true, mk_size, List.size_toArray, ByteArray.size_append, ByteArray.size_extract, List.length_cons, List.length_nil, ba_get, ba_empty, Int.toNat_natCast] at hW)) | (refine And.intro (?_ : _ → _) (?_ : _ → _)) | (refine FinR.drop 0 (Nat.zero_le _) (Closed.zero _) rfl ?_) | (refine FinR.keep ?_) | (refine And.intro (det3_agg rfl) ?_) | (refine fL_mk ?_) | (refine And.intro (by (try simp only [mk_size, List.size_toArray, ByteArray.size_append, ByteArray.size_extract, List.length_cons, List.length_nil]); omega) ?_) | (refine And.intro (by (try simp only [mk_size, List.size_toArray, ByteArray.size_append, ByteArray.size_extract, List.length_cons, List.length_nil, wrap64_eq]); omega) ?_) | fail)
        all_goals first | (exfalso; omega) | (exfalso; simp_all; done) | skip
        exact Again.go (y + 1) ⟨rfl, rfl, rfl, trivial⟩ (.keep rfl) ⟨by omega, by show preK a y * 64 + rowN a y = preK b y * 64 + rowN b y; omega⟩ (by omega)
  · obtain rfl : y = 6 := by omega
    rw [show ltS a b = false from decide_eq_false (by have : kyN a = kyN b := he; omega)] at h0
    repeat' ((conv => whnf); first | (refine Exists.intro ([] : List Nat) ?_) | (refine And.intro rfl ?_) | (refine And.intro (by decide +kernel) ?_) | (refine And.intro trivial ?_) | (refine Exists.intro _ (And.intro rfl (And.intro rfl (And.intro (Nat.le_of_ble_eq_true rfl) ?_)))) | (refine Exists.intro _ (And.intro rfl (And.intro rfl (And.intro rfl (And.intro (Nat.le_of_ble_eq_true rfl) ?_))))) | (refine And.intro (Exists.intro _ (And.intro rfl rfl)) ?_) | (exact fun hW => absurd hW (by decide +kernel)) | (intro hW; (try simp only [Bool.not_true, Bool.not_false, Bool.not_eq_true', Bool.not_eq_false', decide_eq_true_eq, decide_eq_false_iff_not, reduceCtorEq, Bool.true_eq_false, Bool.false_eq_true, mk_size, List.size_toArray, ByteArray.size_append, ByteArray.size_extract, List.length_cons, List.length_nil, ba_get, ba_empty, Int.toNat_natCast] at hW)) | (refine And.intro (?_ : _ → _) (?_ : _ → _)) | (refine FinR.drop 0 (Nat.zero_le _) (Closed.zero _) rfl ?_) | (refine FinR.keep ?_) | (refine And.intro (det3_agg rfl) ?_) | (refine fL_mk ?_) | (refine And.intro (by (try simp only [mk_size, List.size_toArray, ByteArray.size_append, ByteArray.size_extract, List.length_cons, List.length_nil]); omega) ?_) | (refine And.intro (by (try simp only [mk_size, List.size_toArray, ByteArray.size_append, ByteArray.size_extract, List.length_cons, List.length_nil, wrap64_eq]); omega) ?_) | fail)
    all_goals first | exact h0 | (exfalso; omega)
theorem d_l2Before (a b : Nat) (K : Cont) (h0 : K (Bo (ltS a b)) σ) : ACall Try.prog W0 62 [ShN a, ShN b] σ K :=
  ACall.lift rfl (fun _ => rfl) (fun W1 K _ hK => c_l2Before a b K hK) h0
end Go.Proofs.Ytcclhjohpicleaa
end

section
/- Contracts: lists of numbers and of pairs that the laws compare, mark, hold. -/
set_option linter.unusedVariables false
set_option linter.unusedSimpArgs false
set_option maxRecDepth 100000
set_option maxHeartbeats 4000000
namespace Go.Proofs.Ytcclhjohpicleaa
open Go Go.RowKit Go.Proofs.Ytcclhjohpicleaa.Abs
variable {W0 : World} {σ : List Blk}
theorem fS_mk {l : List Blk} {K : List Blk → Prop} (h : K l) : fS l K := by rw [fS_eq]; exact h
theorem set_self {α : Type} {l : List α} {i : Nat} {a : α} (h : l[i]? = some a) : l.set i a = l := by
  have := (List.getElem?_eq_some_iff.1 h)
  obtain ⟨h1, h2⟩ := this
  subst h2
  exact List.set_getElem_self h1
abbrev en1 (n : Int) : List Value := [.int .i64 n]
theorem sli_ints {l : List Int} {b ver : Nat} {e : TypeId} {r m : Bool} {cap : Nat} (hb : σ[b]? = some ⟨l.map I, ver, e, 1, r, m⟩) : Sli W0 σ 1 en1 (.sl b ver 0 l.length cap) l :=
  .own b ver 0 _ cap _ _ hb rfl rfl fun i x hi j v hj => by
    cases j with
    | zero =>
      simp only [List.getElem?_cons_zero, Option.some.injEq] at hj
      subst hj
      show (l.map I)[0 + i * 1 + 0]? = _
      rw [show 0 + i * 1 + 0 = i by omega, List.getElem?_map, hi]; rfl
    | succ j => simp at hj
theorem lift_Sp {α : Type} {enc : α → List Value} {g : FuncId} {a b : AV} {r : AV} {xs : List α} {s : Nat} (hok : callOK Try.prog g = true) (hb : pure3 b = true) (hr : ∀ k, sh3 k r = r) (hs : Sli W0 σ s enc a xs) (h : ∀ (W1 : World) (a' : AV), Sli W1 [] s enc a' xs → ∀ K : Cont, K r [] → ACall Try.prog W1 g [a', b] [] K) (K : Cont) (h0 : K r σ) : ACall Try.prog W0 g [a, b] σ K := by
  refine ACall.frameA (K0 := fun v σ' => v = r ∧ σ' = []) hok (fun W1 ι vs hh hrr => ?_) ?_
  · obtain ⟨v1, vs', rfl, hr1, hr2⟩ := Rels.uncons hrr
    obtain ⟨v2, vs'', rfl, hr3, hr4⟩ := Rels.uncons hr2
    obtain ⟨a', ha, hs'⟩ := hs.conc hh ⟨v1, hr1⟩
    obtain rfl := hr4.nil_inv
    exact ⟨[a', b], Rels.cons (ha _ hr1) (Rels.cons (rel3_pure hb hr3) Rels.nil), h W1 a' hs' _ ⟨rfl, rfl⟩⟩
  · rintro v σ' ⟨rfl, rfl⟩
    have e : σ ++ shB σ.length [] = σ := by simp [shB]
    rw [e, hr]; exact h0
end Go.Proofs.Ytcclhjohpicleaa
end

section
/- Contracts: pairs, prints: made, compared, marked. -/
set_option linter.unusedVariables false
set_option linter.unusedSimpArgs false
set_option maxRecDepth 100000
set_option maxHeartbeats 4000000
namespace Go.Proofs.Ytcclhjohpicleaa
open Go Go.RowKit Go.Proofs.Ytcclhjohpicleaa.Abs
variable {W0 : World} {σ : List Blk}
/-! prints -/
abbrev Pr (a b c d e f g h i : Int) : AV := .agg [I a, I b, I c, I d, I e, I f, I g, I h, I i]
abbrev z9 : List AV := [I 0, I 0, I 0, I 0, I 0, I 0, I 0, I 0, I 0]
end Go.Proofs.Ytcclhjohpicleaa
end

section
/- Contracts: CommonCells. -/
set_option linter.unusedVariables false
set_option linter.unusedSimpArgs false
namespace Go.Proofs.Ytcclhjohpicleaa
open Go Go.RowKit Go.Proofs.Ytcclhjohpicleaa.Abs
variable {W0 : World} {σ : List Blk}
abbrev R64 (a b c d e f : Nat) : Prop := a < 64 ∧ b < 64 ∧ c < 64 ∧ d < 64 ∧ e < 64 ∧ f < 64
theorem c_l2CountN (a b c d e f : Nat) (h : R64 a b c d e f) (K : Cont) (h0 : K (I (ones 64 (setN a b c d e f) : Nat)) []) : ACall Try.prog W0 61 [Sh a b c d e f] [] K := by
  obtain ⟨ha, hb, hc, hd, he, hf⟩ := h
  refine c_l2Count _ _ _ _ _ _ (by omega) (by omega) (by omega) (by omega) (by omega) (by omega) K ?_
  rw [ones_setN a b c d e f ha hb hc hd he hf] at h0
  have e1 : (0 : Int) + pcz a + pcz b + pcz c + pcz d + pcz e + pcz f = ((ones 6 a + (ones 6 b + (ones 6 c + (ones 6 d + (ones 6 e + ones 6 f)))) : Nat) : Int) := by
    simp only [pcz, Int.toNat_natCast]; omega
  rw [e1]; exact h0
end Go.Proofs.Ytcclhjohpicleaa
end

section
/- Contracts: prints and their cells; lists of prints; layers. -/
set_option linter.unusedVariables false
set_option linter.unusedSimpArgs false
set_option maxRecDepth 100000
set_option maxHeartbeats 4000000
namespace Go.Proofs.Ytcclhjohpicleaa
open Go Go.RowKit Go.Proofs.Ytcclhjohpicleaa.Abs
variable {W0 : World} {σ : List Blk}
/-- a valid print by its parts -/
structure PrParts (x : List Int) where
  n : Nat
  u : Nat
  v : Nat
theorem c_l2CountM (n : Nat) (hn : n < 2 ^ 36) (K : Cont) (h0 : K (I (ones 64 n : Nat)) []) : ACall Try.prog W0 61 [ShN n] [] K := by
  refine c_l2CountN _ _ _ _ _ _ ⟨rowN_lt n 0, rowN_lt n 1, rowN_lt n 2, rowN_lt n 3, rowN_lt n 4, rowN_lt n 5⟩ K ?_
  rw [setN_rows hn]; exact h0
theorem d_l2CountM (n : Nat) (hn : n < 2 ^ 36) (K : Cont) (h0 : K (I (ones 64 n : Nat)) σ) : ACall Try.prog W0 61 [ShN n] σ K :=
  ACall.lift rfl (fun _ => rfl) (fun W1 K _ hK => c_l2CountM n hn K hK) h0
end Go.Proofs.Ytcclhjohpicleaa
end

section
/- Contracts: layers of prints. -/
set_option linter.unusedVariables false
set_option linter.unusedSimpArgs false
set_option maxRecDepth 100000
set_option maxHeartbeats 4000000
namespace Go.Proofs.Ytcclhjohpicleaa
open Go Go.RowKit Go.Proofs.Ytcclhjohpicleaa.Abs
variable {W0 : World} {σ : List Blk}
theorem sli_lit {α : Type} {W0 : World} {s : Nat} {enc : α → List Value} {a : AV} {xs : List α} (h : Sli W0 [] s enc a xs) : ∃ v, a = .lit v := by
  cases h with
  | nil => exact ⟨_, rfl⟩
  | inn ad n cap xs hn hc hm hb hx => exact ⟨_, rfl⟩
  | own b ver off n cap B xs hB => simp at hB
theorem closNil (k : Nat) : Closed k [] := fun B hB => by cases hB
theorem closCons {k : Nat} {B : Blk} {l : List Blk} (h : B.cells.all (bel1 k) = true) (hs : Closed k l) : Closed k (B :: l) := fun B' hB => by
  rcases List.mem_cons.1 hB with rfl | hB
  · exact h
  · exact hs B' hB
theorem belI (k : Nat) (l : List Int) : (l.map I).all (bel1 k) = true := by
  rw [List.all_map]; exact List.all_eq_true.2 fun _ _ => rfl
theorem belJ (k : Nat) (xs : List (List Int)) : (jc xs).all (bel1 k) = true := by
  refine List.all_eq_true.2 fun v hv => ?_
  obtain ⟨l, hl, hv⟩ := List.mem_flatten.1 hv
  obtain ⟨x, _, rfl⟩ := List.mem_map.1 hl
  exact List.all_eq_true.1 (belI k x) v hv
theorem take_snoc {α : Type} {xs : List α} {i : Nat} {x : α} (h : xs[i]? = some x) : xs.take (i + 1) = xs.take i ++ [x] := by rw [List.take_add_one, h]; rfl
end Go.Proofs.Ytcclhjohpicleaa
end

section
/- Contracts: places of layers of which something is so. -/
set_option linter.unusedVariables false
set_option linter.unusedSimpArgs false
set_option maxRecDepth 100000
set_option maxHeartbeats 4000000
namespace Go.Proofs.Ytcclhjohpicleaa
open Go Go.RowKit Go.Proofs.Ytcclhjohpicleaa.Abs
variable {W0 : World} {σ : List Blk}
/-- the places at which something is so, rising; and those from the end on, falling -/
def selN (q : Nat → Bool) : Nat → List Int
  | 0 => []
  | n + 1 => selN q n ++ if q n then [(n : Int)] else []
theorem selN_succ (q : Nat → Bool) (n : Nat) : selN q (n + 1) = selN q n ++ if q n then [(n : Int)] else [] := rfl
theorem selN_len (q : Nat → Bool) : ∀ n, (selN q n).length ≤ n
  | 0 => Nat.le_refl _
  | n + 1 => by
    have := selN_len q n
    rw [selN_succ, List.length_append]; split <;> simp <;> omega
theorem selN_congr {q q' : Nat → Bool} : ∀ {n}, (∀ i, i < n → q i = q' i) → selN q n = selN q' n
  | 0, _ => rfl
  | n + 1, h => by rw [selN_succ, selN_succ, h n (by omega), selN_congr fun i hi => h i (by omega)]
end Go.Proofs.Ytcclhjohpicleaa
end

section
/- Contracts: hidden and whole prints. -/
set_option linter.unusedVariables false
set_option linter.unusedSimpArgs false
set_option maxRecDepth 100000
set_option maxHeartbeats 4000000
namespace Go.Proofs.Ytcclhjohpicleaa
open Go Go.RowKit Go.Proofs.Ytcclhjohpicleaa.Abs
variable {W0 : World} {σ : List Blk}
theorem sh_I (k : Nat) (l : List Int) : (l.map I).map (sh1 k) = l.map I := by rw [List.map_map]; rfl
abbrev outB (l : List Int) : Blk := ⟨l.map I, l.length, 3, 1, true, true⟩
abbrev nilA : AV := .lit (.slice none 0 0)
/-! the reference: what is seen of prints -/
def shR (n : Nat) : List Int := [(rowN n 0 : Nat), (rowN n 1 : Nat), (rowN n 2 : Nat), (rowN n 3 : Nat), (rowN n 4 : Nat), (rowN n 5 : Nat)]
theorem jc_append (a b : List (List Int)) : jc (a ++ b) = jc a ++ jc b := by simp [jc]
abbrev z6 : List Int := [0, 0, 0, 0, 0, 0]
/-- rows of which the last ones are filled -/
def suf (S : List (List Int)) (k : Nat) : List (List Int) := List.replicate k z6 ++ S.drop k
end Go.Proofs.Ytcclhjohpicleaa
end

section
/- Contracts: hidden and whole prints of the reference. -/
set_option linter.unusedVariables false
set_option linter.unusedSimpArgs false
set_option maxRecDepth 100000
set_option maxHeartbeats 4000000
namespace Go.Proofs.Ytcclhjohpicleaa
open Go Go.RowKit Go.Proofs.Ytcclhjohpicleaa.Abs
variable {W0 : World} {σ : List Blk}
theorem ones_pos : ∀ (k x : Nat), x < 2 ^ k → ones k x = 0 → x = 0
  | 0, x, h, _ => by omega
  | k + 1, x, h, e => by
    have e' : x % 2 + ones k (x / 2) = 0 := e
    have := ones_pos k (x / 2) (by rw [Nat.pow_succ] at h; omega) (by omega)
    omega
theorem ones_dec (n : Nat) (h : n < 2 ^ 36) : decide (((ones 64 n : Nat) : Int) = 0) = decide (n = 0) := by
  refine decide_eq_decide.2 ⟨fun e => ones_pos 64 n (by omega) (by omega), fun e => ?_⟩
  subst e; rw [ones_zero]; rfl
theorem jc_row {rows : List (List Int)} {s i off : Nat} {x : List Int} (hr : ∀ r ∈ rows, r.length = s) (h : rows[i]? = some x) (ho : off = i * s) : mkAV true (((jc rows).drop off).take s) = .agg (x.map I) := by
  subst ho
  have hi := getElem?_lt h
  have e : rows = rows.take i ++ x :: rows.drop (i + 1) := by
    have := List.drop_eq_getElem_cons hi
    rw [(List.getElem?_eq_some_iff.1 h).2] at this
    rw [← this, List.take_append_drop]
  have hl : (jc (rows.take i)).length = i * s := by rw [jc_len (s := s) fun r h => hr r (List.mem_of_mem_take h), List.length_take, Nat.min_eq_left (by omega)]
  have hl2 : (x.map I).length = s := by rw [List.length_map]; exact hr _ (List.mem_of_getElem? h)
  have e1 : jc rows = jc (rows.take i) ++ (x.map I ++ jc (rows.drop (i + 1))) := (congrArg jc e).trans (jc_append _ _)
  rw [e1, List.drop_left' hl, List.take_left' hl2]; rfl
end Go.Proofs.Ytcclhjohpicleaa
end

section
/- Contracts: prints that overlap. -/
set_option linter.unusedVariables false
set_option linter.unusedSimpArgs false
set_option maxRecDepth 100000
set_option maxHeartbeats 4000000
namespace Go.Proofs.Ytcclhjohpicleaa
open Go Go.RowKit Go.Proofs.Ytcclhjohpicleaa.Abs
variable {W0 : World} {σ : List Blk}
/-- pairs of places -/
def inn (q : Nat → Nat → Bool) (i : Nat) : Nat → List (List Int)
  | 0 => []
  | m + 1 => inn q i m ++ if q i (i + 1 + m) then [[(i : Int), ((i + 1 + m : Nat) : Int)]] else []
abbrev prsB (l : List (List Int)) : Blk := ⟨jc l, l.length, 70, 2, true, true⟩
end Go.Proofs.Ytcclhjohpicleaa
end

section
/- Contracts: pictures. -/
set_option linter.unusedVariables false
set_option linter.unusedSimpArgs false
set_option maxRecDepth 100000
set_option maxHeartbeats 4000000
namespace Go.Proofs.Ytcclhjohpicleaa
open Go Go.RowKit Go.Proofs.Ytcclhjohpicleaa.Abs
variable {W0 : World} {σ : List Blk}
abbrev Pi (q : List Int) : AV := .agg (q.map I)
abbrev z36 : List Int := List.replicate 36 0
end Go.Proofs.Ytcclhjohpicleaa
end

section
/- Contracts: the last prints. -/
set_option linter.unusedVariables false
set_option linter.unusedSimpArgs false
set_option maxRecDepth 100000
set_option maxHeartbeats 4000000
namespace Go.Proofs.Ytcclhjohpicleaa
open Go Go.RowKit Go.Proofs.Ytcclhjohpicleaa.Abs
variable {W0 : World} {σ : List Blk}
theorem eqC_I : ∀ (n : Nat) (l m : List Int), l.length = n → m.length = n → eqC (List.replicate n .int) (l.map (Value.int .i64)) (m.map (Value.int .i64)) = some (decide (l = m))
  | 0, [], [], _, _ => rfl
  | n + 1, x :: l, y :: m, h1, h2 => by
    have h := eqC_I n l m (by simpa using h1) (by simpa using h2)
    show (if IntKind.i64 = IntKind.i64 then (eqC (List.replicate n .int) (l.map (Value.int .i64)) (m.map (Value.int .i64))).map (decide (x = y) && ·) else none) = _
    rw [if_pos rfl, h]
    show some (decide (x = y) && decide (l = m)) = _
    congr 1
    rw [Bool.eq_iff_iff]; simp
  | 0, _ :: _, _, h, _ => by simp at h
  | n + 1, [], _, h, _ => by simp at h
  | 0, [], _ :: _, _, h => by simp at h
  | n + 1, _ :: _, [], _, h => by simp at h
/-- the cells at which something is so -/
def whN (f : Nat → Bool) : Nat → Nat
  | 0 => 0
  | m + 1 => whN f m ||| (if f m then 2 ^ m else 0)
theorem whN_succ (f : Nat → Bool) (m : Nat) : whN f (m + 1) = whN f m ||| (if f m then 2 ^ m else 0) := rfl
theorem whN_bit (f : Nat → Bool) (j : Nat) : ∀ m, (whN f m).testBit j = (decide (j < m) && f j)
  | 0 => by simp [whN]
  | m + 1 => by
    rw [whN_succ, Nat.testBit_or, whN_bit f j m]
    by_cases e : j = m
    · subst e
      cases hf : f j <;> simp [Nat.testBit_two_pow]
    · have e2 : (if f m then 2 ^ m else 0).testBit j = false := by
        split
        · rw [Nat.testBit_two_pow]; simp; omega
        · simp
      rw [e2, Bool.or_false]
      congr 1
      exact decide_eq_decide.2 (by omega)
theorem whN_lt (f : Nat → Bool) {m : Nat} (hm : m ≤ 36) : whN f m < 2 ^ 36 := by
  refine Nat.lt_pow_two_of_testBit _ fun i hi => ?_
  rw [whN_bit]; simp; omega
theorem wh_or {f : Nat → Bool} {k : Nat} (hk : k < 36) (hf : f k = true) : bOr .u64 (whN f k : Nat) (shL .u64 1 (k : Nat)) = (whN f (k + 1) : Nat) := by
  have hp : 2 ^ k < 2 ^ 36 := Nat.pow_lt_pow_right (by decide) hk
  rw [show (1 : Int) = ((1 : Nat) : Int) from rfl, shL_u64 1 k (by omega) (by rw [Nat.one_mul]; exact Nat.lt_trans hp (by decide)), Nat.one_mul, bOrU (whN_lt f (by omega)) hp, whN_succ, if_pos hf]
theorem c_where (g0 : FuncId) (caps : List AV) (f : Nat → Bool) (hc : ∀ k : Nat, k < 36 → ∀ K : Cont, K (Bo (f k)) σ → ACall Try.prog W0 g0 (I k :: caps) σ K) (K : Cont) (h0 : K (U (whN f 36 : Nat)) σ) : ACall Try.prog W0 71 [.fn (.func g0) [] caps] σ K := by
  refine by71 (Nat.le_of_ble_eq_true rfl) ?_
  repeat' ((conv => whnf); first | (refine Exists.intro ([] : List Nat) ?_) | (refine And.intro rfl ?_) | (refine And.intro (by decide +kernel) ?_) | (refine And.intro trivial ?_) | (refine Exists.intro _ (And.intro rfl (And.intro rfl (And.intro (Nat.le_of_ble_eq_true rfl) ?_)))) | (refine Exists.intro _ (And.intro rfl (And.intro rfl (And.intro rfl (And.intro (Nat.le_of_ble_eq_true rfl) ?_))))) | (refine And.intro (Exists.intro _ (And.intro rfl rfl)) ?_) | (exact fun hW => absurd hW (by decide +kernel)) | (intro hW; (try simp only [Bool.not_true, Bool.not_false, Bool.not_eq_true', Bool.not_eq_false', decide_eq_true_eq, decide_eq_false_iff_not, reduceCtorEq, Bool.true_eq_false, Bool.false_eq_true, mk_size, List.size_toArray, ByteArray.size_append, ByteArray.size_extract, List.length_cons, List.length_nil, ba_get, ba_empty, Int.toNat_natCast] at hW)) | (refine And.intro (?_ : _ → _) (?_ : _ → _)) | (refine FinR.drop 0 (Nat.zero_le _) (Closed.zero _) rfl ?_) | (refine FinR.keep ?_) | (refine And.intro (det3_agg rfl) ?_) | (refine fL_mk ?_) | (refine And.intro (by (try simp only [mk_size, List.size_toArray, ByteArray.size_append, ByteArray.size_extract, List.length_cons, List.length_nil]); omega) ?_) | (refine And.intro (by (try simp only [mk_size, List.size_toArray, ByteArray.size_append, ByteArray.size_extract, List.length_cons, List.length_nil, wrap64_eq]); omega) ?_) | fail)
  refine LoopR.live (fun k : Nat => [(0, .fn (.func g0) [] caps), (3, U (whN f k : Nat)), (5, I k)]) (fun _ => σ) (fun k => k ≤ 36) (fun k => 36 - k) 0 ⟨rfl, rfl, rfl, trivial⟩ (.keep rfl) (Nat.zero_le _) ?_
  intro k hk
  by_cases hlt : k < 36
  · have hcall := hc k hlt
    cases hf : f k with
    | true =>
      rw [hf] at hcall
      repeat' ((conv => whnf); first | (refine hcall _ ?_) | (refine Exists.intro ([] : List Nat) ?_) | (refine And.intro rfl ?_) | (refine And.intro (by decide +kernel) ?_) | (refine And.intro trivial ?_) | (refine Exists.intro _ (And.intro rfl (And.intro rfl (And.intro (Nat.le_of_ble_eq_true rfl) ?_)))) | (refine Exists.intro _ (And.intro rfl (And.intro rfl (And.intro rfl (And.intro (Nat.le_of_ble_eq_true rfl) ?_))))) | (refine And.intro (Exists.intro _ (And.intro rfl rfl)) ?_) | (exact fun hW => absurd hW (by decide +kernel)) | (intro hW; (try simp only [Bool.not_true, Bool.not_false, Bool.not_eq_true', Bool.not_eq_false', decide_eq_true_eq, decide_eq_false_iff_not, reduceCtorEq, Bool.true_eq_false, Bool.false_eq_true, mk_size, List.size_toArray, ByteArray.size_append, ByteArray.size_extract, List.length_cons, List.length_nil, ba_get, ba_empty, Int.toNat_natCast] at hW)) | (refine And.intro (?_ : _ → _) (?_ : _ → _)) | (refine FinR.drop 0 (Nat.zero_le _) (Closed.zero _) rfl ?_) | (refine FinR.keep ?_) | (refine And.intro (det3_agg rfl) ?_) | (refine fL_mk ?_) | (refine And.intro (by (try simp only [mk_size, List.size_toArray, ByteArray.size_append, ByteArray.size_extract, List.length_cons, List.length_nil]); omega) ?_) | (refine And.intro (by (try simp only [mk_size, List.size_toArray, ByteArray.size_append, ByteArray.size_extract, List.length_cons, List.length_nil, wrap64_eq]); omega) ?_) | fail)
      all_goals first | (exfalso; omega) | (exfalso; simp_all; done) | skip
      exact Again.go (k + 1) ⟨rfl, slU (wh_or hlt hf), slI' (wsucc' k (by omega)), trivial⟩ (.keep rfl) (by omega) (by omega)
    | false =>
      rw [hf] at hcall
      have e : whN f (k + 1) = whN f k := by rw [whN_succ, hf, if_neg (by decide), Nat.or_zero]
      repeat' ((conv => whnf); first | (refine hcall _ ?_) | (refine Exists.intro ([] : List Nat) ?_) | (refine And.intro rfl ?_) | (refine And.intro (by decide +kernel) ?_) | (refine And.intro trivial ?_) | (refine Exists.intro _ (And.intro rfl (And.intro rfl (And.intro (Nat.le_of_ble_eq_true rfl) ?_)))) | (refine Exists.intro _ (And.intro rfl (And.intro rfl (And.intro rfl (And.intro (Nat.le_of_ble_eq_true rfl) ?_))))) | (refine And.intro (Exists.intro _ (And.intro rfl rfl)) ?_) | (exact fun hW => absurd hW (by decide +kernel)) | (intro hW; (try simp only [Bool.not_true, Bool.not_false, Bool.not_eq_true', Bool.not_eq_false', decide_eq_true_eq, decide_eq_false_iff_not, reduceCtorEq, Bool.true_eq_false, Bool.false_eq_true, mk_size, List.size_toArray, ByteArray.size_append, ByteArray.size_extract, List.length_cons, List.length_nil, ba_get, ba_empty, Int.toNat_natCast] at hW)) | (refine And.intro (?_ : _ → _) (?_ : _ → _)) | (refine FinR.drop 0 (Nat.zero_le _) (Closed.zero _) rfl ?_) | (refine FinR.keep ?_) | (refine And.intro (det3_agg rfl) ?_) | (refine fL_mk ?_) | (refine And.intro (by (try simp only [mk_size, List.size_toArray, ByteArray.size_append, ByteArray.size_extract, List.length_cons, List.length_nil]); omega) ?_) | (refine And.intro (by (try simp only [mk_size, List.size_toArray, ByteArray.size_append, ByteArray.size_extract, List.length_cons, List.length_nil, wrap64_eq]); omega) ?_) | fail)
      all_goals first | (exfalso; omega) | (exfalso; simp_all; done) | skip
      exact Again.go (k + 1) ⟨rfl, slU (by rw [e]), slI' (wsucc' k (by omega)), trivial⟩ (.keep rfl) (by omega) (by omega)
  · obtain rfl : k = 36 := by omega
    repeat' ((conv => whnf); first | (refine Exists.intro ([] : List Nat) ?_) | (refine And.intro rfl ?_) | (refine And.intro (by decide +kernel) ?_) | (refine And.intro trivial ?_) | (refine Exists.intro _ (And.intro rfl (And.intro rfl (And.intro (Nat.le_of_ble_eq_true rfl) ?_)))) | (refine Exists.intro _ (And.intro rfl (And.intro rfl (And.intro rfl (And.intro (Nat.le_of_ble_eq_true rfl) ?_))))) | (refine And.intro (Exists.intro _ (And.intro rfl rfl)) ?_) | (exact fun hW => absurd hW (by decide +kernel)) | (intro hW; (try simp only [Bool.not_true, Bool.not_false, Bool.not_eq_true', Bool.not_eq_false', decide_eq_true_eq, decide_eq_false_iff_not, reduceCtorEq, Bool.true_eq_false, Bool.false_eq_true, mk_size, List.size_toArray, ByteArray.size_append, ByteArray.size_extract, List.length_cons, List.length_nil, ba_get, ba_empty, Int.toNat_natCast] at hW)) | (refine And.intro (?_ : _ → _) (?_ : _ → _)) | (refine FinR.drop 0 (Nat.zero_le _) (Closed.zero _) rfl ?_) | (refine FinR.keep ?_) | (refine And.intro (det3_agg rfl) ?_) | (refine fL_mk ?_) | (refine And.intro (by (try simp only [mk_size, List.size_toArray, ByteArray.size_append, ByteArray.size_extract, List.length_cons, List.length_nil]); omega) ?_) | (refine And.intro (by (try simp only [mk_size, List.size_toArray, ByteArray.size_append, ByteArray.size_extract, List.length_cons, List.length_nil, wrap64_eq]); omega) ?_) | fail)
    all_goals first | (exfalso; omega) | exact h0
end Go.Proofs.Ytcclhjohpicleaa
end

section
/- Contracts: the law of the last prints. -/
set_option linter.unusedVariables false
set_option linter.unusedSimpArgs false
set_option maxRecDepth 100000
set_option maxHeartbeats 4000000
namespace Go.Proofs.Ytcclhjohpicleaa
open Go Go.RowKit Go.Proofs.Ytcclhjohpicleaa.Abs
variable {W0 : World} {σ : List Blk}
theorem sh_out1 (k : Nat) (l : List Int) : shB k [outB l] = [outB l] := by simp only [shB, List.map_cons, List.map_nil, outB, sh_I]
end Go.Proofs.Ytcclhjohpicleaa
end

section
/- Contracts: orders of prints: lists of numbers. -/
set_option linter.unusedVariables false
set_option linter.unusedSimpArgs false
set_option maxRecDepth 100000
set_option maxHeartbeats 4000000
namespace Go.Proofs.Ytcclhjohpicleaa
open Go Go.RowKit Go.Proofs.Ytcclhjohpicleaa.Abs
variable {W0 : World} {σ : List Blk}
/-- a slice that came in, nil or not -/
theorem sli_form {α : Type} {s : Nat} {enc : α → List Value} {a : AV} {xs : List α} (h : Sli W0 [] s enc a xs) : ∃ o n cap, a = .lit (.slice o n cap) ∧ n = xs.length ∧ n ≤ cap ∧ cap ≤ maxLen ∧ ∀ (i : Nat) (x : α), xs[i]? = some x → ∃ ad, o = some ad ∧ ad.block < W0.heap.size ∧ ∀ i x, xs[i]? = some x → ∀ j v, (enc x)[j]? = some v → W0.cell? ((ad.add (i * s)).add j) = some v ∧ v.oneCell' = true := by
  cases h with
  | nil => exact ⟨none, 0, 0, rfl, rfl, Nat.le_refl _, Nat.zero_le _, fun i x h => by simp at h⟩
  | inn ad n cap xs hn hc hm hb hx => exact ⟨some ad, n, cap, rfl, hn, hc, hm, fun i x h => ⟨ad, rfl, hb, hx⟩⟩
  | own b ver off n cap B xs hB => simp at hB
theorem mem_take_succ {l : List Int} {i : Nat} {x n : Int} (h : l[i]? = some x) : n ∈ l.take (i + 1) ↔ n ∈ l.take i ∨ n = x := by rw [take_snoc h, List.mem_append, List.mem_singleton]
theorem c_Index (a : AV) (l : List Int) (n : Int) (ha : Sli W0 [] 1 en1 a l) (hl : l.length ≤ 1048576) (K : Cont) (h1 : ∀ i : Nat, n ∈ l → K (I i) []) (h2 : n ∉ l → K (I (-1)) []) : ACall Try.prog W0 77 [a, I n] [] K := by
  refine by77 (Nat.le_of_ble_eq_true rfl) ?_
  obtain ⟨o, n', cap, rfl, hn, hc, hm, hf⟩ := sli_form ha
  subst hn
  repeat' ((conv => whnf); first | (refine Exists.intro ([] : List Nat) ?_) | (refine And.intro rfl ?_) | (refine And.intro (by decide +kernel) ?_) | (refine And.intro trivial ?_) | (refine Exists.intro _ (And.intro rfl (And.intro rfl (And.intro (Nat.le_of_ble_eq_true rfl) ?_)))) | (refine Exists.intro _ (And.intro rfl (And.intro rfl (And.intro rfl (And.intro (Nat.le_of_ble_eq_true rfl) ?_))))) | (refine And.intro (Exists.intro _ (And.intro rfl rfl)) ?_) | (exact fun hW => absurd hW (by decide +kernel)) | (intro hW; (try simp only [Bool.not_true, Bool.not_false, Bool.not_eq_true', Bool.not_eq_false', decide_eq_true_eq, decide_eq_false_iff_not, reduceCtorEq, Bool.true_eq_false, Bool.false_eq_true, mk_size, List.size_toArray, ByteArray.size_append, ByteArray.size_extract, List.length_cons, List.length_nil, ba_get, ba_empty, Int.toNat_natCast] at hW)) | (refine And.intro (?_ : _ → _) (?_ : _ → _)) | (refine FinR.drop 0 (Nat.zero_le _) (Closed.zero _) rfl ?_) | (refine FinR.keep ?_) | (refine And.intro (det3_agg rfl) ?_) | (refine fL_mk ?_) | (refine And.intro (by (try simp only [mk_size, List.size_toArray, ByteArray.size_append, ByteArray.size_extract, List.length_cons, List.length_nil]); omega) ?_) | (refine And.intro (by (try simp only [mk_size, List.size_toArray, ByteArray.size_append, ByteArray.size_extract, List.length_cons, List.length_nil, wrap64_eq]); omega) ?_) | fail)
  refine LoopR.live (fun i : Nat => [(0, .lit (.slice o l.length cap)), (1, I n), (7, I l.length), (8, I i)]) (fun i => []) (fun i => i ≤ l.length ∧ n ∉ l.take i) (fun i => l.length - i) 0 ⟨rfl, rfl, rfl, rfl, trivial⟩ (.keep rfl) ⟨Nat.zero_le _, by simp⟩ ?_
  rintro i ⟨hi, hni⟩
  by_cases hlt : i < l.length
  · have hxi : l[i]? = some l[i] := List.getElem?_eq_getElem hlt
    obtain ⟨ad, rfl, hb, hxx⟩ := hf i _ hxi
    have hld := fun C h => ldIn (W0 := W0) (s := 1) (enc := en1) hb hxx (k := i) hxi rfl (C := C) h
    have hms := mem_take_succ (n := n) hxi
    by_cases he : n = l[i]
    · have h0 := h1 i (he ▸ List.getElem_mem hlt)
      repeat' ((conv => whnf); first | (refine Exists.intro ([] : List Nat) ?_) | (refine And.intro rfl ?_) | (refine And.intro (by decide +kernel) ?_) | (refine And.intro trivial ?_) | (refine hld _ ?_) | (refine Exists.intro _ (And.intro rfl (And.intro rfl (And.intro (Nat.le_of_ble_eq_true rfl) ?_)))) | (refine Exists.intro _ (And.intro rfl (And.intro rfl (And.intro rfl (And.intro (Nat.le_of_ble_eq_true rfl) ?_))))) | (refine And.intro (Exists.intro _ (And.intro rfl rfl)) ?_) | (exact fun hW => absurd hW (by decide +kernel)) | (intro hW; (try simp only [Bool.not_true, Bool.not_false, Bool.not_eq_true', Bool.not_eq_false', decide_eq_true_eq, decide_eq_false_iff_not, reduceCtorEq, Bool.true_eq_false, Bool.false_eq_true, mk_size, List.size_toArray, ByteArray.size_append, ByteArray.size_extract, List.length_cons, List.length_nil, ba_get, ba_empty, Int.toNat_natCast] at hW)) | (refine And.intro (?_ : _ → _) (?_ : _ → _)) | (refine FinR.drop 0 (Nat.zero_le _) (Closed.zero _) rfl ?_) | (refine FinR.keep ?_) | (refine And.intro (det3_agg rfl) ?_) | (refine fL_mk ?_) | (refine And.intro (by (try simp only [mk_size, List.size_toArray, ByteArray.size_append, ByteArray.size_extract, List.length_cons, List.length_nil]); omega) ?_) | (refine And.intro (by (try simp only [mk_size, List.size_toArray, ByteArray.size_append, ByteArray.size_extract, List.length_cons, List.length_nil, wrap64_eq]); omega) ?_) | fail)
      all_goals first | (exfalso; omega) | exact h0
    · skip
      repeat' ((conv => whnf); first | (refine Exists.intro ([] : List Nat) ?_) | (refine And.intro rfl ?_) | (refine And.intro (by decide +kernel) ?_) | (refine And.intro trivial ?_) | (refine hld _ ?_) | (refine Exists.intro _ (And.intro rfl (And.intro rfl (And.intro (Nat.le_of_ble_eq_true rfl) ?_)))) | (refine Exists.intro _ (And.intro rfl (And.intro rfl (And.intro rfl (And.intro (Nat.le_of_ble_eq_true rfl) ?_))))) | (refine And.intro (Exists.intro _ (And.intro rfl rfl)) ?_) | (exact fun hW => absurd hW (by decide +kernel)) | (intro hW; (try simp only [Bool.not_true, Bool.not_false, Bool.not_eq_true', Bool.not_eq_false', decide_eq_true_eq, decide_eq_false_iff_not, reduceCtorEq, Bool.true_eq_false, Bool.false_eq_true, mk_size, List.size_toArray, ByteArray.size_append, ByteArray.size_extract, List.length_cons, List.length_nil, ba_get, ba_empty, Int.toNat_natCast] at hW)) | (refine And.intro (?_ : _ → _) (?_ : _ → _)) | (refine FinR.drop 0 (Nat.zero_le _) (Closed.zero _) rfl ?_) | (refine FinR.keep ?_) | (refine And.intro (det3_agg rfl) ?_) | (refine fL_mk ?_) | (refine And.intro (by (try simp only [mk_size, List.size_toArray, ByteArray.size_append, ByteArray.size_extract, List.length_cons, List.length_nil]); omega) ?_) | (refine And.intro (by (try simp only [mk_size, List.size_toArray, ByteArray.size_append, ByteArray.size_extract, List.length_cons, List.length_nil, wrap64_eq]); omega) ?_) | fail)
      all_goals first | (exfalso; omega) | skip
      exact Again.go (i + 1) ⟨rfl, rfl, rfl, slI' (wsucc' i (by omega)), trivial⟩ (.keep rfl) ⟨by omega, by rw [hms]; rintro (h | h); exact hni h; exact he h⟩ (by omega)
  · obtain rfl : i = l.length := by omega
    rw [List.take_length] at hni
    have h0 := h2 hni
    repeat' ((conv => whnf); first | (refine Exists.intro ([] : List Nat) ?_) | (refine And.intro rfl ?_) | (refine And.intro (by decide +kernel) ?_) | (refine And.intro trivial ?_) | (refine Exists.intro _ (And.intro rfl (And.intro rfl (And.intro (Nat.le_of_ble_eq_true rfl) ?_)))) | (refine Exists.intro _ (And.intro rfl (And.intro rfl (And.intro rfl (And.intro (Nat.le_of_ble_eq_true rfl) ?_))))) | (refine And.intro (Exists.intro _ (And.intro rfl rfl)) ?_) | (exact fun hW => absurd hW (by decide +kernel)) | (intro hW; (try simp only [Bool.not_true, Bool.not_false, Bool.not_eq_true', Bool.not_eq_false', decide_eq_true_eq, decide_eq_false_iff_not, reduceCtorEq, Bool.true_eq_false, Bool.false_eq_true, mk_size, List.size_toArray, ByteArray.size_append, ByteArray.size_extract, List.length_cons, List.length_nil, ba_get, ba_empty, Int.toNat_natCast] at hW)) | (refine And.intro (?_ : _ → _) (?_ : _ → _)) | (refine FinR.drop 0 (Nat.zero_le _) (Closed.zero _) rfl ?_) | (refine FinR.keep ?_) | (refine And.intro (det3_agg rfl) ?_) | (refine fL_mk ?_) | (refine And.intro (by (try simp only [mk_size, List.size_toArray, ByteArray.size_append, ByteArray.size_extract, List.length_cons, List.length_nil]); omega) ?_) | (refine And.intro (by (try simp only [mk_size, List.size_toArray, ByteArray.size_append, ByteArray.size_extract, List.length_cons, List.length_nil, wrap64_eq]); omega) ?_) | fail)
    all_goals first | (exfalso; omega) | exact h0
theorem c_Contains (a : AV) (l : List Int) (n : Int) (ha : Sli W0 [] 1 en1 a l) (hl : l.length ≤ 1048576) (K : Cont) (h0 : K (Bo (decide (n ∈ l))) []) : ACall Try.prog W0 59 [a, I n] [] K := by
  obtain ⟨va, rfl⟩ := sli_lit ha
  refine by59 (Nat.le_of_ble_eq_true rfl) ?_
  repeat' ((conv => whnf); first | (refine Exists.intro ([] : List Nat) ?_) | (refine And.intro rfl ?_) | (refine And.intro (by decide +kernel) ?_) | (refine And.intro trivial ?_) | (refine c_Index (ha := ha) (hl := hl) (h1 := fun i h1 => ?_) (h2 := fun h2 => ?_) ..) | (refine Exists.intro _ (And.intro rfl (And.intro rfl (And.intro (Nat.le_of_ble_eq_true rfl) ?_)))) | (refine Exists.intro _ (And.intro rfl (And.intro rfl (And.intro rfl (And.intro (Nat.le_of_ble_eq_true rfl) ?_))))) | (refine And.intro (Exists.intro _ (And.intro rfl rfl)) ?_) | (exact fun hW => absurd hW (by decide +kernel)) | (intro hW; (try simp only [Bool.not_true, Bool.not_false, Bool.not_eq_true', Bool.not_eq_false', decide_eq_true_eq, decide_eq_false_iff_not, reduceCtorEq, Bool.true_eq_false, Bool.false_eq_true, mk_size, List.size_toArray, ByteArray.size_append, ByteArray.size_extract, List.length_cons, List.length_nil, ba_get, ba_empty, Int.toNat_natCast] at hW)) | (refine And.intro (?_ : _ → _) (?_ : _ → _)) | (refine FinR.drop 0 (Nat.zero_le _) (Closed.zero _) rfl ?_) | (refine FinR.keep ?_) | (refine And.intro (det3_agg rfl) ?_) | (refine fL_mk ?_) | (refine And.intro (by (try simp only [mk_size, List.size_toArray, ByteArray.size_append, ByteArray.size_extract, List.length_cons, List.length_nil]); omega) ?_) | (refine And.intro (by (try simp only [mk_size, List.size_toArray, ByteArray.size_append, ByteArray.size_extract, List.length_cons, List.length_nil, wrap64_eq]); omega) ?_) | fail)
  · rw [decide_eq_true h1] at h0
    refine kB' h0 ?_
    simp
  · rw [decide_eq_false h2] at h0
    exact kB' h0 rfl
theorem d_Contains (a : AV) (l : List Int) (n : Int) (ha : Sli W0 σ 1 en1 a l) (hl : l.length ≤ 1048576) (K : Cont) (h0 : K (Bo (decide (n ∈ l))) σ) : ACall Try.prog W0 59 [a, I n] σ K :=
  lift_Sp (by kernel_rfl) rfl (fun _ => rfl) ha (fun W1 a' h K hK => c_Contains a' l n h hl K hK) K h0
end Go.Proofs.Ytcclhjohpicleaa
end

section
/- Contracts: pictures of prints in an order. -/
set_option linter.unusedVariables false
set_option linter.unusedSimpArgs false
set_option maxRecDepth 100000
set_option maxHeartbeats 4000000
namespace Go.Proofs.Ytcclhjohpicleaa
open Go Go.RowKit Go.Proofs.Ytcclhjohpicleaa.Abs
variable {W0 : World} {σ : List Blk}
/-! the program -/
theorem c_list (n : Nat) (hn : n < 2 ^ 36) (K : Cont) (h0 : ∀ cap, K (.sl 0 (selN n.testBit 36).length 0 (selN n.testBit 36).length cap) [outB (selN n.testBit 36)]) : ACall Try.prog W0 52 [U n] [] K := by
  refine by52 (Nat.le_of_ble_eq_true rfl) ?_
  repeat' ((conv => whnf); first | (refine Exists.intro ([] : List Nat) ?_) | (refine And.intro rfl ?_) | (refine And.intro (by decide +kernel) ?_) | (refine And.intro trivial ?_) | (refine Exists.intro _ (And.intro rfl (And.intro rfl (And.intro (Nat.le_of_ble_eq_true rfl) ?_)))) | (refine Exists.intro _ (And.intro rfl (And.intro rfl (And.intro rfl (And.intro (Nat.le_of_ble_eq_true rfl) ?_))))) | (refine And.intro (Exists.intro _ (And.intro rfl rfl)) ?_) | (exact fun hW => absurd hW (by decide +kernel)) | (intro hW; (try simp only [Bool.not_true, Bool.not_false, Bool.not_eq_true', Bool.not_eq_false', decide_eq_true_eq, decide_eq_false_iff_not, reduceCtorEq, Bool.true_eq_false, Bool.false_eq_true, mk_size, List.size_toArray, ByteArray.size_append, ByteArray.size_extract, List.length_cons, List.length_nil, ba_get, ba_empty, Int.toNat_natCast] at hW)) | (refine And.intro (?_ : _ → _) (?_ : _ → _)) | (refine FinR.drop 0 (Nat.zero_le _) (Closed.zero _) rfl ?_) | (refine FinR.keep ?_) | (refine And.intro (det3_agg rfl) ?_) | (refine fL_mk ?_) | (refine And.intro (by (try simp only [mk_size, List.size_toArray, ByteArray.size_append, ByteArray.size_extract, List.length_cons, List.length_nil]); omega) ?_) | (refine And.intro (by (try simp only [mk_size, List.size_toArray, ByteArray.size_append, ByteArray.size_extract, List.length_cons, List.length_nil, wrap64_eq]); omega) ?_) | fail)
  refine LoopR.live (fun y : Nat × Nat => [(0, U n), (3, .sl 0 (selN n.testBit y.1).length 0 (selN n.testBit y.1).length y.2), (6, I y.1)]) (fun y => [outB (selN n.testBit y.1)]) (fun y => y.1 ≤ 36) (fun y => 36 - y.1) (0, 0) ⟨rfl, rfl, rfl, trivial⟩ (.keep rfl) (Nat.zero_le _) ?_
  rintro ⟨i, cp⟩ hi
  dsimp only at hi
  have hsl := selN_len n.testBit i
  have hq := selN_succ n.testBit i
  by_cases hlt : i < 36
  · skip
    repeat' ((conv => whnf); first | (refine Exists.intro ([] : List Nat) ?_) | (refine And.intro rfl ?_) | (refine And.intro (by decide +kernel) ?_) | (refine And.intro trivial ?_) | (refine d_has (hn := Nat.lt_trans hn (by decide)) (hk := by omega) (h0 := ?_) ..) | (refine Exists.intro _ (And.intro rfl (And.intro rfl (And.intro rfl (And.intro rfl (And.intro rfl (And.intro rfl (And.intro (by decide) (And.intro (by simp [List.length_map]) (And.intro rfl (And.intro (by (try dsimp only); unfold maxLen; omega) (And.intro (by (try dsimp only); omega) (fun cap' hcap1 hcap2 => ?_))))))))))))) | (refine Exists.intro _ (And.intro rfl (And.intro rfl (And.intro (Nat.le_of_ble_eq_true rfl) ?_)))) | (refine Exists.intro _ (And.intro rfl (And.intro rfl (And.intro rfl (And.intro (Nat.le_of_ble_eq_true rfl) ?_))))) | (refine And.intro (Exists.intro _ (And.intro rfl rfl)) ?_) | (exact fun hW => absurd hW (by decide +kernel)) | (intro hW; (try simp only [Bool.not_true, Bool.not_false, Bool.not_eq_true', Bool.not_eq_false', decide_eq_true_eq, decide_eq_false_iff_not, reduceCtorEq, Bool.true_eq_false, Bool.false_eq_true, mk_size, List.size_toArray, ByteArray.size_append, ByteArray.size_extract, List.length_cons, List.length_nil, ba_get, ba_empty, Int.toNat_natCast] at hW)) | (refine And.intro (?_ : _ → _) (?_ : _ → _)) | (refine FinR.drop 0 (Nat.zero_le _) (Closed.zero _) rfl ?_) | (refine FinR.keep ?_) | (refine And.intro (det3_agg rfl) ?_) | (refine fL_mk ?_) | (refine And.intro (by (try simp only [mk_size, List.size_toArray, ByteArray.size_append, ByteArray.size_extract, List.length_cons, List.length_nil]); omega) ?_) | (refine And.intro (by (try simp only [mk_size, List.size_toArray, ByteArray.size_append, ByteArray.size_extract, List.length_cons, List.length_nil, wrap64_eq]); omega) ?_) | fail)
    all_goals first | (exfalso; omega) | skip
    · rw [hW, if_pos rfl] at hq
      refine Again.go (i + 1, _) ⟨rfl, (by show AV.sl _ _ _ _ _ = AV.sl _ _ _ _ _; rw [hq, List.length_append]; rfl), slI' (wsucc' i (by omega)), trivial⟩ (.keep ?_) (by dsimp only; omega) (by dsimp only; omega)
      dsimp only [outB]
      rw [hq, List.length_append, List.map_append]; rfl
    · rw [hW, if_neg (by decide), List.append_nil] at hq
      refine Again.go (i + 1, cp) ⟨rfl, (by show AV.sl _ _ _ _ _ = AV.sl _ _ _ _ _; rw [hq]), slI' (wsucc' i (by omega)), trivial⟩ (.keep ?_) (by dsimp only; omega) (by dsimp only; omega)
      dsimp only [outB]
      rw [hq]
  · obtain rfl : i = 36 := by omega
    have h0 := h0 cp
    repeat' ((conv => whnf); first | (refine Exists.intro ([] : List Nat) ?_) | (refine And.intro rfl ?_) | (refine And.intro (by decide +kernel) ?_) | (refine And.intro trivial ?_) | (refine Exists.intro _ (And.intro rfl (And.intro rfl (And.intro (Nat.le_of_ble_eq_true rfl) ?_)))) | (refine Exists.intro _ (And.intro rfl (And.intro rfl (And.intro rfl (And.intro (Nat.le_of_ble_eq_true rfl) ?_))))) | (refine And.intro (Exists.intro _ (And.intro rfl rfl)) ?_) | (exact fun hW => absurd hW (by decide +kernel)) | (intro hW; (try simp only [Bool.not_true, Bool.not_false, Bool.not_eq_true', Bool.not_eq_false', decide_eq_true_eq, decide_eq_false_iff_not, reduceCtorEq, Bool.true_eq_false, Bool.false_eq_true, mk_size, List.size_toArray, ByteArray.size_append, ByteArray.size_extract, List.length_cons, List.length_nil, ba_get, ba_empty, Int.toNat_natCast] at hW)) | (refine And.intro (?_ : _ → _) (?_ : _ → _)) | (refine FinR.drop 0 (Nat.zero_le _) (Closed.zero _) rfl ?_) | (refine FinR.keep ?_) | (refine And.intro (det3_agg rfl) ?_) | (refine fL_mk ?_) | (refine And.intro (by (try simp only [mk_size, List.size_toArray, ByteArray.size_append, ByteArray.size_extract, List.length_cons, List.length_nil]); omega) ?_) | (refine And.intro (by (try simp only [mk_size, List.size_toArray, ByteArray.size_append, ByteArray.size_extract, List.length_cons, List.length_nil, wrap64_eq]); omega) ?_) | fail)
    all_goals first | (exfalso; omega) | exact h0
theorem d_list (n : Nat) (hn : n < 2 ^ 36) (K : Cont) (h0 : ∀ cap, K (.sl (σ.length + 0) (selN n.testBit 36).length 0 (selN n.testBit 36).length cap) (σ ++ [outB (selN n.testBit 36)])) : ACall Try.prog W0 52 [U n] σ K := by
  refine ACall.frame (K0 := fun v σ' => ∃ cap, v = .sl 0 (selN n.testBit 36).length 0 (selN n.testBit 36).length cap ∧ σ' = [outB (selN n.testBit 36)]) rfl (fun W1 _ => c_list n hn _ fun cap => ⟨cap, rfl, rfl⟩) ?_
  rintro v σ' ⟨cap, rfl, rfl⟩
  rw [sh_out1]; exact h0 cap
theorem selN_mem (f : Nat → Bool) : ∀ n, ∀ k ∈ selN f n, ∃ m : Nat, k = m ∧ m < n
  | 0, k, h => by cases h
  | n + 1, k, h => by
    rw [selN_succ] at h
    rcases List.mem_append.1 h with h | h
    · obtain ⟨m, e, hm⟩ := selN_mem f n k h
      exact ⟨m, e, by omega⟩
    · split at h
      · exact ⟨n, List.mem_singleton.1 h, by omega⟩
      · cases h
end Go.Proofs.Ytcclhjohpicleaa
end

section
/- Contracts: lists in order; blocks that grow. -/
set_option linter.unusedVariables false
set_option linter.unusedSimpArgs false
set_option maxRecDepth 100000
set_option maxHeartbeats 4000000
namespace Go.Proofs.Ytcclhjohpicleaa
open Go Go.RowKit Go.Proofs.Ytcclhjohpicleaa.Abs
variable {W0 : World} {σ : List Blk}
theorem getl {σ : List Blk} {B : Blk} : (σ ++ [B])[σ.length]? = some B := by simp
theorem set_last {σ : List Blk} {B B' : Blk} : (σ ++ [B]).set σ.length B' = σ ++ [B'] := by
  rw [List.set_append_right _ _ (Nat.le_refl _), Nat.sub_self]; rfl
theorem getx1 {σ τ : List Blk} {b : Nat} {B : Blk} (h : σ[b]? = some B) : (σ ++ τ)[b]? = some B := by
  rw [List.getElem?_append_left (getElem?_lt h)]; exact h
/-! the first one of the shortest -/
section
variable (M : Nat → Bool) (s : Nat → List Int) (pl : List Int)
end
abbrev plainL (n : Nat) : List Int := selN (fun _ => true) n
end Go.Proofs.Ytcclhjohpicleaa
end

section
/- The abstract logic, part T: resolved code cut into parts; between two parts only the slots and blocks that are told stay. -/
set_option linter.unusedVariables false
set_option linter.unusedSimpArgs false
namespace Go.Proofs.Ytcclhjohpicleaa.Abs
open Go Go.RowKit
def seqN : Nat → RC → Bool
  | 0, _ => true
  | n + 1, .seq _ b => seqN n b
  | _ + 1, _ => false
def headN : Nat → RC → RC
  | 0, _ => .skip
  | n + 1, .seq a b => .seq a (headN n b)
  | _ + 1, r => r
def tailN : Nat → RC → RC
  | 0, r => r
  | n + 1, .seq _ b => tailN n b
  | _ + 1, r => r
/-! ### of all blocks some are kept, under new numbers: block i is what was block bs[i] -/
def ren0 (bs : List Nat) : AV → AV
  | .ptr b ver off => .ptr (bs.getD b 0) ver off
  | v => v
def ren1 (bs : List Nat) : AV → AV
  | .ptr b ver off => .ptr (bs.getD b 0) ver off
  | .sl b ver off n c => .sl (bs.getD b 0) ver off n c
  | .fn f first caps => .fn f (first.map (ren0 bs)) (caps.map (ren0 bs))
  | v => v
def ren2 (bs : List Nat) : AV → AV
  | .agg cs => .agg (cs.map (ren1 bs))
  | v => ren1 bs v
def ren3 (bs : List Nat) : AV → AV
  | .tup vs => .tup (vs.map (ren2 bs))
  | v => ren2 bs v
def renB (bs : List Nat) (B : Blk) : Blk := { B with cells := B.cells.map (ren1 bs) }
def idn (bs : List Nat) : Nat → Bool
  | 0 => true
  | m + 1 => idn bs m && (bs[m]? == some m)
abbrev locT (ι : Loc) (bs : List Nat) : Loc := bs.map fun b => ι.getD b (0, 0)
/-- a block that is kept: what it is now, what it was -/
inductive KeepB (bs : List Nat) (B' B : Blk) : Prop
  | lits (e : B = B') (h : ∀ c ∈ B'.cells, ∃ u, c = .lit u)
  | low (m : Nat) (e : B = B') (hm : idn bs m = true) (h : B'.cells.all (bel1 m) = true)
  | ren (e : B = renB bs B') (h : B'.cells.all (bel1 bs.length) = true)
def keepL (all : List Nat) (σ : List Blk) (bs : List Nat) (σ' : List Blk) : Prop :=
  List.rec (motive := fun _ => List Blk → Prop) (fun σ' => σ' = []) (fun b _ ih σ' => match σ' with
    | [] => False
    | B' :: σ' => (∃ B, σ[b]? = some B ∧ KeepB all B' B) ∧ ih σ') bs σ'
structure Gc (b0 : Nat) (fr : Fr) (σ : List Blk) (fr' : Fr) (σ' : List Blk) (bs : List Nat) : Prop where
  z : b0 = 0
  nd : bs.Nodup
  blk : keepL bs σ bs σ'
  slots : ∀ t, fr' t = .junk ∨ (fr t = ren3 bs (fr' t) ∧ bel3 bs.length (fr' t) = true)
section
variable {ι : Loc} {σ σ' : List Blk} {bs : List Nat} {w : World} {W0 : World}
theorem keepL_len {all : List Nat} : ∀ {bs : List Nat} {σ' : List Blk}, keepL all σ bs σ' → σ'.length = bs.length
  | [], σ', h => by rw [show σ' = [] from h]; rfl
  | b :: bs, [], h => h.elim
  | b :: bs, B' :: σ', h => by rw [List.length_cons, List.length_cons, keepL_len h.2]
theorem keepL_get {all : List Nat} : ∀ {bs : List Nat} {σ' : List Blk}, keepL all σ bs σ' → ∀ {i b : Nat} {B' : Blk}, bs[i]? = some b → σ'[i]? = some B' → ∃ B, σ[b]? = some B ∧ KeepB all B' B
  | [], σ', h, i, b, B', h1, _ => by simp at h1
  | b :: bs, [], h, _, _, _, _, _ => h.elim
  | b :: bs, B :: σ', h, 0, b', B', h1, h2 => by cases h1; cases h2; exact h.1
  | b :: bs, B :: σ', h, i + 1, b', B', h1, h2 => keepL_get h.2 h1 h2
theorem KeepB.same {B' B : Blk} (h : KeepB bs B' B) : B.ver = B'.ver ∧ B.e = B'.e ∧ B.esz = B'.esz ∧ B.row = B'.row ∧ B.room = B'.room := by
  cases h with
  | lits e h => rw [e]; exact ⟨rfl, rfl, rfl, rfl, rfl⟩
  | low m e hm h => rw [e]; exact ⟨rfl, rfl, rfl, rfl, rfl⟩
  | ren e h => rw [e]; exact ⟨rfl, rfl, rfl, rfl, rfl⟩
theorem idn_get : ∀ {m i : Nat}, idn bs m = true → i < m → bs[i]? = some i
  | 0, i, _, h => by omega
  | m + 1, i, hm, h => by
    unfold idn at hm
    rw [Bool.and_eq_true] at hm
    by_cases e : i = m
    · subst e; exact eq_of_beq hm.2
    · exact idn_get hm.1 (by omega)
theorem locT_at {i b : Nat} {q : Nat × Nat} (h1 : bs[i]? = some b) (h2 : ι[b]? = some q) : (locT ι bs)[i]? = some q := by
  unfold locT
  rw [List.getElem?_map, h1]
  show some (ι.getD b (0, 0)) = _
  rw [List.getD_eq_getElem?_getD, h2]; rfl
theorem locT_get {i : Nat} {q : Nat × Nat} (hb : ∀ b ∈ bs, b < ι.length) (h : (locT ι bs)[i]? = some q) : ∃ b, bs[i]? = some b ∧ ι[b]? = some q := by
  unfold locT at h
  rw [List.getElem?_map, Option.map_eq_some_iff] at h
  obtain ⟨b, h1, h2⟩ := h
  refine ⟨b, h1, ?_⟩
  have hlt := hb b (List.mem_of_getElem? h1)
  rw [List.getD_eq_getElem?_getD, List.getElem?_eq_getElem hlt] at h2
  rw [List.getElem?_eq_getElem hlt]; exact congrArg some h2
theorem kept_at (hk : keepL bs σ bs σ') {i : Nat} (hi : i < bs.length) : ∃ b B B', bs[i]? = some b ∧ bs.getD i 0 = b ∧ σ[b]? = some B ∧ σ'[i]? = some B' ∧ KeepB bs B' B := by
  have h1 := List.getElem?_eq_getElem hi
  have h2 : σ'[i]? = some (σ'[i]'(by rw [keepL_len hk]; exact hi)) := List.getElem?_eq_getElem _
  obtain ⟨B, h3, h4⟩ := keepL_get hk h1 h2
  exact ⟨_, B, _, h1, by rw [List.getD_eq_getElem?_getD, h1]; rfl, h3, h2, h4⟩
theorem ptrRel.ren (hk : keepL bs σ bs σ') {b ver off : Nat} {x : Value} (hb : b < bs.length) (h : ptrRel ι σ (bs.getD b 0) ver off x) : ptrRel (locT ι bs) σ' b ver off x := by
  obtain ⟨b1, B1, B', e1, e2, e3, e4, e5⟩ := kept_at hk hb
  obtain ⟨B, hB, hv, h1, hc, hm⟩ := h
  rw [e2, e3] at hB; cases hB
  have hs := e5.same
  have hmm := mapB_eq (B := B1) (B' := B') hs.2.2.1.symm hs.2.2.2.1.symm
  refine ⟨B', e4, by rw [← hs.1]; exact hv, h1, fun e => ?_, fun q1 q2 => ?_⟩
  · obtain ⟨c, t, hi, he⟩ := hc (by rw [hs.1]; exact e)
    exact ⟨c, t, locT_at e1 (e2 ▸ hi), by rw [hmm]; exact he⟩
  · obtain ⟨c, t, hi, he⟩ := hm (by rw [← hmm]; exact q1) (by rw [hs.1]; exact q2)
    exact ⟨c, t, locT_at e1 (e2 ▸ hi), he⟩
theorem slRel.ren (hk : keepL bs σ bs σ') {b ver off len cap : Nat} {x : Value} (hb : b < bs.length) (h : slRel ι σ (bs.getD b 0) ver off len cap x) : slRel (locT ι bs) σ' b ver off len cap x := by
  obtain ⟨b1, B1, B', e1, e2, e3, e4, e5⟩ := kept_at hk hb
  obtain ⟨B, hB, hv, h1, hc, hm⟩ := h
  rw [e2, e3] at hB; cases hB
  have hs := e5.same
  refine ⟨B', e4, by rw [← hs.1]; exact hv, h1, fun e => ?_, by rw [mapB_eq hs.2.2.1.symm hs.2.2.2.1.symm]; exact hm⟩
  obtain ⟨c, t, hi, he, k1, k2, k3⟩ := hc (by rw [hs.1]; exact e)
  exact ⟨c, t, locT_at e1 (e2 ▸ hi), he, k1, k2, fun hr hc => by rw [← hs.2.2.1]; exact k3 (by rw [hs.2.2.2.1]; exact hr) hc⟩
theorem Rels.unmap {α β γ : Type} {R : α → β → Prop} {R' : γ → β → Prop} {f : γ → α} {l : List γ} {m : List β} (h : Rels R (l.map f) m) (hr : ∀ a ∈ l, ∀ b, R (f a) b → R' a b) : Rels R' l m :=
  ⟨by rw [← h.1, List.length_map], fun i a b ha hb => hr a (List.mem_of_getElem? ha) b (h.2 i (f a) b (by rw [List.getElem?_map, ha]; rfl) hb)⟩
theorem rel0.ren (hk : keepL bs σ bs σ') {v : AV} {x : Value} (hb : bel0 bs.length v = true) (h : rel0 ι σ (ren0 bs v) x) : rel0 (locT ι bs) σ' v x := by
  cases v <;> first | exact h | exact ptrRel.ren hk (by simpa [bel0] using hb) h
theorem rel1.ren (hk : keepL bs σ bs σ') {v : AV} {x : Value} (hb : bel1 bs.length v = true) (h : rel1 ι σ (ren1 bs v) x) : rel1 (locT ι bs) σ' v x := by
  cases v with
  | ptr b ver off => exact ptrRel.ren hk (by simpa [bel1] using hb) h
  | sl b ver off len cap => exact slRel.ren hk (by simpa [bel1] using hb) h
  | fn f first caps =>
    obtain ⟨l1, l2, e, h1, h2⟩ := h
    simp only [bel1, Bool.and_eq_true] at hb
    exact ⟨l1, l2, e, h1.unmap fun a ha _ h => rel0.ren hk (List.all_eq_true.1 hb.1 a ha) h, h2.unmap fun a ha _ h => rel0.ren hk (List.all_eq_true.1 hb.2 a ha) h⟩
  | _ => exact h
theorem crel.ren (hk : keepL bs σ bs σ') {v : AV} {x : Value} (hb : bel1 bs.length v = true) (h : crel ι σ (ren1 bs v) x) : crel (locT ι bs) σ' v x := ⟨rel1.ren hk hb h.1, h.2⟩
theorem rel2.ren (hk : keepL bs σ bs σ') {v : AV} {x : Value} (hb : bel2 bs.length v = true) (h : rel2 ι σ (ren2 bs v) x) : rel2 (locT ι bs) σ' v x := by
  cases v with
  | agg cs => obtain ⟨l, e, h1⟩ := h; exact ⟨l, e, h1.unmap fun a ha _ h => crel.ren hk (List.all_eq_true.1 hb a ha) h⟩
  | ptr b ver off => exact ptrRel.ren hk (by simpa [bel2, bel1] using hb) h
  | sl b ver off len cap => exact slRel.ren hk (by simpa [bel2, bel1] using hb) h
  | fn f first caps => exact rel1.ren (v := .fn f first caps) hk hb h
  | _ => exact h
theorem rel3.ren (hk : keepL bs σ bs σ') {v : AV} {x : Value} (hb : bel3 bs.length v = true) (h : rel3 ι σ (ren3 bs v) x) : rel3 (locT ι bs) σ' v x := by
  cases v with
  | tup vs => obtain ⟨l, e, h1⟩ := h; exact ⟨l, e, h1.unmap fun a ha _ h => rel2.ren hk (List.all_eq_true.1 hb a ha) h⟩
  | agg cs => exact rel2.ren (v := .agg cs) hk hb h
  | ptr b ver off => exact ptrRel.ren hk (by simpa [bel3, bel2, bel1] using hb) h
  | sl b ver off len cap => exact slRel.ren hk (by simpa [bel3, bel2, bel1] using hb) h
  | fn f first caps => exact rel1.ren (v := .fn f first caps) hk hb h
  | _ => exact h
theorem ren0_id {m : Nat} (hm : idn bs m = true) {v : AV} (h : bel0 m v = true) : ren0 bs v = v := by
  cases v with
  | ptr b ver off =>
    have hb : b < m := by simpa [bel0] using h
    show AV.ptr (bs.getD b 0) ver off = _
    rw [List.getD_eq_getElem?_getD, idn_get hm hb]; rfl
  | _ => rfl
theorem ren0s_id {m : Nat} (hm : idn bs m = true) : ∀ {l : List AV}, l.all (bel0 m) = true → l.map (ren0 bs) = l
  | [], _ => rfl
  | a :: l, h => by
    rw [List.all_cons, Bool.and_eq_true] at h
    rw [List.map_cons, ren0_id hm h.1, ren0s_id hm h.2]
theorem ren1_id {m : Nat} (hm : idn bs m = true) {v : AV} (h : bel1 m v = true) : ren1 bs v = v := by
  cases v with
  | ptr b ver off =>
    have hb : b < m := by simpa [bel1] using h
    show AV.ptr (bs.getD b 0) ver off = _
    rw [List.getD_eq_getElem?_getD, idn_get hm hb]; rfl
  | sl b ver off n c =>
    have hb : b < m := by simpa [bel1] using h
    show AV.sl (bs.getD b 0) ver off n c = _
    rw [List.getD_eq_getElem?_getD, idn_get hm hb]; rfl
  | fn f first caps =>
    simp only [bel1, Bool.and_eq_true] at h
    show AV.fn f (first.map (ren0 bs)) (caps.map (ren0 bs)) = _
    rw [ren0s_id hm h.1, ren0s_id hm h.2]
  | _ => rfl
theorem ren1s_id {m : Nat} (hm : idn bs m = true) : ∀ {l : List AV}, l.all (bel1 m) = true → l.map (ren1 bs) = l
  | [], _ => rfl
  | a :: l, h => by
    rw [List.all_cons, Bool.and_eq_true] at h
    rw [List.map_cons, ren1_id hm h.1, ren1s_id hm h.2]
theorem bel1_lt {m k : Nat} (hmk : m ≤ k) {v : AV} (h : bel1 m v = true) : bel1 k v = true := by
  have h0 : ∀ {l : List AV}, l.all (bel0 m) = true → l.all (bel0 k) = true := fun hl => by
    rw [List.all_eq_true] at hl ⊢
    intro a ha
    have := hl a ha
    cases a <;> first | rfl | (simp only [bel0, decide_eq_true_eq] at this ⊢; omega)
  cases v with
  | ptr b ver off => simp only [bel1, decide_eq_true_eq] at h ⊢; omega
  | sl b ver off n c => simp only [bel1, decide_eq_true_eq] at h ⊢; omega
  | fn f first caps =>
    simp only [bel1, Bool.and_eq_true] at h ⊢
    exact ⟨h0 h.1, h0 h.2⟩
  | _ => rfl
theorem idn_le {m : Nat} (hm : idn bs m = true) : m ≤ bs.length := by
  cases m with
  | zero => exact Nat.zero_le _
  | succ m => have := getElem?_lt (idn_get hm (Nat.lt_succ_self m)); omega
theorem KeepB.cells {B' B : Blk} (h : KeepB bs B' B) : B.cells = B'.cells.map (ren1 bs) ∧ B'.cells.all (bel1 bs.length) = true := by
  cases h with
  | lits e h =>
    subst e
    have h1 : ∀ c ∈ B.cells, bel1 0 c = true := fun c hc => by obtain ⟨u, rfl⟩ := h c hc; rfl
    have h2 : B.cells.all (bel1 0) = true := List.all_eq_true.2 h1
    exact ⟨(ren1s_id (m := 0) rfl h2).symm, List.all_eq_true.2 fun c hc => bel1_lt (Nat.zero_le _) (h1 c hc)⟩
  | low m e hm h =>
    subst e
    exact ⟨(ren1s_id hm h).symm, List.all_eq_true.2 fun c hc => bel1_lt (idn_le hm) (List.all_eq_true.1 h c hc)⟩
  | ren e h => rw [e]; exact ⟨rfl, h⟩
theorem HRel.gc (h : HRel W0 ι σ w) (nd : bs.Nodup) (hk : keepL bs σ bs σ') : HRel W0 (locT ι bs) σ' w := by
  have hb : ∀ b ∈ bs, b < ι.length := by
    intro b hb
    obtain ⟨i, hi⟩ := List.mem_iff_getElem?.1 hb
    obtain ⟨b1, B1, B', e1, e2, e3, e4, e5⟩ := kept_at hk (getElem?_lt hi)
    rw [hi] at e1; cases e1
    rw [h.len]; exact getElem?_lt e3
  refine ⟨h.below, by simp [keepL_len hk], fun i j c t t' hi hj => ?_, fun i c t hi => ?_, fun i B' c t hi hj hm => ?_, fun i B' c t hi hj hm => ?_, h.drw⟩
  · obtain ⟨b, k1, k2⟩ := locT_get hb hi
    obtain ⟨b', k3, k4⟩ := locT_get hb hj
    have e := h.inj b b' c t t' k2 k4
    subst e
    exact (List.getElem?_inj (getElem?_lt k1) nd).1 (k1.trans k3.symm)
  · obtain ⟨b, k1, k2⟩ := locT_get hb hi
    exact h.dom b c t k2
  · obtain ⟨b, k1, k2⟩ := locT_get hb hj
    obtain ⟨B, hB, hKB⟩ := keepL_get hk k1 hi
    have hs := hKB.same
    have hmm : mapB B' = mapB B := mapB_eq hs.2.2.1.symm hs.2.2.2.1.symm
    obtain ⟨es, clk, m1, m3⟩ := h.mp b B c t hB k2 (by rw [← hmm]; exact hm)
    have hc := hKB.cells
    refine ⟨es, clk, m1, ?_⟩
    rw [hc.1] at m3
    exact m3.unmap fun a ha x hx => crel.ren hk (List.all_eq_true.1 hc.2 a ha) hx
  · obtain ⟨b, k1, k2⟩ := locT_get hb hj
    obtain ⟨B, hB, hKB⟩ := keepL_get hk k1 hi
    have hs := hKB.same
    have hmm : mapB B' = mapB B := mapB_eq hs.2.2.1.symm hs.2.2.2.1.symm
    obtain ⟨vs', rest, m1, m2, m3, m4⟩ := h.blk b B c t hB k2 (by rw [← hmm]; exact hm)
    have hc := hKB.cells
    have hfz : fzOf B' t = fzOf B t := by unfold fzOf; rw [hs.2.2.2.1, hs.2.2.2.2]
    refine ⟨vs', rest, by rw [← hs.2.1, hfz]; exact m1, m2, ?_, fun hr => m4 (by rw [hs.2.2.2.2]; exact hr)⟩
    rw [hc.1] at m3
    exact m3.unmap fun a ha x hx => crel.ren hk (List.all_eq_true.1 hc.2 a ha) hx
theorem FRel.gc {n : Nat} {fr fr' : Fr} {a : Act} (hk : keepL bs σ bs σ') (hf : ∀ t, fr' t = .junk ∨ (fr t = ren3 bs (fr' t) ∧ bel3 bs.length (fr' t) = true)) (h : FRel ι σ n fr a) : FRel (locT ι bs) σ' n fr' a := by
  refine ⟨h.1, fun t => ?_⟩
  rcases hf t with e | ⟨e, hb⟩
  · rw [e]; exact trivial
  · have := h.2 t
    rw [e] at this
    exact rel3.ren hk hb this
end
theorem frL_gc {bs : List Nat} {fr : Fr} : ∀ {l : List (Nat × AV)}, agr (l.map fun p => (p.1, ren3 bs p.2)) fr → l.all (fun p => bel3 bs.length p.2) = true → ∀ t, frL l t = .junk ∨ (fr t = ren3 bs (frL l t) ∧ bel3 bs.length (frL l t) = true)
  | [], _, _, t => .inl rfl
  | p :: l, h, hb, t => by
    rw [List.map_cons, agr_cons] at h
    rw [List.all_cons, Bool.and_eq_true] at hb
    rw [frL_cons]
    cases he : Nat.beq t p.1 with
    | true =>
      have e : t = p.1 := Nat.eq_of_beq_eq_true he
      right
      refine ⟨?_, hb.1⟩
      rw [e, h.1]; rfl
    | false => exact frL_gc h.2 hb.2 t
/-- between two parts: what is forgotten is forgotten, the rest is told -/
structure CutAt (b0 : Nat) (M : Fr → List Blk → Prop) (fr : Fr) (σ : List Blk) : Prop where
  ex : ∃ fr'' σ'', (Forget b0 fr σ fr'' σ'' ∨ ∃ bs, Gc b0 fr σ fr'' σ'' bs) ∧ M fr'' σ''
def cutP (b0 : Nat) (M : Fr → List Blk → Prop) (Q : CPost) : CPost := fun e fr σ => match e with
  | .normal => CutAt b0 M fr σ
  | e => Q e fr σ
def liveM {X : Type} (sh : X → List (Nat × AV)) (st : X → List Blk) (inv : X → Prop) (fr : Fr) (σ : List Blk) : Prop := ∃ x, fr = frL (sh x) ∧ σ = st x ∧ inv x
theorem CutAt.go {X : Type} {b0 : Nat} {sh : X → List (Nat × AV)} {st : X → List Blk} {inv : X → Prop} {fr : Fr} {σ : List Blk} (x : X) (ha : agr (sh x) fr) (hg : Fgt b0 (sh x) σ (st x)) (hi : inv x) : CutAt b0 (liveM sh st inv) fr σ :=
  ⟨_, _, .inl (hg.forget ha), x, rfl, rfl, hi⟩
/-- the blocks bs are kept alone, under new numbers -/
theorem CutAt.gc {X : Type} {sh : X → List (Nat × AV)} {st : X → List Blk} {inv : X → Prop} {fr : Fr} {σ : List Blk} (bs : List Nat) (nd : bs.Nodup) (x : X) (ha : agr ((sh x).map fun p => (p.1, ren3 bs p.2)) fr) (hb : (sh x).all (fun p => bel3 bs.length p.2) = true) (hk : keepL bs σ bs (st x)) (hi : inv x) : CutAt 0 (liveM sh st inv) fr σ :=
  ⟨_, _, .inr ⟨bs, rfl, nd, hk, frL_gc ha hb⟩, x, rfl, rfl, hi⟩
/-- resolved code with cuts -/
inductive RWs (P : Program) (W0 : World) (b0 : Nat) : RC → Fr → List Blk → CPost → Prop
  | base {r : RC} {fr : Fr} {σ : List Blk} {Q : CPost} (h : Closed σ.length σ → rW P W0 b0 r fr σ Q) : RWs P W0 b0 r fr σ Q
  | cut {r : RC} {fr : Fr} {σ : List Blk} {Q : CPost} (n : Nat) (M : Fr → List Blk → Prop) (hs : seqN n r = true) (h1 : Closed σ.length σ → rW P W0 b0 (headN n r) fr σ (cutP b0 M Q)) (h2 : ∀ fr' σ', M fr' σ' → RWs P W0 b0 (tailN n r) fr' σ' Q) : RWs P W0 b0 r fr σ Q
theorem RWs.live {P : Program} {W0 : World} {b0 : Nat} {r : RC} {fr : Fr} {σ : List Blk} {Q : CPost} {X : Type} (n : Nat) (sh : X → List (Nat × AV)) (st : X → List Blk) (inv : X → Prop) (hs : seqN n r = true)
    (h1 : Closed σ.length σ → rW P W0 b0 (headN n r) fr σ (cutP b0 (liveM sh st inv) Q)) (h2 : ∀ x, inv x → RWs P W0 b0 (tailN n r) (frL (sh x)) (st x) Q) : RWs P W0 b0 r fr σ Q :=
  .cut n _ hs h1 fun fr' σ' ⟨x, e1, e2, hx⟩ => e1 ▸ e2 ▸ h2 x hx
theorem RWs.closed {P : Program} {W0 : World} {b0 : Nat} {r : RC} {fr : Fr} {σ : List Blk} {Q : CPost} (h : Closed σ.length σ → RWs P W0 b0 r fr σ Q) : RWs P W0 b0 r fr σ Q := by
  by_cases hc : Closed σ.length σ
  · exact h hc
  · exact .base fun h' => absurd h' hc
section
variable {P : Program} {W0 : World} {ι0 : Loc} {σ0 : List Blk} {n : Nat} {cuts : Nat → Nat}
end
section
variable {P : Program} {W0 : World} {σ : List Blk}
end
section
variable {P : Program} {W0 : World} {σ : List Blk}
/-- of all new blocks some are kept, under new numbers -/
theorem ACall.only {g : FuncId} {args : List AV} {K0 K : Cont} (h : ACall P W0 g args [] K0) (hk : ∀ v S, K0 v S → ∃ (bs : List Nat) (Bs : List Blk) (v' : AV), bs.Nodup ∧ keepL bs S bs Bs ∧ v = ren3 bs v' ∧ bel3 bs.length v' = true ∧ K v' Bs) : ACall P W0 g args [] K := by
  refine ⟨h.ok, fun ι w vs hh hr => (h.run ι w vs hh hr).mono fun e w' ⟨v, ι', S, av, he, hk0, h3, h4, h5⟩ => ?_⟩
  obtain ⟨bs, Bs, v', hnd, hkl, rfl, hb, hK⟩ := hk _ _ hk0
  exact ⟨v, _, Bs, v', he, hK, h3.gc hnd hkl, ⟨Nat.zero_le _, fun i C C' hi => by simp at hi, fun i C C' hi => by simp at hi⟩, rel3.ren hkl hb h5⟩
end
end Go.Proofs.Ytcclhjohpicleaa.Abs
end
