/- Contracts: texts that are plain; valid records. -/
import Derived.Test.YtlmplfgnhibfcaaDoorC1
import Derived.Test.YtlmplfgnhibfcaaDoorStr
import Derived.Test.YtlmplfgnhibfcaaDoorAbsR
set_option linter.unusedVariables false
set_option linter.unusedSimpArgs false
set_option maxRecDepth 100000
namespace Go.Proofs.YtlmplfgnhibfcaaDoor
open Go Go.RowKit Go.Proofs.YtlmplfgnhibfcaaDoor.Abs
variable {W0 : World} {σ : List Blk}
abbrev B8 (c : UInt8) : AV := .lit (.int .u8 (c.toNat : Nat))
theorem kB {K : Cont} {a b : Bool} {σ σ' : List Blk} (h : K (Bo a) σ) (e : a = b) (s : σ = σ' := by rfl) : K (.lit (.bool b)) σ' := by subst e; subst s; exact h
theorem kI {K : Cont} {a b : Int} {σ σ' : List Blk} (h : K (I a) σ) (e : a = b) (s : σ = σ' := by rfl) : K (.lit (.int .i64 b)) σ' := by subst e; subst s; exact h
theorem kS {K : Cont} {a b : ByteArray} {σ σ' : List Blk} (h : K (St a) σ) (e : a = b) (s : σ = σ' := by rfl) : K (.lit (.string b)) σ' := by subst e; subst s; exact h
theorem slI {a b : Int} (e : a = b) : AV.lit (.int .i64 a) = I b := by rw [e]
theorem u8_eq {a b : UInt8} (h : ((a.toNat : Nat) : Int) = ((b.toNat : Nat) : Int)) : (a == b) = true := by rw [UInt8.toNat_inj.1 (Int.ofNat_inj.1 h)]; simp
theorem u8_ne {a b : UInt8} (h : ¬ ((a.toNat : Nat) : Int) = ((b.toNat : Nat) : Int)) : (a == b) = false := by
  rw [Bool.eq_false_iff]; intro e; exact h (by rw [eq_of_beq e])
theorem plc_of {c : UInt8} (h1 : inB (IntKind.i64.wrap ((c.toNat : Nat) : Int)) 32 126 = true) (h2 : ¬ ((c.toNat : Nat) : Int) = 35) : plc c = true := by
  have := c.toNat_lt
  rw [wrap_i64 _ (by omega) (by omega)] at h1
  simp [inB] at h1; simp [plc]; omega
theorem plc_not1 {c : UInt8} (h1 : inB (IntKind.i64.wrap ((c.toNat : Nat) : Int)) 32 126 = false) : plc c = false := by
  have := c.toNat_lt
  rw [wrap_i64 _ (by omega) (by omega)] at h1
  simp [inB] at h1; simp [plc]; omega
theorem plc_not2 {c : UInt8} (h1 : ((c.toNat : Nat) : Int) = 35) : plc c = false := by
  simp [plc]; omega
theorem plc_t {c : UInt8} (h1 : ¬ ((c.toNat : Nat) : Int) < 32) (h2 : ¬ 126 < ((c.toNat : Nat) : Int)) (h3 : ¬ ((c.toNat : Nat) : Int) = 35) : plc c = true := by simp [plc]; omega
theorem plc_f {c : UInt8} (h : ((c.toNat : Nat) : Int) < 32 ∨ 126 < ((c.toNat : Nat) : Int) ∨ ((c.toNat : Nat) : Int) = 35) : plc c = false := by simp [plc]; omega
theorem c_l12Bytes (s : ByteArray) (m : Int) (hs : s.size < 4611686018427387904) (K : Cont) (h0 : K (Bo (plain (tl s) && decide ((s.size : Int) ≤ m))) []) : ACall Tryd.prog W0 33 [St s, I m] [] K := by
  refine by33 (Nat.le_of_ble_eq_true rfl) ?_
  repeat' ((conv => whnf); first
    | (refine And.intro rfl ?_)
    | (refine And.intro (by decide +kernel) ?_)
    | (refine And.intro trivial ?_)
    | (refine Exists.intro _ (And.intro rfl (And.intro rfl (And.intro (Nat.le_of_ble_eq_true rfl) ?_))))
    | (refine Exists.intro _ (And.intro rfl (And.intro rfl (And.intro rfl (And.intro (Nat.le_of_ble_eq_true rfl) ?_)))))
    | (refine And.intro (Exists.intro _ (And.intro rfl rfl)) ?_)
    | (exact fun hW => absurd hW (by decide +kernel))
    | (intro hW; (try simp only [Bool.not_true, Bool.not_false, Bool.not_eq_true', Bool.not_eq_false', decide_eq_true_eq, decide_eq_false_iff_not, reduceCtorEq, Bool.true_eq_false, Bool.false_eq_true, mk_size, List.size_toArray, ByteArray.size_append, ByteArray.size_extract, List.length_cons, List.length_nil, ba_get, ba_empty, Int.toNat_natCast] at hW))
    | (refine And.intro (?_ : _ → _) (?_ : _ → _))
    | (refine FinR.drop 0 (Nat.zero_le _) (Closed.zero _) rfl ?_)
    | (refine FinR.keep ?_)
    | (refine And.intro (det3_agg rfl) ?_)
    | (refine fL_mk ?_)
    | (refine And.intro (by (try simp only [mk_size, List.size_toArray, ByteArray.size_append, ByteArray.size_extract, List.length_cons, List.length_nil]); omega) ?_)
    | (refine And.intro (by (try simp only [mk_size, List.size_toArray, ByteArray.size_append, ByteArray.size_extract, List.length_cons, List.length_nil, wrap64_eq]); omega) ?_)
    | fail)
  refine LoopR.live (fun i : Nat => [(0, St s), (1, I m), (5, I i)]) (fun _ => []) (fun i => i ≤ s.size ∧ ((tl s).take i).all plc = true) (fun i => s.size - i) 0 ⟨rfl, rfl, rfl, trivial⟩ (.keep rfl) ⟨Nat.zero_le _, rfl⟩ ?_
  rintro i ⟨hi, ha⟩
  have tls := tl_len s
  repeat' ((conv => whnf); first
    | (refine And.intro rfl ?_)
    | (refine And.intro (by decide +kernel) ?_)
    | (refine And.intro trivial ?_)
    | (refine d_l1In (h0 := ?_) ..)
    | (refine Exists.intro _ (And.intro (fun τ => callW_fn (d_l1In (h0 := And.intro rfl rfl) ..)) ?_))
    | (refine Exists.intro _ (And.intro (callW_fn (d_l1In (h0 := And.intro rfl rfl) ..)) (And.intro trivial ?_)))
    | (refine Exists.intro _ (And.intro (callW_fn (d_l1In (h0 := And.intro rfl rfl) ..)) ?_))
    | (refine Exists.intro _ (And.intro (fun τ _ => callW_fn (d_l1In (h0 := And.intro rfl rfl) ..)) ?_))
    | (refine Exists.intro _ (And.intro rfl (And.intro rfl (And.intro (Nat.le_of_ble_eq_true rfl) ?_))))
    | (refine Exists.intro _ (And.intro rfl (And.intro rfl (And.intro rfl (And.intro (Nat.le_of_ble_eq_true rfl) ?_)))))
    | (refine And.intro (Exists.intro _ (And.intro rfl rfl)) ?_)
    | (exact fun hW => absurd hW (by decide +kernel))
    | (intro hW; (try simp only [Bool.not_true, Bool.not_false, Bool.not_eq_true', Bool.not_eq_false', decide_eq_true_eq, decide_eq_false_iff_not, reduceCtorEq, Bool.true_eq_false, Bool.false_eq_true, mk_size, List.size_toArray, ByteArray.size_append, ByteArray.size_extract, List.length_cons, List.length_nil, ba_get, ba_empty, Int.toNat_natCast] at hW))
    | (refine And.intro (?_ : _ → _) (?_ : _ → _))
    | (refine FinR.drop 0 (Nat.zero_le _) (Closed.zero _) rfl ?_)
    | (refine FinR.keep ?_)
    | (refine And.intro (det3_agg rfl) ?_)
    | (refine fL_mk ?_)
    | (refine And.intro (by (try simp only [mk_size, List.size_toArray, ByteArray.size_append, ByteArray.size_extract, List.length_cons, List.length_nil]); omega) ?_)
    | (refine And.intro (by (try simp only [mk_size, List.size_toArray, ByteArray.size_append, ByteArray.size_extract, List.length_cons, List.length_nil, wrap64_eq]); omega) ?_)
    | fail)
  · refine kB h0 ?_; rw [plain, all_false (i := i) (d := 0) (by omega) (plc_not2 hW)]; rfl
  · rename_i h1 h2 h3
    exact Again.go (i + 1) ⟨rfl, rfl, slI (iN _ (by omega)), trivial⟩ (.keep rfl) ⟨by omega, by rw [all_step (d := 0) (by omega), ha, plc_of h2 hW]; rfl⟩ (by omega)
  · rename_i h1 h2 h3
    refine kB h0 ?_; rw [plain, all_false (i := i) (d := 0) (by omega) (plc_not1 h2)]; rfl
  · refine kB h0 ?_; rw [plain, all_take_true (by omega) ha]; rfl
theorem d_l12Bytes (s : ByteArray) (m : Int) (hs : s.size < 4611686018427387904) (K : Cont) (h0 : K (Bo (plain (tl s) && decide ((s.size : Int) ≤ m))) σ) : ACall Tryd.prog W0 33 [St s, I m] σ K :=
  ACall.lift rfl (fun _ => rfl) (fun W1 K _ hK => c_l12Bytes s m hs K hK) h0
theorem c_l1Stands (s : ByteArray) (b : UInt8) (hs : s.size < 4611686018427387904) (K : Cont) (h0 : K (Bo ((tl s).any (· == b))) []) : ACall Tryd.prog W0 34 [St s, B8 b] [] K := by
  refine by34 (Nat.le_of_ble_eq_true rfl) ?_
  repeat' ((conv => whnf); first
    | (refine And.intro rfl ?_)
    | (refine And.intro (by decide +kernel) ?_)
    | (refine And.intro trivial ?_)
    | (refine Exists.intro _ (And.intro rfl (And.intro rfl (And.intro (Nat.le_of_ble_eq_true rfl) ?_))))
    | (refine Exists.intro _ (And.intro rfl (And.intro rfl (And.intro rfl (And.intro (Nat.le_of_ble_eq_true rfl) ?_)))))
    | (refine And.intro (Exists.intro _ (And.intro rfl rfl)) ?_)
    | (exact fun hW => absurd hW (by decide +kernel))
    | (intro hW; (try simp only [Bool.not_true, Bool.not_false, Bool.not_eq_true', Bool.not_eq_false', decide_eq_true_eq, decide_eq_false_iff_not, reduceCtorEq, Bool.true_eq_false, Bool.false_eq_true, mk_size, List.size_toArray, ByteArray.size_append, ByteArray.size_extract, List.length_cons, List.length_nil, ba_get, ba_empty, Int.toNat_natCast] at hW))
    | (refine And.intro (?_ : _ → _) (?_ : _ → _))
    | (refine FinR.drop 0 (Nat.zero_le _) (Closed.zero _) rfl ?_)
    | (refine FinR.keep ?_)
    | (refine And.intro (det3_agg rfl) ?_)
    | (refine fL_mk ?_)
    | (refine And.intro (by (try simp only [mk_size, List.size_toArray, ByteArray.size_append, ByteArray.size_extract, List.length_cons, List.length_nil]); omega) ?_)
    | (refine And.intro (by (try simp only [mk_size, List.size_toArray, ByteArray.size_append, ByteArray.size_extract, List.length_cons, List.length_nil, wrap64_eq]); omega) ?_)
    | fail)
  refine LoopR.live (fun i : Nat => [(0, St s), (1, B8 b), (5, I i)]) (fun _ => []) (fun i => i ≤ s.size ∧ ((tl s).take i).all (fun c => !(c == b)) = true) (fun i => s.size - i) 0 ⟨rfl, rfl, rfl, trivial⟩ (.keep rfl) ⟨Nat.zero_le _, rfl⟩ ?_
  rintro i ⟨hi, ha⟩
  have tls := tl_len s
  repeat' ((conv => whnf); first
    | (refine And.intro rfl ?_)
    | (refine And.intro (by decide +kernel) ?_)
    | (refine And.intro trivial ?_)
    | (refine Exists.intro _ (And.intro rfl (And.intro rfl (And.intro (Nat.le_of_ble_eq_true rfl) ?_))))
    | (refine Exists.intro _ (And.intro rfl (And.intro rfl (And.intro rfl (And.intro (Nat.le_of_ble_eq_true rfl) ?_)))))
    | (refine And.intro (Exists.intro _ (And.intro rfl rfl)) ?_)
    | (exact fun hW => absurd hW (by decide +kernel))
    | (intro hW; (try simp only [Bool.not_true, Bool.not_false, Bool.not_eq_true', Bool.not_eq_false', decide_eq_true_eq, decide_eq_false_iff_not, reduceCtorEq, Bool.true_eq_false, Bool.false_eq_true, mk_size, List.size_toArray, ByteArray.size_append, ByteArray.size_extract, List.length_cons, List.length_nil, ba_get, ba_empty, Int.toNat_natCast] at hW))
    | (refine And.intro (?_ : _ → _) (?_ : _ → _))
    | (refine FinR.drop 0 (Nat.zero_le _) (Closed.zero _) rfl ?_)
    | (refine FinR.keep ?_)
    | (refine And.intro (det3_agg rfl) ?_)
    | (refine fL_mk ?_)
    | (refine And.intro (by (try simp only [mk_size, List.size_toArray, ByteArray.size_append, ByteArray.size_extract, List.length_cons, List.length_nil]); omega) ?_)
    | (refine And.intro (by (try simp only [mk_size, List.size_toArray, ByteArray.size_append, ByteArray.size_extract, List.length_cons, List.length_nil, wrap64_eq]); omega) ?_)
    | fail)
  · refine kB h0 ?_
    rw [any_not, all_false (i := i) (d := 0) (by omega) (by rw [u8_eq hW]; rfl)]; rfl
  · rename_i h1
    exact Again.go (i + 1) ⟨rfl, rfl, slI (iN _ (by omega)), trivial⟩ (.keep rfl) ⟨by omega, by rw [all_step (d := 0) (by omega), ha, u8_ne hW]; rfl⟩ (by omega)
  · refine kB h0 ?_; rw [any_not, all_take_true (by omega) ha]; rfl
theorem d_l1Stands (s : ByteArray) (b : UInt8) (hs : s.size < 4611686018427387904) (K : Cont) (h0 : K (Bo ((tl s).any (· == b))) σ) : ACall Tryd.prog W0 34 [St s, B8 b] σ K :=
  ACall.lift rfl (fun _ => rfl) (fun W1 K _ hK => c_l1Stands s b hs K hK) h0
theorem c_isPlain (s : ByteArray) (hs : s.size < 4611686018427387904) (K : Cont) (h0 : K (Bo (plain (tl s))) []) : ACall Tryd.prog W0 46 [St s] [] K := by
  refine by46 (Nat.le_of_ble_eq_true rfl) ?_
  repeat' ((conv => whnf); first
    | (refine And.intro rfl ?_)
    | (refine And.intro (by decide +kernel) ?_)
    | (refine And.intro trivial ?_)
    | (refine Exists.intro _ (And.intro rfl (And.intro rfl (And.intro (Nat.le_of_ble_eq_true rfl) ?_))))
    | (refine Exists.intro _ (And.intro rfl (And.intro rfl (And.intro rfl (And.intro (Nat.le_of_ble_eq_true rfl) ?_)))))
    | (refine And.intro (Exists.intro _ (And.intro rfl rfl)) ?_)
    | (exact fun hW => absurd hW (by decide +kernel))
    | (intro hW; (try simp only [Bool.not_true, Bool.not_false, Bool.not_eq_true', Bool.not_eq_false', decide_eq_true_eq, decide_eq_false_iff_not, reduceCtorEq, Bool.true_eq_false, Bool.false_eq_true, mk_size, List.size_toArray, ByteArray.size_append, ByteArray.size_extract, List.length_cons, List.length_nil, ba_get, ba_empty, Int.toNat_natCast] at hW))
    | (refine And.intro (?_ : _ → _) (?_ : _ → _))
    | (refine FinR.drop 0 (Nat.zero_le _) (Closed.zero _) rfl ?_)
    | (refine FinR.keep ?_)
    | (refine And.intro (det3_agg rfl) ?_)
    | (refine fL_mk ?_)
    | (refine And.intro (by (try simp only [mk_size, List.size_toArray, ByteArray.size_append, ByteArray.size_extract, List.length_cons, List.length_nil]); omega) ?_)
    | (refine And.intro (by (try simp only [mk_size, List.size_toArray, ByteArray.size_append, ByteArray.size_extract, List.length_cons, List.length_nil, wrap64_eq]); omega) ?_)
    | fail)
  refine LoopR.live (fun i : Nat => [(0, St s), (5, I s.size), (6, I i)]) (fun _ => []) (fun i => i ≤ s.size ∧ ((tl s).take i).all plc = true) (fun i => s.size - i) 0 ⟨rfl, rfl, rfl, trivial⟩ (.keep rfl) ⟨Nat.zero_le _, rfl⟩ ?_
  rintro i ⟨hi, ha⟩
  have tls := tl_len s
  repeat' ((conv => whnf); first
    | (refine And.intro rfl ?_)
    | (refine And.intro (by decide +kernel) ?_)
    | (refine And.intro trivial ?_)
    | (refine Exists.intro _ (And.intro rfl (And.intro rfl (And.intro (Nat.le_of_ble_eq_true rfl) ?_))))
    | (refine Exists.intro _ (And.intro rfl (And.intro rfl (And.intro rfl (And.intro (Nat.le_of_ble_eq_true rfl) ?_)))))
    | (refine And.intro (Exists.intro _ (And.intro rfl rfl)) ?_)
    | (exact fun hW => absurd hW (by decide +kernel))
    | (intro hW; (try simp only [Bool.not_true, Bool.not_false, Bool.not_eq_true', Bool.not_eq_false', decide_eq_true_eq, decide_eq_false_iff_not, reduceCtorEq, Bool.true_eq_false, Bool.false_eq_true, mk_size, List.size_toArray, ByteArray.size_append, ByteArray.size_extract, List.length_cons, List.length_nil, ba_get, ba_empty, Int.toNat_natCast] at hW))
    | (refine And.intro (?_ : _ → _) (?_ : _ → _))
    | (refine FinR.drop 0 (Nat.zero_le _) (Closed.zero _) rfl ?_)
    | (refine FinR.keep ?_)
    | (refine And.intro (det3_agg rfl) ?_)
    | (refine fL_mk ?_)
    | (refine And.intro (by (try simp only [mk_size, List.size_toArray, ByteArray.size_append, ByteArray.size_extract, List.length_cons, List.length_nil]); omega) ?_)
    | (refine And.intro (by (try simp only [mk_size, List.size_toArray, ByteArray.size_append, ByteArray.size_extract, List.length_cons, List.length_nil, wrap64_eq]); omega) ?_)
    | fail)
  · refine kB h0 ?_; rw [plain, all_false (i := i) (d := 0) (by omega) (plc_f (by omega))]
  · exact Again.go (i + 1) ⟨rfl, rfl, slI (iN _ (by omega)), trivial⟩ (.keep rfl) ⟨by omega, by rw [all_step (d := 0) (by omega), ha, plc_t (by omega) (by omega) (by omega)]; rfl⟩ (by omega)
  · refine kB h0 ?_; rw [plain, all_false (i := i) (d := 0) (by omega) (plc_f (by omega))]
  · refine kB h0 ?_; rw [plain, all_false (i := i) (d := 0) (by omega) (plc_f (by omega))]
  · refine kB h0 ?_; rw [plain, all_take_true (by omega) ha]
theorem d_isPlain (s : ByteArray) (hs : s.size < 4611686018427387904) (K : Cont) (h0 : K (Bo (plain (tl s))) σ) : ACall Tryd.prog W0 46 [St s] σ K :=
  ACall.lift rfl (fun _ => rfl) (fun W1 K _ hK => c_isPlain s hs K hK) h0
end Go.Proofs.YtlmplfgnhibfcaaDoor
