/- Contracts: the laws IsValidLog, SyncLog, AppendRecord. -/
import Derived.Test.YtbdemgepmiomjaaDoorS8
set_option linter.unusedVariables false
set_option linter.unusedSimpArgs false
set_option maxRecDepth 100000
set_option maxHeartbeats 4000000
namespace Go.Proofs.YtbdemgepmiomjaaDoor
open Go Go.RowKit Go.Proofs.YtbdemgepmiomjaaDoor.Abs
variable {W0 : World} {σ : List Blk}
theorem c_toLog (d p : ByteArray) (cnt : Int) (K : Cont) (h0 : K (Lg d p cnt) []) : ACall Tryd.prog W0 22 [Lg d p cnt] [] K := by
  refine by22 (Nat.le_of_ble_eq_true rfl) ?_
  repeat' ((conv => whnf); first
    | (refine And.intro rfl ?_)
    | (refine And.intro (by decide +kernel) ?_)
    | (refine And.intro trivial ?_)
    | (refine Exists.intro _ (And.intro rfl (And.intro rfl (And.intro (Nat.le_of_ble_eq_true rfl) ?_))))
    | (refine Exists.intro _ (And.intro rfl (And.intro rfl (And.intro rfl (And.intro (Nat.le_of_ble_eq_true rfl) ?_)))))
    | (refine And.intro (Exists.intro _ (And.intro rfl rfl)) ?_)
    | (exact fun hW => absurd hW (by decide +kernel))
    | (intro hW; (try simp only [Bool.not_true, Bool.not_false, Bool.not_eq_true', Bool.not_eq_false', decide_eq_true_eq, decide_eq_false_iff_not, reduceCtorEq, Bool.true_eq_false, Bool.false_eq_true, mk_size, List.size_toArray, ByteArray.size_append, ByteArray.size_extract, List.length_cons, List.length_nil, ba_get, ba_empty, Int.toNat_natCast] at hW))
    | (refine And.intro (?_ : _ → _) (?_ : _ → _))
    | (refine FinR.drop 0 (Nat.zero_le _) (Closed.zero _) rfl ?_)
    | (refine FinR.keep ?_)
    | (refine And.intro (det3_agg rfl) ?_)
    | (refine fL_mk ?_)
    | (refine And.intro (by (try simp only [mk_size, List.size_toArray, ByteArray.size_append, ByteArray.size_extract, List.length_cons, List.length_nil]); omega) ?_)
    | (refine And.intro (by (try simp only [mk_size, List.size_toArray, ByteArray.size_append, ByteArray.size_extract, List.length_cons, List.length_nil, wrap64_eq]); omega) ?_)
    | fail)
  all_goals exact h0
theorem d_toLog (d p : ByteArray) (cnt : Int) (K : Cont) (h0 : K (Lg d p cnt) σ) : ACall Tryd.prog W0 22 [Lg d p cnt] σ K :=
  ACall.lift rfl (fun _ => rfl) (fun W1 K _ hK => c_toLog d p cnt K hK) h0
theorem c_szLog (c r : ByteArray) (cnt : Int) (hc : c.size ≤ 9223372036854775807) (hr : r.size ≤ 9223372036854775807) (m : Int) (hm : 0 ≤ m) (hm' : m ≤ 1048576) (K : Cont) (h0 : K (I (szI m [c.size, r.size])) []) : ACall Tryd.prog W0 20 [Lg c r cnt, I m] [] K := by
  refine by20 (Nat.le_of_ble_eq_true rfl) ?_
  have e1 : IntKind.i64.wrap (m - (c.size : Nat)) = m - (c.size : Nat) := wrap_i64 _ (by omega) (by omega)
  have e2 : 0 ≤ m - (c.size : Nat) → IntKind.i64.wrap (m - (c.size : Nat) - (r.size : Nat)) = m - (c.size : Nat) - (r.size : Nat) := fun h => wrap_i64 _ (by omega) (by omega)
  repeat' ((conv => whnf); first
    | (refine And.intro rfl ?_)
    | (refine And.intro (by decide +kernel) ?_)
    | (refine And.intro trivial ?_)
    | (refine Exists.intro _ (And.intro rfl (And.intro rfl (And.intro (Nat.le_of_ble_eq_true rfl) ?_))))
    | (refine Exists.intro _ (And.intro rfl (And.intro rfl (And.intro rfl (And.intro (Nat.le_of_ble_eq_true rfl) ?_)))))
    | (refine And.intro (Exists.intro _ (And.intro rfl rfl)) ?_)
    | (exact fun hW => absurd hW (by decide +kernel))
    | (intro hW; (try simp only [Bool.not_true, Bool.not_false, Bool.not_eq_true', Bool.not_eq_false', decide_eq_true_eq, decide_eq_false_iff_not, reduceCtorEq, Bool.true_eq_false, Bool.false_eq_true, mk_size, List.size_toArray, ByteArray.size_append, ByteArray.size_extract, List.length_cons, List.length_nil, ba_get, ba_empty, Int.toNat_natCast] at hW))
    | (refine And.intro (?_ : _ → _) (?_ : _ → _))
    | (refine FinR.drop 0 (Nat.zero_le _) (Closed.zero _) rfl ?_)
    | (refine FinR.keep ?_)
    | (refine And.intro (det3_agg rfl) ?_)
    | (refine fL_mk ?_)
    | (refine And.intro (by (try simp only [mk_size, List.size_toArray, ByteArray.size_append, ByteArray.size_extract, List.length_cons, List.length_nil]); omega) ?_)
    | (refine And.intro (by (try simp only [mk_size, List.size_toArray, ByteArray.size_append, ByteArray.size_extract, List.length_cons, List.length_nil, wrap64_eq]); omega) ?_)
    | fail)
  all_goals (rw [e1] at *; refine kI h0 ?_; simp only [szI])
  · rw [if_pos (by omega)]
  · rw [e2 (by omega)] at *
    rw [if_neg (by omega), if_pos (by omega)]
  · rw [e2 (by omega)] at *
    rw [if_neg (by omega), if_neg (by omega)]
theorem d_szLog (c r : ByteArray) (cnt : Int) (hc : c.size ≤ 9223372036854775807) (hr : r.size ≤ 9223372036854775807) (m : Int) (hm : 0 ≤ m) (hm' : m ≤ 1048576) (K : Cont) (h0 : K (I (szI m [c.size, r.size])) σ) : ACall Tryd.prog W0 20 [Lg c r cnt, I m] σ K :=
  ACall.lift rfl (fun _ => rfl) (fun W1 K _ hK => c_szLog c r cnt hc hr m hm hm' K hK) h0
theorem szI_le {left : Int} {l : List Nat} (h0 : 0 ≤ szI left l) : szI left l ≤ left := by
  induction l generalizing left with
  | nil => exact Int.le_refl _
  | cons a l ih =>
    simp only [szI] at h0 ⊢
    split at h0
    · omega
    · rename_i h1
      rw [if_neg h1]
      have := ih h0; omega
theorem c_law_IsValidLog (d : ByteArray) (hd : d.size ≤ 9223372036854775807) (p : ByteArray) (hp : p.size ≤ 9223372036854775807) (n : Int) (hn : IntKind.i64.has n) (ht : TabP W0) (K : Cont) (h0 : K (Bo true) []) : ACall Tryd.prog W0 5 [Lg d p n] [] K := by
  refine by5 (Nat.le_of_ble_eq_true rfl) ?_
  by_cases hz : szI 1048576 [d.size, p.size] < 0
  · skip
    repeat' ((conv => whnf); first
      | (refine And.intro rfl ?_)
      | (refine And.intro (by decide +kernel) ?_)
      | (refine And.intro trivial ?_)
      | (refine d_szLog (hc := hd) (hr := hp) (hm := by decide) (hm' := by decide) (h0 := ?_) ..)
      | (refine Exists.intro _ (And.intro rfl (And.intro rfl (And.intro (Nat.le_of_ble_eq_true rfl) ?_))))
      | (refine Exists.intro _ (And.intro rfl (And.intro rfl (And.intro rfl (And.intro (Nat.le_of_ble_eq_true rfl) ?_)))))
      | (refine And.intro (Exists.intro _ (And.intro rfl rfl)) ?_)
      | (exact fun hW => absurd hW (by decide +kernel))
      | (intro hW; (try simp only [Bool.not_true, Bool.not_false, Bool.not_eq_true', Bool.not_eq_false', decide_eq_true_eq, decide_eq_false_iff_not, reduceCtorEq, Bool.true_eq_false, Bool.false_eq_true, mk_size, List.size_toArray, ByteArray.size_append, ByteArray.size_extract, List.length_cons, List.length_nil, ba_get, ba_empty, Int.toNat_natCast] at hW))
      | (refine And.intro (?_ : _ → _) (?_ : _ → _))
      | (refine FinR.drop 0 (Nat.zero_le _) (Closed.zero _) rfl ?_)
      | (refine FinR.keep ?_)
      | (refine And.intro (det3_agg rfl) ?_)
      | (refine fL_mk ?_)
      | (refine And.intro (by (try simp only [mk_size, List.size_toArray, ByteArray.size_append, ByteArray.size_extract, List.length_cons, List.length_nil]); omega) ?_)
      | (refine And.intro (by (try simp only [mk_size, List.size_toArray, ByteArray.size_append, ByteArray.size_extract, List.length_cons, List.length_nil, wrap64_eq]); omega) ?_)
      | fail)
    all_goals first | exact h0 | (exfalso; omega)
  · have hb := szI_neg (by decide) (Int.not_lt.1 hz)
    have hd' : d.size ≤ 1048576 := by have := hb d.size (by simp); omega
    have hp' : p.size ≤ 1048576 := by have := hb p.size (by simp); omega
    repeat' ((conv => whnf); first
      | (refine And.intro rfl ?_)
      | (refine And.intro (by decide +kernel) ?_)
      | (refine And.intro trivial ?_)
      | (refine d_szLog (hc := hd) (hr := hp) (hm := by decide) (hm' := by decide) (h0 := ?_) ..)
      | (refine d_toLog (h0 := ?_) ..)
      | (refine Exists.intro _ (And.intro (fun τ => callW_fn (d_toLog (h0 := And.intro rfl rfl) ..)) ?_))
      | (refine Exists.intro _ (And.intro (callW_fn (d_toLog (h0 := And.intro rfl rfl) ..)) (And.intro trivial ?_)))
      | (refine Exists.intro _ (And.intro (callW_fn (d_toLog (h0 := And.intro rfl rfl) ..)) ?_))
      | (refine Exists.intro _ (And.intro (fun τ _ => callW_fn (d_toLog (h0 := And.intro rfl rfl) ..)) ?_))
      | (refine d_sIsValidLog (hd := hd') (hp := hp') (h0 := ?_) ..)
      | (refine d_IsValidLog (hd := hd') (hp := hp') (ht := ht) (h0 := ?_) ..)
      | (refine Exists.intro _ (And.intro rfl (And.intro rfl (And.intro (Nat.le_of_ble_eq_true rfl) ?_))))
      | (refine Exists.intro _ (And.intro rfl (And.intro rfl (And.intro rfl (And.intro (Nat.le_of_ble_eq_true rfl) ?_)))))
      | (refine And.intro (Exists.intro _ (And.intro rfl rfl)) ?_)
      | (exact fun hW => absurd hW (by decide +kernel))
      | (intro hW; (try simp only [Bool.not_true, Bool.not_false, Bool.not_eq_true', Bool.not_eq_false', decide_eq_true_eq, decide_eq_false_iff_not, reduceCtorEq, Bool.true_eq_false, Bool.false_eq_true, mk_size, List.size_toArray, ByteArray.size_append, ByteArray.size_extract, List.length_cons, List.length_nil, ba_get, ba_empty, Int.toNat_natCast] at hW))
      | (refine And.intro (?_ : _ → _) (?_ : _ → _))
      | (refine FinR.drop 0 (Nat.zero_le _) (Closed.zero _) rfl ?_)
      | (refine FinR.keep ?_)
      | (refine And.intro (det3_agg rfl) ?_)
      | (refine fL_mk ?_)
      | (refine And.intro (by (try simp only [mk_size, List.size_toArray, ByteArray.size_append, ByteArray.size_extract, List.length_cons, List.length_nil]); omega) ?_)
      | (refine And.intro (by (try simp only [mk_size, List.size_toArray, ByteArray.size_append, ByteArray.size_extract, List.length_cons, List.length_nil, wrap64_eq]); omega) ?_)
      | fail)
    all_goals first | exact h0 | (exfalso; simp_all; done)
/-! ### sync -/
abbrev SyT (d p : ByteArray) (cnt : Int) : AV := .tup [Lg (d ++ p) ⟨#[]⟩ cnt, Bo true]
abbrev SyF : AV := .tup [Lg ⟨#[]⟩ ⟨#[]⟩ 0, Bo false]
theorem c_sSyncLog (d p : ByteArray) (cnt : Int) (hd : d.size ≤ 1048576) (hp : p.size ≤ 1048576) (K : Cont) (h1 : vB d p cnt = true → K (SyT d p cnt) []) (h2 : vB d p cnt = false → K SyF []) : ACall Tryd.prog W0 26 [Lg d p cnt] [] K := by
  refine by26 (Nat.le_of_ble_eq_true rfl) ?_
  repeat' ((conv => whnf); first
    | (refine And.intro rfl ?_)
    | (refine And.intro (by decide +kernel) ?_)
    | (refine And.intro trivial ?_)
    | (refine d_l12Valid (hd := hd) (hp := hp) (h0 := ?_) ..)
    | (refine Exists.intro _ (And.intro rfl (And.intro rfl (And.intro (Nat.le_of_ble_eq_true rfl) ?_))))
    | (refine Exists.intro _ (And.intro rfl (And.intro rfl (And.intro rfl (And.intro (Nat.le_of_ble_eq_true rfl) ?_)))))
    | (refine And.intro (Exists.intro _ (And.intro rfl rfl)) ?_)
    | (exact fun hW => absurd hW (by decide +kernel))
    | (intro hW; (try simp only [Bool.not_true, Bool.not_false, Bool.not_eq_true', Bool.not_eq_false', decide_eq_true_eq, decide_eq_false_iff_not, reduceCtorEq, Bool.true_eq_false, Bool.false_eq_true, mk_size, List.size_toArray, ByteArray.size_append, ByteArray.size_extract, List.length_cons, List.length_nil, ba_get, ba_empty, Int.toNat_natCast] at hW))
    | (refine And.intro (?_ : _ → _) (?_ : _ → _))
    | (refine FinR.drop 0 (Nat.zero_le _) (Closed.zero _) rfl ?_)
    | (refine FinR.keep ?_)
    | (refine And.intro (det3_agg rfl) ?_)
    | (refine fL_mk ?_)
    | (refine And.intro (by (try simp only [mk_size, List.size_toArray, ByteArray.size_append, ByteArray.size_extract, List.length_cons, List.length_nil]); omega) ?_)
    | (refine And.intro (by (try simp only [mk_size, List.size_toArray, ByteArray.size_append, ByteArray.size_extract, List.length_cons, List.length_nil, wrap64_eq]); omega) ?_)
    | fail)
  all_goals first | exact h1 (by assumption) | exact h2 (by assumption)
theorem d_sSyncLog (d p : ByteArray) (cnt : Int) (hd : d.size ≤ 1048576) (hp : p.size ≤ 1048576) (K : Cont) (h1 : vB d p cnt = true → K (SyT d p cnt) σ) (h2 : vB d p cnt = false → K SyF σ) : ACall Tryd.prog W0 26 [Lg d p cnt] σ K := by
  refine ACall.frame (K0 := fun v σ' => σ' = [] ∧ (vB d p cnt = true ∧ v = SyT d p cnt ∨ vB d p cnt = false ∧ v = SyF)) rfl (fun W1 hb => c_sSyncLog d p cnt hd hp _ (fun h => ⟨rfl, .inl ⟨h, rfl⟩⟩) (fun h => ⟨rfl, .inr ⟨h, rfl⟩⟩)) ?_
  have e : σ ++ shB σ.length [] = σ := by simp [shB]
  rintro v σ' ⟨rfl, ⟨h, rfl⟩ | ⟨h, rfl⟩⟩
  · rw [e]; exact h1 h
  · rw [e]; exact h2 h
theorem c_SyncLog (d p : ByteArray) (cnt : Int) (hd : d.size ≤ 1048576) (hp : p.size ≤ 1048576) (ht : TabP W0) (K : Cont) (h1 : vB d p cnt = true → K (SyT d p cnt) []) (h2 : vB d p cnt = false → K SyF []) : ACall Tryd.prog W0 27 [Lg d p cnt] [] K := by
  refine by27 (Nat.le_of_ble_eq_true rfl) ?_
  repeat' ((conv => whnf); first
    | (refine And.intro rfl ?_)
    | (refine And.intro (by decide +kernel) ?_)
    | (refine And.intro trivial ?_)
    | (refine d_IsValidLog (hd := hd) (hp := hp) (ht := ht) (h0 := ?_) ..)
    | (refine Exists.intro _ (And.intro rfl (And.intro rfl (And.intro (Nat.le_of_ble_eq_true rfl) ?_))))
    | (refine Exists.intro _ (And.intro rfl (And.intro rfl (And.intro rfl (And.intro (Nat.le_of_ble_eq_true rfl) ?_)))))
    | (refine And.intro (Exists.intro _ (And.intro rfl rfl)) ?_)
    | (exact fun hW => absurd hW (by decide +kernel))
    | (intro hW; (try simp only [Bool.not_true, Bool.not_false, Bool.not_eq_true', Bool.not_eq_false', decide_eq_true_eq, decide_eq_false_iff_not, reduceCtorEq, Bool.true_eq_false, Bool.false_eq_true, mk_size, List.size_toArray, ByteArray.size_append, ByteArray.size_extract, List.length_cons, List.length_nil, ba_get, ba_empty, Int.toNat_natCast] at hW))
    | (refine And.intro (?_ : _ → _) (?_ : _ → _))
    | (refine FinR.drop 0 (Nat.zero_le _) (Closed.zero _) rfl ?_)
    | (refine FinR.keep ?_)
    | (refine And.intro (det3_agg rfl) ?_)
    | (refine fL_mk ?_)
    | (refine And.intro (by (try simp only [mk_size, List.size_toArray, ByteArray.size_append, ByteArray.size_extract, List.length_cons, List.length_nil]); omega) ?_)
    | (refine And.intro (by (try simp only [mk_size, List.size_toArray, ByteArray.size_append, ByteArray.size_extract, List.length_cons, List.length_nil, wrap64_eq]); omega) ?_)
    | fail)
  all_goals first | exact h1 (by assumption) | exact h2 (by assumption)
theorem d_SyncLog (d p : ByteArray) (cnt : Int) (hd : d.size ≤ 1048576) (hp : p.size ≤ 1048576) (ht : TabP W0) (K : Cont) (h1 : vB d p cnt = true → K (SyT d p cnt) σ) (h2 : vB d p cnt = false → K SyF σ) : ACall Tryd.prog W0 27 [Lg d p cnt] σ K := by
  refine ACall.frame (K0 := fun v σ' => σ' = [] ∧ (vB d p cnt = true ∧ v = SyT d p cnt ∨ vB d p cnt = false ∧ v = SyF)) rfl (fun W1 hb => c_SyncLog d p cnt hd hp (ht.mono hb) _ (fun h => ⟨rfl, .inl ⟨h, rfl⟩⟩) (fun h => ⟨rfl, .inr ⟨h, rfl⟩⟩)) ?_
  have e : σ ++ shB σ.length [] = σ := by simp [shB]
  rintro v σ' ⟨rfl, ⟨h, rfl⟩ | ⟨h, rfl⟩⟩
  · rw [e]; exact h1 h
  · rw [e]; exact h2 h
theorem c_law_SyncLog (d : ByteArray) (hd : d.size ≤ 9223372036854775807) (p : ByteArray) (hp : p.size ≤ 9223372036854775807) (n : Int) (hn : IntKind.i64.has n) (ht : TabP W0) (K : Cont) (h0 : K (Bo true) []) : ACall Tryd.prog W0 7 [Lg d p n] [] K := by
  refine by7 (Nat.le_of_ble_eq_true rfl) ?_
  by_cases hz : szI 1048576 [d.size, p.size] < 0
  · skip
    repeat' ((conv => whnf); first
      | (refine And.intro rfl ?_)
      | (refine And.intro (by decide +kernel) ?_)
      | (refine And.intro trivial ?_)
      | (refine d_szLog (hc := hd) (hr := hp) (hm := by decide) (hm' := by decide) (h0 := ?_) ..)
      | (refine Exists.intro _ (And.intro rfl (And.intro rfl (And.intro (Nat.le_of_ble_eq_true rfl) ?_))))
      | (refine Exists.intro _ (And.intro rfl (And.intro rfl (And.intro rfl (And.intro (Nat.le_of_ble_eq_true rfl) ?_)))))
      | (refine And.intro (Exists.intro _ (And.intro rfl rfl)) ?_)
      | (exact fun hW => absurd hW (by decide +kernel))
      | (intro hW; (try simp only [Bool.not_true, Bool.not_false, Bool.not_eq_true', Bool.not_eq_false', decide_eq_true_eq, decide_eq_false_iff_not, reduceCtorEq, Bool.true_eq_false, Bool.false_eq_true, mk_size, List.size_toArray, ByteArray.size_append, ByteArray.size_extract, List.length_cons, List.length_nil, ba_get, ba_empty, Int.toNat_natCast] at hW))
      | (refine And.intro (?_ : _ → _) (?_ : _ → _))
      | (refine FinR.drop 0 (Nat.zero_le _) (Closed.zero _) rfl ?_)
      | (refine FinR.keep ?_)
      | (refine And.intro (det3_agg rfl) ?_)
      | (refine fL_mk ?_)
      | (refine And.intro (by (try simp only [mk_size, List.size_toArray, ByteArray.size_append, ByteArray.size_extract, List.length_cons, List.length_nil]); omega) ?_)
      | (refine And.intro (by (try simp only [mk_size, List.size_toArray, ByteArray.size_append, ByteArray.size_extract, List.length_cons, List.length_nil, wrap64_eq]); omega) ?_)
      | fail)
    all_goals first | exact h0 | (exfalso; omega)
  · have hb := szI_neg (by decide) (Int.not_lt.1 hz)
    have hd' : d.size ≤ 1048576 := by have := hb d.size (by simp); omega
    have hp' : p.size ≤ 1048576 := by have := hb p.size (by simp); omega
    repeat' ((conv => whnf); first
      | (refine And.intro rfl ?_)
      | (refine And.intro (by decide +kernel) ?_)
      | (refine And.intro trivial ?_)
      | (refine d_szLog (hc := hd) (hr := hp) (hm := by decide) (hm' := by decide) (h0 := ?_) ..)
      | (refine d_toLog (h0 := ?_) ..)
      | (refine Exists.intro _ (And.intro (fun τ => callW_fn (d_toLog (h0 := And.intro rfl rfl) ..)) ?_))
      | (refine Exists.intro _ (And.intro (callW_fn (d_toLog (h0 := And.intro rfl rfl) ..)) (And.intro trivial ?_)))
      | (refine Exists.intro _ (And.intro (callW_fn (d_toLog (h0 := And.intro rfl rfl) ..)) ?_))
      | (refine Exists.intro _ (And.intro (fun τ _ => callW_fn (d_toLog (h0 := And.intro rfl rfl) ..)) ?_))
      | (refine d_sSyncLog (hd := hd') (hp := hp') (h1 := fun hv => ?_) (h2 := fun hv => ?_) ..)
      | (refine d_SyncLog (hd := hd') (hp := hp') (ht := ht) (h1 := fun hv2 => ?_) (h2 := fun hv2 => ?_) .. <;> try (exfalso; simp_all; done))
      | (refine d_eqLog (h0 := ?_) ..)
      | (refine Exists.intro _ (And.intro (fun τ => callW_fn (d_eqLog (h0 := And.intro rfl rfl) ..)) ?_))
      | (refine Exists.intro _ (And.intro (callW_fn (d_eqLog (h0 := And.intro rfl rfl) ..)) (And.intro trivial ?_)))
      | (refine Exists.intro _ (And.intro (callW_fn (d_eqLog (h0 := And.intro rfl rfl) ..)) ?_))
      | (refine Exists.intro _ (And.intro (fun τ _ => callW_fn (d_eqLog (h0 := And.intro rfl rfl) ..)) ?_))
      | (refine Exists.intro _ (And.intro rfl (And.intro rfl (And.intro (Nat.le_of_ble_eq_true rfl) ?_))))
      | (refine Exists.intro _ (And.intro rfl (And.intro rfl (And.intro rfl (And.intro (Nat.le_of_ble_eq_true rfl) ?_)))))
      | (refine And.intro (Exists.intro _ (And.intro rfl rfl)) ?_)
      | (exact fun hW => absurd hW (by decide +kernel))
      | (intro hW; (try simp only [Bool.not_true, Bool.not_false, Bool.not_eq_true', Bool.not_eq_false', decide_eq_true_eq, decide_eq_false_iff_not, reduceCtorEq, Bool.true_eq_false, Bool.false_eq_true, mk_size, List.size_toArray, ByteArray.size_append, ByteArray.size_extract, List.length_cons, List.length_nil, ba_get, ba_empty, Int.toNat_natCast] at hW))
      | (refine And.intro (?_ : _ → _) (?_ : _ → _))
      | (refine FinR.drop 0 (Nat.zero_le _) (Closed.zero _) rfl ?_)
      | (refine FinR.keep ?_)
      | (refine And.intro (det3_agg rfl) ?_)
      | (refine fL_mk ?_)
      | (refine And.intro (by (try simp only [mk_size, List.size_toArray, ByteArray.size_append, ByteArray.size_extract, List.length_cons, List.length_nil]); omega) ?_)
      | (refine And.intro (by (try simp only [mk_size, List.size_toArray, ByteArray.size_append, ByteArray.size_extract, List.length_cons, List.length_nil, wrap64_eq]); omega) ?_)
      | fail)
    all_goals first | exact h0 | (exfalso; simp_all; done)
/-! ### append -/
theorem vB_cnt {d p : ByteArray} {cnt : Int} (h : vB d p cnt = true) : ∃ k : Nat, cnt = k ∧ k ≤ 60 ∧ d.size + p.size ≤ 30000 := by
  obtain ⟨h1, es, h2, h3, _⟩ := vB_iff.1 h
  exact ⟨es.length, h3, h2.max, h1⟩
theorem c_sAppT (d p c r : ByteArray) (k : Nat) (hd : d.size ≤ 1048576) (hp : p.size ≤ 1048576) (hc : c.size ≤ 1048576) (hr : r.size ≤ 1048576) (hv : vB d p k = true) (hk : k < 60) (he : recB c r = true) (K : Cont) (h0 : K (.tup [Lg d (p ++ lineB k c r) ((k : Int) + 1), I 0]) []) : ACall Tryd.prog W0 28 [Lg d p k, Rc c r] [] K := by
  refine by28 (Nat.le_of_ble_eq_true rfl) ?_
  have ew : IntKind.i64.wrap ((k : Int) + 1) = (k : Int) + 1 := wrap_i64 _ (by omega) (by omega)
  have h6 : (lineB k c r).size ≤ 10000 := by
    obtain ⟨_, _, h3, _, _, h4⟩ := recB_parts he
    have h6 := bodyB_size k (by omega) c r
    have h7 := sealB_size (bodyB k c r)
    have : (lineB k c r).size = (sealB (bodyB k c r)).size + 1 := by simp [lineB, ByteArray.size_append]; rfl
    omega
  obtain ⟨_, _, _, h7⟩ := vB_cnt hv
  repeat' ((conv => whnf); first
    | (refine And.intro rfl ?_)
    | (refine And.intro (by decide +kernel) ?_)
    | (refine And.intro trivial ?_)
    | (refine d_l12Valid (hd := hd) (hp := hp) (h0 := ?_) ..)
    | (refine d_l12Record (hc := by omega) (hr := by omega) (h0 := ?_) ..)
    | (refine d_l12Line (hk := by omega) (hc := by omega) (hr := by omega) (h0 := ?_) ..)
    | (refine Exists.intro _ (And.intro (fun τ => callW_fn (d_l12Line (hk := by omega) (hc := by omega) (hr := by omega) (h0 := And.intro rfl rfl) ..)) ?_))
    | (refine Exists.intro _ (And.intro (callW_fn (d_l12Line (hk := by omega) (hc := by omega) (hr := by omega) (h0 := And.intro rfl rfl) ..)) (And.intro trivial ?_)))
    | (refine Exists.intro _ (And.intro (callW_fn (d_l12Line (hk := by omega) (hc := by omega) (hr := by omega) (h0 := And.intro rfl rfl) ..)) ?_))
    | (refine Exists.intro _ (And.intro (fun τ _ => callW_fn (d_l12Line (hk := by omega) (hc := by omega) (hr := by omega) (h0 := And.intro rfl rfl) ..)) ?_))
    | (refine Exists.intro _ (And.intro rfl (And.intro rfl (And.intro (Nat.le_of_ble_eq_true rfl) ?_))))
    | (refine Exists.intro _ (And.intro rfl (And.intro rfl (And.intro rfl (And.intro (Nat.le_of_ble_eq_true rfl) ?_)))))
    | (refine And.intro (Exists.intro _ (And.intro rfl rfl)) ?_)
    | (exact fun hW => absurd hW (by decide +kernel))
    | (intro hW; (try simp only [Bool.not_true, Bool.not_false, Bool.not_eq_true', Bool.not_eq_false', decide_eq_true_eq, decide_eq_false_iff_not, reduceCtorEq, Bool.true_eq_false, Bool.false_eq_true, mk_size, List.size_toArray, ByteArray.size_append, ByteArray.size_extract, List.length_cons, List.length_nil, ba_get, ba_empty, Int.toNat_natCast] at hW))
    | (refine And.intro (?_ : _ → _) (?_ : _ → _))
    | (refine FinR.drop 0 (Nat.zero_le _) (Closed.zero _) rfl ?_)
    | (refine FinR.keep ?_)
    | (refine And.intro (det3_agg rfl) ?_)
    | (refine fL_mk ?_)
    | (refine And.intro (by (try simp only [mk_size, List.size_toArray, ByteArray.size_append, ByteArray.size_extract, List.length_cons, List.length_nil]); omega) ?_)
    | (refine And.intro (by (try simp only [mk_size, List.size_toArray, ByteArray.size_append, ByteArray.size_extract, List.length_cons, List.length_nil, wrap64_eq]); omega) ?_)
    | fail)
  all_goals first | (exfalso; omega) | (exfalso; simp_all; done) | (rw [ew]; exact h0)
theorem d_sAppT (d p c r : ByteArray) (k : Nat) (hd : d.size ≤ 1048576) (hp : p.size ≤ 1048576) (hc : c.size ≤ 1048576) (hr : r.size ≤ 1048576) (hv : vB d p k = true) (hk : k < 60) (he : recB c r = true) (K : Cont) (h0 : K (.tup [Lg d (p ++ lineB k c r) ((k : Int) + 1), I 0]) σ) : ACall Tryd.prog W0 28 [Lg d p k, Rc c r] σ K :=
  ACall.lift rfl (fun _ => rfl) (fun W1 K _ hK => c_sAppT d p c r k hd hp hc hr hv hk he K hK) h0
theorem c_sAppF (d p c r : ByteArray) (cnt : Int) (hd : d.size ≤ 1048576) (hp : p.size ≤ 1048576) (hc : c.size ≤ 1048576) (hr : r.size ≤ 1048576) (hv : ¬ (vB d p cnt = true ∧ recB c r = true)) (K : Cont) (h0 : K (.tup [Lg d p cnt, I 1]) []) : ACall Tryd.prog W0 28 [Lg d p cnt, Rc c r] [] K := by
  refine by28 (Nat.le_of_ble_eq_true rfl) ?_
  repeat' ((conv => whnf); first
    | (refine And.intro rfl ?_)
    | (refine And.intro (by decide +kernel) ?_)
    | (refine And.intro trivial ?_)
    | (refine d_l12Valid (hd := hd) (hp := hp) (h0 := ?_) ..)
    | (refine d_l12Record (hc := by omega) (hr := by omega) (h0 := ?_) ..)
    | (exfalso; exact hv ⟨by assumption, by assumption⟩)
    | (refine Exists.intro _ (And.intro rfl (And.intro rfl (And.intro (Nat.le_of_ble_eq_true rfl) ?_))))
    | (refine Exists.intro _ (And.intro rfl (And.intro rfl (And.intro rfl (And.intro (Nat.le_of_ble_eq_true rfl) ?_)))))
    | (refine And.intro (Exists.intro _ (And.intro rfl rfl)) ?_)
    | (exact fun hW => absurd hW (by decide +kernel))
    | (intro hW; (try simp only [Bool.not_true, Bool.not_false, Bool.not_eq_true', Bool.not_eq_false', decide_eq_true_eq, decide_eq_false_iff_not, reduceCtorEq, Bool.true_eq_false, Bool.false_eq_true, mk_size, List.size_toArray, ByteArray.size_append, ByteArray.size_extract, List.length_cons, List.length_nil, ba_get, ba_empty, Int.toNat_natCast] at hW))
    | (refine And.intro (?_ : _ → _) (?_ : _ → _))
    | (refine FinR.drop 0 (Nat.zero_le _) (Closed.zero _) rfl ?_)
    | (refine FinR.keep ?_)
    | (refine And.intro (det3_agg rfl) ?_)
    | (refine fL_mk ?_)
    | (refine And.intro (by (try simp only [mk_size, List.size_toArray, ByteArray.size_append, ByteArray.size_extract, List.length_cons, List.length_nil]); omega) ?_)
    | (refine And.intro (by (try simp only [mk_size, List.size_toArray, ByteArray.size_append, ByteArray.size_extract, List.length_cons, List.length_nil, wrap64_eq]); omega) ?_)
    | fail)
  all_goals first | exact h0
theorem d_sAppF (d p c r : ByteArray) (cnt : Int) (hd : d.size ≤ 1048576) (hp : p.size ≤ 1048576) (hc : c.size ≤ 1048576) (hr : r.size ≤ 1048576) (hv : ¬ (vB d p cnt = true ∧ recB c r = true)) (K : Cont) (h0 : K (.tup [Lg d p cnt, I 1]) σ) : ACall Tryd.prog W0 28 [Lg d p cnt, Rc c r] σ K :=
  ACall.lift rfl (fun _ => rfl) (fun W1 K _ hK => c_sAppF d p c r cnt hd hp hc hr hv K hK) h0
theorem c_sAppX (d p c r : ByteArray) (hd : d.size ≤ 1048576) (hp : p.size ≤ 1048576) (hc : c.size ≤ 1048576) (hr : r.size ≤ 1048576) (hv : vB d p 60 = true) (he : recB c r = true) (K : Cont) (h0 : K (.tup [Lg d p 60, I 2]) []) : ACall Tryd.prog W0 28 [Lg d p 60, Rc c r] [] K := by
  refine by28 (Nat.le_of_ble_eq_true rfl) ?_
  repeat' ((conv => whnf); first
    | (refine And.intro rfl ?_)
    | (refine And.intro (by decide +kernel) ?_)
    | (refine And.intro trivial ?_)
    | (refine d_l12Valid (hd := hd) (hp := hp) (h0 := ?_) ..)
    | (refine d_l12Record (hc := by omega) (hr := by omega) (h0 := ?_) ..)
    | (refine Exists.intro _ (And.intro rfl (And.intro rfl (And.intro (Nat.le_of_ble_eq_true rfl) ?_))))
    | (refine Exists.intro _ (And.intro rfl (And.intro rfl (And.intro rfl (And.intro (Nat.le_of_ble_eq_true rfl) ?_)))))
    | (refine And.intro (Exists.intro _ (And.intro rfl rfl)) ?_)
    | (exact fun hW => absurd hW (by decide +kernel))
    | (intro hW; (try simp only [Bool.not_true, Bool.not_false, Bool.not_eq_true', Bool.not_eq_false', decide_eq_true_eq, decide_eq_false_iff_not, reduceCtorEq, Bool.true_eq_false, Bool.false_eq_true, mk_size, List.size_toArray, ByteArray.size_append, ByteArray.size_extract, List.length_cons, List.length_nil, ba_get, ba_empty, Int.toNat_natCast] at hW))
    | (refine And.intro (?_ : _ → _) (?_ : _ → _))
    | (refine FinR.drop 0 (Nat.zero_le _) (Closed.zero _) rfl ?_)
    | (refine FinR.keep ?_)
    | (refine And.intro (det3_agg rfl) ?_)
    | (refine fL_mk ?_)
    | (refine And.intro (by (try simp only [mk_size, List.size_toArray, ByteArray.size_append, ByteArray.size_extract, List.length_cons, List.length_nil]); omega) ?_)
    | (refine And.intro (by (try simp only [mk_size, List.size_toArray, ByteArray.size_append, ByteArray.size_extract, List.length_cons, List.length_nil, wrap64_eq]); omega) ?_)
    | fail)
  all_goals first | exact h0 | (exfalso; simp_all; done)
theorem d_sAppX (d p c r : ByteArray) (hd : d.size ≤ 1048576) (hp : p.size ≤ 1048576) (hc : c.size ≤ 1048576) (hr : r.size ≤ 1048576) (hv : vB d p 60 = true) (he : recB c r = true) (K : Cont) (h0 : K (.tup [Lg d p 60, I 2]) σ) : ACall Tryd.prog W0 28 [Lg d p 60, Rc c r] σ K :=
  ACall.lift rfl (fun _ => rfl) (fun W1 K _ hK => c_sAppX d p c r hd hp hc hr hv he K hK) h0
theorem c_AppT (d p c r : ByteArray) (k : Nat) (hd : d.size ≤ 1048576) (hp : p.size ≤ 1048576) (hc : c.size ≤ 1048576) (hr : r.size ≤ 1048576) (hv : vB d p k = true) (hk : k < 60) (he : recB c r = true) (ht : TabP W0) (K : Cont) (h0 : K (.tup [Lg d (p ++ lineB k c r) ((k : Int) + 1), I 0]) []) : ACall Tryd.prog W0 29 [Lg d p k, Rc c r] [] K := by
  refine by29 (Nat.le_of_ble_eq_true rfl) ?_
  have ew : IntKind.i64.wrap ((k : Int) + 1) = (k : Int) + 1 := wrap_i64 _ (by omega) (by omega)
  have h6 : (lineB k c r).size ≤ 10000 := by
    obtain ⟨_, _, h3, _, _, h4⟩ := recB_parts he
    have h6 := bodyB_size k (by omega) c r
    have h7 := sealB_size (bodyB k c r)
    have : (lineB k c r).size = (sealB (bodyB k c r)).size + 1 := by simp [lineB, ByteArray.size_append]; rfl
    omega
  obtain ⟨_, _, _, h7⟩ := vB_cnt hv
  repeat' ((conv => whnf); first
    | (refine And.intro rfl ?_)
    | (refine And.intro (by decide +kernel) ?_)
    | (refine And.intro trivial ?_)
    | (refine d_IsValidLog (hd := hd) (hp := hp) (ht := ht) (h0 := ?_) ..)
    | (refine d_IsValidRecord (hc := by omega) (hr := by omega) (h0 := ?_) ..)
    | (refine d_EncodeT (hk := by omega) (hv := he) (ht := ht) (h0 := ?_) ..)
    | (refine Exists.intro _ (And.intro rfl (And.intro rfl (And.intro (Nat.le_of_ble_eq_true rfl) ?_))))
    | (refine Exists.intro _ (And.intro rfl (And.intro rfl (And.intro rfl (And.intro (Nat.le_of_ble_eq_true rfl) ?_)))))
    | (refine And.intro (Exists.intro _ (And.intro rfl rfl)) ?_)
    | (exact fun hW => absurd hW (by decide +kernel))
    | (intro hW; (try simp only [Bool.not_true, Bool.not_false, Bool.not_eq_true', Bool.not_eq_false', decide_eq_true_eq, decide_eq_false_iff_not, reduceCtorEq, Bool.true_eq_false, Bool.false_eq_true, mk_size, List.size_toArray, ByteArray.size_append, ByteArray.size_extract, List.length_cons, List.length_nil, ba_get, ba_empty, Int.toNat_natCast] at hW))
    | (refine And.intro (?_ : _ → _) (?_ : _ → _))
    | (refine FinR.drop 0 (Nat.zero_le _) (Closed.zero _) rfl ?_)
    | (refine FinR.keep ?_)
    | (refine And.intro (det3_agg rfl) ?_)
    | (refine fL_mk ?_)
    | (refine And.intro (by (try simp only [mk_size, List.size_toArray, ByteArray.size_append, ByteArray.size_extract, List.length_cons, List.length_nil]); omega) ?_)
    | (refine And.intro (by (try simp only [mk_size, List.size_toArray, ByteArray.size_append, ByteArray.size_extract, List.length_cons, List.length_nil, wrap64_eq]); omega) ?_)
    | fail)
  all_goals first | (exfalso; omega) | (exfalso; simp_all; done) | (rw [ew]; exact h0)
theorem d_AppT (d p c r : ByteArray) (k : Nat) (hd : d.size ≤ 1048576) (hp : p.size ≤ 1048576) (hc : c.size ≤ 1048576) (hr : r.size ≤ 1048576) (hv : vB d p k = true) (hk : k < 60) (he : recB c r = true) (ht : TabP W0) (K : Cont) (h0 : K (.tup [Lg d (p ++ lineB k c r) ((k : Int) + 1), I 0]) σ) : ACall Tryd.prog W0 29 [Lg d p k, Rc c r] σ K :=
  ACall.lift rfl (fun _ => rfl) (fun W1 K hb hK => c_AppT d p c r k hd hp hc hr hv hk he (ht.mono hb) K hK) h0
theorem c_AppF (d p c r : ByteArray) (cnt : Int) (hd : d.size ≤ 1048576) (hp : p.size ≤ 1048576) (hc : c.size ≤ 1048576) (hr : r.size ≤ 1048576) (hv : ¬ (vB d p cnt = true ∧ recB c r = true)) (ht : TabP W0) (K : Cont) (h0 : K (.tup [Lg d p cnt, I 1]) []) : ACall Tryd.prog W0 29 [Lg d p cnt, Rc c r] [] K := by
  refine by29 (Nat.le_of_ble_eq_true rfl) ?_
  repeat' ((conv => whnf); first
    | (refine And.intro rfl ?_)
    | (refine And.intro (by decide +kernel) ?_)
    | (refine And.intro trivial ?_)
    | (refine d_IsValidLog (hd := hd) (hp := hp) (ht := ht) (h0 := ?_) ..)
    | (refine d_IsValidRecord (hc := by omega) (hr := by omega) (h0 := ?_) ..)
    | (exfalso; exact hv ⟨by assumption, by assumption⟩)
    | (refine Exists.intro _ (And.intro rfl (And.intro rfl (And.intro (Nat.le_of_ble_eq_true rfl) ?_))))
    | (refine Exists.intro _ (And.intro rfl (And.intro rfl (And.intro rfl (And.intro (Nat.le_of_ble_eq_true rfl) ?_)))))
    | (refine And.intro (Exists.intro _ (And.intro rfl rfl)) ?_)
    | (exact fun hW => absurd hW (by decide +kernel))
    | (intro hW; (try simp only [Bool.not_true, Bool.not_false, Bool.not_eq_true', Bool.not_eq_false', decide_eq_true_eq, decide_eq_false_iff_not, reduceCtorEq, Bool.true_eq_false, Bool.false_eq_true, mk_size, List.size_toArray, ByteArray.size_append, ByteArray.size_extract, List.length_cons, List.length_nil, ba_get, ba_empty, Int.toNat_natCast] at hW))
    | (refine And.intro (?_ : _ → _) (?_ : _ → _))
    | (refine FinR.drop 0 (Nat.zero_le _) (Closed.zero _) rfl ?_)
    | (refine FinR.keep ?_)
    | (refine And.intro (det3_agg rfl) ?_)
    | (refine fL_mk ?_)
    | (refine And.intro (by (try simp only [mk_size, List.size_toArray, ByteArray.size_append, ByteArray.size_extract, List.length_cons, List.length_nil]); omega) ?_)
    | (refine And.intro (by (try simp only [mk_size, List.size_toArray, ByteArray.size_append, ByteArray.size_extract, List.length_cons, List.length_nil, wrap64_eq]); omega) ?_)
    | fail)
  all_goals first | exact h0
theorem d_AppF (d p c r : ByteArray) (cnt : Int) (hd : d.size ≤ 1048576) (hp : p.size ≤ 1048576) (hc : c.size ≤ 1048576) (hr : r.size ≤ 1048576) (hv : ¬ (vB d p cnt = true ∧ recB c r = true)) (ht : TabP W0) (K : Cont) (h0 : K (.tup [Lg d p cnt, I 1]) σ) : ACall Tryd.prog W0 29 [Lg d p cnt, Rc c r] σ K :=
  ACall.lift rfl (fun _ => rfl) (fun W1 K hb hK => c_AppF d p c r cnt hd hp hc hr hv (ht.mono hb) K hK) h0
theorem c_AppX (d p c r : ByteArray) (hd : d.size ≤ 1048576) (hp : p.size ≤ 1048576) (hc : c.size ≤ 1048576) (hr : r.size ≤ 1048576) (hv : vB d p 60 = true) (he : recB c r = true) (ht : TabP W0) (K : Cont) (h0 : K (.tup [Lg d p 60, I 2]) []) : ACall Tryd.prog W0 29 [Lg d p 60, Rc c r] [] K := by
  refine by29 (Nat.le_of_ble_eq_true rfl) ?_
  repeat' ((conv => whnf); first
    | (refine And.intro rfl ?_)
    | (refine And.intro (by decide +kernel) ?_)
    | (refine And.intro trivial ?_)
    | (refine d_IsValidLog (hd := hd) (hp := hp) (ht := ht) (h0 := ?_) ..)
    | (refine d_IsValidRecord (hc := by omega) (hr := by omega) (h0 := ?_) ..)
    | (refine Exists.intro _ (And.intro rfl (And.intro rfl (And.intro (Nat.le_of_ble_eq_true rfl) ?_))))
    | (refine Exists.intro _ (And.intro rfl (And.intro rfl (And.intro rfl (And.intro (Nat.le_of_ble_eq_true rfl) ?_)))))
    | (refine And.intro (Exists.intro _ (And.intro rfl rfl)) ?_)
    | (exact fun hW => absurd hW (by decide +kernel))
    | (intro hW; (try simp only [Bool.not_true, Bool.not_false, Bool.not_eq_true', Bool.not_eq_false', decide_eq_true_eq, decide_eq_false_iff_not, reduceCtorEq, Bool.true_eq_false, Bool.false_eq_true, mk_size, List.size_toArray, ByteArray.size_append, ByteArray.size_extract, List.length_cons, List.length_nil, ba_get, ba_empty, Int.toNat_natCast] at hW))
    | (refine And.intro (?_ : _ → _) (?_ : _ → _))
    | (refine FinR.drop 0 (Nat.zero_le _) (Closed.zero _) rfl ?_)
    | (refine FinR.keep ?_)
    | (refine And.intro (det3_agg rfl) ?_)
    | (refine fL_mk ?_)
    | (refine And.intro (by (try simp only [mk_size, List.size_toArray, ByteArray.size_append, ByteArray.size_extract, List.length_cons, List.length_nil]); omega) ?_)
    | (refine And.intro (by (try simp only [mk_size, List.size_toArray, ByteArray.size_append, ByteArray.size_extract, List.length_cons, List.length_nil, wrap64_eq]); omega) ?_)
    | fail)
  all_goals first | exact h0 | (exfalso; simp_all; done)
theorem d_AppX (d p c r : ByteArray) (hd : d.size ≤ 1048576) (hp : p.size ≤ 1048576) (hc : c.size ≤ 1048576) (hr : r.size ≤ 1048576) (hv : vB d p 60 = true) (he : recB c r = true) (ht : TabP W0) (K : Cont) (h0 : K (.tup [Lg d p 60, I 2]) σ) : ACall Tryd.prog W0 29 [Lg d p 60, Rc c r] σ K :=
  ACall.lift rfl (fun _ => rfl) (fun W1 K hb hK => c_AppX d p c r hd hp hc hr hv he (ht.mono hb) K hK) h0
theorem c_law_AppendRecord (d : ByteArray) (hd : d.size ≤ 9223372036854775807) (p : ByteArray) (hp : p.size ≤ 9223372036854775807) (n : Int) (hn : IntKind.i64.has n) (c : ByteArray) (hc : c.size ≤ 9223372036854775807) (r : ByteArray) (hr : r.size ≤ 9223372036854775807) (ht : TabP W0) (K : Cont) (h0 : K (Bo true) []) : ACall Tryd.prog W0 8 [Lg d p n, Rc c r] [] K := by
  refine by8 (Nat.le_of_ble_eq_true rfl) ?_
  by_cases hz : szI 1048576 [d.size, p.size] < 0
  · skip
    repeat' ((conv => whnf); first
      | (refine And.intro rfl ?_)
      | (refine And.intro (by decide +kernel) ?_)
      | (refine And.intro trivial ?_)
      | (refine d_szLog (hc := hd) (hr := hp) (hm := by decide) (hm' := by decide) (h0 := ?_) ..)
      | (refine Exists.intro _ (And.intro rfl (And.intro rfl (And.intro (Nat.le_of_ble_eq_true rfl) ?_))))
      | (refine Exists.intro _ (And.intro rfl (And.intro rfl (And.intro rfl (And.intro (Nat.le_of_ble_eq_true rfl) ?_)))))
      | (refine And.intro (Exists.intro _ (And.intro rfl rfl)) ?_)
      | (exact fun hW => absurd hW (by decide +kernel))
      | (intro hW; (try simp only [Bool.not_true, Bool.not_false, Bool.not_eq_true', Bool.not_eq_false', decide_eq_true_eq, decide_eq_false_iff_not, reduceCtorEq, Bool.true_eq_false, Bool.false_eq_true, mk_size, List.size_toArray, ByteArray.size_append, ByteArray.size_extract, List.length_cons, List.length_nil, ba_get, ba_empty, Int.toNat_natCast] at hW))
      | (refine And.intro (?_ : _ → _) (?_ : _ → _))
      | (refine FinR.drop 0 (Nat.zero_le _) (Closed.zero _) rfl ?_)
      | (refine FinR.keep ?_)
      | (refine And.intro (det3_agg rfl) ?_)
      | (refine fL_mk ?_)
      | (refine And.intro (by (try simp only [mk_size, List.size_toArray, ByteArray.size_append, ByteArray.size_extract, List.length_cons, List.length_nil]); omega) ?_)
      | (refine And.intro (by (try simp only [mk_size, List.size_toArray, ByteArray.size_append, ByteArray.size_extract, List.length_cons, List.length_nil, wrap64_eq]); omega) ?_)
      | fail)
    all_goals first | exact h0 | (exfalso; omega)
  · have hb := szI_neg (by decide) (Int.not_lt.1 hz)
    have hl := szI_le (Int.not_lt.1 hz)
    have hd' : d.size ≤ 1048576 := by have := hb d.size (by simp); omega
    have hp' : p.size ≤ 1048576 := by have := hb p.size (by simp); omega
    by_cases hy : szI (szI 1048576 [d.size, p.size]) [c.size, r.size] < 0
    · skip
      repeat' ((conv => whnf); first
        | (refine And.intro rfl ?_)
        | (refine And.intro (by decide +kernel) ?_)
        | (refine And.intro trivial ?_)
        | (refine d_szLog (hc := hd) (hr := hp) (hm := by decide) (hm' := by decide) (h0 := ?_) ..)
        | (refine d_szLogRecord (hc := hc) (hr := hr) (hm := Int.not_lt.1 hz) (hm' := hl) (h0 := ?_) ..)
        | (refine Exists.intro _ (And.intro rfl (And.intro rfl (And.intro (Nat.le_of_ble_eq_true rfl) ?_))))
        | (refine Exists.intro _ (And.intro rfl (And.intro rfl (And.intro rfl (And.intro (Nat.le_of_ble_eq_true rfl) ?_)))))
        | (refine And.intro (Exists.intro _ (And.intro rfl rfl)) ?_)
        | (exact fun hW => absurd hW (by decide +kernel))
        | (intro hW; (try simp only [Bool.not_true, Bool.not_false, Bool.not_eq_true', Bool.not_eq_false', decide_eq_true_eq, decide_eq_false_iff_not, reduceCtorEq, Bool.true_eq_false, Bool.false_eq_true, mk_size, List.size_toArray, ByteArray.size_append, ByteArray.size_extract, List.length_cons, List.length_nil, ba_get, ba_empty, Int.toNat_natCast] at hW))
        | (refine And.intro (?_ : _ → _) (?_ : _ → _))
        | (refine FinR.drop 0 (Nat.zero_le _) (Closed.zero _) rfl ?_)
        | (refine FinR.keep ?_)
        | (refine And.intro (det3_agg rfl) ?_)
        | (refine fL_mk ?_)
        | (refine And.intro (by (try simp only [mk_size, List.size_toArray, ByteArray.size_append, ByteArray.size_extract, List.length_cons, List.length_nil]); omega) ?_)
        | (refine And.intro (by (try simp only [mk_size, List.size_toArray, ByteArray.size_append, ByteArray.size_extract, List.length_cons, List.length_nil, wrap64_eq]); omega) ?_)
        | fail)
      all_goals first | exact h0 | (exfalso; omega)
    · have hb := szI_neg (Int.not_lt.1 hz) (Int.not_lt.1 hy)
      have hc' : c.size ≤ 1048576 := by have := hb c.size (by simp); omega
      have hr' : r.size ≤ 1048576 := by have := hb r.size (by simp); omega
      by_cases hv : vB d p n = true ∧ recB c r = true
      · obtain ⟨k, rfl, hk, _⟩ := vB_cnt hv.1
        by_cases h60 : k = 60
        · subst h60
          repeat' ((conv => whnf); first
            | (refine And.intro rfl ?_)
            | (refine And.intro (by decide +kernel) ?_)
            | (refine And.intro trivial ?_)
            | (refine d_szLog (hc := hd) (hr := hp) (hm := by decide) (hm' := by decide) (h0 := ?_) ..)
            | (refine d_szLogRecord (hc := hc) (hr := hr) (hm := Int.not_lt.1 hz) (hm' := hl) (h0 := ?_) ..)
            | (refine d_toLog (h0 := ?_) ..)
            | (refine Exists.intro _ (And.intro (fun τ => callW_fn (d_toLog (h0 := And.intro rfl rfl) ..)) ?_))
            | (refine Exists.intro _ (And.intro (callW_fn (d_toLog (h0 := And.intro rfl rfl) ..)) (And.intro trivial ?_)))
            | (refine Exists.intro _ (And.intro (callW_fn (d_toLog (h0 := And.intro rfl rfl) ..)) ?_))
            | (refine Exists.intro _ (And.intro (fun τ _ => callW_fn (d_toLog (h0 := And.intro rfl rfl) ..)) ?_))
            | (refine d_toLogRecord (h0 := ?_) ..)
            | (refine Exists.intro _ (And.intro (fun τ => callW_fn (d_toLogRecord (h0 := And.intro rfl rfl) ..)) ?_))
            | (refine Exists.intro _ (And.intro (callW_fn (d_toLogRecord (h0 := And.intro rfl rfl) ..)) (And.intro trivial ?_)))
            | (refine Exists.intro _ (And.intro (callW_fn (d_toLogRecord (h0 := And.intro rfl rfl) ..)) ?_))
            | (refine Exists.intro _ (And.intro (fun τ _ => callW_fn (d_toLogRecord (h0 := And.intro rfl rfl) ..)) ?_))
            | (refine d_sAppX (hd := hd') (hp := hp') (hc := hc') (hr := hr') (hv := hv.1) (he := hv.2) (h0 := ?_) ..)
            | (refine Exists.intro _ (And.intro (fun τ => callW_fn (d_sAppX (hd := hd') (hp := hp') (hc := hc') (hr := hr') (hv := hv.1) (he := hv.2) (h0 := And.intro rfl rfl) ..)) ?_))
            | (refine Exists.intro _ (And.intro (callW_fn (d_sAppX (hd := hd') (hp := hp') (hc := hc') (hr := hr') (hv := hv.1) (he := hv.2) (h0 := And.intro rfl rfl) ..)) (And.intro trivial ?_)))
            | (refine Exists.intro _ (And.intro (callW_fn (d_sAppX (hd := hd') (hp := hp') (hc := hc') (hr := hr') (hv := hv.1) (he := hv.2) (h0 := And.intro rfl rfl) ..)) ?_))
            | (refine Exists.intro _ (And.intro (fun τ _ => callW_fn (d_sAppX (hd := hd') (hp := hp') (hc := hc') (hr := hr') (hv := hv.1) (he := hv.2) (h0 := And.intro rfl rfl) ..)) ?_))
            | (refine d_AppX (hd := hd') (hp := hp') (hc := hc') (hr := hr') (hv := hv.1) (he := hv.2) (ht := ht) (h0 := ?_) ..)
            | (refine Exists.intro _ (And.intro (fun τ => callW_fn (d_AppX (hd := hd') (hp := hp') (hc := hc') (hr := hr') (hv := hv.1) (he := hv.2) (ht := ht) (h0 := And.intro rfl rfl) ..)) ?_))
            | (refine Exists.intro _ (And.intro (callW_fn (d_AppX (hd := hd') (hp := hp') (hc := hc') (hr := hr') (hv := hv.1) (he := hv.2) (ht := ht) (h0 := And.intro rfl rfl) ..)) (And.intro trivial ?_)))
            | (refine Exists.intro _ (And.intro (callW_fn (d_AppX (hd := hd') (hp := hp') (hc := hc') (hr := hr') (hv := hv.1) (he := hv.2) (ht := ht) (h0 := And.intro rfl rfl) ..)) ?_))
            | (refine Exists.intro _ (And.intro (fun τ _ => callW_fn (d_AppX (hd := hd') (hp := hp') (hc := hc') (hr := hr') (hv := hv.1) (he := hv.2) (ht := ht) (h0 := And.intro rfl rfl) ..)) ?_))
            | (refine d_eqLog (h0 := ?_) ..)
            | (refine Exists.intro _ (And.intro (fun τ => callW_fn (d_eqLog (h0 := And.intro rfl rfl) ..)) ?_))
            | (refine Exists.intro _ (And.intro (callW_fn (d_eqLog (h0 := And.intro rfl rfl) ..)) (And.intro trivial ?_)))
            | (refine Exists.intro _ (And.intro (callW_fn (d_eqLog (h0 := And.intro rfl rfl) ..)) ?_))
            | (refine Exists.intro _ (And.intro (fun τ _ => callW_fn (d_eqLog (h0 := And.intro rfl rfl) ..)) ?_))
            | (refine Exists.intro _ (And.intro rfl (And.intro rfl (And.intro (Nat.le_of_ble_eq_true rfl) ?_))))
            | (refine Exists.intro _ (And.intro rfl (And.intro rfl (And.intro rfl (And.intro (Nat.le_of_ble_eq_true rfl) ?_)))))
            | (refine And.intro (Exists.intro _ (And.intro rfl rfl)) ?_)
            | (exact fun hW => absurd hW (by decide +kernel))
            | (intro hW; (try simp only [Bool.not_true, Bool.not_false, Bool.not_eq_true', Bool.not_eq_false', decide_eq_true_eq, decide_eq_false_iff_not, reduceCtorEq, Bool.true_eq_false, Bool.false_eq_true, mk_size, List.size_toArray, ByteArray.size_append, ByteArray.size_extract, List.length_cons, List.length_nil, ba_get, ba_empty, Int.toNat_natCast] at hW))
            | (refine And.intro (?_ : _ → _) (?_ : _ → _))
            | (refine FinR.drop 0 (Nat.zero_le _) (Closed.zero _) rfl ?_)
            | (refine FinR.keep ?_)
            | (refine And.intro (det3_agg rfl) ?_)
            | (refine fL_mk ?_)
            | (refine And.intro (by (try simp only [mk_size, List.size_toArray, ByteArray.size_append, ByteArray.size_extract, List.length_cons, List.length_nil]); omega) ?_)
            | (refine And.intro (by (try simp only [mk_size, List.size_toArray, ByteArray.size_append, ByteArray.size_extract, List.length_cons, List.length_nil, wrap64_eq]); omega) ?_)
            | fail)
          all_goals first | exact h0 | (exfalso; simp_all; done)
        · have hk' : k < 60 := by omega
          repeat' ((conv => whnf); first
            | (refine And.intro rfl ?_)
            | (refine And.intro (by decide +kernel) ?_)
            | (refine And.intro trivial ?_)
            | (refine d_szLog (hc := hd) (hr := hp) (hm := by decide) (hm' := by decide) (h0 := ?_) ..)
            | (refine d_szLogRecord (hc := hc) (hr := hr) (hm := Int.not_lt.1 hz) (hm' := hl) (h0 := ?_) ..)
            | (refine d_toLog (h0 := ?_) ..)
            | (refine Exists.intro _ (And.intro (fun τ => callW_fn (d_toLog (h0 := And.intro rfl rfl) ..)) ?_))
            | (refine Exists.intro _ (And.intro (callW_fn (d_toLog (h0 := And.intro rfl rfl) ..)) (And.intro trivial ?_)))
            | (refine Exists.intro _ (And.intro (callW_fn (d_toLog (h0 := And.intro rfl rfl) ..)) ?_))
            | (refine Exists.intro _ (And.intro (fun τ _ => callW_fn (d_toLog (h0 := And.intro rfl rfl) ..)) ?_))
            | (refine d_toLogRecord (h0 := ?_) ..)
            | (refine Exists.intro _ (And.intro (fun τ => callW_fn (d_toLogRecord (h0 := And.intro rfl rfl) ..)) ?_))
            | (refine Exists.intro _ (And.intro (callW_fn (d_toLogRecord (h0 := And.intro rfl rfl) ..)) (And.intro trivial ?_)))
            | (refine Exists.intro _ (And.intro (callW_fn (d_toLogRecord (h0 := And.intro rfl rfl) ..)) ?_))
            | (refine Exists.intro _ (And.intro (fun τ _ => callW_fn (d_toLogRecord (h0 := And.intro rfl rfl) ..)) ?_))
            | (refine d_sAppT (hd := hd') (hp := hp') (hc := hc') (hr := hr') (hv := hv.1) (hk := hk') (he := hv.2) (h0 := ?_) ..)
            | (refine Exists.intro _ (And.intro (fun τ => callW_fn (d_sAppT (hd := hd') (hp := hp') (hc := hc') (hr := hr') (hv := hv.1) (hk := hk') (he := hv.2) (h0 := And.intro rfl rfl) ..)) ?_))
            | (refine Exists.intro _ (And.intro (callW_fn (d_sAppT (hd := hd') (hp := hp') (hc := hc') (hr := hr') (hv := hv.1) (hk := hk') (he := hv.2) (h0 := And.intro rfl rfl) ..)) (And.intro trivial ?_)))
            | (refine Exists.intro _ (And.intro (callW_fn (d_sAppT (hd := hd') (hp := hp') (hc := hc') (hr := hr') (hv := hv.1) (hk := hk') (he := hv.2) (h0 := And.intro rfl rfl) ..)) ?_))
            | (refine Exists.intro _ (And.intro (fun τ _ => callW_fn (d_sAppT (hd := hd') (hp := hp') (hc := hc') (hr := hr') (hv := hv.1) (hk := hk') (he := hv.2) (h0 := And.intro rfl rfl) ..)) ?_))
            | (refine d_AppT (hd := hd') (hp := hp') (hc := hc') (hr := hr') (hv := hv.1) (hk := hk') (he := hv.2) (ht := ht) (h0 := ?_) ..)
            | (refine Exists.intro _ (And.intro (fun τ => callW_fn (d_AppT (hd := hd') (hp := hp') (hc := hc') (hr := hr') (hv := hv.1) (hk := hk') (he := hv.2) (ht := ht) (h0 := And.intro rfl rfl) ..)) ?_))
            | (refine Exists.intro _ (And.intro (callW_fn (d_AppT (hd := hd') (hp := hp') (hc := hc') (hr := hr') (hv := hv.1) (hk := hk') (he := hv.2) (ht := ht) (h0 := And.intro rfl rfl) ..)) (And.intro trivial ?_)))
            | (refine Exists.intro _ (And.intro (callW_fn (d_AppT (hd := hd') (hp := hp') (hc := hc') (hr := hr') (hv := hv.1) (hk := hk') (he := hv.2) (ht := ht) (h0 := And.intro rfl rfl) ..)) ?_))
            | (refine Exists.intro _ (And.intro (fun τ _ => callW_fn (d_AppT (hd := hd') (hp := hp') (hc := hc') (hr := hr') (hv := hv.1) (hk := hk') (he := hv.2) (ht := ht) (h0 := And.intro rfl rfl) ..)) ?_))
            | (refine d_eqLog (h0 := ?_) ..)
            | (refine Exists.intro _ (And.intro (fun τ => callW_fn (d_eqLog (h0 := And.intro rfl rfl) ..)) ?_))
            | (refine Exists.intro _ (And.intro (callW_fn (d_eqLog (h0 := And.intro rfl rfl) ..)) (And.intro trivial ?_)))
            | (refine Exists.intro _ (And.intro (callW_fn (d_eqLog (h0 := And.intro rfl rfl) ..)) ?_))
            | (refine Exists.intro _ (And.intro (fun τ _ => callW_fn (d_eqLog (h0 := And.intro rfl rfl) ..)) ?_))
            | (refine Exists.intro _ (And.intro rfl (And.intro rfl (And.intro (Nat.le_of_ble_eq_true rfl) ?_))))
            | (refine Exists.intro _ (And.intro rfl (And.intro rfl (And.intro rfl (And.intro (Nat.le_of_ble_eq_true rfl) ?_)))))
            | (refine And.intro (Exists.intro _ (And.intro rfl rfl)) ?_)
            | (exact fun hW => absurd hW (by decide +kernel))
            | (intro hW; (try simp only [Bool.not_true, Bool.not_false, Bool.not_eq_true', Bool.not_eq_false', decide_eq_true_eq, decide_eq_false_iff_not, reduceCtorEq, Bool.true_eq_false, Bool.false_eq_true, mk_size, List.size_toArray, ByteArray.size_append, ByteArray.size_extract, List.length_cons, List.length_nil, ba_get, ba_empty, Int.toNat_natCast] at hW))
            | (refine And.intro (?_ : _ → _) (?_ : _ → _))
            | (refine FinR.drop 0 (Nat.zero_le _) (Closed.zero _) rfl ?_)
            | (refine FinR.keep ?_)
            | (refine And.intro (det3_agg rfl) ?_)
            | (refine fL_mk ?_)
            | (refine And.intro (by (try simp only [mk_size, List.size_toArray, ByteArray.size_append, ByteArray.size_extract, List.length_cons, List.length_nil]); omega) ?_)
            | (refine And.intro (by (try simp only [mk_size, List.size_toArray, ByteArray.size_append, ByteArray.size_extract, List.length_cons, List.length_nil, wrap64_eq]); omega) ?_)
            | fail)
          all_goals first | exact h0 | (exfalso; simp_all; done)
      · skip
        repeat' ((conv => whnf); first
          | (refine And.intro rfl ?_)
          | (refine And.intro (by decide +kernel) ?_)
          | (refine And.intro trivial ?_)
          | (refine d_szLog (hc := hd) (hr := hp) (hm := by decide) (hm' := by decide) (h0 := ?_) ..)
          | (refine d_szLogRecord (hc := hc) (hr := hr) (hm := Int.not_lt.1 hz) (hm' := hl) (h0 := ?_) ..)
          | (refine d_toLog (h0 := ?_) ..)
          | (refine Exists.intro _ (And.intro (fun τ => callW_fn (d_toLog (h0 := And.intro rfl rfl) ..)) ?_))
          | (refine Exists.intro _ (And.intro (callW_fn (d_toLog (h0 := And.intro rfl rfl) ..)) (And.intro trivial ?_)))
          | (refine Exists.intro _ (And.intro (callW_fn (d_toLog (h0 := And.intro rfl rfl) ..)) ?_))
          | (refine Exists.intro _ (And.intro (fun τ _ => callW_fn (d_toLog (h0 := And.intro rfl rfl) ..)) ?_))
          | (refine d_toLogRecord (h0 := ?_) ..)
          | (refine Exists.intro _ (And.intro (fun τ => callW_fn (d_toLogRecord (h0 := And.intro rfl rfl) ..)) ?_))
          | (refine Exists.intro _ (And.intro (callW_fn (d_toLogRecord (h0 := And.intro rfl rfl) ..)) (And.intro trivial ?_)))
          | (refine Exists.intro _ (And.intro (callW_fn (d_toLogRecord (h0 := And.intro rfl rfl) ..)) ?_))
          | (refine Exists.intro _ (And.intro (fun τ _ => callW_fn (d_toLogRecord (h0 := And.intro rfl rfl) ..)) ?_))
          | (refine d_sAppF (hd := hd') (hp := hp') (hc := hc') (hr := hr') (hv := hv) (h0 := ?_) ..)
          | (refine Exists.intro _ (And.intro (fun τ => callW_fn (d_sAppF (hd := hd') (hp := hp') (hc := hc') (hr := hr') (hv := hv) (h0 := And.intro rfl rfl) ..)) ?_))
          | (refine Exists.intro _ (And.intro (callW_fn (d_sAppF (hd := hd') (hp := hp') (hc := hc') (hr := hr') (hv := hv) (h0 := And.intro rfl rfl) ..)) (And.intro trivial ?_)))
          | (refine Exists.intro _ (And.intro (callW_fn (d_sAppF (hd := hd') (hp := hp') (hc := hc') (hr := hr') (hv := hv) (h0 := And.intro rfl rfl) ..)) ?_))
          | (refine Exists.intro _ (And.intro (fun τ _ => callW_fn (d_sAppF (hd := hd') (hp := hp') (hc := hc') (hr := hr') (hv := hv) (h0 := And.intro rfl rfl) ..)) ?_))
          | (refine d_AppF (hd := hd') (hp := hp') (hc := hc') (hr := hr') (hv := hv) (ht := ht) (h0 := ?_) ..)
          | (refine Exists.intro _ (And.intro (fun τ => callW_fn (d_AppF (hd := hd') (hp := hp') (hc := hc') (hr := hr') (hv := hv) (ht := ht) (h0 := And.intro rfl rfl) ..)) ?_))
          | (refine Exists.intro _ (And.intro (callW_fn (d_AppF (hd := hd') (hp := hp') (hc := hc') (hr := hr') (hv := hv) (ht := ht) (h0 := And.intro rfl rfl) ..)) (And.intro trivial ?_)))
          | (refine Exists.intro _ (And.intro (callW_fn (d_AppF (hd := hd') (hp := hp') (hc := hc') (hr := hr') (hv := hv) (ht := ht) (h0 := And.intro rfl rfl) ..)) ?_))
          | (refine Exists.intro _ (And.intro (fun τ _ => callW_fn (d_AppF (hd := hd') (hp := hp') (hc := hc') (hr := hr') (hv := hv) (ht := ht) (h0 := And.intro rfl rfl) ..)) ?_))
          | (refine d_eqLog (h0 := ?_) ..)
          | (refine Exists.intro _ (And.intro (fun τ => callW_fn (d_eqLog (h0 := And.intro rfl rfl) ..)) ?_))
          | (refine Exists.intro _ (And.intro (callW_fn (d_eqLog (h0 := And.intro rfl rfl) ..)) (And.intro trivial ?_)))
          | (refine Exists.intro _ (And.intro (callW_fn (d_eqLog (h0 := And.intro rfl rfl) ..)) ?_))
          | (refine Exists.intro _ (And.intro (fun τ _ => callW_fn (d_eqLog (h0 := And.intro rfl rfl) ..)) ?_))
          | (refine Exists.intro _ (And.intro rfl (And.intro rfl (And.intro (Nat.le_of_ble_eq_true rfl) ?_))))
          | (refine Exists.intro _ (And.intro rfl (And.intro rfl (And.intro rfl (And.intro (Nat.le_of_ble_eq_true rfl) ?_)))))
          | (refine And.intro (Exists.intro _ (And.intro rfl rfl)) ?_)
          | (exact fun hW => absurd hW (by decide +kernel))
          | (intro hW; (try simp only [Bool.not_true, Bool.not_false, Bool.not_eq_true', Bool.not_eq_false', decide_eq_true_eq, decide_eq_false_iff_not, reduceCtorEq, Bool.true_eq_false, Bool.false_eq_true, mk_size, List.size_toArray, ByteArray.size_append, ByteArray.size_extract, List.length_cons, List.length_nil, ba_get, ba_empty, Int.toNat_natCast] at hW))
          | (refine And.intro (?_ : _ → _) (?_ : _ → _))
          | (refine FinR.drop 0 (Nat.zero_le _) (Closed.zero _) rfl ?_)
          | (refine FinR.keep ?_)
          | (refine And.intro (det3_agg rfl) ?_)
          | (refine fL_mk ?_)
          | (refine And.intro (by (try simp only [mk_size, List.size_toArray, ByteArray.size_append, ByteArray.size_extract, List.length_cons, List.length_nil]); omega) ?_)
          | (refine And.intro (by (try simp only [mk_size, List.size_toArray, ByteArray.size_append, ByteArray.size_extract, List.length_cons, List.length_nil, wrap64_eq]); omega) ?_)
          | fail)
        all_goals first | exact h0 | (exfalso; simp_all; done)
end Go.Proofs.YtbdemgepmiomjaaDoor
