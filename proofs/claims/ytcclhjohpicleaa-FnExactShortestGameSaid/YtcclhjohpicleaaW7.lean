import Derived.Test.YtcclhjohpicleaaW6
section
/- Games: what is played; NextsOf by both sides. -/
set_option linter.unusedVariables false
set_option linter.unusedSimpArgs false
set_option maxRecDepth 100000
set_option maxHeartbeats 4000000
namespace Go.Proofs.Ytcclhjohpicleaa
open Go Go.RowKit Go.Proofs.Ytcclhjohpicleaa.Abs
variable {W0 : World} {σ : List Blk}
theorem d_sNexts (n m : Nat) (hn : n < 2 ^ 36) (K : Cont) (h0 : ∀ S b v cap B, OwnS S b v B (nxL n m) → σ.length ≤ b → (∀ (j : Nat) (B : Blk), σ[j]? = some B → S[j]? = some B) → K (.sl b v 0 (nxL n m).length cap) S) : ACall Try.prog W0 42 [ShN n, ShN m] σ K := by
  rw [← rx_nx hn] at h0
  refine ACall.frame (K0 := fun v S => ∃ b vv cap B, v = .sl b vv 0 (rxL (cdL n m)).length cap ∧ OwnS S b vv B (rxL (cdL n m))) rfl (fun W1 _ => c_l10Nexts n m hn _ fun S b v cap B h => ⟨b, v, cap, B, rfl, h⟩) ?_
  rintro v S ⟨b, vv, cap, B, rfl, h⟩
  exact h0 _ _ _ cap _ ⟨get_sh h.g, h.v, h.r, h.e, h.z, by show B.cells.map _ = _; rw [h.c, jc_sh]⟩ (Nat.le_add_right _ _) (fun j B hj => getx1 hj)
/-! what is played -/
def vaB (a b c d e f a' b' c' d' e' f' : Int) : Bool := shB6 a b c d e f && shB6 a' b' c' d' e' f'
theorem c_twoSetsG (a b c d e f a' b' c' d' e' f' : Int) (h : vaB a b c d e f a' b' c' d' e' f' = false) (K : Cont) (h0 : ∀ p q, K (.tup [U p, U q, Bo false]) []) : ACall Try.prog W0 63 [Sh a b c d e f, Sh a' b' c' d' e' f'] [] K := by
  refine by63 (Nat.le_of_ble_eq_true rfl) ?_
  have e1 : ∃ p, setR a b c d e f = .tup [U p, Bo (shB6 a b c d e f)] := by unfold setR; cases shB6 a b c d e f <;> exact ⟨_, rfl⟩
  have e2 : ∃ p, setR a' b' c' d' e' f' = .tup [U p, Bo (shB6 a' b' c' d' e' f')] := by unfold setR; cases shB6 a' b' c' d' e' f' <;> exact ⟨_, rfl⟩
  obtain ⟨p, e1⟩ := e1
  obtain ⟨q, e2⟩ := e2
  unfold vaB at h
  cases hs : shB6 a b c d e f with
  | false =>
    rw [hs] at e1
    repeat' ((conv => whnf); first | (refine Exists.intro ([] : List Nat) ?_) | (refine And.intro rfl ?_) | (refine And.intro (by decide +kernel) ?_) | (refine And.intro trivial ?_) | (refine d_setOf (a := a) (b := b) (c := c) (d := d) (e := e) (f := f) (h0 := ?_) ..; rw [e1]) | (refine d_setOf (a := a') (b := b') (c := c') (d := d') (e := e') (f := f') (h0 := ?_) ..; rw [e2]) | (refine Exists.intro _ (And.intro rfl (And.intro rfl (And.intro (Nat.le_of_ble_eq_true rfl) ?_)))) | (refine Exists.intro _ (And.intro rfl (And.intro rfl (And.intro rfl (And.intro (Nat.le_of_ble_eq_true rfl) ?_))))) | (refine And.intro (Exists.intro _ (And.intro rfl rfl)) ?_) | (exact fun hW => absurd hW (by decide +kernel)) | (intro hW; (try simp only [Bool.not_true, Bool.not_false, Bool.not_eq_true', Bool.not_eq_false', decide_eq_true_eq, decide_eq_false_iff_not, reduceCtorEq, Bool.true_eq_false, Bool.false_eq_true, mk_size, List.size_toArray, ByteArray.size_append, ByteArray.size_extract, List.length_cons, List.length_nil, ba_get, ba_empty, Int.toNat_natCast] at hW)) | (refine And.intro (?_ : _ → _) (?_ : _ → _)) | (refine FinR.drop 0 (Nat.zero_le _) (Closed.zero _) rfl ?_) | (refine FinR.keep ?_) | (refine And.intro (det3_agg rfl) ?_) | (refine fL_mk ?_) | (refine And.intro (by (try simp only [mk_size, List.size_toArray, ByteArray.size_append, ByteArray.size_extract, List.length_cons, List.length_nil]); omega) ?_) | (refine And.intro (by (try simp only [mk_size, List.size_toArray, ByteArray.size_append, ByteArray.size_extract, List.length_cons, List.length_nil, wrap64_eq]); omega) ?_) | fail)
    all_goals first | exact h0 _ _ | (exfalso; simp_all; done)
  | true =>
    rw [hs] at e1 h
    rw [Bool.true_and] at h
    rw [h] at e2
    repeat' ((conv => whnf); first | (refine Exists.intro ([] : List Nat) ?_) | (refine And.intro rfl ?_) | (refine And.intro (by decide +kernel) ?_) | (refine And.intro trivial ?_) | (refine d_setOf (a := a) (b := b) (c := c) (d := d) (e := e) (f := f) (h0 := ?_) ..; rw [e1]) | (refine d_setOf (a := a') (b := b') (c := c') (d := d') (e := e') (f := f') (h0 := ?_) ..; rw [e2]) | (refine Exists.intro _ (And.intro rfl (And.intro rfl (And.intro (Nat.le_of_ble_eq_true rfl) ?_)))) | (refine Exists.intro _ (And.intro rfl (And.intro rfl (And.intro rfl (And.intro (Nat.le_of_ble_eq_true rfl) ?_))))) | (refine And.intro (Exists.intro _ (And.intro rfl rfl)) ?_) | (exact fun hW => absurd hW (by decide +kernel)) | (intro hW; (try simp only [Bool.not_true, Bool.not_false, Bool.not_eq_true', Bool.not_eq_false', decide_eq_true_eq, decide_eq_false_iff_not, reduceCtorEq, Bool.true_eq_false, Bool.false_eq_true, mk_size, List.size_toArray, ByteArray.size_append, ByteArray.size_extract, List.length_cons, List.length_nil, ba_get, ba_empty, Int.toNat_natCast] at hW)) | (refine And.intro (?_ : _ → _) (?_ : _ → _)) | (refine FinR.drop 0 (Nat.zero_le _) (Closed.zero _) rfl ?_) | (refine FinR.keep ?_) | (refine And.intro (det3_agg rfl) ?_) | (refine fL_mk ?_) | (refine And.intro (by (try simp only [mk_size, List.size_toArray, ByteArray.size_append, ByteArray.size_extract, List.length_cons, List.length_nil]); omega) ?_) | (refine And.intro (by (try simp only [mk_size, List.size_toArray, ByteArray.size_append, ByteArray.size_extract, List.length_cons, List.length_nil, wrap64_eq]); omega) ?_) | fail)
    all_goals first | exact h0 _ _ | (exfalso; simp_all; done)
theorem d_twoSetsG (a b c d e f a' b' c' d' e' f' : Int) (h : vaB a b c d e f a' b' c' d' e' f' = false) (K : Cont) (h0 : ∀ p q, K (.tup [U p, U q, Bo false]) σ) : ACall Try.prog W0 63 [Sh a b c d e f, Sh a' b' c' d' e' f'] σ K := by
  refine ACall.frame (K0 := fun v σ' => ∃ p q, v = .tup [U p, U q, Bo false] ∧ σ' = []) rfl (fun W1 _ => c_twoSetsG a b c d e f a' b' c' d' e' f' h _ fun p q => ⟨p, q, rfl, rfl⟩) ?_
  rintro v σ' ⟨p, q, rfl, rfl⟩
  show K _ (σ ++ [])
  rw [List.append_nil]; exact h0 p q
theorem c_playV (n m : Nat) (hn : n < 2 ^ 36) (hm : m < 2 ^ 36) (K : Cont) (h0 : K (.tup [U n, U m, Bo (decide (m ≠ 0))]) []) : ACall Try.prog W0 43 [ShN n, ShN m] [] K := by
  refine by43 (Nat.le_of_ble_eq_true rfl) ?_
  by_cases h : m = 0
  · rw [decide_eq_false (fun e => e h)] at h0
    subst h
    repeat' ((conv => whnf); first | (refine Exists.intro ([] : List Nat) ?_) | (refine And.intro rfl ?_) | (refine And.intro (by decide +kernel) ?_) | (refine And.intro trivial ?_) | (refine d_twoSetsN (hn := hn) (hm := hm) (h0 := ?_) ..) | (refine Exists.intro _ (And.intro rfl (And.intro rfl (And.intro (Nat.le_of_ble_eq_true rfl) ?_)))) | (refine Exists.intro _ (And.intro rfl (And.intro rfl (And.intro rfl (And.intro (Nat.le_of_ble_eq_true rfl) ?_))))) | (refine And.intro (Exists.intro _ (And.intro rfl rfl)) ?_) | (exact fun hW => absurd hW (by decide +kernel)) | (intro hW; (try simp only [Bool.not_true, Bool.not_false, Bool.not_eq_true', Bool.not_eq_false', decide_eq_true_eq, decide_eq_false_iff_not, reduceCtorEq, Bool.true_eq_false, Bool.false_eq_true, mk_size, List.size_toArray, ByteArray.size_append, ByteArray.size_extract, List.length_cons, List.length_nil, ba_get, ba_empty, Int.toNat_natCast] at hW)) | (refine And.intro (?_ : _ → _) (?_ : _ → _)) | (refine FinR.drop 0 (Nat.zero_le _) (Closed.zero _) rfl ?_) | (refine FinR.keep ?_) | (refine And.intro (det3_agg rfl) ?_) | (refine fL_mk ?_) | (refine And.intro (by (try simp only [mk_size, List.size_toArray, ByteArray.size_append, ByteArray.size_extract, List.length_cons, List.length_nil]); omega) ?_) | (refine And.intro (by (try simp only [mk_size, List.size_toArray, ByteArray.size_append, ByteArray.size_extract, List.length_cons, List.length_nil, wrap64_eq]); omega) ?_) | fail)
    all_goals first | exact h0 | (exfalso; omega) | (exfalso; simp_all; done)
  · rw [decide_eq_true h] at h0
    have hz : ¬ ((m : Nat) : Int) = 0 := by omega
    repeat' ((conv => whnf); first | (refine Exists.intro ([] : List Nat) ?_) | (refine And.intro rfl ?_) | (refine And.intro (by decide +kernel) ?_) | (refine And.intro trivial ?_) | (refine d_twoSetsN (hn := hn) (hm := hm) (h0 := ?_) ..) | (refine Exists.intro _ (And.intro rfl (And.intro rfl (And.intro (Nat.le_of_ble_eq_true rfl) ?_)))) | (refine Exists.intro _ (And.intro rfl (And.intro rfl (And.intro rfl (And.intro (Nat.le_of_ble_eq_true rfl) ?_))))) | (refine And.intro (Exists.intro _ (And.intro rfl rfl)) ?_) | (exact fun hW => absurd hW (by decide +kernel)) | (intro hW; (try simp only [Bool.not_true, Bool.not_false, Bool.not_eq_true', Bool.not_eq_false', decide_eq_true_eq, decide_eq_false_iff_not, reduceCtorEq, Bool.true_eq_false, Bool.false_eq_true, mk_size, List.size_toArray, ByteArray.size_append, ByteArray.size_extract, List.length_cons, List.length_nil, ba_get, ba_empty, Int.toNat_natCast] at hW)) | (refine And.intro (?_ : _ → _) (?_ : _ → _)) | (refine FinR.drop 0 (Nat.zero_le _) (Closed.zero _) rfl ?_) | (refine FinR.keep ?_) | (refine And.intro (det3_agg rfl) ?_) | (refine fL_mk ?_) | (refine And.intro (by (try simp only [mk_size, List.size_toArray, ByteArray.size_append, ByteArray.size_extract, List.length_cons, List.length_nil]); omega) ?_) | (refine And.intro (by (try simp only [mk_size, List.size_toArray, ByteArray.size_append, ByteArray.size_extract, List.length_cons, List.length_nil, wrap64_eq]); omega) ?_) | fail)
    all_goals first | exact h0 | (exfalso; omega) | (exfalso; simp_all; done) | (refine Eq.mp (congrArg (fun z : Bool => K (.tup [U n, U m, Bo z]) []) (Eq.symm ?_)) h0; simp; omega)
theorem d_playV (n m : Nat) (hn : n < 2 ^ 36) (hm : m < 2 ^ 36) (K : Cont) (h0 : K (.tup [U n, U m, Bo (decide (m ≠ 0))]) σ) : ACall Try.prog W0 43 [ShN n, ShN m] σ K :=
  ACall.lift rfl (fun _ => rfl) (fun W1 K _ hK => c_playV n m hn hm K hK) h0
theorem c_playI (a b c d e f a' b' c' d' e' f' : Int) (h : vaB a b c d e f a' b' c' d' e' f' = false) (K : Cont) (h0 : ∀ p q, K (.tup [U p, U q, Bo false]) []) : ACall Try.prog W0 43 [Sh a b c d e f, Sh a' b' c' d' e' f'] [] K := by
  refine by43 (Nat.le_of_ble_eq_true rfl) ?_
  repeat' ((conv => whnf); first | (refine Exists.intro ([] : List Nat) ?_) | (refine And.intro rfl ?_) | (refine And.intro (by decide +kernel) ?_) | (refine And.intro trivial ?_) | (refine d_twoSetsG (h := h) (h0 := fun p q => ?_) ..) | (refine Exists.intro _ (And.intro rfl (And.intro rfl (And.intro (Nat.le_of_ble_eq_true rfl) ?_)))) | (refine Exists.intro _ (And.intro rfl (And.intro rfl (And.intro rfl (And.intro (Nat.le_of_ble_eq_true rfl) ?_))))) | (refine And.intro (Exists.intro _ (And.intro rfl rfl)) ?_) | (exact fun hW => absurd hW (by decide +kernel)) | (intro hW; (try simp only [Bool.not_true, Bool.not_false, Bool.not_eq_true', Bool.not_eq_false', decide_eq_true_eq, decide_eq_false_iff_not, reduceCtorEq, Bool.true_eq_false, Bool.false_eq_true, mk_size, List.size_toArray, ByteArray.size_append, ByteArray.size_extract, List.length_cons, List.length_nil, ba_get, ba_empty, Int.toNat_natCast] at hW)) | (refine And.intro (?_ : _ → _) (?_ : _ → _)) | (refine FinR.drop 0 (Nat.zero_le _) (Closed.zero _) rfl ?_) | (refine FinR.keep ?_) | (refine And.intro (det3_agg rfl) ?_) | (refine fL_mk ?_) | (refine And.intro (by (try simp only [mk_size, List.size_toArray, ByteArray.size_append, ByteArray.size_extract, List.length_cons, List.length_nil]); omega) ?_) | (refine And.intro (by (try simp only [mk_size, List.size_toArray, ByteArray.size_append, ByteArray.size_extract, List.length_cons, List.length_nil, wrap64_eq]); omega) ?_) | fail)
  all_goals first | exact h0 _ _ | (exfalso; simp_all; done)
theorem c_goodV (n m : Nat) (hm : m < 2 ^ 36) (K : Cont) (h0 : K (Bo (decide (m ≠ 0))) []) : ACall Try.prog W0 41 [ShN n, ShN m] [] K := by
  refine by41 (Nat.le_of_ble_eq_true rfl) ?_
  have ho := ones_dec m hm
  rw [decide_eq_decide] at ho
  have hcount := fun (σ : List Blk) (K : Cont) => d_l2CountM (W0 := W0) (σ := σ) m hm K
  generalize ones 64 m = q at ho hcount
  by_cases h : m = 0
  · rw [decide_eq_false (fun e => e h)] at h0
    have hz := ho.2 h
    repeat' ((conv => whnf); first | (refine Exists.intro ([] : List Nat) ?_) | (refine And.intro rfl ?_) | (refine And.intro (by decide +kernel) ?_) | (refine And.intro trivial ?_) | (refine d_l2SheetN (h0 := ?_) ..) | (refine Exists.intro _ (And.intro (fun τ => callW_fn (d_l2SheetN (h0 := And.intro rfl rfl) ..)) ?_)) | (refine Exists.intro _ (And.intro (callW_fn (d_l2SheetN (h0 := And.intro rfl rfl) ..)) (And.intro trivial ?_))) | (refine Exists.intro _ (And.intro (callW_fn (d_l2SheetN (h0 := And.intro rfl rfl) ..)) ?_)) | (refine Exists.intro _ (And.intro (fun τ _ => callW_fn (d_l2SheetN (h0 := And.intro rfl rfl) ..)) ?_)) | (refine hcount _ _ ?_) | (refine Exists.intro _ (And.intro rfl (And.intro rfl (And.intro (Nat.le_of_ble_eq_true rfl) ?_)))) | (refine Exists.intro _ (And.intro rfl (And.intro rfl (And.intro rfl (And.intro (Nat.le_of_ble_eq_true rfl) ?_))))) | (refine And.intro (Exists.intro _ (And.intro rfl rfl)) ?_) | (exact fun hW => absurd hW (by decide +kernel)) | (intro hW; (try simp only [Bool.not_true, Bool.not_false, Bool.not_eq_true', Bool.not_eq_false', decide_eq_true_eq, decide_eq_false_iff_not, reduceCtorEq, Bool.true_eq_false, Bool.false_eq_true, mk_size, List.size_toArray, ByteArray.size_append, ByteArray.size_extract, List.length_cons, List.length_nil, ba_get, ba_empty, Int.toNat_natCast] at hW)) | (refine And.intro (?_ : _ → _) (?_ : _ → _)) | (refine FinR.drop 0 (Nat.zero_le _) (Closed.zero _) rfl ?_) | (refine FinR.keep ?_) | (refine And.intro (det3_agg rfl) ?_) | (refine fL_mk ?_) | (refine And.intro (by (try simp only [mk_size, List.size_toArray, ByteArray.size_append, ByteArray.size_extract, List.length_cons, List.length_nil]); omega) ?_) | (refine And.intro (by (try simp only [mk_size, List.size_toArray, ByteArray.size_append, ByteArray.size_extract, List.length_cons, List.length_nil, wrap64_eq]); omega) ?_) | fail)
    all_goals first | exact h0 | (exfalso; omega) | (exfalso; simp_all; done) | (refine kB' h0 ?_; rw [decide_eq_false (by omega)])
  · rw [decide_eq_true h] at h0
    have hz : ¬ ((q : Nat) : Int) = 0 := fun e => h (ho.1 e)
    repeat' ((conv => whnf); first | (refine Exists.intro ([] : List Nat) ?_) | (refine And.intro rfl ?_) | (refine And.intro (by decide +kernel) ?_) | (refine And.intro trivial ?_) | (refine d_l2SheetN (h0 := ?_) ..) | (refine Exists.intro _ (And.intro (fun τ => callW_fn (d_l2SheetN (h0 := And.intro rfl rfl) ..)) ?_)) | (refine Exists.intro _ (And.intro (callW_fn (d_l2SheetN (h0 := And.intro rfl rfl) ..)) (And.intro trivial ?_))) | (refine Exists.intro _ (And.intro (callW_fn (d_l2SheetN (h0 := And.intro rfl rfl) ..)) ?_)) | (refine Exists.intro _ (And.intro (fun τ _ => callW_fn (d_l2SheetN (h0 := And.intro rfl rfl) ..)) ?_)) | (refine hcount _ _ ?_) | (refine Exists.intro _ (And.intro rfl (And.intro rfl (And.intro (Nat.le_of_ble_eq_true rfl) ?_)))) | (refine Exists.intro _ (And.intro rfl (And.intro rfl (And.intro rfl (And.intro (Nat.le_of_ble_eq_true rfl) ?_))))) | (refine And.intro (Exists.intro _ (And.intro rfl rfl)) ?_) | (exact fun hW => absurd hW (by decide +kernel)) | (intro hW; (try simp only [Bool.not_true, Bool.not_false, Bool.not_eq_true', Bool.not_eq_false', decide_eq_true_eq, decide_eq_false_iff_not, reduceCtorEq, Bool.true_eq_false, Bool.false_eq_true, mk_size, List.size_toArray, ByteArray.size_append, ByteArray.size_extract, List.length_cons, List.length_nil, ba_get, ba_empty, Int.toNat_natCast] at hW)) | (refine And.intro (?_ : _ → _) (?_ : _ → _)) | (refine FinR.drop 0 (Nat.zero_le _) (Closed.zero _) rfl ?_) | (refine FinR.keep ?_) | (refine And.intro (det3_agg rfl) ?_) | (refine fL_mk ?_) | (refine And.intro (by (try simp only [mk_size, List.size_toArray, ByteArray.size_append, ByteArray.size_extract, List.length_cons, List.length_nil]); omega) ?_) | (refine And.intro (by (try simp only [mk_size, List.size_toArray, ByteArray.size_append, ByteArray.size_extract, List.length_cons, List.length_nil, wrap64_eq]); omega) ?_) | fail)
    all_goals first | exact h0 | (exfalso; omega) | (exfalso; simp_all; done) | (refine kB' h0 ?_; rw [decide_eq_true (by omega)])
theorem d_goodV (n m : Nat) (hm : m < 2 ^ 36) (K : Cont) (h0 : K (Bo (decide (m ≠ 0))) σ) : ACall Try.prog W0 41 [ShN n, ShN m] σ K :=
  ACall.lift rfl (fun _ => rfl) (fun W1 K _ hK => c_goodV n m hm K hK) h0
theorem c_goodI (a b c d e f a' b' c' d' e' f' : Int) (h : vaB a b c d e f a' b' c' d' e' f' = false) (K : Cont) (h0 : K (Bo false) []) : ACall Try.prog W0 41 [Sh a b c d e f, Sh a' b' c' d' e' f'] [] K := by
  refine by41 (Nat.le_of_ble_eq_true rfl) ?_
  unfold vaB at h
  cases hs : shB6 a b c d e f with
  | false =>
    repeat' ((conv => whnf); first | (refine Exists.intro ([] : List Nat) ?_) | (refine And.intro rfl ?_) | (refine And.intro (by decide +kernel) ?_) | (refine And.intro trivial ?_) | (refine d_l2Sheet (h0 := ?_) ..; rw [hs]) | (refine Exists.intro _ (And.intro rfl (And.intro rfl (And.intro (Nat.le_of_ble_eq_true rfl) ?_)))) | (refine Exists.intro _ (And.intro rfl (And.intro rfl (And.intro rfl (And.intro (Nat.le_of_ble_eq_true rfl) ?_))))) | (refine And.intro (Exists.intro _ (And.intro rfl rfl)) ?_) | (exact fun hW => absurd hW (by decide +kernel)) | (intro hW; (try simp only [Bool.not_true, Bool.not_false, Bool.not_eq_true', Bool.not_eq_false', decide_eq_true_eq, decide_eq_false_iff_not, reduceCtorEq, Bool.true_eq_false, Bool.false_eq_true, mk_size, List.size_toArray, ByteArray.size_append, ByteArray.size_extract, List.length_cons, List.length_nil, ba_get, ba_empty, Int.toNat_natCast] at hW)) | (refine And.intro (?_ : _ → _) (?_ : _ → _)) | (refine FinR.drop 0 (Nat.zero_le _) (Closed.zero _) rfl ?_) | (refine FinR.keep ?_) | (refine And.intro (det3_agg rfl) ?_) | (refine fL_mk ?_) | (refine And.intro (by (try simp only [mk_size, List.size_toArray, ByteArray.size_append, ByteArray.size_extract, List.length_cons, List.length_nil]); omega) ?_) | (refine And.intro (by (try simp only [mk_size, List.size_toArray, ByteArray.size_append, ByteArray.size_extract, List.length_cons, List.length_nil, wrap64_eq]); omega) ?_) | fail)
    all_goals first | exact h0 | (exfalso; simp_all; done)
  | true =>
    rw [hs, Bool.true_and] at h
    repeat' ((conv => whnf); first | (refine Exists.intro ([] : List Nat) ?_) | (refine And.intro rfl ?_) | (refine And.intro (by decide +kernel) ?_) | (refine And.intro trivial ?_) | (refine d_l2Sheet (a := a) (b := b) (c := c) (d := d) (e := e) (f := f) (h0 := ?_) ..; rw [hs]) | (refine d_l2Sheet (a := a') (b := b') (c := c') (d := d') (e := e') (f := f') (h0 := ?_) ..; rw [h]) | (refine Exists.intro _ (And.intro rfl (And.intro rfl (And.intro (Nat.le_of_ble_eq_true rfl) ?_)))) | (refine Exists.intro _ (And.intro rfl (And.intro rfl (And.intro rfl (And.intro (Nat.le_of_ble_eq_true rfl) ?_))))) | (refine And.intro (Exists.intro _ (And.intro rfl rfl)) ?_) | (exact fun hW => absurd hW (by decide +kernel)) | (intro hW; (try simp only [Bool.not_true, Bool.not_false, Bool.not_eq_true', Bool.not_eq_false', decide_eq_true_eq, decide_eq_false_iff_not, reduceCtorEq, Bool.true_eq_false, Bool.false_eq_true, mk_size, List.size_toArray, ByteArray.size_append, ByteArray.size_extract, List.length_cons, List.length_nil, ba_get, ba_empty, Int.toNat_natCast] at hW)) | (refine And.intro (?_ : _ → _) (?_ : _ → _)) | (refine FinR.drop 0 (Nat.zero_le _) (Closed.zero _) rfl ?_) | (refine FinR.keep ?_) | (refine And.intro (det3_agg rfl) ?_) | (refine fL_mk ?_) | (refine And.intro (by (try simp only [mk_size, List.size_toArray, ByteArray.size_append, ByteArray.size_extract, List.length_cons, List.length_nil]); omega) ?_) | (refine And.intro (by (try simp only [mk_size, List.size_toArray, ByteArray.size_append, ByteArray.size_extract, List.length_cons, List.length_nil, wrap64_eq]); omega) ?_) | fail)
    all_goals first | exact h0 | (exfalso; simp_all; done)
theorem d_goodI (a b c d e f a' b' c' d' e' f' : Int) (h : vaB a b c d e f a' b' c' d' e' f' = false) (K : Cont) (h0 : K (Bo false) σ) : ACall Try.prog W0 41 [Sh a b c d e f, Sh a' b' c' d' e' f'] σ K :=
  ACall.lift rfl (fun _ => rfl) (fun W1 K _ hK => c_goodI a b c d e f a' b' c' d' e' f' h K hK) h0
/-- whether it can be played -/
inductive Pl : (a b c d e f a' b' c' d' e' f' : Int) → Option (Nat × Nat) → Prop
  | yes (n m : Nat) (hn : n < 2 ^ 36) (hm : m < 2 ^ 36) (h0 : m ≠ 0) : Pl (rowN n 0 : Nat) (rowN n 1 : Nat) (rowN n 2 : Nat) (rowN n 3 : Nat) (rowN n 4 : Nat) (rowN n 5 : Nat) (rowN m 0 : Nat) (rowN m 1 : Nat) (rowN m 2 : Nat) (rowN m 3 : Nat) (rowN m 4 : Nat) (rowN m 5 : Nat) (some (n, m))
  | zero (n : Nat) (hn : n < 2 ^ 36) : Pl (rowN n 0 : Nat) (rowN n 1 : Nat) (rowN n 2 : Nat) (rowN n 3 : Nat) (rowN n 4 : Nat) (rowN n 5 : Nat) (rowN 0 0 : Nat) (rowN 0 1 : Nat) (rowN 0 2 : Nat) (rowN 0 3 : Nat) (rowN 0 4 : Nat) (rowN 0 5 : Nat) none
  | bad (a b c d e f a' b' c' d' e' f' : Int) (h : vaB a b c d e f a' b' c' d' e' f' = false) : Pl a b c d e f a' b' c' d' e' f' none
theorem pl_all (a b c d e f a' b' c' d' e' f' : Int) : ∃ o, Pl a b c d e f a' b' c' d' e' f' o := by
  cases h : vaB a b c d e f a' b' c' d' e' f' with
  | false => exact ⟨none, .bad a b c d e f a' b' c' d' e' f' h⟩
  | true =>
    unfold vaB at h
    rw [Bool.and_eq_true] at h
    obtain ⟨n, hn, e0, e1, e2, e3, e4, e5⟩ := shN_of h.1
    obtain ⟨m, hm, r0, r1, r2, r3, r4, r5⟩ := shN_of h.2
    rw [← e0, ← e1, ← e2, ← e3, ← e4, ← e5, ← r0, ← r1, ← r2, ← r3, ← r4, ← r5]
    by_cases h0 : m = 0
    · subst h0; exact ⟨none, .zero n hn⟩
    · exact ⟨some (n, m), .yes n m hn hm h0⟩
theorem d_playN (a b c d e f a' b' c' d' e' f' : Int) (h : Pl a b c d e f a' b' c' d' e' f' none) (K : Cont) (h0 : ∀ p q, K (.tup [U p, U q, Bo false]) σ) : ACall Try.prog W0 43 [Sh a b c d e f, Sh a' b' c' d' e' f'] σ K := by
  cases h with
  | zero n hn => exact d_playV n 0 hn (by decide) K (h0 _ _)
  | bad _ _ _ _ _ _ _ _ _ _ _ _ h =>
    refine ACall.frame (K0 := fun v σ' => ∃ p q, v = .tup [U p, U q, Bo false] ∧ σ' = []) rfl (fun W1 _ => c_playI a b c d e f a' b' c' d' e' f' h _ fun p q => ⟨p, q, rfl, rfl⟩) ?_
    rintro v σ' ⟨p, q, rfl, rfl⟩
    show K _ (σ ++ [])
    rw [List.append_nil]; exact h0 p q
theorem d_goodN10 (a b c d e f a' b' c' d' e' f' : Int) (h : Pl a b c d e f a' b' c' d' e' f' none) (K : Cont) (h0 : K (Bo false) σ) : ACall Try.prog W0 41 [Sh a b c d e f, Sh a' b' c' d' e' f'] σ K := by
  cases h with
  | zero n hn => exact d_goodV n 0 (by decide) K h0
  | bad _ _ _ _ _ _ _ _ _ _ _ _ h => exact d_goodI a b c d e f a' b' c' d' e' f' h K h0
theorem d_playY (n m : Nat) (hn : n < 2 ^ 36) (hm : m < 2 ^ 36) (hz : m ≠ 0) (K : Cont) (h0 : K (.tup [U n, U m, Bo true]) σ) : ACall Try.prog W0 43 [ShN n, ShN m] σ K :=
  d_playV n m hn hm K (by rw [decide_eq_true hz]; exact h0)
theorem d_goodY (n m : Nat) (hm : m < 2 ^ 36) (hz : m ≠ 0) (K : Cont) (h0 : K (Bo true) σ) : ACall Try.prog W0 41 [ShN n, ShN m] σ K :=
  d_goodV n m hm K (by rw [decide_eq_true hz]; exact h0)
structure GPX where
  i : Nat
  S : List Blk
  v : Nat
  cp : Nat
end Go.Proofs.Ytcclhjohpicleaa
end

section
/- Games: values of sheets, by what can come of one press; plain laws. -/
set_option linter.unusedVariables false
set_option linter.unusedSimpArgs false
namespace Go.Proofs.Ytcclhjohpicleaa
open Go Go.RowKit Go.Proofs.Ytcclhjohpicleaa.Abs
/-- a value that the values of the next sheets tell -/
def gmV {β : Type} (m : Nat) (g : List β → β) : Nat → Nat → β
  | 0, _ => g []
  | f + 1, n => g ((nxL n m).map (gmV m g f))
theorem gmV_any {β : Type} {m : Nat} (g : List β → β) (hm : m < 2 ^ 36) (hz : m ≠ 0) : ∀ f n, n < 2 ^ 36 → 2 ^ 36 - n ≤ f → ∀ f', 2 ^ 36 - n ≤ f' → gmV m g f n = gmV m g f' n
  | 0, n, hn, h, _, _ => by omega
  | f + 1, n, hn, h, 0, h' => by omega
  | f + 1, n, hn, h, f' + 1, h' => by
    show g ((nxL n m).map (gmV m g f)) = g ((nxL n m).map (gmV m g f'))
    congr 1
    refine List.map_congr_left fun x hx => ?_
    have h1 := nxL_gt hn hm hz x hx
    have h2 := nxL_lt hn x hx
    exact gmV_any g hm hz f x h2 (by omega) f' (by omega)
/-- there is such a value -/
theorem gmV_has {β : Type} {m : Nat} (g : List β → β) (hm : m < 2 ^ 36) (hz : m ≠ 0) : ∃ V : Nat → β, ∀ n, n < 2 ^ 36 → V n = g ((nxL n m).map V) := by
  refine ⟨fun n => gmV m g (2 ^ 36 - n) n, fun n hn => ?_⟩
  show gmV m g (2 ^ 36 - n) n = _
  obtain ⟨f, hf⟩ : ∃ f, 2 ^ 36 - n = f + 1 := ⟨2 ^ 36 - n - 1, by omega⟩
  rw [gmV_any g hm hz (2 ^ 36 - n) n hn (Nat.le_refl _) (f + 1) (by omega)]
  show g ((nxL n m).map (gmV m g f)) = _
  congr 1
  refine List.map_congr_left fun x hx => ?_
  have h1 := nxL_gt hn hm hz x hx
  have h2 := nxL_lt hn x hx
  exact gmV_any g hm hz f x h2 (by omega) (2 ^ 36 - x) (Nat.le_refl _)
/-- the greatest, or the least, of one more than each; none: 0 -/
def gLs (most : Bool) : List Nat → Option Nat → Option Nat
  | [], o => o
  | x :: l, none => gLs most l (some (x + 1))
  | x :: l, some b => gLs most l (some (if most then max b (x + 1) else min b (x + 1)))
def gL (most : Bool) (l : List Nat) : Nat := (gLs most l none).getD 0
theorem gLs_snoc (most : Bool) : ∀ (l : List Nat) (x : Nat) (o : Option Nat), gLs most (l ++ [x]) o = gLs most [x] (gLs most l o)
  | [], x, o => rfl
  | y :: l, x, none => by show gLs most (l ++ [x]) _ = _; rw [gLs_snoc]; rfl
  | y :: l, x, some b => by show gLs most (l ++ [x]) _ = _; rw [gLs_snoc]; rfl
theorem gLs_pos (most : Bool) : ∀ (l : List Nat) (o : Option Nat), (∀ b, o = some b → 0 < b) → ∀ b, gLs most l o = some b → 0 < b
  | [], o, h, b, hb => h b hb
  | x :: l, none, h, b, hb => gLs_pos most l (some (x + 1)) (fun b hb => by cases hb; omega) b hb
  | x :: l, some c, h, b, hb => gLs_pos most l _ (fun b hb => by
      cases hb
      have := h c rfl
      cases most <;> simp <;> omega) b hb
theorem gLs_some (most : Bool) : ∀ (l : List Nat) (o : Option Nat), (l ≠ [] ∨ o ≠ none) → gLs most l o ≠ none
  | [], o, h => by rcases h with h | h; exact absurd rfl h; exact h
  | x :: l, none, h => gLs_some most l _ (.inr (by simp))
  | x :: l, some c, h => gLs_some most l _ (.inr (by simp))
theorem gLs_le (most : Bool) {M : Nat} : ∀ (l : List Nat) (o : Option Nat), (∀ x ∈ l, x + 1 ≤ M) → (∀ b, o = some b → b ≤ M) → ∀ b, gLs most l o = some b → b ≤ M
  | [], o, _, h, b, hb => h b hb
  | x :: l, none, hl, h, b, hb => gLs_le most l _ (fun y hy => hl y (List.mem_cons_of_mem _ hy)) (fun b hb => by cases hb; exact hl x List.mem_cons_self) b hb
  | x :: l, some c, hl, h, b, hb => gLs_le most l _ (fun y hy => hl y (List.mem_cons_of_mem _ hy)) (fun b hb => by
      cases hb
      have h1 := h c rfl
      have h2 := hl x List.mem_cons_self
      cases most <;> simp <;> omega) b hb
/-- values of lengths are small -/
theorem len_le {m : Nat} (hm : m < 2 ^ 36) (hz : m ≠ 0) (most : Bool) {V : Nat → Nat} (hV : ∀ n, n < 2 ^ 36 → V n = gL most ((nxL n m).map V)) : ∀ k n, n < 2 ^ 36 → 2 ^ 36 - n ≤ k → V n ≤ k
  | 0, n, hn, h => by omega
  | k + 1, n, hn, h => by
    rw [hV n hn]
    unfold gL
    cases hg : gLs most ((nxL n m).map V) none with
    | none => exact Nat.zero_le _
    | some b =>
      refine gLs_le most _ none (fun x hx => ?_) (fun b hb => by cases hb) b hg
      obtain ⟨y, hy, rfl⟩ := List.mem_map.1 hx
      have h1 := nxL_gt hn hm hz y hy
      have h2 := nxL_lt hn y hy
      have := len_le hm hz most hV k y h2 (by omega)
      omega
end Go.Proofs.Ytcclhjohpicleaa
end

section
/- Games: who wins and how long, by the reference. -/
set_option linter.unusedVariables false
set_option linter.unusedSimpArgs false
set_option maxRecDepth 100000
set_option maxHeartbeats 4000000
namespace Go.Proofs.Ytcclhjohpicleaa
open Go Go.RowKit Go.Proofs.Ytcclhjohpicleaa.Abs
variable {σ : List Blk}
theorem getD_mem {L : List Nat} {i : Nat} (h : i < L.length) : L.getD i 0 ∈ L := by rw [List.getD_eq_getElem?_getD, List.getElem?_eq_getElem h]; exact List.getElem_mem h
end Go.Proofs.Ytcclhjohpicleaa
end

section
/- Games: what is known of sheets, in a map; the least number that is not there. -/
set_option linter.unusedVariables false
set_option linter.unusedSimpArgs false
set_option maxRecDepth 100000
namespace Go.Proofs.Ytcclhjohpicleaa
open Go Go.RowKit Go.Proofs.Ytcclhjohpicleaa.Abs
/-- a map's cells -/
def kvE {β : Type} (enc : β → Value) (kn : List (Nat × β)) : List AV := kn.flatMap fun p => [Un p.1, .lit (enc p.2)]
def lookK {β : Type} (n : Nat) : List (Nat × β) → Option β
  | [] => none
  | p :: kn => if n = p.1 then some p.2 else lookK n kn
def putK {β : Type} (n : Nat) (v : β) : List (Nat × β) → List (Nat × β)
  | [] => [(n, v)]
  | p :: kn => if n = p.1 then (p.1, v) :: kn else p :: putK n v kn
theorem lookK_cons {β : Type} {n : Nat} {p : Nat × β} {kn : List (Nat × β)} : lookK n (p :: kn) = if n = p.1 then some p.2 else lookK n kn := rfl
theorem putK_cons {β : Type} {n : Nat} {v : β} {p : Nat × β} {kn : List (Nat × β)} : putK n v (p :: kn) = if n = p.1 then (p.1, v) :: kn else p :: putK n v kn := rfl
theorem find_kv {β : Type} (enc : β → Value) (n : Nat) : ∀ kn : List (Nat × β), findA .u64 (n : Int) (kvE enc kn) = some ((lookK n kn).map fun v => AV.lit (enc v))
  | [] => rfl
  | p :: kn => by
    show (if IntKind.u64 = IntKind.u64 then if (n : Int) = (p.1 : Int) then some (some (AV.lit (enc p.2))) else findA .u64 (n : Int) (kvE enc kn) else none) = _
    rw [if_pos rfl, find_kv enc n kn, lookK_cons]
    by_cases h : n = p.1
    · rw [if_pos h, if_pos (by omega)]; rfl
    · rw [if_neg h, if_neg (by omega)]
theorem put_kv {β : Type} (enc : β → Value) (n : Nat) (v : β) : ∀ kn : List (Nat × β), putA .u64 (n : Int) (.lit (enc v)) (kvE enc kn) = some (kvE enc (putK n v kn))
  | [] => rfl
  | p :: kn => by
    show (if IntKind.u64 = IntKind.u64 then if (n : Int) = (p.1 : Int) then some (Un p.1 :: AV.lit (enc v) :: kvE enc kn) else (putA .u64 (n : Int) (.lit (enc v)) (kvE enc kn)).map fun r => Un p.1 :: AV.lit (enc p.2) :: r else none) = _
    rw [if_pos rfl, put_kv enc n v kn, putK_cons]
    by_cases h : n = p.1
    · rw [if_pos h, if_pos (by omega)]; rfl
    · rw [if_neg h, if_neg (by omega)]; rfl
/-- what is known is so -/
def GoodK {β : Type} (V : Nat → β) (kn : List (Nat × β)) : Prop := ∀ p ∈ kn, V p.1 = p.2
theorem GoodK.look {β : Type} {V : Nat → β} {n : Nat} {v : β} : ∀ {kn : List (Nat × β)}, GoodK V kn → lookK n kn = some v → V n = v
  | [], _, h => by cases h
  | p :: kn, hg, h => by
    unfold lookK at h
    split at h
    · rename_i e
      cases h
      rw [e]; exact hg p List.mem_cons_self
    · exact GoodK.look (fun q hq => hg q (List.mem_cons_of_mem _ hq)) h
theorem GoodK.put {β : Type} {V : Nat → β} {n : Nat} : ∀ {kn : List (Nat × β)}, GoodK V kn → GoodK V (putK n (V n) kn)
  | [], _, p, hp => by rw [List.mem_singleton.1 hp]
  | q :: kn, hg, p, hp => by
    unfold putK at hp
    split at hp
    · rename_i e
      rcases List.mem_cons.1 hp with h | h
      · rw [h]; show V q.1 = V n; rw [e]
      · exact hg p (List.mem_cons_of_mem _ h)
    · rcases List.mem_cons.1 hp with h | h
      · rw [h]; exact hg q List.mem_cons_self
      · exact GoodK.put (fun r hr => hg r (List.mem_cons_of_mem _ hr)) p h
theorem GoodK.nil {β : Type} {V : Nat → β} : GoodK V [] := fun p hp => by cases hp
/-- a map in own memory -/
structure MemK {β : Type} (enc : β → Value) (S : List Blk) (bm : Nat) (B : Blk) (kn : List (Nat × β)) : Prop where
  g : S[bm]? = some B
  v : B.ver = 1
  m : mapB B = true
  c : B.cells = kvE enc kn
/-- all blocks but one stay -/
def keepX (o : Nat) (σ S : List Blk) : Prop := ∀ (j : Nat) (B : Blk), j ≠ o → σ[j]? = some B → S[j]? = some B
theorem keepX.refl (o : Nat) (σ : List Blk) : keepX o σ σ := fun _ _ _ h => h
theorem keepX.trans {o : Nat} {σ S T : List Blk} (h1 : keepX o σ S) (h2 : keepX o S T) : keepX o σ T := fun j B hj h => h2 j B hj (h1 j B hj h)
theorem keepX.of {o : Nat} {σ S : List Blk} (h : ∀ (j : Nat) (B : Blk), σ[j]? = some B → S[j]? = some B) : keepX o σ S := fun j B _ hj => h j B hj
end Go.Proofs.Ytcclhjohpicleaa
end

section
/- Games: the number of a sheet, by the program. -/
set_option linter.unusedVariables false
set_option linter.unusedSimpArgs false
set_option maxRecDepth 100000
set_option maxHeartbeats 4000000
namespace Go.Proofs.Ytcclhjohpicleaa
open Go Go.RowKit Go.Proofs.Ytcclhjohpicleaa.Abs
variable {σ : List Blk}
abbrev enN (v : Nat) : Value := .int .i64 ((v : Nat) : Int)
/-- a game: its stamp, two maps -/
abbrev bGm (m b1 b2 : Nat) : Blk := ⟨[Un m, .ptr b1 0 0, .ptr b2 0 0], 0, 74, 0, false, false⟩
theorem gm_ne {β : Type} {enc : β → Value} {S : List Blk} {m b1 b2 bg bl : Nat} {B : Blk} {kn : List (Nat × β)} (hG : S[bg]? = some (bGm m b1 b2)) (hM : MemK enc S bl B kn) : bg ≠ bl := by
  intro e
  subst e
  have := hM.g
  rw [hG] at this
  cases this
  have := hM.m
  cases this
theorem getD_memG {L : List Nat} {i : Nat} (h : i < L.length) : L.getD i 0 ∈ L := by rw [List.getD_eq_getElem?_getD, List.getElem?_eq_getElem h]; exact List.getElem_mem h
structure G13X where
  i : Nat
  S : List Blk
  v : Nat
  cp : Nat
  kn : List (Nat × Nat)
end Go.Proofs.Ytcclhjohpicleaa
end

section
/- Games: gameOf; LastWins by both sides; the law. -/
set_option linter.unusedVariables false
set_option linter.unusedSimpArgs false
set_option maxRecDepth 100000
set_option maxHeartbeats 4000000
namespace Go.Proofs.Ytcclhjohpicleaa
open Go Go.RowKit Go.Proofs.Ytcclhjohpicleaa.Abs
variable {W0 : World} {σ : List Blk}
/-- a new map -/
abbrev bNew : Blk := ⟨[], 1, 0, 2, false, false⟩
theorem new_mem {β : Type} {enc : β → Value} {S : List Blk} {b : Nat} (h : S[b]? = some bNew) : MemK enc S b bNew [] := ⟨h, rfl, rfl, rfl⟩
def smB (n m : Nat) : Bool := decide ((nxL n m).length ≤ 7)
theorem sm_dec (n m : Nat) : decide ((((nxL n m).length : Nat) : Int) ≤ 7) = smB n m := decide_eq_decide.2 (by omega)
theorem c_gameOfY (n m : Nat) (hn : n < 2 ^ 36) (hm : m < 2 ^ 36) (hz : m ≠ 0) (K : Cont) (h0 : ∀ S, S[4]? = some (bGm m 2 3) → S[2]? = some bNew → S[3]? = some bNew → K (.tup [.ptr 4 0 0, U n, Bo (smB n m)]) S) : ACall Try.prog W0 34 [ShN n, ShN m] [] K := by
  refine by34 (Nat.le_of_ble_eq_true rfl) ?_
  have hsm := sm_dec n m
  have hnx := fun (σ : List Blk) (K : Cont) => d_nexts (W0 := W0) (σ := σ) n m hn hm K
  generalize nxL n m = L at hnx hsm
  generalize smB n m = sb at hsm h0
  repeat' ((conv => whnf); first | (rw [hsm]) | (refine Exists.intro ([] : List Nat) ?_) | (refine And.intro rfl ?_) | (refine And.intro (by decide +kernel) ?_) | (refine And.intro trivial ?_) | (refine d_playY (hn := hn) (hm := hm) (hz := hz) (h0 := ?_) ..) | (refine hnx _ _ (fun S b v cap B hO hb hk => ?_)) | (refine And.intro ⟨_, hO.g, hO.v⟩ ?_) | (refine Exists.intro _ (And.intro rfl (And.intro rfl (And.intro (Nat.le_of_ble_eq_true rfl) ?_)))) | (refine Exists.intro _ (And.intro rfl (And.intro rfl (And.intro rfl (And.intro (Nat.le_of_ble_eq_true rfl) ?_))))) | (refine And.intro (Exists.intro _ (And.intro rfl rfl)) ?_) | (exact fun hW => absurd hW (by decide +kernel)) | (intro hW; (try simp only [Bool.not_true, Bool.not_false, Bool.not_eq_true', Bool.not_eq_false', decide_eq_true_eq, decide_eq_false_iff_not, reduceCtorEq, Bool.true_eq_false, Bool.false_eq_true, mk_size, List.size_toArray, ByteArray.size_append, ByteArray.size_extract, List.length_cons, List.length_nil, ba_get, ba_empty, Int.toNat_natCast] at hW)) | (refine And.intro (?_ : _ → _) (?_ : _ → _)) | (refine FinR.drop 0 (Nat.zero_le _) (Closed.zero _) rfl ?_) | (refine FinR.keep ?_) | (refine And.intro (det3_agg rfl) ?_) | (refine fL_mk ?_) | (refine And.intro (by (try simp only [mk_size, List.size_toArray, ByteArray.size_append, ByteArray.size_extract, List.length_cons, List.length_nil]); omega) ?_) | (refine And.intro (by (try simp only [mk_size, List.size_toArray, ByteArray.size_append, ByteArray.size_extract, List.length_cons, List.length_nil, wrap64_eq]); omega) ?_) | fail)
  skip
  all_goals first | (exfalso; simp_all; done) | exact h0 _ (hk 4 _ rfl) (hk 2 _ rfl) (hk 3 _ rfl)
theorem c_gameOfN (a b c d e f a' b' c' d' e' f' : Int) (h : Pl a b c d e f a' b' c' d' e' f' none) (K : Cont) (h0 : ∀ S g p, K (.tup [.ptr g 0 0, U p, Bo false]) S) : ACall Try.prog W0 34 [Sh a b c d e f, Sh a' b' c' d' e' f'] [] K := by
  refine by34 (Nat.le_of_ble_eq_true rfl) ?_
  repeat' ((conv => whnf); first | (refine Exists.intro ([] : List Nat) ?_) | (refine And.intro rfl ?_) | (refine And.intro (by decide +kernel) ?_) | (refine And.intro trivial ?_) | (refine d_playN (h := h) (h0 := fun p q => ?_) ..) | (refine Exists.intro _ (And.intro rfl (And.intro rfl (And.intro (Nat.le_of_ble_eq_true rfl) ?_)))) | (refine Exists.intro _ (And.intro rfl (And.intro rfl (And.intro rfl (And.intro (Nat.le_of_ble_eq_true rfl) ?_))))) | (refine And.intro (Exists.intro _ (And.intro rfl rfl)) ?_) | (exact fun hW => absurd hW (by decide +kernel)) | (intro hW; (try simp only [Bool.not_true, Bool.not_false, Bool.not_eq_true', Bool.not_eq_false', decide_eq_true_eq, decide_eq_false_iff_not, reduceCtorEq, Bool.true_eq_false, Bool.false_eq_true, mk_size, List.size_toArray, ByteArray.size_append, ByteArray.size_extract, List.length_cons, List.length_nil, ba_get, ba_empty, Int.toNat_natCast] at hW)) | (refine And.intro (?_ : _ → _) (?_ : _ → _)) | (refine FinR.drop 0 (Nat.zero_le _) (Closed.zero _) rfl ?_) | (refine FinR.keep ?_) | (refine And.intro (det3_agg rfl) ?_) | (refine fL_mk ?_) | (refine And.intro (by (try simp only [mk_size, List.size_toArray, ByteArray.size_append, ByteArray.size_extract, List.length_cons, List.length_nil]); omega) ?_) | (refine And.intro (by (try simp only [mk_size, List.size_toArray, ByteArray.size_append, ByteArray.size_extract, List.length_cons, List.length_nil, wrap64_eq]); omega) ?_) | fail)
  skip
  all_goals first | (exfalso; simp_all; done) | exact h0 _ _ _
theorem d_gameOfY (n m : Nat) (hn : n < 2 ^ 36) (hm : m < 2 ^ 36) (hz : m ≠ 0) (K : Cont) (h0 : ∀ S g b1 b2, S[g]? = some (bGm m b1 b2) → S[b1]? = some bNew → S[b2]? = some bNew → (∀ (j : Nat) (B : Blk), σ[j]? = some B → S[j]? = some B) → K (.tup [.ptr g 0 0, U n, Bo (smB n m)]) S) : ACall Try.prog W0 34 [ShN n, ShN m] σ K := by
  refine ACall.frame (K0 := fun v S => v = .tup [.ptr 4 0 0, U n, Bo (smB n m)] ∧ S[4]? = some (bGm m 2 3) ∧ S[2]? = some bNew ∧ S[3]? = some bNew) rfl (fun W1 _ => c_gameOfY n m hn hm hz _ fun S h1 h2 h3 => ⟨rfl, h1, h2, h3⟩) ?_
  rintro v S ⟨rfl, h1, h2, h3⟩
  exact h0 _ (σ.length + 4) (σ.length + 2) (σ.length + 3) (get_sh h1) (get_sh h2) (get_sh h3) (fun j B hj => getx1 hj)
theorem d_gameOfN (a b c d e f a' b' c' d' e' f' : Int) (h : Pl a b c d e f a' b' c' d' e' f' none) (K : Cont) (h0 : ∀ S g p, (∀ (j : Nat) (B : Blk), σ[j]? = some B → S[j]? = some B) → K (.tup [.ptr g 0 0, U p, Bo false]) S) : ACall Try.prog W0 34 [Sh a b c d e f, Sh a' b' c' d' e' f'] σ K := by
  refine ACall.frame (K0 := fun v S => ∃ g p, v = .tup [.ptr g 0 0, U p, Bo false]) rfl (fun W1 _ => c_gameOfN a b c d e f a' b' c' d' e' f' h _ fun S g p => ⟨g, p, rfl⟩) ?_
  rintro v S ⟨g, p, rfl⟩
  exact h0 _ _ _ (fun j B hj => getx1 hj)
theorem c_smallY (n m : Nat) (hn : n < 2 ^ 36) (hm : m < 2 ^ 36) (hz : m ≠ 0) (K : Cont) (h0 : K (Bo (smB n m)) []) : ACall Try.prog W0 31 [ShN n, ShN m] [] K := by
  refine by31 (Nat.le_of_ble_eq_true rfl) ?_
  have hsm := sm_dec n m
  have hnx := fun (σ : List Blk) (K : Cont) => d_sNexts (W0 := W0) (σ := σ) n m hn K
  generalize nxL n m = L at hnx hsm
  generalize smB n m = sb at hsm h0
  repeat' ((conv => whnf); first | (rw [hsm]) | (refine Exists.intro ([] : List Nat) ?_) | (refine And.intro rfl ?_) | (refine And.intro (by decide +kernel) ?_) | (refine And.intro trivial ?_) | (refine d_goodY (hm := hm) (hz := hz) (h0 := ?_) ..) | (refine hnx _ _ (fun S b v cap B hO hb hk => ?_)) | (refine And.intro ⟨_, hO.g, hO.v⟩ ?_) | (refine Exists.intro _ (And.intro rfl (And.intro rfl (And.intro (Nat.le_of_ble_eq_true rfl) ?_)))) | (refine Exists.intro _ (And.intro rfl (And.intro rfl (And.intro rfl (And.intro (Nat.le_of_ble_eq_true rfl) ?_))))) | (refine And.intro (Exists.intro _ (And.intro rfl rfl)) ?_) | (exact fun hW => absurd hW (by decide +kernel)) | (intro hW; (try simp only [Bool.not_true, Bool.not_false, Bool.not_eq_true', Bool.not_eq_false', decide_eq_true_eq, decide_eq_false_iff_not, reduceCtorEq, Bool.true_eq_false, Bool.false_eq_true, mk_size, List.size_toArray, ByteArray.size_append, ByteArray.size_extract, List.length_cons, List.length_nil, ba_get, ba_empty, Int.toNat_natCast] at hW)) | (refine And.intro (?_ : _ → _) (?_ : _ → _)) | (refine FinR.drop 0 (Nat.zero_le _) (Closed.zero _) rfl ?_) | (refine FinR.keep ?_) | (refine And.intro (det3_agg rfl) ?_) | (refine fL_mk ?_) | (refine And.intro (by (try simp only [mk_size, List.size_toArray, ByteArray.size_append, ByteArray.size_extract, List.length_cons, List.length_nil]); omega) ?_) | (refine And.intro (by (try simp only [mk_size, List.size_toArray, ByteArray.size_append, ByteArray.size_extract, List.length_cons, List.length_nil, wrap64_eq]); omega) ?_) | fail)
  skip
  all_goals first | (exfalso; simp_all; done) | exact h0
theorem d_smallY (n m : Nat) (hn : n < 2 ^ 36) (hm : m < 2 ^ 36) (hz : m ≠ 0) (K : Cont) (h0 : K (Bo (smB n m)) σ) : ACall Try.prog W0 31 [ShN n, ShN m] σ K :=
  ACall.lift rfl (fun _ => rfl) (fun W1 K _ hK => c_smallY n m hn hm hz K hK) h0
theorem c_smallN (a b c d e f a' b' c' d' e' f' : Int) (h : Pl a b c d e f a' b' c' d' e' f' none) (K : Cont) (h0 : K (Bo false) []) : ACall Try.prog W0 31 [Sh a b c d e f, Sh a' b' c' d' e' f'] [] K := by
  refine by31 (Nat.le_of_ble_eq_true rfl) ?_
  repeat' ((conv => whnf); first | (refine Exists.intro ([] : List Nat) ?_) | (refine And.intro rfl ?_) | (refine And.intro (by decide +kernel) ?_) | (refine And.intro trivial ?_) | (refine d_goodN10 (h := h) (h0 := ?_) ..) | (refine Exists.intro _ (And.intro rfl (And.intro rfl (And.intro (Nat.le_of_ble_eq_true rfl) ?_)))) | (refine Exists.intro _ (And.intro rfl (And.intro rfl (And.intro rfl (And.intro (Nat.le_of_ble_eq_true rfl) ?_))))) | (refine And.intro (Exists.intro _ (And.intro rfl rfl)) ?_) | (exact fun hW => absurd hW (by decide +kernel)) | (intro hW; (try simp only [Bool.not_true, Bool.not_false, Bool.not_eq_true', Bool.not_eq_false', decide_eq_true_eq, decide_eq_false_iff_not, reduceCtorEq, Bool.true_eq_false, Bool.false_eq_true, mk_size, List.size_toArray, ByteArray.size_append, ByteArray.size_extract, List.length_cons, List.length_nil, ba_get, ba_empty, Int.toNat_natCast] at hW)) | (refine And.intro (?_ : _ → _) (?_ : _ → _)) | (refine FinR.drop 0 (Nat.zero_le _) (Closed.zero _) rfl ?_) | (refine FinR.keep ?_) | (refine And.intro (det3_agg rfl) ?_) | (refine fL_mk ?_) | (refine And.intro (by (try simp only [mk_size, List.size_toArray, ByteArray.size_append, ByteArray.size_extract, List.length_cons, List.length_nil]); omega) ?_) | (refine And.intro (by (try simp only [mk_size, List.size_toArray, ByteArray.size_append, ByteArray.size_extract, List.length_cons, List.length_nil, wrap64_eq]); omega) ?_) | fail)
  all_goals first | (exfalso; simp_all; done) | exact h0
theorem d_smallN (a b c d e f a' b' c' d' e' f' : Int) (h : Pl a b c d e f a' b' c' d' e' f' none) (K : Cont) (h0 : K (Bo false) σ) : ACall Try.prog W0 31 [Sh a b c d e f, Sh a' b' c' d' e' f'] σ K :=
  ACall.lift rfl (fun _ => rfl) (fun W1 K _ hK => c_smallN a b c d e f a' b' c' d' e' f' h K hK) h0
/-- whether a game is asked for -/
inductive Sm : (a b c d e f a' b' c' d' e' f' : Int) → Option (Nat × Nat) → Prop
  | yes (n m : Nat) (hn : n < 2 ^ 36) (hm : m < 2 ^ 36) (hz : m ≠ 0) (hs : smB n m = true) : Sm (rowN n 0 : Nat) (rowN n 1 : Nat) (rowN n 2 : Nat) (rowN n 3 : Nat) (rowN n 4 : Nat) (rowN n 5 : Nat) (rowN m 0 : Nat) (rowN m 1 : Nat) (rowN m 2 : Nat) (rowN m 3 : Nat) (rowN m 4 : Nat) (rowN m 5 : Nat) (some (n, m))
  | big (n m : Nat) (hn : n < 2 ^ 36) (hm : m < 2 ^ 36) (hz : m ≠ 0) (hs : smB n m = false) : Sm (rowN n 0 : Nat) (rowN n 1 : Nat) (rowN n 2 : Nat) (rowN n 3 : Nat) (rowN n 4 : Nat) (rowN n 5 : Nat) (rowN m 0 : Nat) (rowN m 1 : Nat) (rowN m 2 : Nat) (rowN m 3 : Nat) (rowN m 4 : Nat) (rowN m 5 : Nat) none
  | bad (a b c d e f a' b' c' d' e' f' : Int) (h : Pl a b c d e f a' b' c' d' e' f' none) : Sm a b c d e f a' b' c' d' e' f' none
theorem sm_all (a b c d e f a' b' c' d' e' f' : Int) : ∃ o, Sm a b c d e f a' b' c' d' e' f' o := by
  obtain ⟨o, ho⟩ := pl_all a b c d e f a' b' c' d' e' f'
  cases o with
  | none => exact ⟨_, .bad a b c d e f a' b' c' d' e' f' ho⟩
  | some p =>
    cases ho with
    | yes n m hn hm hz =>
      cases hs : smB n m with
      | true => exact ⟨_, .yes n m hn hm hz hs⟩
      | false => exact ⟨_, .big n m hn hm hz hs⟩
theorem d_smallF (a b c d e f a' b' c' d' e' f' : Int) (h : Sm a b c d e f a' b' c' d' e' f' none) (K : Cont) (h0 : K (Bo false) σ) : ACall Try.prog W0 31 [Sh a b c d e f, Sh a' b' c' d' e' f'] σ K := by
  cases h with
  | big n m hn hm hz hs => exact d_smallY n m hn hm hz K (by rw [hs]; exact h0)
  | bad _ _ _ _ _ _ _ _ _ _ _ _ h => exact d_smallN a b c d e f a' b' c' d' e' f' h K h0
theorem d_gameOfF (a b c d e f a' b' c' d' e' f' : Int) (h : Sm a b c d e f a' b' c' d' e' f' none) (K : Cont) (h0 : ∀ S g p, (∀ (j : Nat) (B : Blk), σ[j]? = some B → S[j]? = some B) → K (.tup [.ptr g 0 0, U p, Bo false]) S) : ACall Try.prog W0 34 [Sh a b c d e f, Sh a' b' c' d' e' f'] σ K := by
  cases h with
  | big n m hn hm hz hs => exact d_gameOfY n m hn hm hz K fun S g b1 b2 _ _ _ hk => by rw [hs]; exact h0 S g n hk
  | bad _ _ _ _ _ _ _ _ _ _ _ _ h => exact d_gameOfN a b c d e f a' b' c' d' e' f' h K h0
theorem d_smallT (n m : Nat) (hn : n < 2 ^ 36) (hm : m < 2 ^ 36) (hz : m ≠ 0) (hs : smB n m = true) (K : Cont) (h0 : K (Bo true) σ) : ACall Try.prog W0 31 [ShN n, ShN m] σ K := d_smallY n m hn hm hz K (by rw [hs]; exact h0)
theorem d_gameOfT (n m : Nat) (hn : n < 2 ^ 36) (hm : m < 2 ^ 36) (hz : m ≠ 0) (hs : smB n m = true) (K : Cont) (h0 : ∀ S g b1 b2, S[g]? = some (bGm m b1 b2) → S[b1]? = some bNew → S[b2]? = some bNew → (∀ (j : Nat) (B : Blk), σ[j]? = some B → S[j]? = some B) → K (.tup [.ptr g 0 0, U n, Bo true]) S) : ACall Try.prog W0 34 [ShN n, ShN m] σ K :=
  d_gameOfY n m hn hm hz K (by rw [hs]; exact h0)
end Go.Proofs.Ytcclhjohpicleaa
end

section
/- Games: how long, by the reference and by the program. -/
set_option linter.unusedVariables false
set_option linter.unusedSimpArgs false
set_option maxRecDepth 100000
set_option maxHeartbeats 4000000
namespace Go.Proofs.Ytcclhjohpicleaa
open Go Go.RowKit Go.Proofs.Ytcclhjohpicleaa.Abs
variable {σ : List Blk} {W0 : World}
theorem c_most15 (a b : Int) (K : Cont) (h0 : ∀ m, (m = a ∨ m = b) → a ≤ m → b ≤ m → K (I m) []) : ACall Try.prog W0 58 [I a, I b] [] K := by
  refine by58 (Nat.le_of_ble_eq_true rfl) ?_
  repeat' ((conv => whnf); first | (refine Exists.intro ([] : List Nat) ?_) | (refine And.intro rfl ?_) | (refine And.intro (by decide +kernel) ?_) | (refine And.intro trivial ?_) | (refine Exists.intro _ (And.intro rfl (And.intro rfl (And.intro (Nat.le_of_ble_eq_true rfl) ?_)))) | (refine Exists.intro _ (And.intro rfl (And.intro rfl (And.intro rfl (And.intro (Nat.le_of_ble_eq_true rfl) ?_))))) | (refine And.intro (Exists.intro _ (And.intro rfl rfl)) ?_) | (exact fun hW => absurd hW (by decide +kernel)) | (intro hW; (try simp only [Bool.not_true, Bool.not_false, Bool.not_eq_true', Bool.not_eq_false', decide_eq_true_eq, decide_eq_false_iff_not, reduceCtorEq, Bool.true_eq_false, Bool.false_eq_true, mk_size, List.size_toArray, ByteArray.size_append, ByteArray.size_extract, List.length_cons, List.length_nil, ba_get, ba_empty, Int.toNat_natCast] at hW)) | (refine And.intro (?_ : _ → _) (?_ : _ → _)) | (refine FinR.drop 0 (Nat.zero_le _) (Closed.zero _) rfl ?_) | (refine FinR.keep ?_) | (refine And.intro (det3_agg rfl) ?_) | (refine fL_mk ?_) | (refine And.intro (by (try simp only [mk_size, List.size_toArray, ByteArray.size_append, ByteArray.size_extract, List.length_cons, List.length_nil]); omega) ?_) | (refine And.intro (by (try simp only [mk_size, List.size_toArray, ByteArray.size_append, ByteArray.size_extract, List.length_cons, List.length_nil, wrap64_eq]); omega) ?_) | fail)
  all_goals (exact h0 _ (by omega) (by omega) (by omega))
theorem d_most15 (a b : Int) (K : Cont) (h0 : ∀ m, (m = a ∨ m = b) → a ≤ m → b ≤ m → K (I m) σ) : ACall Try.prog W0 58 [I a, I b] σ K :=
  ACall.frame (K0 := fun v S => ∃ m, v = I m ∧ S = [] ∧ (m = a ∨ m = b) ∧ a ≤ m ∧ b ≤ m) rfl (fun W1 _ => c_most15 a b _ fun m h1 h2 h3 => ⟨m, rfl, rfl, h1, h2, h3⟩) (by
    rintro v S ⟨m, rfl, rfl, h1, h2, h3⟩
    show K _ (σ ++ [])
    rw [List.append_nil]
    exact h0 m h1 h2 h3)
def gO : Option Nat → Int
  | none => -1
  | some b => (b : Int)
theorem gLs_take {most : Bool} {L : List Nat} {V : Nat → Nat} {i : Nat} (h : i < L.length) : gLs most ((L.take (i + 1)).map V) none = gLs most [V (L.getD i 0)] (gLs most ((L.take i).map V) none) := by
  rw [take_ld h, List.map_append]
  exact gLs_snoc most _ _ none
theorem gLs_small {most : Bool} {L : List Nat} {V : Nat → Nat} (h : ∀ x ∈ L, V x ≤ 2 ^ 36) (i : Nat) {b : Nat} (hb : gLs most ((L.take i).map V) none = some b) : 0 < b ∧ b ≤ 2 ^ 36 + 1 := by
  refine ⟨gLs_pos most _ none (fun b hb => by cases hb) b hb, gLs_le most _ none (fun x hx => ?_) (fun b hb => by cases hb) b hb⟩
  obtain ⟨y, hy, rfl⟩ := List.mem_map.1 hx
  have := h y (List.mem_of_mem_take hy)
  omega
theorem gLs_ne {most : Bool} {L : List Nat} {V : Nat → Nat} {i : Nat} (hi : i < L.length) (hb : gLs most ((L.take (i + 1)).map V) none = none) : False := by
  refine gLs_some most _ none (.inl ?_) hb
  intro h
  have := congrArg List.length h
  rw [List.length_map, List.length_take, List.length_nil] at this
  omega
theorem c_sLenT (m : Nat) (hm : m < 2 ^ 36) (hz : m ≠ 0) (V : Nat → Nat) (hV : ∀ n, n < 2 ^ 36 → V n = gL true ((nxL n m).map V)) : ∀ (k n : Nat), n < 2 ^ 36 → 2 ^ 36 - n ≤ k → ∀ (W0 : World) (K : Cont), K (I (V n)) [] → ACall Try.prog W0 36 [ShN n, ShN m, Bo true] [] K
  | 0, n, hn, h, _, _, _ => by omega
  | k + 1, n, hn, h, W0, K, h0 => by
    have ih : ∀ x, x ∈ nxL n m → ∀ (τ : List Blk) (K : Cont), K (I (V x)) τ → ACall Try.prog W0 36 [ShN x, ShN m, Bo true] τ K := fun x hx τ K hK =>
      ACall.lift rfl (fun _ => rfl) (fun W1 K _ hK => c_sLenT m hm hz V hV k x (nxL_lt hn x hx) (by have := nxL_gt hn hm hz x hx; have := nxL_lt hn x hx; omega) W1 K hK) hK
    have hVn := hV n hn
    have h36 := nxL_len n m
    have hsm : ∀ x ∈ nxL n m, V x ≤ 2 ^ 36 := fun x hx => len_le hm hz true hV (2 ^ 36) x (nxL_lt hn x hx) (by omega)
    refine by36 (Nat.le_of_ble_eq_true rfl) ?_
    have hnx := fun (σ : List Blk) (K : Cont) => d_sNexts (W0 := W0) (σ := σ) n m hn K
    generalize nxL n m = L at ih hVn h36 hnx hsm
    unfold gL at hVn
    rw [hVn] at h0
    repeat' ((conv => whnf); first | (refine Exists.intro ([] : List Nat) ?_) | (refine And.intro rfl ?_) | (refine And.intro (by decide +kernel) ?_) | (refine And.intro trivial ?_) | (refine hnx _ _ (fun S b v cap B hO hb hk => ?_)) | (refine Exists.intro _ (And.intro rfl (And.intro rfl (And.intro (Nat.le_of_ble_eq_true rfl) ?_)))) | (refine Exists.intro _ (And.intro rfl (And.intro rfl (And.intro rfl (And.intro (Nat.le_of_ble_eq_true rfl) ?_))))) | (refine And.intro (Exists.intro _ (And.intro rfl rfl)) ?_) | (exact fun hW => absurd hW (by decide +kernel)) | (intro hW; (try simp only [Bool.not_true, Bool.not_false, Bool.not_eq_true', Bool.not_eq_false', decide_eq_true_eq, decide_eq_false_iff_not, reduceCtorEq, Bool.true_eq_false, Bool.false_eq_true, mk_size, List.size_toArray, ByteArray.size_append, ByteArray.size_extract, List.length_cons, List.length_nil, ba_get, ba_empty, Int.toNat_natCast] at hW)) | (refine And.intro (?_ : _ → _) (?_ : _ → _)) | (refine FinR.drop 0 (Nat.zero_le _) (Closed.zero _) rfl ?_) | (refine FinR.keep ?_) | (refine And.intro (det3_agg rfl) ?_) | (refine fL_mk ?_) | (refine And.intro (by (try simp only [mk_size, List.size_toArray, ByteArray.size_append, ByteArray.size_extract, List.length_cons, List.length_nil]); omega) ?_) | (refine And.intro (by (try simp only [mk_size, List.size_toArray, ByteArray.size_append, ByteArray.size_extract, List.length_cons, List.length_nil, wrap64_eq]); omega) ?_) | fail)
    skip
    have qm : S[1]? = some (bl m) := hk 1 _ rfl
    refine LoopR.live (fun x : Nat × Option Nat => [(2, Bo true), (4, .ptr 1 0 0), (7, I (gO x.2)), (8, .sl b v 0 L.length cap), (9, I x.1)]) (fun _ => S) (fun x => x.1 ≤ L.length ∧ gLs true ((L.take x.1).map V) none = x.2) (fun x => L.length - x.1) (0, none) ⟨rfl, rfl, rfl, rfl, rfl, trivial⟩ (.keep rfl) ⟨Nat.zero_le _, rfl⟩ ?_
    clear hk
    rintro ⟨i, o⟩ ⟨hi, ho⟩
    dsimp only at hi ho
    have ew : IntKind.i64.wrap ((i : Nat) + 1 : Int) = ((i + 1 : Nat) : Int) := wsucc' i (by omega)
    by_cases hlt : i < L.length
    · have o2 : 0 + ((i : Nat) : Int).toNat * 6 = i * 6 := by rw [Int.toNat_natCast]; omega
      have l2 := hO.le hlt o2
      have d2 := hO.ld hlt o2
      have hmem := getD_mem hlt
      have ihx := ih _ hmem
      have hsx := hsm _ hmem
      have hst := gLs_take (most := true) (V := V) hlt
      rw [ho] at hst
      generalize V (L.getD i 0) = y at ihx hst hsx
      have ew3 : IntKind.i64.wrap (1 + (y : Nat) : Int) = ((y + 1 : Nat) : Int) := by rw [Int.add_comm]; exact wsucc' y (by omega)
      cases o with
      | none =>
        have e1 : decide (gO none < 0) = true := rfl
        repeat' ((conv => whnf); first | (rw [e1]) | (rw [ew]) | (rw [ew3]) | (refine Exists.intro B (And.intro hO.g (And.intro hO.v (And.intro l2 ?_))); rw [d2]) | (refine Exists.intro _ (And.intro (qm) (And.intro rfl (And.intro (Nat.le_of_ble_eq_true rfl) ?_)))) | (refine Exists.intro ([] : List Nat) ?_) | (refine And.intro rfl ?_) | (refine And.intro (by decide +kernel) ?_) | (refine And.intro trivial ?_) | (refine And.intro ⟨_, hO.g, hO.v⟩ ?_) | (refine Exists.intro _ (And.intro (fun τ => callW_fn (ihx _ _ (And.intro rfl rfl))) ?_)) | (refine Exists.intro _ (And.intro rfl (And.intro rfl (And.intro (Nat.le_of_ble_eq_true rfl) ?_)))) | (refine Exists.intro _ (And.intro rfl (And.intro rfl (And.intro rfl (And.intro (Nat.le_of_ble_eq_true rfl) ?_))))) | (refine And.intro (Exists.intro _ (And.intro rfl rfl)) ?_) | (exact fun hW => absurd hW (by decide +kernel)) | (intro hW; (try simp only [Bool.not_true, Bool.not_false, Bool.not_eq_true', Bool.not_eq_false', decide_eq_true_eq, decide_eq_false_iff_not, reduceCtorEq, Bool.true_eq_false, Bool.false_eq_true, mk_size, List.size_toArray, ByteArray.size_append, ByteArray.size_extract, List.length_cons, List.length_nil, ba_get, ba_empty, Int.toNat_natCast] at hW)) | (refine And.intro (?_ : _ → _) (?_ : _ → _)) | (refine FinR.drop 0 (Nat.zero_le _) (Closed.zero _) rfl ?_) | (refine FinR.keep ?_) | (refine And.intro (det3_agg rfl) ?_) | (refine fL_mk ?_) | (refine And.intro (by (try simp only [mk_size, List.size_toArray, ByteArray.size_append, ByteArray.size_extract, List.length_cons, List.length_nil]); omega) ?_) | (refine And.intro (by (try simp only [mk_size, List.size_toArray, ByteArray.size_append, ByteArray.size_extract, List.length_cons, List.length_nil, wrap64_eq]); omega) ?_) | fail)
        all_goals first | (exfalso; omega) | (exfalso; simp_all; done) | skip
        skip
        exact Again.go (i + 1, some (y + 1)) ⟨rfl, rfl, rfl, rfl, rfl, trivial⟩ (.keep rfl) ⟨by show i + 1 ≤ L.length; omega, hst⟩ (by show L.length - (i + 1) < L.length - i; omega)
      | some c =>
        have hc := gLs_small hsm i ho
        have e1 : decide (gO (some c) < 0) = false := decide_eq_false (by show ¬ ((c : Nat) : Int) < 0; omega)
        by_cases hgt : c < y + 1
        · have e2 : decide (gO (some c) < ((y + 1 : Nat) : Int)) = true := decide_eq_true (by show ((c : Nat) : Int) < ((y + 1 : Nat) : Int); omega)
          have hst2 : gLs true ((L.take (i + 1)).map V) none = some (y + 1) := by
            rw [hst]
            show some (max c (y + 1)) = _
            rw [show max c (y + 1) = y + 1 by omega]
          repeat' ((conv => whnf); first | (rw [e1]) | (rw [e2]) | (rw [ew]) | (rw [ew3]) | (refine Exists.intro B (And.intro hO.g (And.intro hO.v (And.intro l2 ?_))); rw [d2]) | (refine Exists.intro _ (And.intro (qm) (And.intro rfl (And.intro (Nat.le_of_ble_eq_true rfl) ?_)))) | (refine Exists.intro ([] : List Nat) ?_) | (refine And.intro rfl ?_) | (refine And.intro (by decide +kernel) ?_) | (refine And.intro trivial ?_) | (refine And.intro ⟨_, hO.g, hO.v⟩ ?_) | (refine Exists.intro _ (And.intro (fun τ => callW_fn (ihx _ _ (And.intro rfl rfl))) ?_)) | (refine Exists.intro _ (And.intro rfl (And.intro rfl (And.intro (Nat.le_of_ble_eq_true rfl) ?_)))) | (refine Exists.intro _ (And.intro rfl (And.intro rfl (And.intro rfl (And.intro (Nat.le_of_ble_eq_true rfl) ?_))))) | (refine And.intro (Exists.intro _ (And.intro rfl rfl)) ?_) | (exact fun hW => absurd hW (by decide +kernel)) | (intro hW; (try simp only [Bool.not_true, Bool.not_false, Bool.not_eq_true', Bool.not_eq_false', decide_eq_true_eq, decide_eq_false_iff_not, reduceCtorEq, Bool.true_eq_false, Bool.false_eq_true, mk_size, List.size_toArray, ByteArray.size_append, ByteArray.size_extract, List.length_cons, List.length_nil, ba_get, ba_empty, Int.toNat_natCast] at hW)) | (refine And.intro (?_ : _ → _) (?_ : _ → _)) | (refine FinR.drop 0 (Nat.zero_le _) (Closed.zero _) rfl ?_) | (refine FinR.keep ?_) | (refine And.intro (det3_agg rfl) ?_) | (refine fL_mk ?_) | (refine And.intro (by (try simp only [mk_size, List.size_toArray, ByteArray.size_append, ByteArray.size_extract, List.length_cons, List.length_nil]); omega) ?_) | (refine And.intro (by (try simp only [mk_size, List.size_toArray, ByteArray.size_append, ByteArray.size_extract, List.length_cons, List.length_nil, wrap64_eq]); omega) ?_) | fail)
          all_goals first | (exfalso; omega) | (exfalso; simp_all; done) | skip
          skip
          exact Again.go (i + 1, some (y + 1)) ⟨rfl, rfl, rfl, rfl, rfl, trivial⟩ (.keep rfl) ⟨by show i + 1 ≤ L.length; omega, hst2⟩ (by show L.length - (i + 1) < L.length - i; omega)
        · have e2 : decide (gO (some c) < ((y + 1 : Nat) : Int)) = false := decide_eq_false (by show ¬ (((c : Nat) : Int) < ((y + 1 : Nat) : Int)); omega)
          have hst2 : gLs true ((L.take (i + 1)).map V) none = some c := by
            rw [hst]
            show some (max c (y + 1)) = _
            rw [show max c (y + 1) = c by omega]
          repeat' ((conv => whnf); first | (rw [e1]) | (rw [e2]) | (rw [ew]) | (rw [ew3]) | (refine Exists.intro B (And.intro hO.g (And.intro hO.v (And.intro l2 ?_))); rw [d2]) | (refine Exists.intro _ (And.intro (qm) (And.intro rfl (And.intro (Nat.le_of_ble_eq_true rfl) ?_)))) | (refine Exists.intro ([] : List Nat) ?_) | (refine And.intro rfl ?_) | (refine And.intro (by decide +kernel) ?_) | (refine And.intro trivial ?_) | (refine And.intro ⟨_, hO.g, hO.v⟩ ?_) | (refine Exists.intro _ (And.intro (fun τ => callW_fn (ihx _ _ (And.intro rfl rfl))) ?_)) | (refine Exists.intro _ (And.intro rfl (And.intro rfl (And.intro (Nat.le_of_ble_eq_true rfl) ?_)))) | (refine Exists.intro _ (And.intro rfl (And.intro rfl (And.intro rfl (And.intro (Nat.le_of_ble_eq_true rfl) ?_))))) | (refine And.intro (Exists.intro _ (And.intro rfl rfl)) ?_) | (exact fun hW => absurd hW (by decide +kernel)) | (intro hW; (try simp only [Bool.not_true, Bool.not_false, Bool.not_eq_true', Bool.not_eq_false', decide_eq_true_eq, decide_eq_false_iff_not, reduceCtorEq, Bool.true_eq_false, Bool.false_eq_true, mk_size, List.size_toArray, ByteArray.size_append, ByteArray.size_extract, List.length_cons, List.length_nil, ba_get, ba_empty, Int.toNat_natCast] at hW)) | (refine And.intro (?_ : _ → _) (?_ : _ → _)) | (refine FinR.drop 0 (Nat.zero_le _) (Closed.zero _) rfl ?_) | (refine FinR.keep ?_) | (refine And.intro (det3_agg rfl) ?_) | (refine fL_mk ?_) | (refine And.intro (by (try simp only [mk_size, List.size_toArray, ByteArray.size_append, ByteArray.size_extract, List.length_cons, List.length_nil]); omega) ?_) | (refine And.intro (by (try simp only [mk_size, List.size_toArray, ByteArray.size_append, ByteArray.size_extract, List.length_cons, List.length_nil, wrap64_eq]); omega) ?_) | fail)
          all_goals first | (exfalso; omega) | (exfalso; simp_all; done) | skip
          skip
          exact Again.go (i + 1, some c) ⟨rfl, rfl, rfl, rfl, rfl, trivial⟩ (.keep rfl) ⟨by show i + 1 ≤ L.length; omega, hst2⟩ (by show L.length - (i + 1) < L.length - i; omega)
    · obtain rfl : i = L.length := by omega
      rw [List.take_length] at ho
      rw [ho] at h0
      have hmx : ∀ q : Int, (q = gO o ∨ q = 0) → gO o ≤ q → 0 ≤ q → q = ((o.getD 0 : Nat) : Int) := by
        cases o with
        | none => intro q h1 h2 h3; change q = -1 ∨ q = 0 at h1; show q = 0; omega
        | some c => intro q h1 h2 h3; change q = (c : Int) ∨ q = 0 at h1; change (c : Int) ≤ q at h2; show q = (c : Int); omega
      repeat' ((conv => whnf); first | (rw [hmx _ h1 h2 h3]) | (refine Exists.intro ([] : List Nat) ?_) | (refine And.intro rfl ?_) | (refine And.intro (by decide +kernel) ?_) | (refine And.intro trivial ?_) | (refine And.intro ⟨_, hO.g, hO.v⟩ ?_) | (refine d_most15 _ _ _ (fun q h1 h2 h3 => ?_)) | (refine Exists.intro _ (And.intro rfl (And.intro rfl (And.intro (Nat.le_of_ble_eq_true rfl) ?_)))) | (refine Exists.intro _ (And.intro rfl (And.intro rfl (And.intro rfl (And.intro (Nat.le_of_ble_eq_true rfl) ?_))))) | (refine And.intro (Exists.intro _ (And.intro rfl rfl)) ?_) | (exact fun hW => absurd hW (by decide +kernel)) | (intro hW; (try simp only [Bool.not_true, Bool.not_false, Bool.not_eq_true', Bool.not_eq_false', decide_eq_true_eq, decide_eq_false_iff_not, reduceCtorEq, Bool.true_eq_false, Bool.false_eq_true, mk_size, List.size_toArray, ByteArray.size_append, ByteArray.size_extract, List.length_cons, List.length_nil, ba_get, ba_empty, Int.toNat_natCast] at hW)) | (refine And.intro (?_ : _ → _) (?_ : _ → _)) | (refine FinR.drop 0 (Nat.zero_le _) (Closed.zero _) rfl ?_) | (refine FinR.keep ?_) | (refine And.intro (det3_agg rfl) ?_) | (refine fL_mk ?_) | (refine And.intro (by (try simp only [mk_size, List.size_toArray, ByteArray.size_append, ByteArray.size_extract, List.length_cons, List.length_nil]); omega) ?_) | (refine And.intro (by (try simp only [mk_size, List.size_toArray, ByteArray.size_append, ByteArray.size_extract, List.length_cons, List.length_nil, wrap64_eq]); omega) ?_) | fail)
      skip
      all_goals first | (exfalso; omega) | exact h0 | (exfalso; simp_all; done)
theorem d_sLenT (m : Nat) (hm : m < 2 ^ 36) (hz : m ≠ 0) (V : Nat → Nat) (hV : ∀ n, n < 2 ^ 36 → V n = gL true ((nxL n m).map V)) (n : Nat) (hn : n < 2 ^ 36) (K : Cont) (h0 : K (I (V n)) σ) : ACall Try.prog W0 36 [ShN n, ShN m, Bo true] σ K :=
  ACall.lift rfl (fun _ => rfl) (fun W1 K _ hK => c_sLenT m hm hz V hV _ n hn (Nat.le_refl _) W1 K hK) h0
theorem c_sLongestGameT (n m : Nat) (hn : n < 2 ^ 36) (hm : m < 2 ^ 36) (hz : m ≠ 0) (hs : smB n m = true) (V : Nat → Nat) (hV : ∀ n, n < 2 ^ 36 → V n = gL true ((nxL n m).map V)) (K : Cont) (h0 : K (.tup [I (V n), Bo true]) []) : ACall Try.prog W0 13 [ShN n, ShN m] [] K := by
  refine by13 (Nat.le_of_ble_eq_true rfl) ?_
  repeat' ((conv => whnf); first | (refine Exists.intro ([] : List Nat) ?_) | (refine And.intro rfl ?_) | (refine And.intro (by decide +kernel) ?_) | (refine And.intro trivial ?_) | (refine d_smallT (hn := hn) (hm := hm) (hz := hz) (hs := hs) (h0 := ?_) ..) | (refine d_sLenT (hm := hm) (hz := hz) (hV := hV) (hn := hn) (h0 := ?_) ..) | (refine Exists.intro _ (And.intro rfl (And.intro rfl (And.intro (Nat.le_of_ble_eq_true rfl) ?_)))) | (refine Exists.intro _ (And.intro rfl (And.intro rfl (And.intro rfl (And.intro (Nat.le_of_ble_eq_true rfl) ?_))))) | (refine And.intro (Exists.intro _ (And.intro rfl rfl)) ?_) | (exact fun hW => absurd hW (by decide +kernel)) | (intro hW; (try simp only [Bool.not_true, Bool.not_false, Bool.not_eq_true', Bool.not_eq_false', decide_eq_true_eq, decide_eq_false_iff_not, reduceCtorEq, Bool.true_eq_false, Bool.false_eq_true, mk_size, List.size_toArray, ByteArray.size_append, ByteArray.size_extract, List.length_cons, List.length_nil, ba_get, ba_empty, Int.toNat_natCast] at hW)) | (refine And.intro (?_ : _ → _) (?_ : _ → _)) | (refine FinR.drop 0 (Nat.zero_le _) (Closed.zero _) rfl ?_) | (refine FinR.keep ?_) | (refine And.intro (det3_agg rfl) ?_) | (refine fL_mk ?_) | (refine And.intro (by (try simp only [mk_size, List.size_toArray, ByteArray.size_append, ByteArray.size_extract, List.length_cons, List.length_nil]); omega) ?_) | (refine And.intro (by (try simp only [mk_size, List.size_toArray, ByteArray.size_append, ByteArray.size_extract, List.length_cons, List.length_nil, wrap64_eq]); omega) ?_) | fail)
  all_goals first | (exfalso; simp_all; done) | exact h0
theorem d_sLongestGameT (n m : Nat) (hn : n < 2 ^ 36) (hm : m < 2 ^ 36) (hz : m ≠ 0) (hs : smB n m = true) (V : Nat → Nat) (hV : ∀ n, n < 2 ^ 36 → V n = gL true ((nxL n m).map V)) (K : Cont) (h0 : K (.tup [I (V n), Bo true]) σ) : ACall Try.prog W0 13 [ShN n, ShN m] σ K :=
  ACall.lift rfl (fun _ => rfl) (fun W1 K _ hK => c_sLongestGameT n m hn hm hz hs V hV K hK) h0
theorem c_sLongestGameF (a b c d e f a' b' c' d' e' f' : Int) (h : Sm a b c d e f a' b' c' d' e' f' none) (K : Cont) (h0 : K (.tup [I 0, Bo false]) []) : ACall Try.prog W0 13 [Sh a b c d e f, Sh a' b' c' d' e' f'] [] K := by
  refine by13 (Nat.le_of_ble_eq_true rfl) ?_
  repeat' ((conv => whnf); first | (refine Exists.intro ([] : List Nat) ?_) | (refine And.intro rfl ?_) | (refine And.intro (by decide +kernel) ?_) | (refine And.intro trivial ?_) | (refine d_smallF (h := h) (h0 := ?_) ..) | (refine Exists.intro _ (And.intro rfl (And.intro rfl (And.intro (Nat.le_of_ble_eq_true rfl) ?_)))) | (refine Exists.intro _ (And.intro rfl (And.intro rfl (And.intro rfl (And.intro (Nat.le_of_ble_eq_true rfl) ?_))))) | (refine And.intro (Exists.intro _ (And.intro rfl rfl)) ?_) | (exact fun hW => absurd hW (by decide +kernel)) | (intro hW; (try simp only [Bool.not_true, Bool.not_false, Bool.not_eq_true', Bool.not_eq_false', decide_eq_true_eq, decide_eq_false_iff_not, reduceCtorEq, Bool.true_eq_false, Bool.false_eq_true, mk_size, List.size_toArray, ByteArray.size_append, ByteArray.size_extract, List.length_cons, List.length_nil, ba_get, ba_empty, Int.toNat_natCast] at hW)) | (refine And.intro (?_ : _ → _) (?_ : _ → _)) | (refine FinR.drop 0 (Nat.zero_le _) (Closed.zero _) rfl ?_) | (refine FinR.keep ?_) | (refine And.intro (det3_agg rfl) ?_) | (refine fL_mk ?_) | (refine And.intro (by (try simp only [mk_size, List.size_toArray, ByteArray.size_append, ByteArray.size_extract, List.length_cons, List.length_nil]); omega) ?_) | (refine And.intro (by (try simp only [mk_size, List.size_toArray, ByteArray.size_append, ByteArray.size_extract, List.length_cons, List.length_nil, wrap64_eq]); omega) ?_) | fail)
  all_goals first | (exfalso; simp_all; done) | exact h0
theorem d_sLongestGameF (a b c d e f a' b' c' d' e' f' : Int) (h : Sm a b c d e f a' b' c' d' e' f' none) (K : Cont) (h0 : K (.tup [I 0, Bo false]) σ) : ACall Try.prog W0 13 [Sh a b c d e f, Sh a' b' c' d' e' f'] σ K :=
  ACall.lift rfl (fun _ => rfl) (fun W1 K _ hK => c_sLongestGameF a b c d e f a' b' c' d' e' f' h K hK) h0
theorem c_chT (a b : Int) (K : Cont) (h0 : K (I ((if b > a then b else a))) []) : ACall Try.prog W0 38 [I a, I b] [] K := by
  refine by38 (Nat.le_of_ble_eq_true rfl) ?_
  repeat' ((conv => whnf); first | (refine Exists.intro ([] : List Nat) ?_) | (refine And.intro rfl ?_) | (refine And.intro (by decide +kernel) ?_) | (refine And.intro trivial ?_) | (refine Exists.intro _ (And.intro rfl (And.intro rfl (And.intro (Nat.le_of_ble_eq_true rfl) ?_)))) | (refine Exists.intro _ (And.intro rfl (And.intro rfl (And.intro rfl (And.intro (Nat.le_of_ble_eq_true rfl) ?_))))) | (refine And.intro (Exists.intro _ (And.intro rfl rfl)) ?_) | (exact fun hW => absurd hW (by decide +kernel)) | (intro hW; (try simp only [Bool.not_true, Bool.not_false, Bool.not_eq_true', Bool.not_eq_false', decide_eq_true_eq, decide_eq_false_iff_not, reduceCtorEq, Bool.true_eq_false, Bool.false_eq_true, mk_size, List.size_toArray, ByteArray.size_append, ByteArray.size_extract, List.length_cons, List.length_nil, ba_get, ba_empty, Int.toNat_natCast] at hW)) | (refine And.intro (?_ : _ → _) (?_ : _ → _)) | (refine FinR.drop 0 (Nat.zero_le _) (Closed.zero _) rfl ?_) | (refine FinR.keep ?_) | (refine And.intro (det3_agg rfl) ?_) | (refine fL_mk ?_) | (refine And.intro (by (try simp only [mk_size, List.size_toArray, ByteArray.size_append, ByteArray.size_extract, List.length_cons, List.length_nil]); omega) ?_) | (refine And.intro (by (try simp only [mk_size, List.size_toArray, ByteArray.size_append, ByteArray.size_extract, List.length_cons, List.length_nil, wrap64_eq]); omega) ?_) | fail)
  skip
  all_goals first | exact h0 | (exfalso; simp_all; done)
theorem d_chT (a b : Int) (K : Cont) (h0 : K (I ((if b > a then b else a))) σ) : ACall Try.prog W0 38 [I a, I b] σ K :=
  ACall.lift rfl (fun _ => rfl) (fun W1 K _ hK => c_chT a b K hK) h0
structure G15T where
  i : Nat
  S : List Blk
  q : Nat
  kn : List (Nat × Nat)
theorem c_lenT (m : Nat) (hm : m < 2 ^ 36) (hz : m ≠ 0) (V : Nat → Nat) (hV : ∀ n, n < 2 ^ 36 → V n = gL true ((nxL n m).map V)) : ∀ (k n : Nat), n < 2 ^ 36 → 2 ^ 36 - n ≤ k → ∀ (W0 : World) (σ : List Blk) (bg b1 b2 b3 : Nat) (BL : Blk) (kn : List (Nat × Nat)), σ[bg]? = some (bGm m b1 b2) → MemK enN σ b3 BL kn → GoodK V kn → ∀ K : Cont, (∀ S B' kn', MemK enN S b3 B' kn' → GoodK V kn' → keepX b3 σ S → σ.length ≤ S.length → K (I (V n)) S) → ACall Try.prog W0 37 [.ptr bg 0 0, U n, .lit (.func (.func 38) #[] #[]), .ptr b3 0 0] σ K
  | 0, n, hn, h, _, _, _, _, _, _, _, _, _, _, _, _, _ => by omega
  | k + 1, n, hn, h, W0, σ, bg, b1, b2, b3, BL, kn, hG, hM, hg, K, h0 => by
    have ih : ∀ x, x ∈ nxL n m → ∀ (S : List Blk) (BL : Blk) (kn : List (Nat × Nat)), S[bg]? = some (bGm m b1 b2) → MemK enN S b3 BL kn → GoodK V kn → ∀ K : Cont, (∀ S' B' kn', MemK enN S' b3 B' kn' → GoodK V kn' → keepX b3 S S' → S.length ≤ S'.length → K (I (V x)) S') → ACall Try.prog W0 37 [.ptr bg 0 0, U x, .lit (.func (.func 38) #[] #[]), .ptr b3 0 0] S K := fun x hx S BL kn q1 q2 q3 K hK =>
      c_lenT m hm hz V hV k x (nxL_lt hn x hx) (by have := nxL_gt hn hm hz x hx; have := nxL_lt hn x hx; omega) W0 S bg b1 b2 b3 BL kn q1 q2 q3 K hK
    have hVn := hV n hn
    have h36 := nxL_len n m
    have hsm : ∀ x ∈ nxL n m, V x ≤ 2 ^ 36 := fun x hx => len_le hm hz true hV (2 ^ 36) x (nxL_lt hn x hx) (by omega)
    have hne := gm_ne hG hM
    have hfind := find_kv enN n kn
    rw [← hM.c] at hfind
    refine by37 (Nat.le_of_ble_eq_true rfl) ?_
    cases hlk : lookK n kn with
    | some v =>
      rw [hlk] at hfind
      have hv := hg.look hlk
      rw [hv] at h0
      have h0' := h0 σ BL kn hM hg (keepX.refl _ _) (Nat.le_refl _)
      repeat' ((conv => whnf); first | (refine Exists.intro ([] : List Nat) ?_) | (refine And.intro rfl ?_) | (refine And.intro (by decide +kernel) ?_) | (refine And.intro trivial ?_) | (refine Exists.intro BL (And.intro hM.g (And.intro hM.v (And.intro hM.m (And.intro rfl (Exists.intro _ (And.intro hfind ?_))))))) | (refine Exists.intro _ (And.intro rfl (And.intro rfl (And.intro (Nat.le_of_ble_eq_true rfl) ?_)))) | (refine Exists.intro _ (And.intro rfl (And.intro rfl (And.intro rfl (And.intro (Nat.le_of_ble_eq_true rfl) ?_))))) | (refine And.intro (Exists.intro _ (And.intro rfl rfl)) ?_) | (exact fun hW => absurd hW (by decide +kernel)) | (intro hW; (try simp only [Bool.not_true, Bool.not_false, Bool.not_eq_true', Bool.not_eq_false', decide_eq_true_eq, decide_eq_false_iff_not, reduceCtorEq, Bool.true_eq_false, Bool.false_eq_true, mk_size, List.size_toArray, ByteArray.size_append, ByteArray.size_extract, List.length_cons, List.length_nil, ba_get, ba_empty, Int.toNat_natCast] at hW)) | (refine And.intro (?_ : _ → _) (?_ : _ → _)) | (refine FinR.drop 0 (Nat.zero_le _) (Closed.zero _) rfl ?_) | (refine FinR.keep ?_) | (refine And.intro (det3_agg rfl) ?_) | (refine fL_mk ?_) | (refine And.intro (by (try simp only [mk_size, List.size_toArray, ByteArray.size_append, ByteArray.size_extract, List.length_cons, List.length_nil]); omega) ?_) | (refine And.intro (by (try simp only [mk_size, List.size_toArray, ByteArray.size_append, ByteArray.size_extract, List.length_cons, List.length_nil, wrap64_eq]); omega) ?_) | fail)
      skip
      all_goals first | (exfalso; simp_all; done) | exact FinR.keep h0' | exact h0'
    | none =>
      rw [hlk] at hfind
      have hnx := fun (σ : List Blk) (K : Cont) => d_nexts (W0 := W0) (σ := σ) n m hn hm K
      generalize nxL n m = L at ih hVn h36 hnx hsm
      unfold gL at hVn
      repeat' ((conv => whnf); first | (refine Exists.intro ([] : List Nat) ?_) | (refine And.intro rfl ?_) | (refine And.intro (by decide +kernel) ?_) | (refine And.intro trivial ?_) | (refine Exists.intro BL (And.intro hM.g (And.intro hM.v (And.intro hM.m (And.intro rfl (Exists.intro _ (And.intro hfind ?_))))))) | (refine And.intro ⟨_, hG, rfl⟩ ?_) | (refine Exists.intro _ (And.intro (hG) (And.intro rfl (And.intro (Nat.le_of_ble_eq_true rfl) ?_)))) | (refine hnx _ _ (fun S1 bx vx cx Bx hf fb k1 => ?_)) | (refine And.intro ⟨_, hf.g, hf.v⟩ ?_) | (refine Exists.intro _ (And.intro rfl (And.intro rfl (And.intro (Nat.le_of_ble_eq_true rfl) ?_)))) | (refine Exists.intro _ (And.intro rfl (And.intro rfl (And.intro rfl (And.intro (Nat.le_of_ble_eq_true rfl) ?_))))) | (refine And.intro (Exists.intro _ (And.intro rfl rfl)) ?_) | (exact fun hW => absurd hW (by decide +kernel)) | (intro hW; (try simp only [Bool.not_true, Bool.not_false, Bool.not_eq_true', Bool.not_eq_false', decide_eq_true_eq, decide_eq_false_iff_not, reduceCtorEq, Bool.true_eq_false, Bool.false_eq_true, mk_size, List.size_toArray, ByteArray.size_append, ByteArray.size_extract, List.length_cons, List.length_nil, ba_get, ba_empty, Int.toNat_natCast] at hW)) | (refine And.intro (?_ : _ → _) (?_ : _ → _)) | (refine FinR.drop 0 (Nat.zero_le _) (Closed.zero _) rfl ?_) | (refine FinR.keep ?_) | (refine And.intro (det3_agg rfl) ?_) | (refine fL_mk ?_) | (refine And.intro (by (try simp only [mk_size, List.size_toArray, ByteArray.size_append, ByteArray.size_extract, List.length_cons, List.length_nil]); omega) ?_) | (refine And.intro (by (try simp only [mk_size, List.size_toArray, ByteArray.size_append, ByteArray.size_extract, List.length_cons, List.length_nil, wrap64_eq]); omega) ?_) | fail)
      all_goals first | (exfalso; simp_all; done) | skip
      skip
      have hbg := getElem?_lt hG
      have hb3 := getElem?_lt hM.g
      have hfb : σ.length ≤ bx := by simpa using fb
      refine LoopR.live (fun x : G15T => [(0, .ptr bg 0 0), (1, U n), (2, .lit (.func (.func 38) #[] #[])), (3, .ptr b3 0 0), (11, I x.q), (28, .sl bx vx 0 L.length cx), (29, I L.length), (30, I x.i)]) (fun x => x.S) (fun x => x.i ≤ L.length ∧ (∃ BL, MemK enN x.S b3 BL x.kn) ∧ GoodK V x.kn ∧ keepX b3 σ x.S ∧ σ.length ≤ x.S.length ∧ Own x.S bx vx Bx L ∧ x.q = (gLs true ((L.take x.i).map V) none).getD 0) (fun x => L.length - x.i) ⟨0, S1, 0, kn⟩ ⟨rfl, rfl, rfl, rfl, rfl, rfl, rfl, rfl, trivial⟩ (.keep rfl) ⟨Nat.zero_le _, ⟨BL, k1 _ _ hM.g, hM.v, hM.m, hM.c⟩, hg, keepX.of fun j B hj => k1 j B hj, (by have := getElem?_lt hf.g; show σ.length ≤ S1.length; omega), hf, rfl⟩ ?_
      clear hf k1 hfind hlk hM hg
      rintro ⟨i, S, q, kn⟩ ⟨hi, ⟨BL, hM⟩, hg, hk, hlen, hf, hq⟩
      dsimp only at hi hM hg hk hlen hf hq
      have ew : IntKind.i64.wrap ((i : Nat) + 1 : Int) = ((i + 1 : Nat) : Int) := wsucc' i (by omega)
      have hG' := hk bg _ hne hG
      by_cases hlti : i < L.length
      · have o1 : 0 + ((i : Nat) : Int).toNat * 1 = i := by rw [Int.toNat_natCast]; omega
        have l1 := hf.le hlti o1
        have d1 := hf.ld hlti o1
        have hmem := getD_memG hlti
        have hrec := fun (K : Cont) => ih _ hmem S BL kn hG' hM hg K
        have hsx := hsm _ hmem
        have hst := gLs_take (most := true) (V := V) hlti
        generalize V (L.getD i 0) = y at hrec hst hsx
        have ew3 : IntKind.i64.wrap (1 + (y : Nat) : Int) = ((y + 1 : Nat) : Int) := by rw [Int.add_comm]; exact wsucc' y (by omega)
        cases i with
        | zero =>
          have hst1 : gLs true ((L.take (0 + 1)).map V) none = some (y + 1) := hst
          have hch := fun (σ : List Blk) (K : Cont) (h : K (I ((y + 1 : Nat) : Int)) σ) => d_chT (W0 := W0) (σ := σ) ((y + 1 : Nat) : Int) ((y + 1 : Nat) : Int) K (by rw [show (if ((y + 1 : Nat) : Int) > ((y + 1 : Nat) : Int) then ((y + 1 : Nat) : Int) else ((y + 1 : Nat) : Int)) = ((y + 1 : Nat) : Int) by split <;> omega]; exact h)
          repeat' ((conv => whnf); first | (rw [ew]) | (rw [ew3]) | (refine Exists.intro Bx (And.intro hf.g (And.intro hf.v (And.intro l1 ?_))); rw [d1]) | (refine Exists.intro ([] : List Nat) ?_) | (refine And.intro rfl ?_) | (refine And.intro (by decide +kernel) ?_) | (refine And.intro trivial ?_) | (refine And.intro ⟨_, hf.g, hf.v⟩ ?_) | (refine hrec _ (fun S2 B2 kn2 hM2 hg2 hk2 hl2 => ?_)) | (refine hch _ _ ?_) | (refine Exists.intro _ (And.intro rfl (And.intro rfl (And.intro (Nat.le_of_ble_eq_true rfl) ?_)))) | (refine Exists.intro _ (And.intro rfl (And.intro rfl (And.intro rfl (And.intro (Nat.le_of_ble_eq_true rfl) ?_))))) | (refine And.intro (Exists.intro _ (And.intro rfl rfl)) ?_) | (exact fun hW => absurd hW (by decide +kernel)) | (intro hW; (try simp only [Bool.not_true, Bool.not_false, Bool.not_eq_true', Bool.not_eq_false', decide_eq_true_eq, decide_eq_false_iff_not, reduceCtorEq, Bool.true_eq_false, Bool.false_eq_true, mk_size, List.size_toArray, ByteArray.size_append, ByteArray.size_extract, List.length_cons, List.length_nil, ba_get, ba_empty, Int.toNat_natCast] at hW)) | (refine And.intro (?_ : _ → _) (?_ : _ → _)) | (refine FinR.drop 0 (Nat.zero_le _) (Closed.zero _) rfl ?_) | (refine FinR.keep ?_) | (refine And.intro (det3_agg rfl) ?_) | (refine fL_mk ?_) | (refine And.intro (by (try simp only [mk_size, List.size_toArray, ByteArray.size_append, ByteArray.size_extract, List.length_cons, List.length_nil]); omega) ?_) | (refine And.intro (by (try simp only [mk_size, List.size_toArray, ByteArray.size_append, ByteArray.size_extract, List.length_cons, List.length_nil, wrap64_eq]); omega) ?_) | fail)
          all_goals first | (exfalso; omega) | skip
          skip
          exact Again.go ⟨0 + 1, S2, y + 1, kn2⟩ ⟨rfl, rfl, rfl, rfl, rfl, rfl, rfl, rfl, trivial⟩ (.keep rfl) ⟨by show 0 + 1 ≤ L.length; omega, ⟨B2, hM2⟩, hg2, fun j B hj hB => hk2 j B hj (hk j B hj hB), by show σ.length ≤ S2.length; omega, ⟨hk2 _ _ (by omega) hf.g, hf.v, hf.c⟩, by show y + 1 = _; rw [hst1]; rfl⟩ (by show L.length - (0 + 1) < L.length - 0; omega)
        | succ i =>
          cases ho : gLs true ((L.take (i + 1)).map V) none with
          | none => exact (gLs_ne (by omega) ho).elim
          | some c =>
            rw [ho] at hst hq
            have hq : q = c := hq
            subst hq
            have hst1 : gLs true ((L.take (i + 1 + 1)).map V) none = some (max q (y + 1)) := hst
            have hch := fun (σ : List Blk) (K : Cont) (h : K (I ((max q (y + 1) : Nat) : Int)) σ) => d_chT (W0 := W0) (σ := σ) ((q : Nat) : Int) ((y + 1 : Nat) : Int) K (by rw [show (if ((y + 1 : Nat) : Int) > ((q : Nat) : Int) then ((y + 1 : Nat) : Int) else ((q : Nat) : Int)) = ((max q (y + 1) : Nat) : Int) by split <;> omega]; exact h)
            repeat' ((conv => whnf); first | (rw [ew]) | (rw [ew3]) | (refine Exists.intro Bx (And.intro hf.g (And.intro hf.v (And.intro l1 ?_))); rw [d1]) | (refine Exists.intro ([] : List Nat) ?_) | (refine And.intro rfl ?_) | (refine And.intro (by decide +kernel) ?_) | (refine And.intro trivial ?_) | (refine And.intro ⟨_, hf.g, hf.v⟩ ?_) | (refine hrec _ (fun S2 B2 kn2 hM2 hg2 hk2 hl2 => ?_)) | (refine hch _ _ ?_) | (refine Exists.intro _ (And.intro rfl (And.intro rfl (And.intro (Nat.le_of_ble_eq_true rfl) ?_)))) | (refine Exists.intro _ (And.intro rfl (And.intro rfl (And.intro rfl (And.intro (Nat.le_of_ble_eq_true rfl) ?_))))) | (refine And.intro (Exists.intro _ (And.intro rfl rfl)) ?_) | (exact fun hW => absurd hW (by decide +kernel)) | (intro hW; (try simp only [Bool.not_true, Bool.not_false, Bool.not_eq_true', Bool.not_eq_false', decide_eq_true_eq, decide_eq_false_iff_not, reduceCtorEq, Bool.true_eq_false, Bool.false_eq_true, mk_size, List.size_toArray, ByteArray.size_append, ByteArray.size_extract, List.length_cons, List.length_nil, ba_get, ba_empty, Int.toNat_natCast] at hW)) | (refine And.intro (?_ : _ → _) (?_ : _ → _)) | (refine FinR.drop 0 (Nat.zero_le _) (Closed.zero _) rfl ?_) | (refine FinR.keep ?_) | (refine And.intro (det3_agg rfl) ?_) | (refine fL_mk ?_) | (refine And.intro (by (try simp only [mk_size, List.size_toArray, ByteArray.size_append, ByteArray.size_extract, List.length_cons, List.length_nil]); omega) ?_) | (refine And.intro (by (try simp only [mk_size, List.size_toArray, ByteArray.size_append, ByteArray.size_extract, List.length_cons, List.length_nil, wrap64_eq]); omega) ?_) | fail)
            all_goals first | (exfalso; omega) | skip
            skip
            exact Again.go ⟨i + 1 + 1, S2, max q (y + 1), kn2⟩ ⟨rfl, rfl, rfl, rfl, rfl, rfl, rfl, rfl, trivial⟩ (.keep rfl) ⟨by show i + 1 + 1 ≤ L.length; omega, ⟨B2, hM2⟩, hg2, fun j B hj hB => hk2 j B hj (hk j B hj hB), by show σ.length ≤ S2.length; omega, ⟨hk2 _ _ (by omega) hf.g, hf.v, hf.c⟩, by show max q (y + 1) = _; rw [hst1]; rfl⟩ (by show L.length - (i + 1 + 1) < L.length - (i + 1); omega)
      · obtain rfl : i = L.length := by omega
        rw [List.take_length] at hq
        rw [← hq] at hVn
        have hput := put_kv enN n q kn
        rw [← hM.c] at hput
        have h0' : K (I q) (S.set b3 { BL with cells := kvE enN (putK n q kn) }) := by
          have hgp := hg.put (n := n)
          rw [hVn] at hgp h0
          exact h0 _ _ (putK n q kn) ⟨getsG hM.g, hM.v, hM.m, rfl⟩ hgp (fun j B hj hB => getnG (hk j B hj hB) (Ne.symm hj)) (by rw [List.length_set]; exact hlen)
        repeat' ((conv => whnf); first | (refine Exists.intro ([] : List Nat) ?_) | (refine And.intro rfl ?_) | (refine And.intro (by decide +kernel) ?_) | (refine And.intro trivial ?_) | (refine Exists.intro BL (And.intro hM.g (And.intro hM.v (And.intro hM.m (And.intro rfl (And.intro rfl (Exists.intro _ (And.intro hput ?_)))))))) | (refine fS_mk ?_) | (refine Exists.intro _ (And.intro rfl (And.intro rfl (And.intro (Nat.le_of_ble_eq_true rfl) ?_)))) | (refine Exists.intro _ (And.intro rfl (And.intro rfl (And.intro rfl (And.intro (Nat.le_of_ble_eq_true rfl) ?_))))) | (refine And.intro (Exists.intro _ (And.intro rfl rfl)) ?_) | (exact fun hW => absurd hW (by decide +kernel)) | (intro hW; (try simp only [Bool.not_true, Bool.not_false, Bool.not_eq_true', Bool.not_eq_false', decide_eq_true_eq, decide_eq_false_iff_not, reduceCtorEq, Bool.true_eq_false, Bool.false_eq_true, mk_size, List.size_toArray, ByteArray.size_append, ByteArray.size_extract, List.length_cons, List.length_nil, ba_get, ba_empty, Int.toNat_natCast] at hW)) | (refine And.intro (?_ : _ → _) (?_ : _ → _)) | (refine FinR.drop 0 (Nat.zero_le _) (Closed.zero _) rfl ?_) | (refine FinR.keep ?_) | (refine And.intro (det3_agg rfl) ?_) | (refine fL_mk ?_) | (refine And.intro (by (try simp only [mk_size, List.size_toArray, ByteArray.size_append, ByteArray.size_extract, List.length_cons, List.length_nil]); omega) ?_) | (refine And.intro (by (try simp only [mk_size, List.size_toArray, ByteArray.size_append, ByteArray.size_extract, List.length_cons, List.length_nil, wrap64_eq]); omega) ?_) | fail)
        all_goals first | (exfalso; omega) | (exfalso; simp_all; done) | skip
        skip
        all_goals first | exact FinR.keep h0' | exact h0'
theorem d_lenT (m : Nat) (hm : m < 2 ^ 36) (hz : m ≠ 0) (V : Nat → Nat) (hV : ∀ n, n < 2 ^ 36 → V n = gL true ((nxL n m).map V)) (n : Nat) (hn : n < 2 ^ 36) (bg b1 b2 b3 : Nat) (h1 : σ[bg]? = some (bGm m b1 b2)) (h2 : σ[b3]? = some bNew) (K : Cont) (h0 : ∀ S, K (I (V n)) S) : ACall Try.prog W0 37 [.ptr bg 0 0, U n, .lit (.func (.func 38) #[] #[]), .ptr b3 0 0] σ K :=
  c_lenT m hm hz V hV _ n hn (Nat.le_refl _) W0 σ bg b1 b2 b3 bNew [] h1 (new_mem h2) GoodK.nil K fun S _ _ _ _ _ _ => h0 S
theorem c_LongestGameT (n m : Nat) (hn : n < 2 ^ 36) (hm : m < 2 ^ 36) (hz : m ≠ 0) (hs : smB n m = true) (V : Nat → Nat) (hV : ∀ n, n < 2 ^ 36 → V n = gL true ((nxL n m).map V)) (K : Cont) (h0 : K (.tup [I (V n), Bo true]) []) : ACall Try.prog W0 14 [ShN n, ShN m] [] K := by
  refine by14 (Nat.le_of_ble_eq_true rfl) ?_
  generalize hvn : V n = q at h0
  have hnum := fun (σ : List Blk) (bg b1 b2 b3 : Nat) (h1 : σ[bg]? = some (bGm m b1 b2)) (h2 : σ[b3]? = some bNew) (K : Cont) (hK : ∀ S, K (I q) S) => d_lenT (W0 := W0) (σ := σ) m hm hz V hV n hn bg b1 b2 b3 h1 h2 K (fun S => by rw [hvn]; exact hK S)
  repeat' ((conv => whnf); first | (refine Exists.intro ([] : List Nat) ?_) | (refine And.intro rfl ?_) | (refine And.intro (by decide +kernel) ?_) | (refine And.intro trivial ?_) | (refine d_gameOfT (hn := hn) (hm := hm) (hz := hz) (hs := hs) (h0 := fun S g b1 b2 g1 g2 g3 hk => ?_) ..) | (refine fS_mk ?_) | (refine hnum _ _ _ _ _ (getx1 g1) getl _ (fun S2 => ?_)) | (refine Exists.intro _ (And.intro rfl (And.intro rfl (And.intro (Nat.le_of_ble_eq_true rfl) ?_)))) | (refine Exists.intro _ (And.intro rfl (And.intro rfl (And.intro rfl (And.intro (Nat.le_of_ble_eq_true rfl) ?_))))) | (refine And.intro (Exists.intro _ (And.intro rfl rfl)) ?_) | (exact fun hW => absurd hW (by decide +kernel)) | (intro hW; (try simp only [Bool.not_true, Bool.not_false, Bool.not_eq_true', Bool.not_eq_false', decide_eq_true_eq, decide_eq_false_iff_not, reduceCtorEq, Bool.true_eq_false, Bool.false_eq_true, mk_size, List.size_toArray, ByteArray.size_append, ByteArray.size_extract, List.length_cons, List.length_nil, ba_get, ba_empty, Int.toNat_natCast] at hW)) | (refine And.intro (?_ : _ → _) (?_ : _ → _)) | (refine FinR.drop 0 (Nat.zero_le _) (Closed.zero _) rfl ?_) | (refine FinR.keep ?_) | (refine And.intro (det3_agg rfl) ?_) | (refine fL_mk ?_) | (refine And.intro (by (try simp only [mk_size, List.size_toArray, ByteArray.size_append, ByteArray.size_extract, List.length_cons, List.length_nil]); omega) ?_) | (refine And.intro (by (try simp only [mk_size, List.size_toArray, ByteArray.size_append, ByteArray.size_extract, List.length_cons, List.length_nil, wrap64_eq]); omega) ?_) | fail)
  skip
  all_goals first | (exfalso; simp_all; done) | exact h0
theorem d_LongestGameT (n m : Nat) (hn : n < 2 ^ 36) (hm : m < 2 ^ 36) (hz : m ≠ 0) (hs : smB n m = true) (V : Nat → Nat) (hV : ∀ n, n < 2 ^ 36 → V n = gL true ((nxL n m).map V)) (K : Cont) (h0 : K (.tup [I (V n), Bo true]) σ) : ACall Try.prog W0 14 [ShN n, ShN m] σ K :=
  ACall.lift rfl (fun _ => rfl) (fun W1 K _ hK => c_LongestGameT n m hn hm hz hs V hV K hK) h0
theorem c_LongestGameF (a b c d e f a' b' c' d' e' f' : Int) (h : Sm a b c d e f a' b' c' d' e' f' none) (K : Cont) (h0 : K (.tup [I 0, Bo false]) []) : ACall Try.prog W0 14 [Sh a b c d e f, Sh a' b' c' d' e' f'] [] K := by
  refine by14 (Nat.le_of_ble_eq_true rfl) ?_
  repeat' ((conv => whnf); first | (refine Exists.intro ([] : List Nat) ?_) | (refine And.intro rfl ?_) | (refine And.intro (by decide +kernel) ?_) | (refine And.intro trivial ?_) | (refine d_gameOfF (h := h) (h0 := fun S g p hk => ?_) ..) | (refine Exists.intro _ (And.intro rfl (And.intro rfl (And.intro (Nat.le_of_ble_eq_true rfl) ?_)))) | (refine Exists.intro _ (And.intro rfl (And.intro rfl (And.intro rfl (And.intro (Nat.le_of_ble_eq_true rfl) ?_))))) | (refine And.intro (Exists.intro _ (And.intro rfl rfl)) ?_) | (exact fun hW => absurd hW (by decide +kernel)) | (intro hW; (try simp only [Bool.not_true, Bool.not_false, Bool.not_eq_true', Bool.not_eq_false', decide_eq_true_eq, decide_eq_false_iff_not, reduceCtorEq, Bool.true_eq_false, Bool.false_eq_true, mk_size, List.size_toArray, ByteArray.size_append, ByteArray.size_extract, List.length_cons, List.length_nil, ba_get, ba_empty, Int.toNat_natCast] at hW)) | (refine And.intro (?_ : _ → _) (?_ : _ → _)) | (refine FinR.drop 0 (Nat.zero_le _) (Closed.zero _) rfl ?_) | (refine FinR.keep ?_) | (refine And.intro (det3_agg rfl) ?_) | (refine fL_mk ?_) | (refine And.intro (by (try simp only [mk_size, List.size_toArray, ByteArray.size_append, ByteArray.size_extract, List.length_cons, List.length_nil]); omega) ?_) | (refine And.intro (by (try simp only [mk_size, List.size_toArray, ByteArray.size_append, ByteArray.size_extract, List.length_cons, List.length_nil, wrap64_eq]); omega) ?_) | fail)
  all_goals first | (exfalso; simp_all; done) | exact h0
theorem d_LongestGameF (a b c d e f a' b' c' d' e' f' : Int) (h : Sm a b c d e f a' b' c' d' e' f' none) (K : Cont) (h0 : K (.tup [I 0, Bo false]) σ) : ACall Try.prog W0 14 [Sh a b c d e f, Sh a' b' c' d' e' f'] σ K :=
  ACall.lift rfl (fun _ => rfl) (fun W1 K _ hK => c_LongestGameF a b c d e f a' b' c' d' e' f' h K hK) h0
theorem c_law_LongestGame (a : Int) (ha : IntKind.i64.has a) (b : Int) (hb : IntKind.i64.has b) (c : Int) (hc : IntKind.i64.has c) (d : Int) (hd : IntKind.i64.has d) (e : Int) (he : IntKind.i64.has e) (f : Int) (hf : IntKind.i64.has f) (a' : Int) (ha' : IntKind.i64.has a') (b' : Int) (hb' : IntKind.i64.has b') (c' : Int) (hc' : IntKind.i64.has c') (d' : Int) (hd' : IntKind.i64.has d') (e' : Int) (he' : IntKind.i64.has e') (f' : Int) (hf' : IntKind.i64.has f') (K : Cont) (h0 : K (Bo true) []) : ACall Try.prog W0 4 [Sh a b c d e f, Sh a' b' c' d' e' f'] [] K := by
  refine by4 (Nat.le_of_ble_eq_true rfl) ?_
  obtain ⟨o, ho⟩ := sm_all a b c d e f a' b' c' d' e' f'
  cases o with
  | none =>
    repeat' ((conv => whnf); first | (refine Exists.intro ([] : List Nat) ?_) | (refine And.intro rfl ?_) | (refine And.intro (by decide +kernel) ?_) | (refine And.intro trivial ?_) | (refine d_toSheet (h0 := ?_) ..) | (refine Exists.intro _ (And.intro (fun τ => callW_fn (d_toSheet (h0 := And.intro rfl rfl) ..)) ?_)) | (refine Exists.intro _ (And.intro (callW_fn (d_toSheet (h0 := And.intro rfl rfl) ..)) (And.intro trivial ?_))) | (refine Exists.intro _ (And.intro (callW_fn (d_toSheet (h0 := And.intro rfl rfl) ..)) ?_)) | (refine Exists.intro _ (And.intro (fun τ _ => callW_fn (d_toSheet (h0 := And.intro rfl rfl) ..)) ?_)) | (refine d_sLongestGameF (h := ho) (h0 := ?_) ..) | (refine Exists.intro _ (And.intro (fun τ => callW_fn (d_sLongestGameF (h := ho) (h0 := And.intro rfl rfl) ..)) ?_)) | (refine Exists.intro _ (And.intro (callW_fn (d_sLongestGameF (h := ho) (h0 := And.intro rfl rfl) ..)) (And.intro trivial ?_))) | (refine Exists.intro _ (And.intro (callW_fn (d_sLongestGameF (h := ho) (h0 := And.intro rfl rfl) ..)) ?_)) | (refine Exists.intro _ (And.intro (fun τ _ => callW_fn (d_sLongestGameF (h := ho) (h0 := And.intro rfl rfl) ..)) ?_)) | (refine d_LongestGameF (h := ho) (h0 := ?_) ..) | (refine Exists.intro _ (And.intro (fun τ => callW_fn (d_LongestGameF (h := ho) (h0 := And.intro rfl rfl) ..)) ?_)) | (refine Exists.intro _ (And.intro (callW_fn (d_LongestGameF (h := ho) (h0 := And.intro rfl rfl) ..)) (And.intro trivial ?_))) | (refine Exists.intro _ (And.intro (callW_fn (d_LongestGameF (h := ho) (h0 := And.intro rfl rfl) ..)) ?_)) | (refine Exists.intro _ (And.intro (fun τ _ => callW_fn (d_LongestGameF (h := ho) (h0 := And.intro rfl rfl) ..)) ?_)) | (refine Exists.intro _ (And.intro rfl (And.intro rfl (And.intro (Nat.le_of_ble_eq_true rfl) ?_)))) | (refine Exists.intro _ (And.intro rfl (And.intro rfl (And.intro rfl (And.intro (Nat.le_of_ble_eq_true rfl) ?_))))) | (refine And.intro (Exists.intro _ (And.intro rfl rfl)) ?_) | (exact fun hW => absurd hW (by decide +kernel)) | (intro hW; (try simp only [Bool.not_true, Bool.not_false, Bool.not_eq_true', Bool.not_eq_false', decide_eq_true_eq, decide_eq_false_iff_not, reduceCtorEq, Bool.true_eq_false, Bool.false_eq_true, mk_size, List.size_toArray, ByteArray.size_append, ByteArray.size_extract, List.length_cons, List.length_nil, ba_get, ba_empty, Int.toNat_natCast] at hW)) | (refine And.intro (?_ : _ → _) (?_ : _ → _)) | (refine FinR.drop 0 (Nat.zero_le _) (Closed.zero _) rfl ?_) | (refine FinR.keep ?_) | (refine And.intro (det3_agg rfl) ?_) | (refine fL_mk ?_) | (refine And.intro (by (try simp only [mk_size, List.size_toArray, ByteArray.size_append, ByteArray.size_extract, List.length_cons, List.length_nil]); omega) ?_) | (refine And.intro (by (try simp only [mk_size, List.size_toArray, ByteArray.size_append, ByteArray.size_extract, List.length_cons, List.length_nil, wrap64_eq]); omega) ?_) | fail)
    all_goals first | exact h0 | (exfalso; simp_all; done)
  | some p =>
    cases ho with
    | yes n m hn hm hz hs =>
      obtain ⟨V, hV⟩ := gmV_has (gL true) hm hz
      have q1 := fun (σ : List Blk) (K : Cont) (h : K (.tup [I (V n), Bo true]) σ) => d_sLongestGameT (W0 := W0) (σ := σ) n m hn hm hz hs V hV K h
      have q2 := fun (σ : List Blk) (K : Cont) (h : K (.tup [I (V n), Bo true]) σ) => d_LongestGameT (W0 := W0) (σ := σ) n m hn hm hz hs V hV K h
      generalize V n = w at q1 q2
      repeat' ((conv => whnf); first | (refine Exists.intro ([] : List Nat) ?_) | (refine And.intro rfl ?_) | (refine And.intro (by decide +kernel) ?_) | (refine And.intro trivial ?_) | (refine d_toSheet (h0 := ?_) ..) | (refine Exists.intro _ (And.intro (fun τ => callW_fn (d_toSheet (h0 := And.intro rfl rfl) ..)) ?_)) | (refine Exists.intro _ (And.intro (callW_fn (d_toSheet (h0 := And.intro rfl rfl) ..)) (And.intro trivial ?_))) | (refine Exists.intro _ (And.intro (callW_fn (d_toSheet (h0 := And.intro rfl rfl) ..)) ?_)) | (refine Exists.intro _ (And.intro (fun τ _ => callW_fn (d_toSheet (h0 := And.intro rfl rfl) ..)) ?_)) | (refine Exists.intro _ (And.intro (fun τ => callW_fn (q1 _ _ (And.intro rfl rfl))) ?_)) | (refine Exists.intro _ (And.intro (fun τ => callW_fn (q2 _ _ (And.intro rfl rfl))) ?_)) | (refine Exists.intro _ (And.intro rfl (And.intro rfl (And.intro (Nat.le_of_ble_eq_true rfl) ?_)))) | (refine Exists.intro _ (And.intro rfl (And.intro rfl (And.intro rfl (And.intro (Nat.le_of_ble_eq_true rfl) ?_))))) | (refine And.intro (Exists.intro _ (And.intro rfl rfl)) ?_) | (exact fun hW => absurd hW (by decide +kernel)) | (intro hW; (try simp only [Bool.not_true, Bool.not_false, Bool.not_eq_true', Bool.not_eq_false', decide_eq_true_eq, decide_eq_false_iff_not, reduceCtorEq, Bool.true_eq_false, Bool.false_eq_true, mk_size, List.size_toArray, ByteArray.size_append, ByteArray.size_extract, List.length_cons, List.length_nil, ba_get, ba_empty, Int.toNat_natCast] at hW)) | (refine And.intro (?_ : _ → _) (?_ : _ → _)) | (refine FinR.drop 0 (Nat.zero_le _) (Closed.zero _) rfl ?_) | (refine FinR.keep ?_) | (refine And.intro (det3_agg rfl) ?_) | (refine fL_mk ?_) | (refine And.intro (by (try simp only [mk_size, List.size_toArray, ByteArray.size_append, ByteArray.size_extract, List.length_cons, List.length_nil]); omega) ?_) | (refine And.intro (by (try simp only [mk_size, List.size_toArray, ByteArray.size_append, ByteArray.size_extract, List.length_cons, List.length_nil, wrap64_eq]); omega) ?_) | fail)
      skip
      all_goals first | exact h0 | (exfalso; simp_all; done)
theorem c_sLenF (m : Nat) (hm : m < 2 ^ 36) (hz : m ≠ 0) (V : Nat → Nat) (hV : ∀ n, n < 2 ^ 36 → V n = gL false ((nxL n m).map V)) : ∀ (k n : Nat), n < 2 ^ 36 → 2 ^ 36 - n ≤ k → ∀ (W0 : World) (K : Cont), K (I (V n)) [] → ACall Try.prog W0 36 [ShN n, ShN m, Bo false] [] K
  | 0, n, hn, h, _, _, _ => by omega
  | k + 1, n, hn, h, W0, K, h0 => by
    have ih : ∀ x, x ∈ nxL n m → ∀ (τ : List Blk) (K : Cont), K (I (V x)) τ → ACall Try.prog W0 36 [ShN x, ShN m, Bo false] τ K := fun x hx τ K hK =>
      ACall.lift rfl (fun _ => rfl) (fun W1 K _ hK => c_sLenF m hm hz V hV k x (nxL_lt hn x hx) (by have := nxL_gt hn hm hz x hx; have := nxL_lt hn x hx; omega) W1 K hK) hK
    have hVn := hV n hn
    have h36 := nxL_len n m
    have hsm : ∀ x ∈ nxL n m, V x ≤ 2 ^ 36 := fun x hx => len_le hm hz false hV (2 ^ 36) x (nxL_lt hn x hx) (by omega)
    refine by36 (Nat.le_of_ble_eq_true rfl) ?_
    have hnx := fun (σ : List Blk) (K : Cont) => d_sNexts (W0 := W0) (σ := σ) n m hn K
    generalize nxL n m = L at ih hVn h36 hnx hsm
    unfold gL at hVn
    rw [hVn] at h0
    repeat' ((conv => whnf); first | (refine Exists.intro ([] : List Nat) ?_) | (refine And.intro rfl ?_) | (refine And.intro (by decide +kernel) ?_) | (refine And.intro trivial ?_) | (refine hnx _ _ (fun S b v cap B hO hb hk => ?_)) | (refine Exists.intro _ (And.intro rfl (And.intro rfl (And.intro (Nat.le_of_ble_eq_true rfl) ?_)))) | (refine Exists.intro _ (And.intro rfl (And.intro rfl (And.intro rfl (And.intro (Nat.le_of_ble_eq_true rfl) ?_))))) | (refine And.intro (Exists.intro _ (And.intro rfl rfl)) ?_) | (exact fun hW => absurd hW (by decide +kernel)) | (intro hW; (try simp only [Bool.not_true, Bool.not_false, Bool.not_eq_true', Bool.not_eq_false', decide_eq_true_eq, decide_eq_false_iff_not, reduceCtorEq, Bool.true_eq_false, Bool.false_eq_true, mk_size, List.size_toArray, ByteArray.size_append, ByteArray.size_extract, List.length_cons, List.length_nil, ba_get, ba_empty, Int.toNat_natCast] at hW)) | (refine And.intro (?_ : _ → _) (?_ : _ → _)) | (refine FinR.drop 0 (Nat.zero_le _) (Closed.zero _) rfl ?_) | (refine FinR.keep ?_) | (refine And.intro (det3_agg rfl) ?_) | (refine fL_mk ?_) | (refine And.intro (by (try simp only [mk_size, List.size_toArray, ByteArray.size_append, ByteArray.size_extract, List.length_cons, List.length_nil]); omega) ?_) | (refine And.intro (by (try simp only [mk_size, List.size_toArray, ByteArray.size_append, ByteArray.size_extract, List.length_cons, List.length_nil, wrap64_eq]); omega) ?_) | fail)
    skip
    have qm : S[1]? = some (bl m) := hk 1 _ rfl
    refine LoopR.live (fun x : Nat × Option Nat => [(2, Bo false), (4, .ptr 1 0 0), (7, I (gO x.2)), (8, .sl b v 0 L.length cap), (9, I x.1)]) (fun _ => S) (fun x => x.1 ≤ L.length ∧ gLs false ((L.take x.1).map V) none = x.2) (fun x => L.length - x.1) (0, none) ⟨rfl, rfl, rfl, rfl, rfl, trivial⟩ (.keep rfl) ⟨Nat.zero_le _, rfl⟩ ?_
    clear hk
    rintro ⟨i, o⟩ ⟨hi, ho⟩
    dsimp only at hi ho
    have ew : IntKind.i64.wrap ((i : Nat) + 1 : Int) = ((i + 1 : Nat) : Int) := wsucc' i (by omega)
    by_cases hlt : i < L.length
    · have o2 : 0 + ((i : Nat) : Int).toNat * 6 = i * 6 := by rw [Int.toNat_natCast]; omega
      have l2 := hO.le hlt o2
      have d2 := hO.ld hlt o2
      have hmem := getD_mem hlt
      have ihx := ih _ hmem
      have hsx := hsm _ hmem
      have hst := gLs_take (most := false) (V := V) hlt
      rw [ho] at hst
      generalize V (L.getD i 0) = y at ihx hst hsx
      have ew3 : IntKind.i64.wrap (1 + (y : Nat) : Int) = ((y + 1 : Nat) : Int) := by rw [Int.add_comm]; exact wsucc' y (by omega)
      cases o with
      | none =>
        have e1 : decide (gO none < 0) = true := rfl
        repeat' ((conv => whnf); first | (rw [e1]) | (rw [ew]) | (rw [ew3]) | (refine Exists.intro B (And.intro hO.g (And.intro hO.v (And.intro l2 ?_))); rw [d2]) | (refine Exists.intro _ (And.intro (qm) (And.intro rfl (And.intro (Nat.le_of_ble_eq_true rfl) ?_)))) | (refine Exists.intro ([] : List Nat) ?_) | (refine And.intro rfl ?_) | (refine And.intro (by decide +kernel) ?_) | (refine And.intro trivial ?_) | (refine And.intro ⟨_, hO.g, hO.v⟩ ?_) | (refine Exists.intro _ (And.intro (fun τ => callW_fn (ihx _ _ (And.intro rfl rfl))) ?_)) | (refine Exists.intro _ (And.intro rfl (And.intro rfl (And.intro (Nat.le_of_ble_eq_true rfl) ?_)))) | (refine Exists.intro _ (And.intro rfl (And.intro rfl (And.intro rfl (And.intro (Nat.le_of_ble_eq_true rfl) ?_))))) | (refine And.intro (Exists.intro _ (And.intro rfl rfl)) ?_) | (exact fun hW => absurd hW (by decide +kernel)) | (intro hW; (try simp only [Bool.not_true, Bool.not_false, Bool.not_eq_true', Bool.not_eq_false', decide_eq_true_eq, decide_eq_false_iff_not, reduceCtorEq, Bool.true_eq_false, Bool.false_eq_true, mk_size, List.size_toArray, ByteArray.size_append, ByteArray.size_extract, List.length_cons, List.length_nil, ba_get, ba_empty, Int.toNat_natCast] at hW)) | (refine And.intro (?_ : _ → _) (?_ : _ → _)) | (refine FinR.drop 0 (Nat.zero_le _) (Closed.zero _) rfl ?_) | (refine FinR.keep ?_) | (refine And.intro (det3_agg rfl) ?_) | (refine fL_mk ?_) | (refine And.intro (by (try simp only [mk_size, List.size_toArray, ByteArray.size_append, ByteArray.size_extract, List.length_cons, List.length_nil]); omega) ?_) | (refine And.intro (by (try simp only [mk_size, List.size_toArray, ByteArray.size_append, ByteArray.size_extract, List.length_cons, List.length_nil, wrap64_eq]); omega) ?_) | fail)
        all_goals first | (exfalso; omega) | (exfalso; simp_all; done) | skip
        skip
        exact Again.go (i + 1, some (y + 1)) ⟨rfl, rfl, rfl, rfl, rfl, trivial⟩ (.keep rfl) ⟨by show i + 1 ≤ L.length; omega, hst⟩ (by show L.length - (i + 1) < L.length - i; omega)
      | some c =>
        have hc := gLs_small hsm i ho
        have e1 : decide (gO (some c) < 0) = false := decide_eq_false (by show ¬ ((c : Nat) : Int) < 0; omega)
        by_cases hgt : y + 1 < c
        · have e2 : decide (((y + 1 : Nat) : Int) < gO (some c)) = true := decide_eq_true (by show ((y + 1 : Nat) : Int) < ((c : Nat) : Int); omega)
          have hst2 : gLs false ((L.take (i + 1)).map V) none = some (y + 1) := by
            rw [hst]
            show some (min c (y + 1)) = _
            rw [show min c (y + 1) = y + 1 by omega]
          repeat' ((conv => whnf); first | (rw [e1]) | (rw [e2]) | (rw [ew]) | (rw [ew3]) | (refine Exists.intro B (And.intro hO.g (And.intro hO.v (And.intro l2 ?_))); rw [d2]) | (refine Exists.intro _ (And.intro (qm) (And.intro rfl (And.intro (Nat.le_of_ble_eq_true rfl) ?_)))) | (refine Exists.intro ([] : List Nat) ?_) | (refine And.intro rfl ?_) | (refine And.intro (by decide +kernel) ?_) | (refine And.intro trivial ?_) | (refine And.intro ⟨_, hO.g, hO.v⟩ ?_) | (refine Exists.intro _ (And.intro (fun τ => callW_fn (ihx _ _ (And.intro rfl rfl))) ?_)) | (refine Exists.intro _ (And.intro rfl (And.intro rfl (And.intro (Nat.le_of_ble_eq_true rfl) ?_)))) | (refine Exists.intro _ (And.intro rfl (And.intro rfl (And.intro rfl (And.intro (Nat.le_of_ble_eq_true rfl) ?_))))) | (refine And.intro (Exists.intro _ (And.intro rfl rfl)) ?_) | (exact fun hW => absurd hW (by decide +kernel)) | (intro hW; (try simp only [Bool.not_true, Bool.not_false, Bool.not_eq_true', Bool.not_eq_false', decide_eq_true_eq, decide_eq_false_iff_not, reduceCtorEq, Bool.true_eq_false, Bool.false_eq_true, mk_size, List.size_toArray, ByteArray.size_append, ByteArray.size_extract, List.length_cons, List.length_nil, ba_get, ba_empty, Int.toNat_natCast] at hW)) | (refine And.intro (?_ : _ → _) (?_ : _ → _)) | (refine FinR.drop 0 (Nat.zero_le _) (Closed.zero _) rfl ?_) | (refine FinR.keep ?_) | (refine And.intro (det3_agg rfl) ?_) | (refine fL_mk ?_) | (refine And.intro (by (try simp only [mk_size, List.size_toArray, ByteArray.size_append, ByteArray.size_extract, List.length_cons, List.length_nil]); omega) ?_) | (refine And.intro (by (try simp only [mk_size, List.size_toArray, ByteArray.size_append, ByteArray.size_extract, List.length_cons, List.length_nil, wrap64_eq]); omega) ?_) | fail)
          all_goals first | (exfalso; omega) | (exfalso; simp_all; done) | skip
          skip
          exact Again.go (i + 1, some (y + 1)) ⟨rfl, rfl, rfl, rfl, rfl, trivial⟩ (.keep rfl) ⟨by show i + 1 ≤ L.length; omega, hst2⟩ (by show L.length - (i + 1) < L.length - i; omega)
        · have e2 : decide (((y + 1 : Nat) : Int) < gO (some c)) = false := decide_eq_false (by show ¬ (((y + 1 : Nat) : Int) < ((c : Nat) : Int)); omega)
          have hst2 : gLs false ((L.take (i + 1)).map V) none = some c := by
            rw [hst]
            show some (min c (y + 1)) = _
            rw [show min c (y + 1) = c by omega]
          repeat' ((conv => whnf); first | (rw [e1]) | (rw [e2]) | (rw [ew]) | (rw [ew3]) | (refine Exists.intro B (And.intro hO.g (And.intro hO.v (And.intro l2 ?_))); rw [d2]) | (refine Exists.intro _ (And.intro (qm) (And.intro rfl (And.intro (Nat.le_of_ble_eq_true rfl) ?_)))) | (refine Exists.intro ([] : List Nat) ?_) | (refine And.intro rfl ?_) | (refine And.intro (by decide +kernel) ?_) | (refine And.intro trivial ?_) | (refine And.intro ⟨_, hO.g, hO.v⟩ ?_) | (refine Exists.intro _ (And.intro (fun τ => callW_fn (ihx _ _ (And.intro rfl rfl))) ?_)) | (refine Exists.intro _ (And.intro rfl (And.intro rfl (And.intro (Nat.le_of_ble_eq_true rfl) ?_)))) | (refine Exists.intro _ (And.intro rfl (And.intro rfl (And.intro rfl (And.intro (Nat.le_of_ble_eq_true rfl) ?_))))) | (refine And.intro (Exists.intro _ (And.intro rfl rfl)) ?_) | (exact fun hW => absurd hW (by decide +kernel)) | (intro hW; (try simp only [Bool.not_true, Bool.not_false, Bool.not_eq_true', Bool.not_eq_false', decide_eq_true_eq, decide_eq_false_iff_not, reduceCtorEq, Bool.true_eq_false, Bool.false_eq_true, mk_size, List.size_toArray, ByteArray.size_append, ByteArray.size_extract, List.length_cons, List.length_nil, ba_get, ba_empty, Int.toNat_natCast] at hW)) | (refine And.intro (?_ : _ → _) (?_ : _ → _)) | (refine FinR.drop 0 (Nat.zero_le _) (Closed.zero _) rfl ?_) | (refine FinR.keep ?_) | (refine And.intro (det3_agg rfl) ?_) | (refine fL_mk ?_) | (refine And.intro (by (try simp only [mk_size, List.size_toArray, ByteArray.size_append, ByteArray.size_extract, List.length_cons, List.length_nil]); omega) ?_) | (refine And.intro (by (try simp only [mk_size, List.size_toArray, ByteArray.size_append, ByteArray.size_extract, List.length_cons, List.length_nil, wrap64_eq]); omega) ?_) | fail)
          all_goals first | (exfalso; omega) | (exfalso; simp_all; done) | skip
          skip
          exact Again.go (i + 1, some c) ⟨rfl, rfl, rfl, rfl, rfl, trivial⟩ (.keep rfl) ⟨by show i + 1 ≤ L.length; omega, hst2⟩ (by show L.length - (i + 1) < L.length - i; omega)
    · obtain rfl : i = L.length := by omega
      rw [List.take_length] at ho
      rw [ho] at h0
      have hmx : ∀ q : Int, (q = gO o ∨ q = 0) → gO o ≤ q → 0 ≤ q → q = ((o.getD 0 : Nat) : Int) := by
        cases o with
        | none => intro q h1 h2 h3; change q = -1 ∨ q = 0 at h1; show q = 0; omega
        | some c => intro q h1 h2 h3; change q = (c : Int) ∨ q = 0 at h1; change (c : Int) ≤ q at h2; show q = (c : Int); omega
      repeat' ((conv => whnf); first | (rw [hmx _ h1 h2 h3]) | (refine Exists.intro ([] : List Nat) ?_) | (refine And.intro rfl ?_) | (refine And.intro (by decide +kernel) ?_) | (refine And.intro trivial ?_) | (refine And.intro ⟨_, hO.g, hO.v⟩ ?_) | (refine d_most15 _ _ _ (fun q h1 h2 h3 => ?_)) | (refine Exists.intro _ (And.intro rfl (And.intro rfl (And.intro (Nat.le_of_ble_eq_true rfl) ?_)))) | (refine Exists.intro _ (And.intro rfl (And.intro rfl (And.intro rfl (And.intro (Nat.le_of_ble_eq_true rfl) ?_))))) | (refine And.intro (Exists.intro _ (And.intro rfl rfl)) ?_) | (exact fun hW => absurd hW (by decide +kernel)) | (intro hW; (try simp only [Bool.not_true, Bool.not_false, Bool.not_eq_true', Bool.not_eq_false', decide_eq_true_eq, decide_eq_false_iff_not, reduceCtorEq, Bool.true_eq_false, Bool.false_eq_true, mk_size, List.size_toArray, ByteArray.size_append, ByteArray.size_extract, List.length_cons, List.length_nil, ba_get, ba_empty, Int.toNat_natCast] at hW)) | (refine And.intro (?_ : _ → _) (?_ : _ → _)) | (refine FinR.drop 0 (Nat.zero_le _) (Closed.zero _) rfl ?_) | (refine FinR.keep ?_) | (refine And.intro (det3_agg rfl) ?_) | (refine fL_mk ?_) | (refine And.intro (by (try simp only [mk_size, List.size_toArray, ByteArray.size_append, ByteArray.size_extract, List.length_cons, List.length_nil]); omega) ?_) | (refine And.intro (by (try simp only [mk_size, List.size_toArray, ByteArray.size_append, ByteArray.size_extract, List.length_cons, List.length_nil, wrap64_eq]); omega) ?_) | fail)
      skip
      all_goals first | (exfalso; omega) | exact h0 | (exfalso; simp_all; done)
theorem d_sLenF (m : Nat) (hm : m < 2 ^ 36) (hz : m ≠ 0) (V : Nat → Nat) (hV : ∀ n, n < 2 ^ 36 → V n = gL false ((nxL n m).map V)) (n : Nat) (hn : n < 2 ^ 36) (K : Cont) (h0 : K (I (V n)) σ) : ACall Try.prog W0 36 [ShN n, ShN m, Bo false] σ K :=
  ACall.lift rfl (fun _ => rfl) (fun W1 K _ hK => c_sLenF m hm hz V hV _ n hn (Nat.le_refl _) W1 K hK) h0
theorem c_sShortestGameT (n m : Nat) (hn : n < 2 ^ 36) (hm : m < 2 ^ 36) (hz : m ≠ 0) (hs : smB n m = true) (V : Nat → Nat) (hV : ∀ n, n < 2 ^ 36 → V n = gL false ((nxL n m).map V)) (K : Cont) (h0 : K (.tup [I (V n), Bo true]) []) : ACall Try.prog W0 15 [ShN n, ShN m] [] K := by
  refine by15 (Nat.le_of_ble_eq_true rfl) ?_
  repeat' ((conv => whnf); first | (refine Exists.intro ([] : List Nat) ?_) | (refine And.intro rfl ?_) | (refine And.intro (by decide +kernel) ?_) | (refine And.intro trivial ?_) | (refine d_smallT (hn := hn) (hm := hm) (hz := hz) (hs := hs) (h0 := ?_) ..) | (refine d_sLenF (hm := hm) (hz := hz) (hV := hV) (hn := hn) (h0 := ?_) ..) | (refine Exists.intro _ (And.intro rfl (And.intro rfl (And.intro (Nat.le_of_ble_eq_true rfl) ?_)))) | (refine Exists.intro _ (And.intro rfl (And.intro rfl (And.intro rfl (And.intro (Nat.le_of_ble_eq_true rfl) ?_))))) | (refine And.intro (Exists.intro _ (And.intro rfl rfl)) ?_) | (exact fun hW => absurd hW (by decide +kernel)) | (intro hW; (try simp only [Bool.not_true, Bool.not_false, Bool.not_eq_true', Bool.not_eq_false', decide_eq_true_eq, decide_eq_false_iff_not, reduceCtorEq, Bool.true_eq_false, Bool.false_eq_true, mk_size, List.size_toArray, ByteArray.size_append, ByteArray.size_extract, List.length_cons, List.length_nil, ba_get, ba_empty, Int.toNat_natCast] at hW)) | (refine And.intro (?_ : _ → _) (?_ : _ → _)) | (refine FinR.drop 0 (Nat.zero_le _) (Closed.zero _) rfl ?_) | (refine FinR.keep ?_) | (refine And.intro (det3_agg rfl) ?_) | (refine fL_mk ?_) | (refine And.intro (by (try simp only [mk_size, List.size_toArray, ByteArray.size_append, ByteArray.size_extract, List.length_cons, List.length_nil]); omega) ?_) | (refine And.intro (by (try simp only [mk_size, List.size_toArray, ByteArray.size_append, ByteArray.size_extract, List.length_cons, List.length_nil, wrap64_eq]); omega) ?_) | fail)
  all_goals first | (exfalso; simp_all; done) | exact h0
theorem d_sShortestGameT (n m : Nat) (hn : n < 2 ^ 36) (hm : m < 2 ^ 36) (hz : m ≠ 0) (hs : smB n m = true) (V : Nat → Nat) (hV : ∀ n, n < 2 ^ 36 → V n = gL false ((nxL n m).map V)) (K : Cont) (h0 : K (.tup [I (V n), Bo true]) σ) : ACall Try.prog W0 15 [ShN n, ShN m] σ K :=
  ACall.lift rfl (fun _ => rfl) (fun W1 K _ hK => c_sShortestGameT n m hn hm hz hs V hV K hK) h0
theorem c_sShortestGameF (a b c d e f a' b' c' d' e' f' : Int) (h : Sm a b c d e f a' b' c' d' e' f' none) (K : Cont) (h0 : K (.tup [I 0, Bo false]) []) : ACall Try.prog W0 15 [Sh a b c d e f, Sh a' b' c' d' e' f'] [] K := by
  refine by15 (Nat.le_of_ble_eq_true rfl) ?_
  repeat' ((conv => whnf); first | (refine Exists.intro ([] : List Nat) ?_) | (refine And.intro rfl ?_) | (refine And.intro (by decide +kernel) ?_) | (refine And.intro trivial ?_) | (refine d_smallF (h := h) (h0 := ?_) ..) | (refine Exists.intro _ (And.intro rfl (And.intro rfl (And.intro (Nat.le_of_ble_eq_true rfl) ?_)))) | (refine Exists.intro _ (And.intro rfl (And.intro rfl (And.intro rfl (And.intro (Nat.le_of_ble_eq_true rfl) ?_))))) | (refine And.intro (Exists.intro _ (And.intro rfl rfl)) ?_) | (exact fun hW => absurd hW (by decide +kernel)) | (intro hW; (try simp only [Bool.not_true, Bool.not_false, Bool.not_eq_true', Bool.not_eq_false', decide_eq_true_eq, decide_eq_false_iff_not, reduceCtorEq, Bool.true_eq_false, Bool.false_eq_true, mk_size, List.size_toArray, ByteArray.size_append, ByteArray.size_extract, List.length_cons, List.length_nil, ba_get, ba_empty, Int.toNat_natCast] at hW)) | (refine And.intro (?_ : _ → _) (?_ : _ → _)) | (refine FinR.drop 0 (Nat.zero_le _) (Closed.zero _) rfl ?_) | (refine FinR.keep ?_) | (refine And.intro (det3_agg rfl) ?_) | (refine fL_mk ?_) | (refine And.intro (by (try simp only [mk_size, List.size_toArray, ByteArray.size_append, ByteArray.size_extract, List.length_cons, List.length_nil]); omega) ?_) | (refine And.intro (by (try simp only [mk_size, List.size_toArray, ByteArray.size_append, ByteArray.size_extract, List.length_cons, List.length_nil, wrap64_eq]); omega) ?_) | fail)
  all_goals first | (exfalso; simp_all; done) | exact h0
theorem d_sShortestGameF (a b c d e f a' b' c' d' e' f' : Int) (h : Sm a b c d e f a' b' c' d' e' f' none) (K : Cont) (h0 : K (.tup [I 0, Bo false]) σ) : ACall Try.prog W0 15 [Sh a b c d e f, Sh a' b' c' d' e' f'] σ K :=
  ACall.lift rfl (fun _ => rfl) (fun W1 K _ hK => c_sShortestGameF a b c d e f a' b' c' d' e' f' h K hK) h0
theorem c_chF (a b : Int) (K : Cont) (h0 : K (I ((if b < a then b else a))) []) : ACall Try.prog W0 39 [I a, I b] [] K := by
  refine by39 (Nat.le_of_ble_eq_true rfl) ?_
  repeat' ((conv => whnf); first | (refine Exists.intro ([] : List Nat) ?_) | (refine And.intro rfl ?_) | (refine And.intro (by decide +kernel) ?_) | (refine And.intro trivial ?_) | (refine Exists.intro _ (And.intro rfl (And.intro rfl (And.intro (Nat.le_of_ble_eq_true rfl) ?_)))) | (refine Exists.intro _ (And.intro rfl (And.intro rfl (And.intro rfl (And.intro (Nat.le_of_ble_eq_true rfl) ?_))))) | (refine And.intro (Exists.intro _ (And.intro rfl rfl)) ?_) | (exact fun hW => absurd hW (by decide +kernel)) | (intro hW; (try simp only [Bool.not_true, Bool.not_false, Bool.not_eq_true', Bool.not_eq_false', decide_eq_true_eq, decide_eq_false_iff_not, reduceCtorEq, Bool.true_eq_false, Bool.false_eq_true, mk_size, List.size_toArray, ByteArray.size_append, ByteArray.size_extract, List.length_cons, List.length_nil, ba_get, ba_empty, Int.toNat_natCast] at hW)) | (refine And.intro (?_ : _ → _) (?_ : _ → _)) | (refine FinR.drop 0 (Nat.zero_le _) (Closed.zero _) rfl ?_) | (refine FinR.keep ?_) | (refine And.intro (det3_agg rfl) ?_) | (refine fL_mk ?_) | (refine And.intro (by (try simp only [mk_size, List.size_toArray, ByteArray.size_append, ByteArray.size_extract, List.length_cons, List.length_nil]); omega) ?_) | (refine And.intro (by (try simp only [mk_size, List.size_toArray, ByteArray.size_append, ByteArray.size_extract, List.length_cons, List.length_nil, wrap64_eq]); omega) ?_) | fail)
  skip
  all_goals first | exact h0 | (exfalso; simp_all; done)
theorem d_chF (a b : Int) (K : Cont) (h0 : K (I ((if b < a then b else a))) σ) : ACall Try.prog W0 39 [I a, I b] σ K :=
  ACall.lift rfl (fun _ => rfl) (fun W1 K _ hK => c_chF a b K hK) h0
structure G15F where
  i : Nat
  S : List Blk
  q : Nat
  kn : List (Nat × Nat)
theorem c_lenF (m : Nat) (hm : m < 2 ^ 36) (hz : m ≠ 0) (V : Nat → Nat) (hV : ∀ n, n < 2 ^ 36 → V n = gL false ((nxL n m).map V)) : ∀ (k n : Nat), n < 2 ^ 36 → 2 ^ 36 - n ≤ k → ∀ (W0 : World) (σ : List Blk) (bg b1 b2 b3 : Nat) (BL : Blk) (kn : List (Nat × Nat)), σ[bg]? = some (bGm m b1 b2) → MemK enN σ b3 BL kn → GoodK V kn → ∀ K : Cont, (∀ S B' kn', MemK enN S b3 B' kn' → GoodK V kn' → keepX b3 σ S → σ.length ≤ S.length → K (I (V n)) S) → ACall Try.prog W0 37 [.ptr bg 0 0, U n, .lit (.func (.func 39) #[] #[]), .ptr b3 0 0] σ K
  | 0, n, hn, h, _, _, _, _, _, _, _, _, _, _, _, _, _ => by omega
  | k + 1, n, hn, h, W0, σ, bg, b1, b2, b3, BL, kn, hG, hM, hg, K, h0 => by
    have ih : ∀ x, x ∈ nxL n m → ∀ (S : List Blk) (BL : Blk) (kn : List (Nat × Nat)), S[bg]? = some (bGm m b1 b2) → MemK enN S b3 BL kn → GoodK V kn → ∀ K : Cont, (∀ S' B' kn', MemK enN S' b3 B' kn' → GoodK V kn' → keepX b3 S S' → S.length ≤ S'.length → K (I (V x)) S') → ACall Try.prog W0 37 [.ptr bg 0 0, U x, .lit (.func (.func 39) #[] #[]), .ptr b3 0 0] S K := fun x hx S BL kn q1 q2 q3 K hK =>
      c_lenF m hm hz V hV k x (nxL_lt hn x hx) (by have := nxL_gt hn hm hz x hx; have := nxL_lt hn x hx; omega) W0 S bg b1 b2 b3 BL kn q1 q2 q3 K hK
    have hVn := hV n hn
    have h36 := nxL_len n m
    have hsm : ∀ x ∈ nxL n m, V x ≤ 2 ^ 36 := fun x hx => len_le hm hz false hV (2 ^ 36) x (nxL_lt hn x hx) (by omega)
    have hne := gm_ne hG hM
    have hfind := find_kv enN n kn
    rw [← hM.c] at hfind
    refine by37 (Nat.le_of_ble_eq_true rfl) ?_
    cases hlk : lookK n kn with
    | some v =>
      rw [hlk] at hfind
      have hv := hg.look hlk
      rw [hv] at h0
      have h0' := h0 σ BL kn hM hg (keepX.refl _ _) (Nat.le_refl _)
      repeat' ((conv => whnf); first | (refine Exists.intro ([] : List Nat) ?_) | (refine And.intro rfl ?_) | (refine And.intro (by decide +kernel) ?_) | (refine And.intro trivial ?_) | (refine Exists.intro BL (And.intro hM.g (And.intro hM.v (And.intro hM.m (And.intro rfl (Exists.intro _ (And.intro hfind ?_))))))) | (refine Exists.intro _ (And.intro rfl (And.intro rfl (And.intro (Nat.le_of_ble_eq_true rfl) ?_)))) | (refine Exists.intro _ (And.intro rfl (And.intro rfl (And.intro rfl (And.intro (Nat.le_of_ble_eq_true rfl) ?_))))) | (refine And.intro (Exists.intro _ (And.intro rfl rfl)) ?_) | (exact fun hW => absurd hW (by decide +kernel)) | (intro hW; (try simp only [Bool.not_true, Bool.not_false, Bool.not_eq_true', Bool.not_eq_false', decide_eq_true_eq, decide_eq_false_iff_not, reduceCtorEq, Bool.true_eq_false, Bool.false_eq_true, mk_size, List.size_toArray, ByteArray.size_append, ByteArray.size_extract, List.length_cons, List.length_nil, ba_get, ba_empty, Int.toNat_natCast] at hW)) | (refine And.intro (?_ : _ → _) (?_ : _ → _)) | (refine FinR.drop 0 (Nat.zero_le _) (Closed.zero _) rfl ?_) | (refine FinR.keep ?_) | (refine And.intro (det3_agg rfl) ?_) | (refine fL_mk ?_) | (refine And.intro (by (try simp only [mk_size, List.size_toArray, ByteArray.size_append, ByteArray.size_extract, List.length_cons, List.length_nil]); omega) ?_) | (refine And.intro (by (try simp only [mk_size, List.size_toArray, ByteArray.size_append, ByteArray.size_extract, List.length_cons, List.length_nil, wrap64_eq]); omega) ?_) | fail)
      skip
      all_goals first | (exfalso; simp_all; done) | exact FinR.keep h0' | exact h0'
    | none =>
      rw [hlk] at hfind
      have hnx := fun (σ : List Blk) (K : Cont) => d_nexts (W0 := W0) (σ := σ) n m hn hm K
      generalize nxL n m = L at ih hVn h36 hnx hsm
      unfold gL at hVn
      repeat' ((conv => whnf); first | (refine Exists.intro ([] : List Nat) ?_) | (refine And.intro rfl ?_) | (refine And.intro (by decide +kernel) ?_) | (refine And.intro trivial ?_) | (refine Exists.intro BL (And.intro hM.g (And.intro hM.v (And.intro hM.m (And.intro rfl (Exists.intro _ (And.intro hfind ?_))))))) | (refine And.intro ⟨_, hG, rfl⟩ ?_) | (refine Exists.intro _ (And.intro (hG) (And.intro rfl (And.intro (Nat.le_of_ble_eq_true rfl) ?_)))) | (refine hnx _ _ (fun S1 bx vx cx Bx hf fb k1 => ?_)) | (refine And.intro ⟨_, hf.g, hf.v⟩ ?_) | (refine Exists.intro _ (And.intro rfl (And.intro rfl (And.intro (Nat.le_of_ble_eq_true rfl) ?_)))) | (refine Exists.intro _ (And.intro rfl (And.intro rfl (And.intro rfl (And.intro (Nat.le_of_ble_eq_true rfl) ?_))))) | (refine And.intro (Exists.intro _ (And.intro rfl rfl)) ?_) | (exact fun hW => absurd hW (by decide +kernel)) | (intro hW; (try simp only [Bool.not_true, Bool.not_false, Bool.not_eq_true', Bool.not_eq_false', decide_eq_true_eq, decide_eq_false_iff_not, reduceCtorEq, Bool.true_eq_false, Bool.false_eq_true, mk_size, List.size_toArray, ByteArray.size_append, ByteArray.size_extract, List.length_cons, List.length_nil, ba_get, ba_empty, Int.toNat_natCast] at hW)) | (refine And.intro (?_ : _ → _) (?_ : _ → _)) | (refine FinR.drop 0 (Nat.zero_le _) (Closed.zero _) rfl ?_) | (refine FinR.keep ?_) | (refine And.intro (det3_agg rfl) ?_) | (refine fL_mk ?_) | (refine And.intro (by (try simp only [mk_size, List.size_toArray, ByteArray.size_append, ByteArray.size_extract, List.length_cons, List.length_nil]); omega) ?_) | (refine And.intro (by (try simp only [mk_size, List.size_toArray, ByteArray.size_append, ByteArray.size_extract, List.length_cons, List.length_nil, wrap64_eq]); omega) ?_) | fail)
      all_goals first | (exfalso; simp_all; done) | skip
      skip
      have hbg := getElem?_lt hG
      have hb3 := getElem?_lt hM.g
      have hfb : σ.length ≤ bx := by simpa using fb
      refine LoopR.live (fun x : G15F => [(0, .ptr bg 0 0), (1, U n), (2, .lit (.func (.func 39) #[] #[])), (3, .ptr b3 0 0), (11, I x.q), (28, .sl bx vx 0 L.length cx), (29, I L.length), (30, I x.i)]) (fun x => x.S) (fun x => x.i ≤ L.length ∧ (∃ BL, MemK enN x.S b3 BL x.kn) ∧ GoodK V x.kn ∧ keepX b3 σ x.S ∧ σ.length ≤ x.S.length ∧ Own x.S bx vx Bx L ∧ x.q = (gLs false ((L.take x.i).map V) none).getD 0) (fun x => L.length - x.i) ⟨0, S1, 0, kn⟩ ⟨rfl, rfl, rfl, rfl, rfl, rfl, rfl, rfl, trivial⟩ (.keep rfl) ⟨Nat.zero_le _, ⟨BL, k1 _ _ hM.g, hM.v, hM.m, hM.c⟩, hg, keepX.of fun j B hj => k1 j B hj, (by have := getElem?_lt hf.g; show σ.length ≤ S1.length; omega), hf, rfl⟩ ?_
      clear hf k1 hfind hlk hM hg
      rintro ⟨i, S, q, kn⟩ ⟨hi, ⟨BL, hM⟩, hg, hk, hlen, hf, hq⟩
      dsimp only at hi hM hg hk hlen hf hq
      have ew : IntKind.i64.wrap ((i : Nat) + 1 : Int) = ((i + 1 : Nat) : Int) := wsucc' i (by omega)
      have hG' := hk bg _ hne hG
      by_cases hlti : i < L.length
      · have o1 : 0 + ((i : Nat) : Int).toNat * 1 = i := by rw [Int.toNat_natCast]; omega
        have l1 := hf.le hlti o1
        have d1 := hf.ld hlti o1
        have hmem := getD_memG hlti
        have hrec := fun (K : Cont) => ih _ hmem S BL kn hG' hM hg K
        have hsx := hsm _ hmem
        have hst := gLs_take (most := false) (V := V) hlti
        generalize V (L.getD i 0) = y at hrec hst hsx
        have ew3 : IntKind.i64.wrap (1 + (y : Nat) : Int) = ((y + 1 : Nat) : Int) := by rw [Int.add_comm]; exact wsucc' y (by omega)
        cases i with
        | zero =>
          have hst1 : gLs false ((L.take (0 + 1)).map V) none = some (y + 1) := hst
          have hch := fun (σ : List Blk) (K : Cont) (h : K (I ((y + 1 : Nat) : Int)) σ) => d_chF (W0 := W0) (σ := σ) ((y + 1 : Nat) : Int) ((y + 1 : Nat) : Int) K (by rw [show (if ((y + 1 : Nat) : Int) < ((y + 1 : Nat) : Int) then ((y + 1 : Nat) : Int) else ((y + 1 : Nat) : Int)) = ((y + 1 : Nat) : Int) by split <;> omega]; exact h)
          repeat' ((conv => whnf); first | (rw [ew]) | (rw [ew3]) | (refine Exists.intro Bx (And.intro hf.g (And.intro hf.v (And.intro l1 ?_))); rw [d1]) | (refine Exists.intro ([] : List Nat) ?_) | (refine And.intro rfl ?_) | (refine And.intro (by decide +kernel) ?_) | (refine And.intro trivial ?_) | (refine And.intro ⟨_, hf.g, hf.v⟩ ?_) | (refine hrec _ (fun S2 B2 kn2 hM2 hg2 hk2 hl2 => ?_)) | (refine hch _ _ ?_) | (refine Exists.intro _ (And.intro rfl (And.intro rfl (And.intro (Nat.le_of_ble_eq_true rfl) ?_)))) | (refine Exists.intro _ (And.intro rfl (And.intro rfl (And.intro rfl (And.intro (Nat.le_of_ble_eq_true rfl) ?_))))) | (refine And.intro (Exists.intro _ (And.intro rfl rfl)) ?_) | (exact fun hW => absurd hW (by decide +kernel)) | (intro hW; (try simp only [Bool.not_true, Bool.not_false, Bool.not_eq_true', Bool.not_eq_false', decide_eq_true_eq, decide_eq_false_iff_not, reduceCtorEq, Bool.true_eq_false, Bool.false_eq_true, mk_size, List.size_toArray, ByteArray.size_append, ByteArray.size_extract, List.length_cons, List.length_nil, ba_get, ba_empty, Int.toNat_natCast] at hW)) | (refine And.intro (?_ : _ → _) (?_ : _ → _)) | (refine FinR.drop 0 (Nat.zero_le _) (Closed.zero _) rfl ?_) | (refine FinR.keep ?_) | (refine And.intro (det3_agg rfl) ?_) | (refine fL_mk ?_) | (refine And.intro (by (try simp only [mk_size, List.size_toArray, ByteArray.size_append, ByteArray.size_extract, List.length_cons, List.length_nil]); omega) ?_) | (refine And.intro (by (try simp only [mk_size, List.size_toArray, ByteArray.size_append, ByteArray.size_extract, List.length_cons, List.length_nil, wrap64_eq]); omega) ?_) | fail)
          all_goals first | (exfalso; omega) | skip
          skip
          exact Again.go ⟨0 + 1, S2, y + 1, kn2⟩ ⟨rfl, rfl, rfl, rfl, rfl, rfl, rfl, rfl, trivial⟩ (.keep rfl) ⟨by show 0 + 1 ≤ L.length; omega, ⟨B2, hM2⟩, hg2, fun j B hj hB => hk2 j B hj (hk j B hj hB), by show σ.length ≤ S2.length; omega, ⟨hk2 _ _ (by omega) hf.g, hf.v, hf.c⟩, by show y + 1 = _; rw [hst1]; rfl⟩ (by show L.length - (0 + 1) < L.length - 0; omega)
        | succ i =>
          cases ho : gLs false ((L.take (i + 1)).map V) none with
          | none => exact (gLs_ne (by omega) ho).elim
          | some c =>
            rw [ho] at hst hq
            have hq : q = c := hq
            subst hq
            have hst1 : gLs false ((L.take (i + 1 + 1)).map V) none = some (min q (y + 1)) := hst
            have hch := fun (σ : List Blk) (K : Cont) (h : K (I ((min q (y + 1) : Nat) : Int)) σ) => d_chF (W0 := W0) (σ := σ) ((q : Nat) : Int) ((y + 1 : Nat) : Int) K (by rw [show (if ((y + 1 : Nat) : Int) < ((q : Nat) : Int) then ((y + 1 : Nat) : Int) else ((q : Nat) : Int)) = ((min q (y + 1) : Nat) : Int) by split <;> omega]; exact h)
            repeat' ((conv => whnf); first | (rw [ew]) | (rw [ew3]) | (refine Exists.intro Bx (And.intro hf.g (And.intro hf.v (And.intro l1 ?_))); rw [d1]) | (refine Exists.intro ([] : List Nat) ?_) | (refine And.intro rfl ?_) | (refine And.intro (by decide +kernel) ?_) | (refine And.intro trivial ?_) | (refine And.intro ⟨_, hf.g, hf.v⟩ ?_) | (refine hrec _ (fun S2 B2 kn2 hM2 hg2 hk2 hl2 => ?_)) | (refine hch _ _ ?_) | (refine Exists.intro _ (And.intro rfl (And.intro rfl (And.intro (Nat.le_of_ble_eq_true rfl) ?_)))) | (refine Exists.intro _ (And.intro rfl (And.intro rfl (And.intro rfl (And.intro (Nat.le_of_ble_eq_true rfl) ?_))))) | (refine And.intro (Exists.intro _ (And.intro rfl rfl)) ?_) | (exact fun hW => absurd hW (by decide +kernel)) | (intro hW; (try simp only [Bool.not_true, Bool.not_false, Bool.not_eq_true', Bool.not_eq_false', decide_eq_true_eq, decide_eq_false_iff_not, reduceCtorEq, Bool.true_eq_false, Bool.false_eq_true, mk_size, List.size_toArray, ByteArray.size_append, ByteArray.size_extract, List.length_cons, List.length_nil, ba_get, ba_empty, Int.toNat_natCast] at hW)) | (refine And.intro (?_ : _ → _) (?_ : _ → _)) | (refine FinR.drop 0 (Nat.zero_le _) (Closed.zero _) rfl ?_) | (refine FinR.keep ?_) | (refine And.intro (det3_agg rfl) ?_) | (refine fL_mk ?_) | (refine And.intro (by (try simp only [mk_size, List.size_toArray, ByteArray.size_append, ByteArray.size_extract, List.length_cons, List.length_nil]); omega) ?_) | (refine And.intro (by (try simp only [mk_size, List.size_toArray, ByteArray.size_append, ByteArray.size_extract, List.length_cons, List.length_nil, wrap64_eq]); omega) ?_) | fail)
            all_goals first | (exfalso; omega) | skip
            skip
            exact Again.go ⟨i + 1 + 1, S2, min q (y + 1), kn2⟩ ⟨rfl, rfl, rfl, rfl, rfl, rfl, rfl, rfl, trivial⟩ (.keep rfl) ⟨by show i + 1 + 1 ≤ L.length; omega, ⟨B2, hM2⟩, hg2, fun j B hj hB => hk2 j B hj (hk j B hj hB), by show σ.length ≤ S2.length; omega, ⟨hk2 _ _ (by omega) hf.g, hf.v, hf.c⟩, by show min q (y + 1) = _; rw [hst1]; rfl⟩ (by show L.length - (i + 1 + 1) < L.length - (i + 1); omega)
      · obtain rfl : i = L.length := by omega
        rw [List.take_length] at hq
        rw [← hq] at hVn
        have hput := put_kv enN n q kn
        rw [← hM.c] at hput
        have h0' : K (I q) (S.set b3 { BL with cells := kvE enN (putK n q kn) }) := by
          have hgp := hg.put (n := n)
          rw [hVn] at hgp h0
          exact h0 _ _ (putK n q kn) ⟨getsG hM.g, hM.v, hM.m, rfl⟩ hgp (fun j B hj hB => getnG (hk j B hj hB) (Ne.symm hj)) (by rw [List.length_set]; exact hlen)
        repeat' ((conv => whnf); first | (refine Exists.intro ([] : List Nat) ?_) | (refine And.intro rfl ?_) | (refine And.intro (by decide +kernel) ?_) | (refine And.intro trivial ?_) | (refine Exists.intro BL (And.intro hM.g (And.intro hM.v (And.intro hM.m (And.intro rfl (And.intro rfl (Exists.intro _ (And.intro hput ?_)))))))) | (refine fS_mk ?_) | (refine Exists.intro _ (And.intro rfl (And.intro rfl (And.intro (Nat.le_of_ble_eq_true rfl) ?_)))) | (refine Exists.intro _ (And.intro rfl (And.intro rfl (And.intro rfl (And.intro (Nat.le_of_ble_eq_true rfl) ?_))))) | (refine And.intro (Exists.intro _ (And.intro rfl rfl)) ?_) | (exact fun hW => absurd hW (by decide +kernel)) | (intro hW; (try simp only [Bool.not_true, Bool.not_false, Bool.not_eq_true', Bool.not_eq_false', decide_eq_true_eq, decide_eq_false_iff_not, reduceCtorEq, Bool.true_eq_false, Bool.false_eq_true, mk_size, List.size_toArray, ByteArray.size_append, ByteArray.size_extract, List.length_cons, List.length_nil, ba_get, ba_empty, Int.toNat_natCast] at hW)) | (refine And.intro (?_ : _ → _) (?_ : _ → _)) | (refine FinR.drop 0 (Nat.zero_le _) (Closed.zero _) rfl ?_) | (refine FinR.keep ?_) | (refine And.intro (det3_agg rfl) ?_) | (refine fL_mk ?_) | (refine And.intro (by (try simp only [mk_size, List.size_toArray, ByteArray.size_append, ByteArray.size_extract, List.length_cons, List.length_nil]); omega) ?_) | (refine And.intro (by (try simp only [mk_size, List.size_toArray, ByteArray.size_append, ByteArray.size_extract, List.length_cons, List.length_nil, wrap64_eq]); omega) ?_) | fail)
        all_goals first | (exfalso; omega) | (exfalso; simp_all; done) | skip
        skip
        all_goals first | exact FinR.keep h0' | exact h0'
theorem d_lenF (m : Nat) (hm : m < 2 ^ 36) (hz : m ≠ 0) (V : Nat → Nat) (hV : ∀ n, n < 2 ^ 36 → V n = gL false ((nxL n m).map V)) (n : Nat) (hn : n < 2 ^ 36) (bg b1 b2 b3 : Nat) (h1 : σ[bg]? = some (bGm m b1 b2)) (h2 : σ[b3]? = some bNew) (K : Cont) (h0 : ∀ S, K (I (V n)) S) : ACall Try.prog W0 37 [.ptr bg 0 0, U n, .lit (.func (.func 39) #[] #[]), .ptr b3 0 0] σ K :=
  c_lenF m hm hz V hV _ n hn (Nat.le_refl _) W0 σ bg b1 b2 b3 bNew [] h1 (new_mem h2) GoodK.nil K fun S _ _ _ _ _ _ => h0 S
theorem c_ShortestGameT (n m : Nat) (hn : n < 2 ^ 36) (hm : m < 2 ^ 36) (hz : m ≠ 0) (hs : smB n m = true) (V : Nat → Nat) (hV : ∀ n, n < 2 ^ 36 → V n = gL false ((nxL n m).map V)) (K : Cont) (h0 : K (.tup [I (V n), Bo true]) []) : ACall Try.prog W0 16 [ShN n, ShN m] [] K := by
  refine by16 (Nat.le_of_ble_eq_true rfl) ?_
  generalize hvn : V n = q at h0
  have hnum := fun (σ : List Blk) (bg b1 b2 b3 : Nat) (h1 : σ[bg]? = some (bGm m b1 b2)) (h2 : σ[b3]? = some bNew) (K : Cont) (hK : ∀ S, K (I q) S) => d_lenF (W0 := W0) (σ := σ) m hm hz V hV n hn bg b1 b2 b3 h1 h2 K (fun S => by rw [hvn]; exact hK S)
  repeat' ((conv => whnf); first | (refine Exists.intro ([] : List Nat) ?_) | (refine And.intro rfl ?_) | (refine And.intro (by decide +kernel) ?_) | (refine And.intro trivial ?_) | (refine d_gameOfT (hn := hn) (hm := hm) (hz := hz) (hs := hs) (h0 := fun S g b1 b2 g1 g2 g3 hk => ?_) ..) | (refine fS_mk ?_) | (refine hnum _ _ _ _ _ (getx1 g1) getl _ (fun S2 => ?_)) | (refine Exists.intro _ (And.intro rfl (And.intro rfl (And.intro (Nat.le_of_ble_eq_true rfl) ?_)))) | (refine Exists.intro _ (And.intro rfl (And.intro rfl (And.intro rfl (And.intro (Nat.le_of_ble_eq_true rfl) ?_))))) | (refine And.intro (Exists.intro _ (And.intro rfl rfl)) ?_) | (exact fun hW => absurd hW (by decide +kernel)) | (intro hW; (try simp only [Bool.not_true, Bool.not_false, Bool.not_eq_true', Bool.not_eq_false', decide_eq_true_eq, decide_eq_false_iff_not, reduceCtorEq, Bool.true_eq_false, Bool.false_eq_true, mk_size, List.size_toArray, ByteArray.size_append, ByteArray.size_extract, List.length_cons, List.length_nil, ba_get, ba_empty, Int.toNat_natCast] at hW)) | (refine And.intro (?_ : _ → _) (?_ : _ → _)) | (refine FinR.drop 0 (Nat.zero_le _) (Closed.zero _) rfl ?_) | (refine FinR.keep ?_) | (refine And.intro (det3_agg rfl) ?_) | (refine fL_mk ?_) | (refine And.intro (by (try simp only [mk_size, List.size_toArray, ByteArray.size_append, ByteArray.size_extract, List.length_cons, List.length_nil]); omega) ?_) | (refine And.intro (by (try simp only [mk_size, List.size_toArray, ByteArray.size_append, ByteArray.size_extract, List.length_cons, List.length_nil, wrap64_eq]); omega) ?_) | fail)
  skip
  all_goals first | (exfalso; simp_all; done) | exact h0
theorem d_ShortestGameT (n m : Nat) (hn : n < 2 ^ 36) (hm : m < 2 ^ 36) (hz : m ≠ 0) (hs : smB n m = true) (V : Nat → Nat) (hV : ∀ n, n < 2 ^ 36 → V n = gL false ((nxL n m).map V)) (K : Cont) (h0 : K (.tup [I (V n), Bo true]) σ) : ACall Try.prog W0 16 [ShN n, ShN m] σ K :=
  ACall.lift rfl (fun _ => rfl) (fun W1 K _ hK => c_ShortestGameT n m hn hm hz hs V hV K hK) h0
theorem c_ShortestGameF (a b c d e f a' b' c' d' e' f' : Int) (h : Sm a b c d e f a' b' c' d' e' f' none) (K : Cont) (h0 : K (.tup [I 0, Bo false]) []) : ACall Try.prog W0 16 [Sh a b c d e f, Sh a' b' c' d' e' f'] [] K := by
  refine by16 (Nat.le_of_ble_eq_true rfl) ?_
  repeat' ((conv => whnf); first | (refine Exists.intro ([] : List Nat) ?_) | (refine And.intro rfl ?_) | (refine And.intro (by decide +kernel) ?_) | (refine And.intro trivial ?_) | (refine d_gameOfF (h := h) (h0 := fun S g p hk => ?_) ..) | (refine Exists.intro _ (And.intro rfl (And.intro rfl (And.intro (Nat.le_of_ble_eq_true rfl) ?_)))) | (refine Exists.intro _ (And.intro rfl (And.intro rfl (And.intro rfl (And.intro (Nat.le_of_ble_eq_true rfl) ?_))))) | (refine And.intro (Exists.intro _ (And.intro rfl rfl)) ?_) | (exact fun hW => absurd hW (by decide +kernel)) | (intro hW; (try simp only [Bool.not_true, Bool.not_false, Bool.not_eq_true', Bool.not_eq_false', decide_eq_true_eq, decide_eq_false_iff_not, reduceCtorEq, Bool.true_eq_false, Bool.false_eq_true, mk_size, List.size_toArray, ByteArray.size_append, ByteArray.size_extract, List.length_cons, List.length_nil, ba_get, ba_empty, Int.toNat_natCast] at hW)) | (refine And.intro (?_ : _ → _) (?_ : _ → _)) | (refine FinR.drop 0 (Nat.zero_le _) (Closed.zero _) rfl ?_) | (refine FinR.keep ?_) | (refine And.intro (det3_agg rfl) ?_) | (refine fL_mk ?_) | (refine And.intro (by (try simp only [mk_size, List.size_toArray, ByteArray.size_append, ByteArray.size_extract, List.length_cons, List.length_nil]); omega) ?_) | (refine And.intro (by (try simp only [mk_size, List.size_toArray, ByteArray.size_append, ByteArray.size_extract, List.length_cons, List.length_nil, wrap64_eq]); omega) ?_) | fail)
  all_goals first | (exfalso; simp_all; done) | exact h0
theorem d_ShortestGameF (a b c d e f a' b' c' d' e' f' : Int) (h : Sm a b c d e f a' b' c' d' e' f' none) (K : Cont) (h0 : K (.tup [I 0, Bo false]) σ) : ACall Try.prog W0 16 [Sh a b c d e f, Sh a' b' c' d' e' f'] σ K :=
  ACall.lift rfl (fun _ => rfl) (fun W1 K _ hK => c_ShortestGameF a b c d e f a' b' c' d' e' f' h K hK) h0
theorem c_law_ShortestGame (a : Int) (ha : IntKind.i64.has a) (b : Int) (hb : IntKind.i64.has b) (c : Int) (hc : IntKind.i64.has c) (d : Int) (hd : IntKind.i64.has d) (e : Int) (he : IntKind.i64.has e) (f : Int) (hf : IntKind.i64.has f) (a' : Int) (ha' : IntKind.i64.has a') (b' : Int) (hb' : IntKind.i64.has b') (c' : Int) (hc' : IntKind.i64.has c') (d' : Int) (hd' : IntKind.i64.has d') (e' : Int) (he' : IntKind.i64.has e') (f' : Int) (hf' : IntKind.i64.has f') (K : Cont) (h0 : K (Bo true) []) : ACall Try.prog W0 5 [Sh a b c d e f, Sh a' b' c' d' e' f'] [] K := by
  refine by5 (Nat.le_of_ble_eq_true rfl) ?_
  obtain ⟨o, ho⟩ := sm_all a b c d e f a' b' c' d' e' f'
  cases o with
  | none =>
    repeat' ((conv => whnf); first | (refine Exists.intro ([] : List Nat) ?_) | (refine And.intro rfl ?_) | (refine And.intro (by decide +kernel) ?_) | (refine And.intro trivial ?_) | (refine d_toSheet (h0 := ?_) ..) | (refine Exists.intro _ (And.intro (fun τ => callW_fn (d_toSheet (h0 := And.intro rfl rfl) ..)) ?_)) | (refine Exists.intro _ (And.intro (callW_fn (d_toSheet (h0 := And.intro rfl rfl) ..)) (And.intro trivial ?_))) | (refine Exists.intro _ (And.intro (callW_fn (d_toSheet (h0 := And.intro rfl rfl) ..)) ?_)) | (refine Exists.intro _ (And.intro (fun τ _ => callW_fn (d_toSheet (h0 := And.intro rfl rfl) ..)) ?_)) | (refine d_sShortestGameF (h := ho) (h0 := ?_) ..) | (refine Exists.intro _ (And.intro (fun τ => callW_fn (d_sShortestGameF (h := ho) (h0 := And.intro rfl rfl) ..)) ?_)) | (refine Exists.intro _ (And.intro (callW_fn (d_sShortestGameF (h := ho) (h0 := And.intro rfl rfl) ..)) (And.intro trivial ?_))) | (refine Exists.intro _ (And.intro (callW_fn (d_sShortestGameF (h := ho) (h0 := And.intro rfl rfl) ..)) ?_)) | (refine Exists.intro _ (And.intro (fun τ _ => callW_fn (d_sShortestGameF (h := ho) (h0 := And.intro rfl rfl) ..)) ?_)) | (refine d_ShortestGameF (h := ho) (h0 := ?_) ..) | (refine Exists.intro _ (And.intro (fun τ => callW_fn (d_ShortestGameF (h := ho) (h0 := And.intro rfl rfl) ..)) ?_)) | (refine Exists.intro _ (And.intro (callW_fn (d_ShortestGameF (h := ho) (h0 := And.intro rfl rfl) ..)) (And.intro trivial ?_))) | (refine Exists.intro _ (And.intro (callW_fn (d_ShortestGameF (h := ho) (h0 := And.intro rfl rfl) ..)) ?_)) | (refine Exists.intro _ (And.intro (fun τ _ => callW_fn (d_ShortestGameF (h := ho) (h0 := And.intro rfl rfl) ..)) ?_)) | (refine Exists.intro _ (And.intro rfl (And.intro rfl (And.intro (Nat.le_of_ble_eq_true rfl) ?_)))) | (refine Exists.intro _ (And.intro rfl (And.intro rfl (And.intro rfl (And.intro (Nat.le_of_ble_eq_true rfl) ?_))))) | (refine And.intro (Exists.intro _ (And.intro rfl rfl)) ?_) | (exact fun hW => absurd hW (by decide +kernel)) | (intro hW; (try simp only [Bool.not_true, Bool.not_false, Bool.not_eq_true', Bool.not_eq_false', decide_eq_true_eq, decide_eq_false_iff_not, reduceCtorEq, Bool.true_eq_false, Bool.false_eq_true, mk_size, List.size_toArray, ByteArray.size_append, ByteArray.size_extract, List.length_cons, List.length_nil, ba_get, ba_empty, Int.toNat_natCast] at hW)) | (refine And.intro (?_ : _ → _) (?_ : _ → _)) | (refine FinR.drop 0 (Nat.zero_le _) (Closed.zero _) rfl ?_) | (refine FinR.keep ?_) | (refine And.intro (det3_agg rfl) ?_) | (refine fL_mk ?_) | (refine And.intro (by (try simp only [mk_size, List.size_toArray, ByteArray.size_append, ByteArray.size_extract, List.length_cons, List.length_nil]); omega) ?_) | (refine And.intro (by (try simp only [mk_size, List.size_toArray, ByteArray.size_append, ByteArray.size_extract, List.length_cons, List.length_nil, wrap64_eq]); omega) ?_) | fail)
    all_goals first | exact h0 | (exfalso; simp_all; done)
  | some p =>
    cases ho with
    | yes n m hn hm hz hs =>
      obtain ⟨V, hV⟩ := gmV_has (gL false) hm hz
      have q1 := fun (σ : List Blk) (K : Cont) (h : K (.tup [I (V n), Bo true]) σ) => d_sShortestGameT (W0 := W0) (σ := σ) n m hn hm hz hs V hV K h
      have q2 := fun (σ : List Blk) (K : Cont) (h : K (.tup [I (V n), Bo true]) σ) => d_ShortestGameT (W0 := W0) (σ := σ) n m hn hm hz hs V hV K h
      generalize V n = w at q1 q2
      repeat' ((conv => whnf); first | (refine Exists.intro ([] : List Nat) ?_) | (refine And.intro rfl ?_) | (refine And.intro (by decide +kernel) ?_) | (refine And.intro trivial ?_) | (refine d_toSheet (h0 := ?_) ..) | (refine Exists.intro _ (And.intro (fun τ => callW_fn (d_toSheet (h0 := And.intro rfl rfl) ..)) ?_)) | (refine Exists.intro _ (And.intro (callW_fn (d_toSheet (h0 := And.intro rfl rfl) ..)) (And.intro trivial ?_))) | (refine Exists.intro _ (And.intro (callW_fn (d_toSheet (h0 := And.intro rfl rfl) ..)) ?_)) | (refine Exists.intro _ (And.intro (fun τ _ => callW_fn (d_toSheet (h0 := And.intro rfl rfl) ..)) ?_)) | (refine Exists.intro _ (And.intro (fun τ => callW_fn (q1 _ _ (And.intro rfl rfl))) ?_)) | (refine Exists.intro _ (And.intro (fun τ => callW_fn (q2 _ _ (And.intro rfl rfl))) ?_)) | (refine Exists.intro _ (And.intro rfl (And.intro rfl (And.intro (Nat.le_of_ble_eq_true rfl) ?_)))) | (refine Exists.intro _ (And.intro rfl (And.intro rfl (And.intro rfl (And.intro (Nat.le_of_ble_eq_true rfl) ?_))))) | (refine And.intro (Exists.intro _ (And.intro rfl rfl)) ?_) | (exact fun hW => absurd hW (by decide +kernel)) | (intro hW; (try simp only [Bool.not_true, Bool.not_false, Bool.not_eq_true', Bool.not_eq_false', decide_eq_true_eq, decide_eq_false_iff_not, reduceCtorEq, Bool.true_eq_false, Bool.false_eq_true, mk_size, List.size_toArray, ByteArray.size_append, ByteArray.size_extract, List.length_cons, List.length_nil, ba_get, ba_empty, Int.toNat_natCast] at hW)) | (refine And.intro (?_ : _ → _) (?_ : _ → _)) | (refine FinR.drop 0 (Nat.zero_le _) (Closed.zero _) rfl ?_) | (refine FinR.keep ?_) | (refine And.intro (det3_agg rfl) ?_) | (refine fL_mk ?_) | (refine And.intro (by (try simp only [mk_size, List.size_toArray, ByteArray.size_append, ByteArray.size_extract, List.length_cons, List.length_nil]); omega) ?_) | (refine And.intro (by (try simp only [mk_size, List.size_toArray, ByteArray.size_append, ByteArray.size_extract, List.length_cons, List.length_nil, wrap64_eq]); omega) ?_) | fail)
      skip
      all_goals first | exact h0 | (exfalso; simp_all; done)
end Go.Proofs.Ytcclhjohpicleaa
end
