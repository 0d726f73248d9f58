import Derived.Test.YtcclhjohpicleaaX6
section
/- Games: what is played; NextsOf by both sides. -/
set_option linter.unusedVariables false
set_option linter.unusedSimpArgs false
set_option maxRecDepth 100000
set_option maxHeartbeats 4000000
namespace Go.Proofs.Ytcclhjohpicleaa
open Go Go.RowKit Go.Proofs.Ytcclhjohpicleaa.Abs
variable {W0 : World} {σ : List Blk}
theorem d_sNexts (n m : Nat) (hn : n < 2 ^ 36) (K : Cont) (h0 : ∀ S b v cap B, OwnS S b v B (nxL n m) → σ.length ≤ b → (∀ (j : Nat) (B : Blk), σ[j]? = some B → S[j]? = some B) → K (.sl b v 0 (nxL n m).length cap) S) : ACall Try.prog W0 42 [ShN n, ShN m] σ K := by
  rw [← rx_nx hn] at h0
  refine ACall.frame (K0 := fun v S => ∃ b vv cap B, v = .sl b vv 0 (rxL (cdL n m)).length cap ∧ OwnS S b vv B (rxL (cdL n m))) rfl (fun W1 _ => c_l10Nexts n m hn _ fun S b v cap B h => ⟨b, v, cap, B, rfl, h⟩) ?_
  rintro v S ⟨b, vv, cap, B, rfl, h⟩
  exact h0 _ _ _ cap _ ⟨get_sh h.g, h.v, h.r, h.e, h.z, by show B.cells.map _ = _; rw [h.c, jc_sh]⟩ (Nat.le_add_right _ _) (fun j B hj => getx1 hj)
/-! what is played -/
def vaB (a b c d e f a' b' c' d' e' f' : Int) : Bool := shB6 a b c d e f && shB6 a' b' c' d' e' f'
theorem c_twoSetsG (a b c d e f a' b' c' d' e' f' : Int) (h : vaB a b c d e f a' b' c' d' e' f' = false) (K : Cont) (h0 : ∀ p q, K (.tup [U p, U q, Bo false]) []) : ACall Try.prog W0 63 [Sh a b c d e f, Sh a' b' c' d' e' f'] [] K := by
  refine by63 (Nat.le_of_ble_eq_true rfl) ?_
  have e1 : ∃ p, setR a b c d e f = .tup [U p, Bo (shB6 a b c d e f)] := by unfold setR; cases shB6 a b c d e f <;> exact ⟨_, rfl⟩
  have e2 : ∃ p, setR a' b' c' d' e' f' = .tup [U p, Bo (shB6 a' b' c' d' e' f')] := by unfold setR; cases shB6 a' b' c' d' e' f' <;> exact ⟨_, rfl⟩
  obtain ⟨p, e1⟩ := e1
  obtain ⟨q, e2⟩ := e2
  unfold vaB at h
  cases hs : shB6 a b c d e f with
  | false =>
    rw [hs] at e1
    repeat' ((conv => whnf); first | (refine Exists.intro ([] : List Nat) ?_) | (refine And.intro rfl ?_) | (refine And.intro (by decide +kernel) ?_) | (refine And.intro trivial ?_) | (refine d_setOf (a := a) (b := b) (c := c) (d := d) (e := e) (f := f) (h0 := ?_) ..; rw [e1]) | (refine d_setOf (a := a') (b := b') (c := c') (d := d') (e := e') (f := f') (h0 := ?_) ..; rw [e2]) | (refine Exists.intro _ (And.intro rfl (And.intro rfl (And.intro (Nat.le_of_ble_eq_true rfl) ?_)))) | (refine Exists.intro _ (And.intro rfl (And.intro rfl (And.intro rfl (And.intro (Nat.le_of_ble_eq_true rfl) ?_))))) | (refine And.intro (Exists.intro _ (And.intro rfl rfl)) ?_) | (exact fun hW => absurd hW (by decide +kernel)) | (intro hW; (try simp only [Bool.not_true, Bool.not_false, Bool.not_eq_true', Bool.not_eq_false', decide_eq_true_eq, decide_eq_false_iff_not, reduceCtorEq, Bool.true_eq_false, Bool.false_eq_true, mk_size, List.size_toArray, ByteArray.size_append, ByteArray.size_extract, List.length_cons, List.length_nil, ba_get, ba_empty, Int.toNat_natCast] at hW)) | (refine And.intro (?_ : _ → _) (?_ : _ → _)) | (refine FinR.drop 0 (Nat.zero_le _) (Closed.zero _) rfl ?_) | (refine FinR.keep ?_) | (refine And.intro (det3_agg rfl) ?_) | (refine fL_mk ?_) | (refine And.intro (by (try simp only [mk_size, List.size_toArray, ByteArray.size_append, ByteArray.size_extract, List.length_cons, List.length_nil]); omega) ?_) | (refine And.intro (by (try simp only [mk_size, List.size_toArray, ByteArray.size_append, ByteArray.size_extract, List.length_cons, List.length_nil, wrap64_eq]); omega) ?_) | fail)
    all_goals first | exact h0 _ _ | (exfalso; simp_all; done)
  | true =>
    rw [hs] at e1 h
    rw [Bool.true_and] at h
    rw [h] at e2
    repeat' ((conv => whnf); first | (refine Exists.intro ([] : List Nat) ?_) | (refine And.intro rfl ?_) | (refine And.intro (by decide +kernel) ?_) | (refine And.intro trivial ?_) | (refine d_setOf (a := a) (b := b) (c := c) (d := d) (e := e) (f := f) (h0 := ?_) ..; rw [e1]) | (refine d_setOf (a := a') (b := b') (c := c') (d := d') (e := e') (f := f') (h0 := ?_) ..; rw [e2]) | (refine Exists.intro _ (And.intro rfl (And.intro rfl (And.intro (Nat.le_of_ble_eq_true rfl) ?_)))) | (refine Exists.intro _ (And.intro rfl (And.intro rfl (And.intro rfl (And.intro (Nat.le_of_ble_eq_true rfl) ?_))))) | (refine And.intro (Exists.intro _ (And.intro rfl rfl)) ?_) | (exact fun hW => absurd hW (by decide +kernel)) | (intro hW; (try simp only [Bool.not_true, Bool.not_false, Bool.not_eq_true', Bool.not_eq_false', decide_eq_true_eq, decide_eq_false_iff_not, reduceCtorEq, Bool.true_eq_false, Bool.false_eq_true, mk_size, List.size_toArray, ByteArray.size_append, ByteArray.size_extract, List.length_cons, List.length_nil, ba_get, ba_empty, Int.toNat_natCast] at hW)) | (refine And.intro (?_ : _ → _) (?_ : _ → _)) | (refine FinR.drop 0 (Nat.zero_le _) (Closed.zero _) rfl ?_) | (refine FinR.keep ?_) | (refine And.intro (det3_agg rfl) ?_) | (refine fL_mk ?_) | (refine And.intro (by (try simp only [mk_size, List.size_toArray, ByteArray.size_append, ByteArray.size_extract, List.length_cons, List.length_nil]); omega) ?_) | (refine And.intro (by (try simp only [mk_size, List.size_toArray, ByteArray.size_append, ByteArray.size_extract, List.length_cons, List.length_nil, wrap64_eq]); omega) ?_) | fail)
    all_goals first | exact h0 _ _ | (exfalso; simp_all; done)
theorem d_twoSetsG (a b c d e f a' b' c' d' e' f' : Int) (h : vaB a b c d e f a' b' c' d' e' f' = false) (K : Cont) (h0 : ∀ p q, K (.tup [U p, U q, Bo false]) σ) : ACall Try.prog W0 63 [Sh a b c d e f, Sh a' b' c' d' e' f'] σ K := by
  refine ACall.frame (K0 := fun v σ' => ∃ p q, v = .tup [U p, U q, Bo false] ∧ σ' = []) rfl (fun W1 _ => c_twoSetsG a b c d e f a' b' c' d' e' f' h _ fun p q => ⟨p, q, rfl, rfl⟩) ?_
  rintro v σ' ⟨p, q, rfl, rfl⟩
  show K _ (σ ++ [])
  rw [List.append_nil]; exact h0 p q
theorem c_playV (n m : Nat) (hn : n < 2 ^ 36) (hm : m < 2 ^ 36) (K : Cont) (h0 : K (.tup [U n, U m, Bo (decide (m ≠ 0))]) []) : ACall Try.prog W0 43 [ShN n, ShN m] [] K := by
  refine by43 (Nat.le_of_ble_eq_true rfl) ?_
  by_cases h : m = 0
  · rw [decide_eq_false (fun e => e h)] at h0
    subst h
    repeat' ((conv => whnf); first | (refine Exists.intro ([] : List Nat) ?_) | (refine And.intro rfl ?_) | (refine And.intro (by decide +kernel) ?_) | (refine And.intro trivial ?_) | (refine d_twoSetsN (hn := hn) (hm := hm) (h0 := ?_) ..) | (refine Exists.intro _ (And.intro rfl (And.intro rfl (And.intro (Nat.le_of_ble_eq_true rfl) ?_)))) | (refine Exists.intro _ (And.intro rfl (And.intro rfl (And.intro rfl (And.intro (Nat.le_of_ble_eq_true rfl) ?_))))) | (refine And.intro (Exists.intro _ (And.intro rfl rfl)) ?_) | (exact fun hW => absurd hW (by decide +kernel)) | (intro hW; (try simp only [Bool.not_true, Bool.not_false, Bool.not_eq_true', Bool.not_eq_false', decide_eq_true_eq, decide_eq_false_iff_not, reduceCtorEq, Bool.true_eq_false, Bool.false_eq_true, mk_size, List.size_toArray, ByteArray.size_append, ByteArray.size_extract, List.length_cons, List.length_nil, ba_get, ba_empty, Int.toNat_natCast] at hW)) | (refine And.intro (?_ : _ → _) (?_ : _ → _)) | (refine FinR.drop 0 (Nat.zero_le _) (Closed.zero _) rfl ?_) | (refine FinR.keep ?_) | (refine And.intro (det3_agg rfl) ?_) | (refine fL_mk ?_) | (refine And.intro (by (try simp only [mk_size, List.size_toArray, ByteArray.size_append, ByteArray.size_extract, List.length_cons, List.length_nil]); omega) ?_) | (refine And.intro (by (try simp only [mk_size, List.size_toArray, ByteArray.size_append, ByteArray.size_extract, List.length_cons, List.length_nil, wrap64_eq]); omega) ?_) | fail)
    all_goals first | exact h0 | (exfalso; omega) | (exfalso; simp_all; done)
  · rw [decide_eq_true h] at h0
    have hz : ¬ ((m : Nat) : Int) = 0 := by omega
    repeat' ((conv => whnf); first | (refine Exists.intro ([] : List Nat) ?_) | (refine And.intro rfl ?_) | (refine And.intro (by decide +kernel) ?_) | (refine And.intro trivial ?_) | (refine d_twoSetsN (hn := hn) (hm := hm) (h0 := ?_) ..) | (refine Exists.intro _ (And.intro rfl (And.intro rfl (And.intro (Nat.le_of_ble_eq_true rfl) ?_)))) | (refine Exists.intro _ (And.intro rfl (And.intro rfl (And.intro rfl (And.intro (Nat.le_of_ble_eq_true rfl) ?_))))) | (refine And.intro (Exists.intro _ (And.intro rfl rfl)) ?_) | (exact fun hW => absurd hW (by decide +kernel)) | (intro hW; (try simp only [Bool.not_true, Bool.not_false, Bool.not_eq_true', Bool.not_eq_false', decide_eq_true_eq, decide_eq_false_iff_not, reduceCtorEq, Bool.true_eq_false, Bool.false_eq_true, mk_size, List.size_toArray, ByteArray.size_append, ByteArray.size_extract, List.length_cons, List.length_nil, ba_get, ba_empty, Int.toNat_natCast] at hW)) | (refine And.intro (?_ : _ → _) (?_ : _ → _)) | (refine FinR.drop 0 (Nat.zero_le _) (Closed.zero _) rfl ?_) | (refine FinR.keep ?_) | (refine And.intro (det3_agg rfl) ?_) | (refine fL_mk ?_) | (refine And.intro (by (try simp only [mk_size, List.size_toArray, ByteArray.size_append, ByteArray.size_extract, List.length_cons, List.length_nil]); omega) ?_) | (refine And.intro (by (try simp only [mk_size, List.size_toArray, ByteArray.size_append, ByteArray.size_extract, List.length_cons, List.length_nil, wrap64_eq]); omega) ?_) | fail)
    all_goals first | exact h0 | (exfalso; omega) | (exfalso; simp_all; done) | (refine Eq.mp (congrArg (fun z : Bool => K (.tup [U n, U m, Bo z]) []) (Eq.symm ?_)) h0; simp; omega)
theorem d_playV (n m : Nat) (hn : n < 2 ^ 36) (hm : m < 2 ^ 36) (K : Cont) (h0 : K (.tup [U n, U m, Bo (decide (m ≠ 0))]) σ) : ACall Try.prog W0 43 [ShN n, ShN m] σ K :=
  ACall.lift rfl (fun _ => rfl) (fun W1 K _ hK => c_playV n m hn hm K hK) h0
theorem c_playI (a b c d e f a' b' c' d' e' f' : Int) (h : vaB a b c d e f a' b' c' d' e' f' = false) (K : Cont) (h0 : ∀ p q, K (.tup [U p, U q, Bo false]) []) : ACall Try.prog W0 43 [Sh a b c d e f, Sh a' b' c' d' e' f'] [] K := by
  refine by43 (Nat.le_of_ble_eq_true rfl) ?_
  repeat' ((conv => whnf); first | (refine Exists.intro ([] : List Nat) ?_) | (refine And.intro rfl ?_) | (refine And.intro (by decide +kernel) ?_) | (refine And.intro trivial ?_) | (refine d_twoSetsG (h := h) (h0 := fun p q => ?_) ..) | (refine Exists.intro _ (And.intro rfl (And.intro rfl (And.intro (Nat.le_of_ble_eq_true rfl) ?_)))) | (refine Exists.intro _ (And.intro rfl (And.intro rfl (And.intro rfl (And.intro (Nat.le_of_ble_eq_true rfl) ?_))))) | (refine And.intro (Exists.intro _ (And.intro rfl rfl)) ?_) | (exact fun hW => absurd hW (by decide +kernel)) | (intro hW; (try simp only [Bool.not_true, Bool.not_false, Bool.not_eq_true', Bool.not_eq_false', decide_eq_true_eq, decide_eq_false_iff_not, reduceCtorEq, Bool.true_eq_false, Bool.false_eq_true, mk_size, List.size_toArray, ByteArray.size_append, ByteArray.size_extract, List.length_cons, List.length_nil, ba_get, ba_empty, Int.toNat_natCast] at hW)) | (refine And.intro (?_ : _ → _) (?_ : _ → _)) | (refine FinR.drop 0 (Nat.zero_le _) (Closed.zero _) rfl ?_) | (refine FinR.keep ?_) | (refine And.intro (det3_agg rfl) ?_) | (refine fL_mk ?_) | (refine And.intro (by (try simp only [mk_size, List.size_toArray, ByteArray.size_append, ByteArray.size_extract, List.length_cons, List.length_nil]); omega) ?_) | (refine And.intro (by (try simp only [mk_size, List.size_toArray, ByteArray.size_append, ByteArray.size_extract, List.length_cons, List.length_nil, wrap64_eq]); omega) ?_) | fail)
  all_goals first | exact h0 _ _ | (exfalso; simp_all; done)
theorem c_goodV (n m : Nat) (hm : m < 2 ^ 36) (K : Cont) (h0 : K (Bo (decide (m ≠ 0))) []) : ACall Try.prog W0 41 [ShN n, ShN m] [] K := by
  refine by41 (Nat.le_of_ble_eq_true rfl) ?_
  have ho := ones_dec m hm
  rw [decide_eq_decide] at ho
  have hcount := fun (σ : List Blk) (K : Cont) => d_l2CountM (W0 := W0) (σ := σ) m hm K
  generalize ones 64 m = q at ho hcount
  by_cases h : m = 0
  · rw [decide_eq_false (fun e => e h)] at h0
    have hz := ho.2 h
    repeat' ((conv => whnf); first | (refine Exists.intro ([] : List Nat) ?_) | (refine And.intro rfl ?_) | (refine And.intro (by decide +kernel) ?_) | (refine And.intro trivial ?_) | (refine d_l2SheetN (h0 := ?_) ..) | (refine Exists.intro _ (And.intro (fun τ => callW_fn (d_l2SheetN (h0 := And.intro rfl rfl) ..)) ?_)) | (refine Exists.intro _ (And.intro (callW_fn (d_l2SheetN (h0 := And.intro rfl rfl) ..)) (And.intro trivial ?_))) | (refine Exists.intro _ (And.intro (callW_fn (d_l2SheetN (h0 := And.intro rfl rfl) ..)) ?_)) | (refine Exists.intro _ (And.intro (fun τ _ => callW_fn (d_l2SheetN (h0 := And.intro rfl rfl) ..)) ?_)) | (refine hcount _ _ ?_) | (refine Exists.intro _ (And.intro rfl (And.intro rfl (And.intro (Nat.le_of_ble_eq_true rfl) ?_)))) | (refine Exists.intro _ (And.intro rfl (And.intro rfl (And.intro rfl (And.intro (Nat.le_of_ble_eq_true rfl) ?_))))) | (refine And.intro (Exists.intro _ (And.intro rfl rfl)) ?_) | (exact fun hW => absurd hW (by decide +kernel)) | (intro hW; (try simp only [Bool.not_true, Bool.not_false, Bool.not_eq_true', Bool.not_eq_false', decide_eq_true_eq, decide_eq_false_iff_not, reduceCtorEq, Bool.true_eq_false, Bool.false_eq_true, mk_size, List.size_toArray, ByteArray.size_append, ByteArray.size_extract, List.length_cons, List.length_nil, ba_get, ba_empty, Int.toNat_natCast] at hW)) | (refine And.intro (?_ : _ → _) (?_ : _ → _)) | (refine FinR.drop 0 (Nat.zero_le _) (Closed.zero _) rfl ?_) | (refine FinR.keep ?_) | (refine And.intro (det3_agg rfl) ?_) | (refine fL_mk ?_) | (refine And.intro (by (try simp only [mk_size, List.size_toArray, ByteArray.size_append, ByteArray.size_extract, List.length_cons, List.length_nil]); omega) ?_) | (refine And.intro (by (try simp only [mk_size, List.size_toArray, ByteArray.size_append, ByteArray.size_extract, List.length_cons, List.length_nil, wrap64_eq]); omega) ?_) | fail)
    all_goals first | exact h0 | (exfalso; omega) | (exfalso; simp_all; done) | (refine kB' h0 ?_; rw [decide_eq_false (by omega)])
  · rw [decide_eq_true h] at h0
    have hz : ¬ ((q : Nat) : Int) = 0 := fun e => h (ho.1 e)
    repeat' ((conv => whnf); first | (refine Exists.intro ([] : List Nat) ?_) | (refine And.intro rfl ?_) | (refine And.intro (by decide +kernel) ?_) | (refine And.intro trivial ?_) | (refine d_l2SheetN (h0 := ?_) ..) | (refine Exists.intro _ (And.intro (fun τ => callW_fn (d_l2SheetN (h0 := And.intro rfl rfl) ..)) ?_)) | (refine Exists.intro _ (And.intro (callW_fn (d_l2SheetN (h0 := And.intro rfl rfl) ..)) (And.intro trivial ?_))) | (refine Exists.intro _ (And.intro (callW_fn (d_l2SheetN (h0 := And.intro rfl rfl) ..)) ?_)) | (refine Exists.intro _ (And.intro (fun τ _ => callW_fn (d_l2SheetN (h0 := And.intro rfl rfl) ..)) ?_)) | (refine hcount _ _ ?_) | (refine Exists.intro _ (And.intro rfl (And.intro rfl (And.intro (Nat.le_of_ble_eq_true rfl) ?_)))) | (refine Exists.intro _ (And.intro rfl (And.intro rfl (And.intro rfl (And.intro (Nat.le_of_ble_eq_true rfl) ?_))))) | (refine And.intro (Exists.intro _ (And.intro rfl rfl)) ?_) | (exact fun hW => absurd hW (by decide +kernel)) | (intro hW; (try simp only [Bool.not_true, Bool.not_false, Bool.not_eq_true', Bool.not_eq_false', decide_eq_true_eq, decide_eq_false_iff_not, reduceCtorEq, Bool.true_eq_false, Bool.false_eq_true, mk_size, List.size_toArray, ByteArray.size_append, ByteArray.size_extract, List.length_cons, List.length_nil, ba_get, ba_empty, Int.toNat_natCast] at hW)) | (refine And.intro (?_ : _ → _) (?_ : _ → _)) | (refine FinR.drop 0 (Nat.zero_le _) (Closed.zero _) rfl ?_) | (refine FinR.keep ?_) | (refine And.intro (det3_agg rfl) ?_) | (refine fL_mk ?_) | (refine And.intro (by (try simp only [mk_size, List.size_toArray, ByteArray.size_append, ByteArray.size_extract, List.length_cons, List.length_nil]); omega) ?_) | (refine And.intro (by (try simp only [mk_size, List.size_toArray, ByteArray.size_append, ByteArray.size_extract, List.length_cons, List.length_nil, wrap64_eq]); omega) ?_) | fail)
    all_goals first | exact h0 | (exfalso; omega) | (exfalso; simp_all; done) | (refine kB' h0 ?_; rw [decide_eq_true (by omega)])
theorem d_goodV (n m : Nat) (hm : m < 2 ^ 36) (K : Cont) (h0 : K (Bo (decide (m ≠ 0))) σ) : ACall Try.prog W0 41 [ShN n, ShN m] σ K :=
  ACall.lift rfl (fun _ => rfl) (fun W1 K _ hK => c_goodV n m hm K hK) h0
theorem c_goodI (a b c d e f a' b' c' d' e' f' : Int) (h : vaB a b c d e f a' b' c' d' e' f' = false) (K : Cont) (h0 : K (Bo false) []) : ACall Try.prog W0 41 [Sh a b c d e f, Sh a' b' c' d' e' f'] [] K := by
  refine by41 (Nat.le_of_ble_eq_true rfl) ?_
  unfold vaB at h
  cases hs : shB6 a b c d e f with
  | false =>
    repeat' ((conv => whnf); first | (refine Exists.intro ([] : List Nat) ?_) | (refine And.intro rfl ?_) | (refine And.intro (by decide +kernel) ?_) | (refine And.intro trivial ?_) | (refine d_l2Sheet (h0 := ?_) ..; rw [hs]) | (refine Exists.intro _ (And.intro rfl (And.intro rfl (And.intro (Nat.le_of_ble_eq_true rfl) ?_)))) | (refine Exists.intro _ (And.intro rfl (And.intro rfl (And.intro rfl (And.intro (Nat.le_of_ble_eq_true rfl) ?_))))) | (refine And.intro (Exists.intro _ (And.intro rfl rfl)) ?_) | (exact fun hW => absurd hW (by decide +kernel)) | (intro hW; (try simp only [Bool.not_true, Bool.not_false, Bool.not_eq_true', Bool.not_eq_false', decide_eq_true_eq, decide_eq_false_iff_not, reduceCtorEq, Bool.true_eq_false, Bool.false_eq_true, mk_size, List.size_toArray, ByteArray.size_append, ByteArray.size_extract, List.length_cons, List.length_nil, ba_get, ba_empty, Int.toNat_natCast] at hW)) | (refine And.intro (?_ : _ → _) (?_ : _ → _)) | (refine FinR.drop 0 (Nat.zero_le _) (Closed.zero _) rfl ?_) | (refine FinR.keep ?_) | (refine And.intro (det3_agg rfl) ?_) | (refine fL_mk ?_) | (refine And.intro (by (try simp only [mk_size, List.size_toArray, ByteArray.size_append, ByteArray.size_extract, List.length_cons, List.length_nil]); omega) ?_) | (refine And.intro (by (try simp only [mk_size, List.size_toArray, ByteArray.size_append, ByteArray.size_extract, List.length_cons, List.length_nil, wrap64_eq]); omega) ?_) | fail)
    all_goals first | exact h0 | (exfalso; simp_all; done)
  | true =>
    rw [hs, Bool.true_and] at h
    repeat' ((conv => whnf); first | (refine Exists.intro ([] : List Nat) ?_) | (refine And.intro rfl ?_) | (refine And.intro (by decide +kernel) ?_) | (refine And.intro trivial ?_) | (refine d_l2Sheet (a := a) (b := b) (c := c) (d := d) (e := e) (f := f) (h0 := ?_) ..; rw [hs]) | (refine d_l2Sheet (a := a') (b := b') (c := c') (d := d') (e := e') (f := f') (h0 := ?_) ..; rw [h]) | (refine Exists.intro _ (And.intro rfl (And.intro rfl (And.intro (Nat.le_of_ble_eq_true rfl) ?_)))) | (refine Exists.intro _ (And.intro rfl (And.intro rfl (And.intro rfl (And.intro (Nat.le_of_ble_eq_true rfl) ?_))))) | (refine And.intro (Exists.intro _ (And.intro rfl rfl)) ?_) | (exact fun hW => absurd hW (by decide +kernel)) | (intro hW; (try simp only [Bool.not_true, Bool.not_false, Bool.not_eq_true', Bool.not_eq_false', decide_eq_true_eq, decide_eq_false_iff_not, reduceCtorEq, Bool.true_eq_false, Bool.false_eq_true, mk_size, List.size_toArray, ByteArray.size_append, ByteArray.size_extract, List.length_cons, List.length_nil, ba_get, ba_empty, Int.toNat_natCast] at hW)) | (refine And.intro (?_ : _ → _) (?_ : _ → _)) | (refine FinR.drop 0 (Nat.zero_le _) (Closed.zero _) rfl ?_) | (refine FinR.keep ?_) | (refine And.intro (det3_agg rfl) ?_) | (refine fL_mk ?_) | (refine And.intro (by (try simp only [mk_size, List.size_toArray, ByteArray.size_append, ByteArray.size_extract, List.length_cons, List.length_nil]); omega) ?_) | (refine And.intro (by (try simp only [mk_size, List.size_toArray, ByteArray.size_append, ByteArray.size_extract, List.length_cons, List.length_nil, wrap64_eq]); omega) ?_) | fail)
    all_goals first | exact h0 | (exfalso; simp_all; done)
theorem d_goodI (a b c d e f a' b' c' d' e' f' : Int) (h : vaB a b c d e f a' b' c' d' e' f' = false) (K : Cont) (h0 : K (Bo false) σ) : ACall Try.prog W0 41 [Sh a b c d e f, Sh a' b' c' d' e' f'] σ K :=
  ACall.lift rfl (fun _ => rfl) (fun W1 K _ hK => c_goodI a b c d e f a' b' c' d' e' f' h K hK) h0
/-- whether it can be played -/
inductive Pl : (a b c d e f a' b' c' d' e' f' : Int) → Option (Nat × Nat) → Prop
  | yes (n m : Nat) (hn : n < 2 ^ 36) (hm : m < 2 ^ 36) (h0 : m ≠ 0) : Pl (rowN n 0 : Nat) (rowN n 1 : Nat) (rowN n 2 : Nat) (rowN n 3 : Nat) (rowN n 4 : Nat) (rowN n 5 : Nat) (rowN m 0 : Nat) (rowN m 1 : Nat) (rowN m 2 : Nat) (rowN m 3 : Nat) (rowN m 4 : Nat) (rowN m 5 : Nat) (some (n, m))
  | zero (n : Nat) (hn : n < 2 ^ 36) : Pl (rowN n 0 : Nat) (rowN n 1 : Nat) (rowN n 2 : Nat) (rowN n 3 : Nat) (rowN n 4 : Nat) (rowN n 5 : Nat) (rowN 0 0 : Nat) (rowN 0 1 : Nat) (rowN 0 2 : Nat) (rowN 0 3 : Nat) (rowN 0 4 : Nat) (rowN 0 5 : Nat) none
  | bad (a b c d e f a' b' c' d' e' f' : Int) (h : vaB a b c d e f a' b' c' d' e' f' = false) : Pl a b c d e f a' b' c' d' e' f' none
theorem pl_all (a b c d e f a' b' c' d' e' f' : Int) : ∃ o, Pl a b c d e f a' b' c' d' e' f' o := by
  cases h : vaB a b c d e f a' b' c' d' e' f' with
  | false => exact ⟨none, .bad a b c d e f a' b' c' d' e' f' h⟩
  | true =>
    unfold vaB at h
    rw [Bool.and_eq_true] at h
    obtain ⟨n, hn, e0, e1, e2, e3, e4, e5⟩ := shN_of h.1
    obtain ⟨m, hm, r0, r1, r2, r3, r4, r5⟩ := shN_of h.2
    rw [← e0, ← e1, ← e2, ← e3, ← e4, ← e5, ← r0, ← r1, ← r2, ← r3, ← r4, ← r5]
    by_cases h0 : m = 0
    · subst h0; exact ⟨none, .zero n hn⟩
    · exact ⟨some (n, m), .yes n m hn hm h0⟩
theorem d_playN (a b c d e f a' b' c' d' e' f' : Int) (h : Pl a b c d e f a' b' c' d' e' f' none) (K : Cont) (h0 : ∀ p q, K (.tup [U p, U q, Bo false]) σ) : ACall Try.prog W0 43 [Sh a b c d e f, Sh a' b' c' d' e' f'] σ K := by
  cases h with
  | zero n hn => exact d_playV n 0 hn (by decide) K (h0 _ _)
  | bad _ _ _ _ _ _ _ _ _ _ _ _ h =>
    refine ACall.frame (K0 := fun v σ' => ∃ p q, v = .tup [U p, U q, Bo false] ∧ σ' = []) rfl (fun W1 _ => c_playI a b c d e f a' b' c' d' e' f' h _ fun p q => ⟨p, q, rfl, rfl⟩) ?_
    rintro v σ' ⟨p, q, rfl, rfl⟩
    show K _ (σ ++ [])
    rw [List.append_nil]; exact h0 p q
theorem d_goodN10 (a b c d e f a' b' c' d' e' f' : Int) (h : Pl a b c d e f a' b' c' d' e' f' none) (K : Cont) (h0 : K (Bo false) σ) : ACall Try.prog W0 41 [Sh a b c d e f, Sh a' b' c' d' e' f'] σ K := by
  cases h with
  | zero n hn => exact d_goodV n 0 (by decide) K h0
  | bad _ _ _ _ _ _ _ _ _ _ _ _ h => exact d_goodI a b c d e f a' b' c' d' e' f' h K h0
theorem d_playY (n m : Nat) (hn : n < 2 ^ 36) (hm : m < 2 ^ 36) (hz : m ≠ 0) (K : Cont) (h0 : K (.tup [U n, U m, Bo true]) σ) : ACall Try.prog W0 43 [ShN n, ShN m] σ K :=
  d_playV n m hn hm K (by rw [decide_eq_true hz]; exact h0)
theorem d_goodY (n m : Nat) (hm : m < 2 ^ 36) (hz : m ≠ 0) (K : Cont) (h0 : K (Bo true) σ) : ACall Try.prog W0 41 [ShN n, ShN m] σ K :=
  d_goodV n m hm K (by rw [decide_eq_true hz]; exact h0)
structure GPX where
  i : Nat
  S : List Blk
  v : Nat
  cp : Nat
end Go.Proofs.Ytcclhjohpicleaa
end

section
/- Games: values of sheets, by what can come of one press; plain laws. -/
set_option linter.unusedVariables false
set_option linter.unusedSimpArgs false
namespace Go.Proofs.Ytcclhjohpicleaa
open Go Go.RowKit Go.Proofs.Ytcclhjohpicleaa.Abs
/-- a value that the values of the next sheets tell -/
def gmV {β : Type} (m : Nat) (g : List β → β) : Nat → Nat → β
  | 0, _ => g []
  | f + 1, n => g ((nxL n m).map (gmV m g f))
theorem gmV_any {β : Type} {m : Nat} (g : List β → β) (hm : m < 2 ^ 36) (hz : m ≠ 0) : ∀ f n, n < 2 ^ 36 → 2 ^ 36 - n ≤ f → ∀ f', 2 ^ 36 - n ≤ f' → gmV m g f n = gmV m g f' n
  | 0, n, hn, h, _, _ => by omega
  | f + 1, n, hn, h, 0, h' => by omega
  | f + 1, n, hn, h, f' + 1, h' => by
    show g ((nxL n m).map (gmV m g f)) = g ((nxL n m).map (gmV m g f'))
    congr 1
    refine List.map_congr_left fun x hx => ?_
    have h1 := nxL_gt hn hm hz x hx
    have h2 := nxL_lt hn x hx
    exact gmV_any g hm hz f x h2 (by omega) f' (by omega)
/-- there is such a value -/
theorem gmV_has {β : Type} {m : Nat} (g : List β → β) (hm : m < 2 ^ 36) (hz : m ≠ 0) : ∃ V : Nat → β, ∀ n, n < 2 ^ 36 → V n = g ((nxL n m).map V) := by
  refine ⟨fun n => gmV m g (2 ^ 36 - n) n, fun n hn => ?_⟩
  show gmV m g (2 ^ 36 - n) n = _
  obtain ⟨f, hf⟩ : ∃ f, 2 ^ 36 - n = f + 1 := ⟨2 ^ 36 - n - 1, by omega⟩
  rw [gmV_any g hm hz (2 ^ 36 - n) n hn (Nat.le_refl _) (f + 1) (by omega)]
  show g ((nxL n m).map (gmV m g f)) = _
  congr 1
  refine List.map_congr_left fun x hx => ?_
  have h1 := nxL_gt hn hm hz x hx
  have h2 := nxL_lt hn x hx
  exact gmV_any g hm hz f x h2 (by omega) (2 ^ 36 - x) (Nat.le_refl _)
/-- who is to press wins: some next sheet loses, or there is none and 'none' says so -/
def gW (none : Bool) (bs : List Bool) : Bool := bs.any (fun b => !b) || (bs.isEmpty && none)
end Go.Proofs.Ytcclhjohpicleaa
end

section
/- Games: who wins and how long, by the reference. -/
set_option linter.unusedVariables false
set_option linter.unusedSimpArgs false
set_option maxRecDepth 100000
set_option maxHeartbeats 4000000
namespace Go.Proofs.Ytcclhjohpicleaa
open Go Go.RowKit Go.Proofs.Ytcclhjohpicleaa.Abs
variable {σ : List Blk}
theorem getD_mem {L : List Nat} {i : Nat} (h : i < L.length) : L.getD i 0 ∈ L := by rw [List.getD_eq_getElem?_getD, List.getElem?_eq_getElem h]; exact List.getElem_mem h
theorem c_sWins (m : Nat) (hm : m < 2 ^ 36) (hz : m ≠ 0) (none : Bool) (V : Nat → Bool) (hV : ∀ n, n < 2 ^ 36 → V n = gW none ((nxL n m).map V)) : ∀ (k n : Nat), n < 2 ^ 36 → 2 ^ 36 - n ≤ k → ∀ (W0 : World) (K : Cont), K (Bo (V n)) [] → ACall Try.prog W0 32 [ShN n, ShN m, Bo none] [] K
  | 0, n, hn, h, _, _, _ => by omega
  | k + 1, n, hn, h, W0, K, h0 => by
    have ih : ∀ x, x ∈ nxL n m → ∀ (τ : List Blk) (K : Cont), K (Bo (V x)) τ → ACall Try.prog W0 32 [ShN x, ShN m, Bo none] τ K := fun x hx τ K hK =>
      ACall.lift rfl (fun _ => rfl) (fun W1 K _ hK => c_sWins m hm hz none V hV k x (nxL_lt hn x hx) (by have := nxL_gt hn hm hz x hx; have := nxL_lt hn x hx; omega) W1 K hK) hK
    have hVn := hV n hn
    have h36 := nxL_len n m
    refine by32 (Nat.le_of_ble_eq_true rfl) ?_
    have hnx := fun (σ : List Blk) (K : Cont) => d_sNexts (W0 := W0) (σ := σ) n m hn K
    generalize nxL n m = L at ih hVn h36 hnx
    rw [hVn] at h0
    repeat' ((conv => whnf); first | (refine Exists.intro ([] : List Nat) ?_) | (refine And.intro rfl ?_) | (refine And.intro (by decide +kernel) ?_) | (refine And.intro trivial ?_) | (refine hnx _ _ (fun S b v cap B hO hb hk => ?_)) | (refine Exists.intro _ (And.intro rfl (And.intro rfl (And.intro (Nat.le_of_ble_eq_true rfl) ?_)))) | (refine Exists.intro _ (And.intro rfl (And.intro rfl (And.intro rfl (And.intro (Nat.le_of_ble_eq_true rfl) ?_))))) | (refine And.intro (Exists.intro _ (And.intro rfl rfl)) ?_) | (exact fun hW => absurd hW (by decide +kernel)) | (intro hW; (try simp only [Bool.not_true, Bool.not_false, Bool.not_eq_true', Bool.not_eq_false', decide_eq_true_eq, decide_eq_false_iff_not, reduceCtorEq, Bool.true_eq_false, Bool.false_eq_true, mk_size, List.size_toArray, ByteArray.size_append, ByteArray.size_extract, List.length_cons, List.length_nil, ba_get, ba_empty, Int.toNat_natCast] at hW)) | (refine And.intro (?_ : _ → _) (?_ : _ → _)) | (refine FinR.drop 0 (Nat.zero_le _) (Closed.zero _) rfl ?_) | (refine FinR.keep ?_) | (refine And.intro (det3_agg rfl) ?_) | (refine fL_mk ?_) | (refine And.intro (by (try simp only [mk_size, List.size_toArray, ByteArray.size_append, ByteArray.size_extract, List.length_cons, List.length_nil]); omega) ?_) | (refine And.intro (by (try simp only [mk_size, List.size_toArray, ByteArray.size_append, ByteArray.size_extract, List.length_cons, List.length_nil, wrap64_eq]); omega) ?_) | fail)
    skip
    have qm : S[1]? = some (bl m) := hk 1 _ rfl
    refine LoopR.live (fun i : Nat => [(2, Bo none), (4, .ptr 1 0 0), (7, .sl b v 0 L.length cap), (8, I i)]) (fun _ => S) (fun i => i ≤ L.length ∧ ∀ j, j < i → V (L.getD j 0) = true) (fun i => L.length - i) 0 ⟨rfl, rfl, rfl, rfl, trivial⟩ (.keep rfl) ⟨Nat.zero_le _, fun j hj => by omega⟩ ?_
    clear hk
    rintro i ⟨hi, hall⟩
    have ew : IntKind.i64.wrap ((i : Nat) + 1 : Int) = ((i + 1 : Nat) : Int) := wsucc' i (by omega)
    by_cases hlt : i < L.length
    · have o2 : 0 + ((i : Nat) : Int).toNat * 6 = i * 6 := by rw [Int.toNat_natCast]; omega
      have l2 := hO.le hlt o2
      have d2 := hO.ld hlt o2
      have hmem := getD_mem hlt
      have ihx := ih _ hmem
      cases hv : V (L.getD i 0) with
      | false =>
        rw [hv] at ihx
        have hres : gW none (L.map V) = true := by
          unfold gW
          rw [Bool.or_eq_true]
          exact .inl (List.any_eq_true.2 ⟨V (L.getD i 0), List.mem_map.2 ⟨_, hmem, rfl⟩, by rw [hv]; rfl⟩)
        rw [hres] at h0
        repeat' ((conv => whnf); first | (rw [ew]) | (refine Exists.intro B (And.intro hO.g (And.intro hO.v (And.intro l2 ?_))); rw [d2]) | (refine Exists.intro _ (And.intro (qm) (And.intro rfl (And.intro (Nat.le_of_ble_eq_true rfl) ?_)))) | (refine Exists.intro ([] : List Nat) ?_) | (refine And.intro rfl ?_) | (refine And.intro (by decide +kernel) ?_) | (refine And.intro trivial ?_) | (refine And.intro ⟨_, hO.g, hO.v⟩ ?_) | (refine Exists.intro _ (And.intro (fun τ => callW_fn (ihx _ _ (And.intro rfl rfl))) ?_)) | (refine Exists.intro _ (And.intro rfl (And.intro rfl (And.intro (Nat.le_of_ble_eq_true rfl) ?_)))) | (refine Exists.intro _ (And.intro rfl (And.intro rfl (And.intro rfl (And.intro (Nat.le_of_ble_eq_true rfl) ?_))))) | (refine And.intro (Exists.intro _ (And.intro rfl rfl)) ?_) | (exact fun hW => absurd hW (by decide +kernel)) | (intro hW; (try simp only [Bool.not_true, Bool.not_false, Bool.not_eq_true', Bool.not_eq_false', decide_eq_true_eq, decide_eq_false_iff_not, reduceCtorEq, Bool.true_eq_false, Bool.false_eq_true, mk_size, List.size_toArray, ByteArray.size_append, ByteArray.size_extract, List.length_cons, List.length_nil, ba_get, ba_empty, Int.toNat_natCast] at hW)) | (refine And.intro (?_ : _ → _) (?_ : _ → _)) | (refine FinR.drop 0 (Nat.zero_le _) (Closed.zero _) rfl ?_) | (refine FinR.keep ?_) | (refine And.intro (det3_agg rfl) ?_) | (refine fL_mk ?_) | (refine And.intro (by (try simp only [mk_size, List.size_toArray, ByteArray.size_append, ByteArray.size_extract, List.length_cons, List.length_nil]); omega) ?_) | (refine And.intro (by (try simp only [mk_size, List.size_toArray, ByteArray.size_append, ByteArray.size_extract, List.length_cons, List.length_nil, wrap64_eq]); omega) ?_) | fail)
        skip
        all_goals first | exact h0 | (exfalso; omega) | (exfalso; simp_all; done)
      | true =>
        rw [hv] at ihx
        repeat' ((conv => whnf); first | (rw [ew]) | (refine Exists.intro B (And.intro hO.g (And.intro hO.v (And.intro l2 ?_))); rw [d2]) | (refine Exists.intro _ (And.intro (qm) (And.intro rfl (And.intro (Nat.le_of_ble_eq_true rfl) ?_)))) | (refine Exists.intro ([] : List Nat) ?_) | (refine And.intro rfl ?_) | (refine And.intro (by decide +kernel) ?_) | (refine And.intro trivial ?_) | (refine And.intro ⟨_, hO.g, hO.v⟩ ?_) | (refine Exists.intro _ (And.intro (fun τ => callW_fn (ihx _ _ (And.intro rfl rfl))) ?_)) | (refine Exists.intro _ (And.intro rfl (And.intro rfl (And.intro (Nat.le_of_ble_eq_true rfl) ?_)))) | (refine Exists.intro _ (And.intro rfl (And.intro rfl (And.intro rfl (And.intro (Nat.le_of_ble_eq_true rfl) ?_))))) | (refine And.intro (Exists.intro _ (And.intro rfl rfl)) ?_) | (exact fun hW => absurd hW (by decide +kernel)) | (intro hW; (try simp only [Bool.not_true, Bool.not_false, Bool.not_eq_true', Bool.not_eq_false', decide_eq_true_eq, decide_eq_false_iff_not, reduceCtorEq, Bool.true_eq_false, Bool.false_eq_true, mk_size, List.size_toArray, ByteArray.size_append, ByteArray.size_extract, List.length_cons, List.length_nil, ba_get, ba_empty, Int.toNat_natCast] at hW)) | (refine And.intro (?_ : _ → _) (?_ : _ → _)) | (refine FinR.drop 0 (Nat.zero_le _) (Closed.zero _) rfl ?_) | (refine FinR.keep ?_) | (refine And.intro (det3_agg rfl) ?_) | (refine fL_mk ?_) | (refine And.intro (by (try simp only [mk_size, List.size_toArray, ByteArray.size_append, ByteArray.size_extract, List.length_cons, List.length_nil]); omega) ?_) | (refine And.intro (by (try simp only [mk_size, List.size_toArray, ByteArray.size_append, ByteArray.size_extract, List.length_cons, List.length_nil, wrap64_eq]); omega) ?_) | fail)
        all_goals first | (exfalso; omega) | (exfalso; simp_all; done) | skip
        skip
        exact Again.go (i + 1) ⟨rfl, rfl, rfl, rfl, trivial⟩ (.keep rfl) ⟨by omega, fun j hj => by
          by_cases e : j = i
          · rw [e]; exact hv
          · exact hall j (by omega)⟩ (by omega)
    · obtain rfl : i = L.length := by omega
      have hno : (L.map V).any (fun b => !b) = false := by
        rw [List.any_eq_false]
        intro x hx
        obtain ⟨y, hy, rfl⟩ := List.mem_map.1 hx
        obtain ⟨j, hj⟩ := List.getElem?_of_mem hy
        have := hall j (getElem?_lt hj)
        rw [List.getD_eq_getElem?_getD, hj] at this
        have e : V y = true := this
        rw [e]; decide
      unfold gW at h0
      rw [hno, Bool.false_or] at h0
      cases L with
      | nil =>
        have h0 : K (Bo (true && none)) [] := h0
        rw [Bool.true_and] at h0
        repeat' ((conv => whnf); first | (refine Exists.intro ([] : List Nat) ?_) | (refine And.intro rfl ?_) | (refine And.intro (by decide +kernel) ?_) | (refine And.intro trivial ?_) | (refine And.intro ⟨_, hO.g, hO.v⟩ ?_) | (refine Exists.intro _ (And.intro rfl (And.intro rfl (And.intro (Nat.le_of_ble_eq_true rfl) ?_)))) | (refine Exists.intro _ (And.intro rfl (And.intro rfl (And.intro rfl (And.intro (Nat.le_of_ble_eq_true rfl) ?_))))) | (refine And.intro (Exists.intro _ (And.intro rfl rfl)) ?_) | (exact fun hW => absurd hW (by decide +kernel)) | (intro hW; (try simp only [Bool.not_true, Bool.not_false, Bool.not_eq_true', Bool.not_eq_false', decide_eq_true_eq, decide_eq_false_iff_not, reduceCtorEq, Bool.true_eq_false, Bool.false_eq_true, mk_size, List.size_toArray, ByteArray.size_append, ByteArray.size_extract, List.length_cons, List.length_nil, ba_get, ba_empty, Int.toNat_natCast] at hW)) | (refine And.intro (?_ : _ → _) (?_ : _ → _)) | (refine FinR.drop 0 (Nat.zero_le _) (Closed.zero _) rfl ?_) | (refine FinR.keep ?_) | (refine And.intro (det3_agg rfl) ?_) | (refine fL_mk ?_) | (refine And.intro (by (try simp only [mk_size, List.size_toArray, ByteArray.size_append, ByteArray.size_extract, List.length_cons, List.length_nil]); omega) ?_) | (refine And.intro (by (try simp only [mk_size, List.size_toArray, ByteArray.size_append, ByteArray.size_extract, List.length_cons, List.length_nil, wrap64_eq]); omega) ?_) | fail)
        skip
        all_goals first | exact h0 | (exfalso; omega) | (exfalso; simp_all; done)
      | cons x L =>
        have h0 : K (Bo (false && none)) [] := h0
        rw [Bool.false_and] at h0
        have hne : ¬ (((x :: L).length : Nat) : Int) = 0 := by rw [List.length_cons]; omega
        repeat' ((conv => whnf); first | (refine Exists.intro ([] : List Nat) ?_) | (refine And.intro rfl ?_) | (refine And.intro (by decide +kernel) ?_) | (refine And.intro trivial ?_) | (refine And.intro ⟨_, hO.g, hO.v⟩ ?_) | (refine Exists.intro _ (And.intro rfl (And.intro rfl (And.intro (Nat.le_of_ble_eq_true rfl) ?_)))) | (refine Exists.intro _ (And.intro rfl (And.intro rfl (And.intro rfl (And.intro (Nat.le_of_ble_eq_true rfl) ?_))))) | (refine And.intro (Exists.intro _ (And.intro rfl rfl)) ?_) | (exact fun hW => absurd hW (by decide +kernel)) | (intro hW; (try simp only [Bool.not_true, Bool.not_false, Bool.not_eq_true', Bool.not_eq_false', decide_eq_true_eq, decide_eq_false_iff_not, reduceCtorEq, Bool.true_eq_false, Bool.false_eq_true, mk_size, List.size_toArray, ByteArray.size_append, ByteArray.size_extract, List.length_cons, List.length_nil, ba_get, ba_empty, Int.toNat_natCast] at hW)) | (refine And.intro (?_ : _ → _) (?_ : _ → _)) | (refine FinR.drop 0 (Nat.zero_le _) (Closed.zero _) rfl ?_) | (refine FinR.keep ?_) | (refine And.intro (det3_agg rfl) ?_) | (refine fL_mk ?_) | (refine And.intro (by (try simp only [mk_size, List.size_toArray, ByteArray.size_append, ByteArray.size_extract, List.length_cons, List.length_nil]); omega) ?_) | (refine And.intro (by (try simp only [mk_size, List.size_toArray, ByteArray.size_append, ByteArray.size_extract, List.length_cons, List.length_nil, wrap64_eq]); omega) ?_) | fail)
        skip
        all_goals first | exact h0 | (exfalso; omega) | (exfalso; simp_all; done)
end Go.Proofs.Ytcclhjohpicleaa
end

section
/- Games: what is known of sheets, in a map; the least number that is not there. -/
set_option linter.unusedVariables false
set_option linter.unusedSimpArgs false
set_option maxRecDepth 100000
namespace Go.Proofs.Ytcclhjohpicleaa
open Go Go.RowKit Go.Proofs.Ytcclhjohpicleaa.Abs
/-- a map's cells -/
def kvE {β : Type} (enc : β → Value) (kn : List (Nat × β)) : List AV := kn.flatMap fun p => [Un p.1, .lit (enc p.2)]
def lookK {β : Type} (n : Nat) : List (Nat × β) → Option β
  | [] => none
  | p :: kn => if n = p.1 then some p.2 else lookK n kn
def putK {β : Type} (n : Nat) (v : β) : List (Nat × β) → List (Nat × β)
  | [] => [(n, v)]
  | p :: kn => if n = p.1 then (p.1, v) :: kn else p :: putK n v kn
theorem lookK_cons {β : Type} {n : Nat} {p : Nat × β} {kn : List (Nat × β)} : lookK n (p :: kn) = if n = p.1 then some p.2 else lookK n kn := rfl
theorem putK_cons {β : Type} {n : Nat} {v : β} {p : Nat × β} {kn : List (Nat × β)} : putK n v (p :: kn) = if n = p.1 then (p.1, v) :: kn else p :: putK n v kn := rfl
theorem find_kv {β : Type} (enc : β → Value) (n : Nat) : ∀ kn : List (Nat × β), findA .u64 (n : Int) (kvE enc kn) = some ((lookK n kn).map fun v => AV.lit (enc v))
  | [] => rfl
  | p :: kn => by
    show (if IntKind.u64 = IntKind.u64 then if (n : Int) = (p.1 : Int) then some (some (AV.lit (enc p.2))) else findA .u64 (n : Int) (kvE enc kn) else none) = _
    rw [if_pos rfl, find_kv enc n kn, lookK_cons]
    by_cases h : n = p.1
    · rw [if_pos h, if_pos (by omega)]; rfl
    · rw [if_neg h, if_neg (by omega)]
theorem put_kv {β : Type} (enc : β → Value) (n : Nat) (v : β) : ∀ kn : List (Nat × β), putA .u64 (n : Int) (.lit (enc v)) (kvE enc kn) = some (kvE enc (putK n v kn))
  | [] => rfl
  | p :: kn => by
    show (if IntKind.u64 = IntKind.u64 then if (n : Int) = (p.1 : Int) then some (Un p.1 :: AV.lit (enc v) :: kvE enc kn) else (putA .u64 (n : Int) (.lit (enc v)) (kvE enc kn)).map fun r => Un p.1 :: AV.lit (enc p.2) :: r else none) = _
    rw [if_pos rfl, put_kv enc n v kn, putK_cons]
    by_cases h : n = p.1
    · rw [if_pos h, if_pos (by omega)]; rfl
    · rw [if_neg h, if_neg (by omega)]; rfl
/-- what is known is so -/
def GoodK {β : Type} (V : Nat → β) (kn : List (Nat × β)) : Prop := ∀ p ∈ kn, V p.1 = p.2
theorem GoodK.look {β : Type} {V : Nat → β} {n : Nat} {v : β} : ∀ {kn : List (Nat × β)}, GoodK V kn → lookK n kn = some v → V n = v
  | [], _, h => by cases h
  | p :: kn, hg, h => by
    unfold lookK at h
    split at h
    · rename_i e
      cases h
      rw [e]; exact hg p List.mem_cons_self
    · exact GoodK.look (fun q hq => hg q (List.mem_cons_of_mem _ hq)) h
theorem GoodK.put {β : Type} {V : Nat → β} {n : Nat} : ∀ {kn : List (Nat × β)}, GoodK V kn → GoodK V (putK n (V n) kn)
  | [], _, p, hp => by rw [List.mem_singleton.1 hp]
  | q :: kn, hg, p, hp => by
    unfold putK at hp
    split at hp
    · rename_i e
      rcases List.mem_cons.1 hp with h | h
      · rw [h]; show V q.1 = V n; rw [e]
      · exact hg p (List.mem_cons_of_mem _ h)
    · rcases List.mem_cons.1 hp with h | h
      · rw [h]; exact hg q List.mem_cons_self
      · exact GoodK.put (fun r hr => hg r (List.mem_cons_of_mem _ hr)) p h
theorem GoodK.nil {β : Type} {V : Nat → β} : GoodK V [] := fun p hp => by cases hp
/-- a map in own memory -/
structure MemK {β : Type} (enc : β → Value) (S : List Blk) (bm : Nat) (B : Blk) (kn : List (Nat × β)) : Prop where
  g : S[bm]? = some B
  v : B.ver = 1
  m : mapB B = true
  c : B.cells = kvE enc kn
/-- all blocks but one stay -/
def keepX (o : Nat) (σ S : List Blk) : Prop := ∀ (j : Nat) (B : Blk), j ≠ o → σ[j]? = some B → S[j]? = some B
theorem keepX.refl (o : Nat) (σ : List Blk) : keepX o σ σ := fun _ _ _ h => h
theorem keepX.trans {o : Nat} {σ S T : List Blk} (h1 : keepX o σ S) (h2 : keepX o S T) : keepX o σ T := fun j B hj h => h2 j B hj (h1 j B hj h)
theorem keepX.of {o : Nat} {σ S : List Blk} (h : ∀ (j : Nat) (B : Blk), σ[j]? = some B → S[j]? = some B) : keepX o σ S := fun j B _ hj => h j B hj
end Go.Proofs.Ytcclhjohpicleaa
end

section
/- Games: the number of a sheet, by the program. -/
set_option linter.unusedVariables false
set_option linter.unusedSimpArgs false
set_option maxRecDepth 100000
set_option maxHeartbeats 4000000
namespace Go.Proofs.Ytcclhjohpicleaa
open Go Go.RowKit Go.Proofs.Ytcclhjohpicleaa.Abs
variable {σ : List Blk}
abbrev enN (v : Nat) : Value := .int .i64 ((v : Nat) : Int)
/-- a game: its stamp, two maps -/
abbrev bGm (m b1 b2 : Nat) : Blk := ⟨[Un m, .ptr b1 0 0, .ptr b2 0 0], 0, 74, 0, false, false⟩
theorem gm_ne {β : Type} {enc : β → Value} {S : List Blk} {m b1 b2 bg bl : Nat} {B : Blk} {kn : List (Nat × β)} (hG : S[bg]? = some (bGm m b1 b2)) (hM : MemK enc S bl B kn) : bg ≠ bl := by
  intro e
  subst e
  have := hM.g
  rw [hG] at this
  cases this
  have := hM.m
  cases this
theorem getD_memG {L : List Nat} {i : Nat} (h : i < L.length) : L.getD i 0 ∈ L := by rw [List.getD_eq_getElem?_getD, List.getElem?_eq_getElem h]; exact List.getElem_mem h
structure G13X where
  i : Nat
  S : List Blk
  v : Nat
  cp : Nat
  kn : List (Nat × Nat)
end Go.Proofs.Ytcclhjohpicleaa
end

section
/- Games: gameOf; LastWins by both sides; the law. -/
set_option linter.unusedVariables false
set_option linter.unusedSimpArgs false
set_option maxRecDepth 100000
set_option maxHeartbeats 4000000
namespace Go.Proofs.Ytcclhjohpicleaa
open Go Go.RowKit Go.Proofs.Ytcclhjohpicleaa.Abs
variable {W0 : World} {σ : List Blk}
/-- a new map -/
abbrev bNew : Blk := ⟨[], 1, 0, 2, false, false⟩
theorem new_mem {β : Type} {enc : β → Value} {S : List Blk} {b : Nat} (h : S[b]? = some bNew) : MemK enc S b bNew [] := ⟨h, rfl, rfl, rfl⟩
def smB (n m : Nat) : Bool := decide ((nxL n m).length ≤ 7)
theorem sm_dec (n m : Nat) : decide ((((nxL n m).length : Nat) : Int) ≤ 7) = smB n m := decide_eq_decide.2 (by omega)
theorem c_gameOfY (n m : Nat) (hn : n < 2 ^ 36) (hm : m < 2 ^ 36) (hz : m ≠ 0) (K : Cont) (h0 : ∀ S, S[4]? = some (bGm m 2 3) → S[2]? = some bNew → S[3]? = some bNew → K (.tup [.ptr 4 0 0, U n, Bo (smB n m)]) S) : ACall Try.prog W0 34 [ShN n, ShN m] [] K := by
  refine by34 (Nat.le_of_ble_eq_true rfl) ?_
  have hsm := sm_dec n m
  have hnx := fun (σ : List Blk) (K : Cont) => d_nexts (W0 := W0) (σ := σ) n m hn hm K
  generalize nxL n m = L at hnx hsm
  generalize smB n m = sb at hsm h0
  repeat' ((conv => whnf); first | (rw [hsm]) | (refine Exists.intro ([] : List Nat) ?_) | (refine And.intro rfl ?_) | (refine And.intro (by decide +kernel) ?_) | (refine And.intro trivial ?_) | (refine d_playY (hn := hn) (hm := hm) (hz := hz) (h0 := ?_) ..) | (refine hnx _ _ (fun S b v cap B hO hb hk => ?_)) | (refine And.intro ⟨_, hO.g, hO.v⟩ ?_) | (refine Exists.intro _ (And.intro rfl (And.intro rfl (And.intro (Nat.le_of_ble_eq_true rfl) ?_)))) | (refine Exists.intro _ (And.intro rfl (And.intro rfl (And.intro rfl (And.intro (Nat.le_of_ble_eq_true rfl) ?_))))) | (refine And.intro (Exists.intro _ (And.intro rfl rfl)) ?_) | (exact fun hW => absurd hW (by decide +kernel)) | (intro hW; (try simp only [Bool.not_true, Bool.not_false, Bool.not_eq_true', Bool.not_eq_false', decide_eq_true_eq, decide_eq_false_iff_not, reduceCtorEq, Bool.true_eq_false, Bool.false_eq_true, mk_size, List.size_toArray, ByteArray.size_append, ByteArray.size_extract, List.length_cons, List.length_nil, ba_get, ba_empty, Int.toNat_natCast] at hW)) | (refine And.intro (?_ : _ → _) (?_ : _ → _)) | (refine FinR.drop 0 (Nat.zero_le _) (Closed.zero _) rfl ?_) | (refine FinR.keep ?_) | (refine And.intro (det3_agg rfl) ?_) | (refine fL_mk ?_) | (refine And.intro (by (try simp only [mk_size, List.size_toArray, ByteArray.size_append, ByteArray.size_extract, List.length_cons, List.length_nil]); omega) ?_) | (refine And.intro (by (try simp only [mk_size, List.size_toArray, ByteArray.size_append, ByteArray.size_extract, List.length_cons, List.length_nil, wrap64_eq]); omega) ?_) | fail)
  skip
  all_goals first | (exfalso; simp_all; done) | exact h0 _ (hk 4 _ rfl) (hk 2 _ rfl) (hk 3 _ rfl)
theorem c_gameOfN (a b c d e f a' b' c' d' e' f' : Int) (h : Pl a b c d e f a' b' c' d' e' f' none) (K : Cont) (h0 : ∀ S g p, K (.tup [.ptr g 0 0, U p, Bo false]) S) : ACall Try.prog W0 34 [Sh a b c d e f, Sh a' b' c' d' e' f'] [] K := by
  refine by34 (Nat.le_of_ble_eq_true rfl) ?_
  repeat' ((conv => whnf); first | (refine Exists.intro ([] : List Nat) ?_) | (refine And.intro rfl ?_) | (refine And.intro (by decide +kernel) ?_) | (refine And.intro trivial ?_) | (refine d_playN (h := h) (h0 := fun p q => ?_) ..) | (refine Exists.intro _ (And.intro rfl (And.intro rfl (And.intro (Nat.le_of_ble_eq_true rfl) ?_)))) | (refine Exists.intro _ (And.intro rfl (And.intro rfl (And.intro rfl (And.intro (Nat.le_of_ble_eq_true rfl) ?_))))) | (refine And.intro (Exists.intro _ (And.intro rfl rfl)) ?_) | (exact fun hW => absurd hW (by decide +kernel)) | (intro hW; (try simp only [Bool.not_true, Bool.not_false, Bool.not_eq_true', Bool.not_eq_false', decide_eq_true_eq, decide_eq_false_iff_not, reduceCtorEq, Bool.true_eq_false, Bool.false_eq_true, mk_size, List.size_toArray, ByteArray.size_append, ByteArray.size_extract, List.length_cons, List.length_nil, ba_get, ba_empty, Int.toNat_natCast] at hW)) | (refine And.intro (?_ : _ → _) (?_ : _ → _)) | (refine FinR.drop 0 (Nat.zero_le _) (Closed.zero _) rfl ?_) | (refine FinR.keep ?_) | (refine And.intro (det3_agg rfl) ?_) | (refine fL_mk ?_) | (refine And.intro (by (try simp only [mk_size, List.size_toArray, ByteArray.size_append, ByteArray.size_extract, List.length_cons, List.length_nil]); omega) ?_) | (refine And.intro (by (try simp only [mk_size, List.size_toArray, ByteArray.size_append, ByteArray.size_extract, List.length_cons, List.length_nil, wrap64_eq]); omega) ?_) | fail)
  skip
  all_goals first | (exfalso; simp_all; done) | exact h0 _ _ _
theorem d_gameOfY (n m : Nat) (hn : n < 2 ^ 36) (hm : m < 2 ^ 36) (hz : m ≠ 0) (K : Cont) (h0 : ∀ S g b1 b2, S[g]? = some (bGm m b1 b2) → S[b1]? = some bNew → S[b2]? = some bNew → (∀ (j : Nat) (B : Blk), σ[j]? = some B → S[j]? = some B) → K (.tup [.ptr g 0 0, U n, Bo (smB n m)]) S) : ACall Try.prog W0 34 [ShN n, ShN m] σ K := by
  refine ACall.frame (K0 := fun v S => v = .tup [.ptr 4 0 0, U n, Bo (smB n m)] ∧ S[4]? = some (bGm m 2 3) ∧ S[2]? = some bNew ∧ S[3]? = some bNew) rfl (fun W1 _ => c_gameOfY n m hn hm hz _ fun S h1 h2 h3 => ⟨rfl, h1, h2, h3⟩) ?_
  rintro v S ⟨rfl, h1, h2, h3⟩
  exact h0 _ (σ.length + 4) (σ.length + 2) (σ.length + 3) (get_sh h1) (get_sh h2) (get_sh h3) (fun j B hj => getx1 hj)
theorem d_gameOfN (a b c d e f a' b' c' d' e' f' : Int) (h : Pl a b c d e f a' b' c' d' e' f' none) (K : Cont) (h0 : ∀ S g p, (∀ (j : Nat) (B : Blk), σ[j]? = some B → S[j]? = some B) → K (.tup [.ptr g 0 0, U p, Bo false]) S) : ACall Try.prog W0 34 [Sh a b c d e f, Sh a' b' c' d' e' f'] σ K := by
  refine ACall.frame (K0 := fun v S => ∃ g p, v = .tup [.ptr g 0 0, U p, Bo false]) rfl (fun W1 _ => c_gameOfN a b c d e f a' b' c' d' e' f' h _ fun S g p => ⟨g, p, rfl⟩) ?_
  rintro v S ⟨g, p, rfl⟩
  exact h0 _ _ _ (fun j B hj => getx1 hj)
theorem c_smallY (n m : Nat) (hn : n < 2 ^ 36) (hm : m < 2 ^ 36) (hz : m ≠ 0) (K : Cont) (h0 : K (Bo (smB n m)) []) : ACall Try.prog W0 31 [ShN n, ShN m] [] K := by
  refine by31 (Nat.le_of_ble_eq_true rfl) ?_
  have hsm := sm_dec n m
  have hnx := fun (σ : List Blk) (K : Cont) => d_sNexts (W0 := W0) (σ := σ) n m hn K
  generalize nxL n m = L at hnx hsm
  generalize smB n m = sb at hsm h0
  repeat' ((conv => whnf); first | (rw [hsm]) | (refine Exists.intro ([] : List Nat) ?_) | (refine And.intro rfl ?_) | (refine And.intro (by decide +kernel) ?_) | (refine And.intro trivial ?_) | (refine d_goodY (hm := hm) (hz := hz) (h0 := ?_) ..) | (refine hnx _ _ (fun S b v cap B hO hb hk => ?_)) | (refine And.intro ⟨_, hO.g, hO.v⟩ ?_) | (refine Exists.intro _ (And.intro rfl (And.intro rfl (And.intro (Nat.le_of_ble_eq_true rfl) ?_)))) | (refine Exists.intro _ (And.intro rfl (And.intro rfl (And.intro rfl (And.intro (Nat.le_of_ble_eq_true rfl) ?_))))) | (refine And.intro (Exists.intro _ (And.intro rfl rfl)) ?_) | (exact fun hW => absurd hW (by decide +kernel)) | (intro hW; (try simp only [Bool.not_true, Bool.not_false, Bool.not_eq_true', Bool.not_eq_false', decide_eq_true_eq, decide_eq_false_iff_not, reduceCtorEq, Bool.true_eq_false, Bool.false_eq_true, mk_size, List.size_toArray, ByteArray.size_append, ByteArray.size_extract, List.length_cons, List.length_nil, ba_get, ba_empty, Int.toNat_natCast] at hW)) | (refine And.intro (?_ : _ → _) (?_ : _ → _)) | (refine FinR.drop 0 (Nat.zero_le _) (Closed.zero _) rfl ?_) | (refine FinR.keep ?_) | (refine And.intro (det3_agg rfl) ?_) | (refine fL_mk ?_) | (refine And.intro (by (try simp only [mk_size, List.size_toArray, ByteArray.size_append, ByteArray.size_extract, List.length_cons, List.length_nil]); omega) ?_) | (refine And.intro (by (try simp only [mk_size, List.size_toArray, ByteArray.size_append, ByteArray.size_extract, List.length_cons, List.length_nil, wrap64_eq]); omega) ?_) | fail)
  skip
  all_goals first | (exfalso; simp_all; done) | exact h0
theorem d_smallY (n m : Nat) (hn : n < 2 ^ 36) (hm : m < 2 ^ 36) (hz : m ≠ 0) (K : Cont) (h0 : K (Bo (smB n m)) σ) : ACall Try.prog W0 31 [ShN n, ShN m] σ K :=
  ACall.lift rfl (fun _ => rfl) (fun W1 K _ hK => c_smallY n m hn hm hz K hK) h0
theorem c_smallN (a b c d e f a' b' c' d' e' f' : Int) (h : Pl a b c d e f a' b' c' d' e' f' none) (K : Cont) (h0 : K (Bo false) []) : ACall Try.prog W0 31 [Sh a b c d e f, Sh a' b' c' d' e' f'] [] K := by
  refine by31 (Nat.le_of_ble_eq_true rfl) ?_
  repeat' ((conv => whnf); first | (refine Exists.intro ([] : List Nat) ?_) | (refine And.intro rfl ?_) | (refine And.intro (by decide +kernel) ?_) | (refine And.intro trivial ?_) | (refine d_goodN10 (h := h) (h0 := ?_) ..) | (refine Exists.intro _ (And.intro rfl (And.intro rfl (And.intro (Nat.le_of_ble_eq_true rfl) ?_)))) | (refine Exists.intro _ (And.intro rfl (And.intro rfl (And.intro rfl (And.intro (Nat.le_of_ble_eq_true rfl) ?_))))) | (refine And.intro (Exists.intro _ (And.intro rfl rfl)) ?_) | (exact fun hW => absurd hW (by decide +kernel)) | (intro hW; (try simp only [Bool.not_true, Bool.not_false, Bool.not_eq_true', Bool.not_eq_false', decide_eq_true_eq, decide_eq_false_iff_not, reduceCtorEq, Bool.true_eq_false, Bool.false_eq_true, mk_size, List.size_toArray, ByteArray.size_append, ByteArray.size_extract, List.length_cons, List.length_nil, ba_get, ba_empty, Int.toNat_natCast] at hW)) | (refine And.intro (?_ : _ → _) (?_ : _ → _)) | (refine FinR.drop 0 (Nat.zero_le _) (Closed.zero _) rfl ?_) | (refine FinR.keep ?_) | (refine And.intro (det3_agg rfl) ?_) | (refine fL_mk ?_) | (refine And.intro (by (try simp only [mk_size, List.size_toArray, ByteArray.size_append, ByteArray.size_extract, List.length_cons, List.length_nil]); omega) ?_) | (refine And.intro (by (try simp only [mk_size, List.size_toArray, ByteArray.size_append, ByteArray.size_extract, List.length_cons, List.length_nil, wrap64_eq]); omega) ?_) | fail)
  all_goals first | (exfalso; simp_all; done) | exact h0
theorem d_smallN (a b c d e f a' b' c' d' e' f' : Int) (h : Pl a b c d e f a' b' c' d' e' f' none) (K : Cont) (h0 : K (Bo false) σ) : ACall Try.prog W0 31 [Sh a b c d e f, Sh a' b' c' d' e' f'] σ K :=
  ACall.lift rfl (fun _ => rfl) (fun W1 K _ hK => c_smallN a b c d e f a' b' c' d' e' f' h K hK) h0
/-- whether a game is asked for -/
inductive Sm : (a b c d e f a' b' c' d' e' f' : Int) → Option (Nat × Nat) → Prop
  | yes (n m : Nat) (hn : n < 2 ^ 36) (hm : m < 2 ^ 36) (hz : m ≠ 0) (hs : smB n m = true) : Sm (rowN n 0 : Nat) (rowN n 1 : Nat) (rowN n 2 : Nat) (rowN n 3 : Nat) (rowN n 4 : Nat) (rowN n 5 : Nat) (rowN m 0 : Nat) (rowN m 1 : Nat) (rowN m 2 : Nat) (rowN m 3 : Nat) (rowN m 4 : Nat) (rowN m 5 : Nat) (some (n, m))
  | big (n m : Nat) (hn : n < 2 ^ 36) (hm : m < 2 ^ 36) (hz : m ≠ 0) (hs : smB n m = false) : Sm (rowN n 0 : Nat) (rowN n 1 : Nat) (rowN n 2 : Nat) (rowN n 3 : Nat) (rowN n 4 : Nat) (rowN n 5 : Nat) (rowN m 0 : Nat) (rowN m 1 : Nat) (rowN m 2 : Nat) (rowN m 3 : Nat) (rowN m 4 : Nat) (rowN m 5 : Nat) none
  | bad (a b c d e f a' b' c' d' e' f' : Int) (h : Pl a b c d e f a' b' c' d' e' f' none) : Sm a b c d e f a' b' c' d' e' f' none
theorem sm_all (a b c d e f a' b' c' d' e' f' : Int) : ∃ o, Sm a b c d e f a' b' c' d' e' f' o := by
  obtain ⟨o, ho⟩ := pl_all a b c d e f a' b' c' d' e' f'
  cases o with
  | none => exact ⟨_, .bad a b c d e f a' b' c' d' e' f' ho⟩
  | some p =>
    cases ho with
    | yes n m hn hm hz =>
      cases hs : smB n m with
      | true => exact ⟨_, .yes n m hn hm hz hs⟩
      | false => exact ⟨_, .big n m hn hm hz hs⟩
theorem d_smallF (a b c d e f a' b' c' d' e' f' : Int) (h : Sm a b c d e f a' b' c' d' e' f' none) (K : Cont) (h0 : K (Bo false) σ) : ACall Try.prog W0 31 [Sh a b c d e f, Sh a' b' c' d' e' f'] σ K := by
  cases h with
  | big n m hn hm hz hs => exact d_smallY n m hn hm hz K (by rw [hs]; exact h0)
  | bad _ _ _ _ _ _ _ _ _ _ _ _ h => exact d_smallN a b c d e f a' b' c' d' e' f' h K h0
theorem d_gameOfF (a b c d e f a' b' c' d' e' f' : Int) (h : Sm a b c d e f a' b' c' d' e' f' none) (K : Cont) (h0 : ∀ S g p, (∀ (j : Nat) (B : Blk), σ[j]? = some B → S[j]? = some B) → K (.tup [.ptr g 0 0, U p, Bo false]) S) : ACall Try.prog W0 34 [Sh a b c d e f, Sh a' b' c' d' e' f'] σ K := by
  cases h with
  | big n m hn hm hz hs => exact d_gameOfY n m hn hm hz K fun S g b1 b2 _ _ _ hk => by rw [hs]; exact h0 S g n hk
  | bad _ _ _ _ _ _ _ _ _ _ _ _ h => exact d_gameOfN a b c d e f a' b' c' d' e' f' h K h0
theorem d_smallT (n m : Nat) (hn : n < 2 ^ 36) (hm : m < 2 ^ 36) (hz : m ≠ 0) (hs : smB n m = true) (K : Cont) (h0 : K (Bo true) σ) : ACall Try.prog W0 31 [ShN n, ShN m] σ K := d_smallY n m hn hm hz K (by rw [hs]; exact h0)
theorem d_gameOfT (n m : Nat) (hn : n < 2 ^ 36) (hm : m < 2 ^ 36) (hz : m ≠ 0) (hs : smB n m = true) (K : Cont) (h0 : ∀ S g b1 b2, S[g]? = some (bGm m b1 b2) → S[b1]? = some bNew → S[b2]? = some bNew → (∀ (j : Nat) (B : Blk), σ[j]? = some B → S[j]? = some B) → K (.tup [.ptr g 0 0, U n, Bo true]) S) : ACall Try.prog W0 34 [ShN n, ShN m] σ K :=
  d_gameOfY n m hn hm hz K (by rw [hs]; exact h0)
/-! LastWins -/
theorem d_sWins (m : Nat) (hm : m < 2 ^ 36) (hz : m ≠ 0) (none : Bool) (V : Nat → Bool) (hV : ∀ n, n < 2 ^ 36 → V n = gW none ((nxL n m).map V)) (n : Nat) (hn : n < 2 ^ 36) (K : Cont) (h0 : K (Bo (V n)) σ) : ACall Try.prog W0 32 [ShN n, ShN m, Bo none] σ K :=
  ACall.lift rfl (fun _ => rfl) (fun W1 K _ hK => c_sWins m hm hz none V hV _ n hn (Nat.le_refl _) W1 K hK) h0
end Go.Proofs.Ytcclhjohpicleaa
end

section
/- Games: who wins the game to miss, by both sides. -/
set_option linter.unusedVariables false
set_option linter.unusedSimpArgs false
set_option maxRecDepth 100000
set_option maxHeartbeats 4000000
namespace Go.Proofs.Ytcclhjohpicleaa
open Go Go.RowKit Go.Proofs.Ytcclhjohpicleaa.Abs
variable {σ : List Blk} {W0 : World}
abbrev enB (v : Bool) : Value := .bool v
theorem take_any {L : List Nat} {f : Nat → Bool} {i : Nat} (h : i < L.length) : (L.take (i + 1)).any f = ((L.take i).any f || f (L.getD i 0)) := by
  rw [take_ld h, List.any_append, List.any_cons, List.any_nil, Bool.or_false]
theorem c_IndexInv (g0 : FuncId) (caps : List AV) (L : List Nat) (F : Nat → Bool) (Inv : List Blk → Prop) (bx vx cx : Nat) (Bx : Blk) (hO : ∀ S, Inv S → Own S bx vx Bx L) (hl : L.length ≤ 36) (hc : ∀ x, x ∈ L → ∀ S, Inv S → ∀ K : Cont, (∀ S', Inv S' → K (Bo (F x)) S') → ACall Try.prog W0 g0 (U x :: caps) S K) (S : List Blk) (hS : Inv S) (K : Cont) (h0 : ∀ S', Inv S' → L.any F = true → ∀ n : Nat, n < L.length → K (I n) S') (h00 : ∀ S', Inv S' → L.any F = false → K (I (-1)) S') : ACall Try.prog W0 76 [.sl bx vx 0 L.length cx, .fn (.func g0) [] caps] S K := by
  refine by76 (Nat.le_of_ble_eq_true rfl) ?_
  have hOS := hO _ hS
  repeat' ((conv => whnf); first | (refine Exists.intro ([] : List Nat) ?_) | (refine And.intro rfl ?_) | (refine And.intro (by decide +kernel) ?_) | (refine And.intro trivial ?_) | (refine And.intro ⟨_, hOS.g, hOS.v⟩ ?_) | (refine Exists.intro _ (And.intro rfl (And.intro rfl (And.intro (Nat.le_of_ble_eq_true rfl) ?_)))) | (refine Exists.intro _ (And.intro rfl (And.intro rfl (And.intro rfl (And.intro (Nat.le_of_ble_eq_true rfl) ?_))))) | (refine And.intro (Exists.intro _ (And.intro rfl rfl)) ?_) | (exact fun hW => absurd hW (by decide +kernel)) | (intro hW; (try simp only [Bool.not_true, Bool.not_false, Bool.not_eq_true', Bool.not_eq_false', decide_eq_true_eq, decide_eq_false_iff_not, reduceCtorEq, Bool.true_eq_false, Bool.false_eq_true, mk_size, List.size_toArray, ByteArray.size_append, ByteArray.size_extract, List.length_cons, List.length_nil, ba_get, ba_empty, Int.toNat_natCast] at hW)) | (refine And.intro (?_ : _ → _) (?_ : _ → _)) | (refine FinR.drop 0 (Nat.zero_le _) (Closed.zero _) rfl ?_) | (refine FinR.keep ?_) | (refine And.intro (det3_agg rfl) ?_) | (refine fL_mk ?_) | (refine And.intro (by (try simp only [mk_size, List.size_toArray, ByteArray.size_append, ByteArray.size_extract, List.length_cons, List.length_nil]); omega) ?_) | (refine And.intro (by (try simp only [mk_size, List.size_toArray, ByteArray.size_append, ByteArray.size_extract, List.length_cons, List.length_nil, wrap64_eq]); omega) ?_) | fail)
  skip
  refine LoopR.live (fun x : Nat × List Blk => [(0, .sl bx vx 0 L.length cx), (1, .fn (.func g0) [] caps), (7, I L.length), (8, I x.1)]) (fun x => x.2) (fun x => x.1 ≤ L.length ∧ Inv x.2 ∧ (L.take x.1).any F = false) (fun x => L.length - x.1) (0, S) ⟨rfl, rfl, rfl, rfl, trivial⟩ (.keep rfl) ⟨Nat.zero_le _, hS, rfl⟩ ?_
  clear hS hOS
  rintro ⟨i, S⟩ ⟨hi, hS, hal⟩
  dsimp only at hi hS hal
  have ew : IntKind.i64.wrap ((i : Nat) + 1 : Int) = ((i + 1 : Nat) : Int) := wsucc' i (by omega)
  have hf := hO _ hS
  by_cases hlti : i < L.length
  · have o1 : 0 + ((i : Nat) : Int).toNat * 1 = i := by rw [Int.toNat_natCast]; omega
    have l1 := hf.le hlti o1
    have d1 := hf.ld hlti o1
    have hmem := getD_memG hlti
    have hcx := fun (K : Cont) => hc _ hmem S hS K
    have hst := take_any (f := F) hlti
    rw [hal, Bool.false_or] at hst
    cases hr : F (L.getD i 0) with
    | true =>
      rw [hr] at hcx
      have hany : L.any F = true := List.any_eq_true.2 ⟨_, hmem, hr⟩
      have h0' := fun S' (h : Inv S') => h0 S' h hany i hlti
      repeat' ((conv => whnf); first | (rw [ew]) | (refine Exists.intro Bx (And.intro hf.g (And.intro hf.v (And.intro l1 ?_))); rw [d1]) | (refine Exists.intro ([] : List Nat) ?_) | (refine And.intro rfl ?_) | (refine And.intro (by decide +kernel) ?_) | (refine And.intro trivial ?_) | (refine And.intro ⟨_, hf.g, hf.v⟩ ?_) | (refine hcx _ (fun S2 hS2 => ?_)) | (refine Exists.intro _ (And.intro rfl (And.intro rfl (And.intro (Nat.le_of_ble_eq_true rfl) ?_)))) | (refine Exists.intro _ (And.intro rfl (And.intro rfl (And.intro rfl (And.intro (Nat.le_of_ble_eq_true rfl) ?_))))) | (refine And.intro (Exists.intro _ (And.intro rfl rfl)) ?_) | (exact fun hW => absurd hW (by decide +kernel)) | (intro hW; (try simp only [Bool.not_true, Bool.not_false, Bool.not_eq_true', Bool.not_eq_false', decide_eq_true_eq, decide_eq_false_iff_not, reduceCtorEq, Bool.true_eq_false, Bool.false_eq_true, mk_size, List.size_toArray, ByteArray.size_append, ByteArray.size_extract, List.length_cons, List.length_nil, ba_get, ba_empty, Int.toNat_natCast] at hW)) | (refine And.intro (?_ : _ → _) (?_ : _ → _)) | (refine FinR.drop 0 (Nat.zero_le _) (Closed.zero _) rfl ?_) | (refine FinR.keep ?_) | (refine And.intro (det3_agg rfl) ?_) | (refine fL_mk ?_) | (refine And.intro (by (try simp only [mk_size, List.size_toArray, ByteArray.size_append, ByteArray.size_extract, List.length_cons, List.length_nil]); omega) ?_) | (refine And.intro (by (try simp only [mk_size, List.size_toArray, ByteArray.size_append, ByteArray.size_extract, List.length_cons, List.length_nil, wrap64_eq]); omega) ?_) | fail)
      skip
      all_goals first | (exfalso; omega) | exact h0' _ hS2 | (exfalso; simp_all; done)
    | false =>
      rw [hr] at hcx hst
      repeat' ((conv => whnf); first | (rw [ew]) | (refine Exists.intro Bx (And.intro hf.g (And.intro hf.v (And.intro l1 ?_))); rw [d1]) | (refine Exists.intro ([] : List Nat) ?_) | (refine And.intro rfl ?_) | (refine And.intro (by decide +kernel) ?_) | (refine And.intro trivial ?_) | (refine And.intro ⟨_, hf.g, hf.v⟩ ?_) | (refine hcx _ (fun S2 hS2 => ?_)) | (refine Exists.intro _ (And.intro rfl (And.intro rfl (And.intro (Nat.le_of_ble_eq_true rfl) ?_)))) | (refine Exists.intro _ (And.intro rfl (And.intro rfl (And.intro rfl (And.intro (Nat.le_of_ble_eq_true rfl) ?_))))) | (refine And.intro (Exists.intro _ (And.intro rfl rfl)) ?_) | (exact fun hW => absurd hW (by decide +kernel)) | (intro hW; (try simp only [Bool.not_true, Bool.not_false, Bool.not_eq_true', Bool.not_eq_false', decide_eq_true_eq, decide_eq_false_iff_not, reduceCtorEq, Bool.true_eq_false, Bool.false_eq_true, mk_size, List.size_toArray, ByteArray.size_append, ByteArray.size_extract, List.length_cons, List.length_nil, ba_get, ba_empty, Int.toNat_natCast] at hW)) | (refine And.intro (?_ : _ → _) (?_ : _ → _)) | (refine FinR.drop 0 (Nat.zero_le _) (Closed.zero _) rfl ?_) | (refine FinR.keep ?_) | (refine And.intro (det3_agg rfl) ?_) | (refine fL_mk ?_) | (refine And.intro (by (try simp only [mk_size, List.size_toArray, ByteArray.size_append, ByteArray.size_extract, List.length_cons, List.length_nil]); omega) ?_) | (refine And.intro (by (try simp only [mk_size, List.size_toArray, ByteArray.size_append, ByteArray.size_extract, List.length_cons, List.length_nil, wrap64_eq]); omega) ?_) | fail)
      all_goals first | (exfalso; omega) | (exfalso; simp_all; done) | skip
      skip
      exact Again.go (i + 1, S2) ⟨rfl, rfl, rfl, rfl, trivial⟩ (.keep rfl) ⟨by show i + 1 ≤ L.length; omega, hS2, hst⟩ (by show L.length - (i + 1) < L.length - i; omega)
  · obtain rfl : i = L.length := by omega
    rw [List.take_length] at hal
    have h0' := h00 S hS hal
    repeat' ((conv => whnf); first | (refine Exists.intro ([] : List Nat) ?_) | (refine And.intro rfl ?_) | (refine And.intro (by decide +kernel) ?_) | (refine And.intro trivial ?_) | (refine Exists.intro _ (And.intro rfl (And.intro rfl (And.intro (Nat.le_of_ble_eq_true rfl) ?_)))) | (refine Exists.intro _ (And.intro rfl (And.intro rfl (And.intro rfl (And.intro (Nat.le_of_ble_eq_true rfl) ?_))))) | (refine And.intro (Exists.intro _ (And.intro rfl rfl)) ?_) | (exact fun hW => absurd hW (by decide +kernel)) | (intro hW; (try simp only [Bool.not_true, Bool.not_false, Bool.not_eq_true', Bool.not_eq_false', decide_eq_true_eq, decide_eq_false_iff_not, reduceCtorEq, Bool.true_eq_false, Bool.false_eq_true, mk_size, List.size_toArray, ByteArray.size_append, ByteArray.size_extract, List.length_cons, List.length_nil, ba_get, ba_empty, Int.toNat_natCast] at hW)) | (refine And.intro (?_ : _ → _) (?_ : _ → _)) | (refine FinR.drop 0 (Nat.zero_le _) (Closed.zero _) rfl ?_) | (refine FinR.keep ?_) | (refine And.intro (det3_agg rfl) ?_) | (refine fL_mk ?_) | (refine And.intro (by (try simp only [mk_size, List.size_toArray, ByteArray.size_append, ByteArray.size_extract, List.length_cons, List.length_nil]); omega) ?_) | (refine And.intro (by (try simp only [mk_size, List.size_toArray, ByteArray.size_append, ByteArray.size_extract, List.length_cons, List.length_nil, wrap64_eq]); omega) ?_) | fail)
    all_goals first | (exfalso; omega) | exact h0' | (exfalso; simp_all; done)
theorem c_ContInv (g0 : FuncId) (caps : List AV) (L : List Nat) (F : Nat → Bool) (Inv : List Blk → Prop) (bx vx cx : Nat) (Bx : Blk) (hO : ∀ S, Inv S → Own S bx vx Bx L) (hl : L.length ≤ 36) (hc : ∀ x, x ∈ L → ∀ S, Inv S → ∀ K : Cont, (∀ S', Inv S' → K (Bo (F x)) S') → ACall Try.prog W0 g0 (U x :: caps) S K) (S : List Blk) (hS : Inv S) (K : Cont) (h0 : ∀ S', Inv S' → K (Bo (L.any F)) S') : ACall Try.prog W0 56 [.sl bx vx 0 L.length cx, .fn (.func g0) [] caps] S K := by
  refine by56 (Nat.le_of_ble_eq_true rfl) ?_
  have hfin : ∀ (y : Int) S', Inv S' → decide (0 ≤ y) = L.any F → K (Bo (decide (0 ≤ y))) S' := fun y S' h e => by rw [e]; exact h0 S' h
  repeat' ((conv => whnf); first | (refine Exists.intro ([] : List Nat) ?_) | (refine And.intro rfl ?_) | (refine And.intro (by decide +kernel) ?_) | (refine And.intro trivial ?_) | (refine c_IndexInv (caps := caps) (F := F) (Inv := Inv) (Bx := Bx) (hO := hO) (hl := hl) (hc := hc) (hS := hS) (h0 := fun S' hS' he nn hnn => ?_) (h00 := fun S' hS' he => ?_) ..) | (refine Exists.intro _ (And.intro rfl (And.intro rfl (And.intro (Nat.le_of_ble_eq_true rfl) ?_)))) | (refine Exists.intro _ (And.intro rfl (And.intro rfl (And.intro rfl (And.intro (Nat.le_of_ble_eq_true rfl) ?_))))) | (refine And.intro (Exists.intro _ (And.intro rfl rfl)) ?_) | (exact fun hW => absurd hW (by decide +kernel)) | (intro hW; (try simp only [Bool.not_true, Bool.not_false, Bool.not_eq_true', Bool.not_eq_false', decide_eq_true_eq, decide_eq_false_iff_not, reduceCtorEq, Bool.true_eq_false, Bool.false_eq_true, mk_size, List.size_toArray, ByteArray.size_append, ByteArray.size_extract, List.length_cons, List.length_nil, ba_get, ba_empty, Int.toNat_natCast] at hW)) | (refine And.intro (?_ : _ → _) (?_ : _ → _)) | (refine FinR.drop 0 (Nat.zero_le _) (Closed.zero _) rfl ?_) | (refine FinR.keep ?_) | (refine And.intro (det3_agg rfl) ?_) | (refine fL_mk ?_) | (refine And.intro (by (try simp only [mk_size, List.size_toArray, ByteArray.size_append, ByteArray.size_extract, List.length_cons, List.length_nil]); omega) ?_) | (refine And.intro (by (try simp only [mk_size, List.size_toArray, ByteArray.size_append, ByteArray.size_extract, List.length_cons, List.length_nil, wrap64_eq]); omega) ?_) | fail)
  skip
  all_goals first | exact hfin _ _ hS' (by rw [he]; exact decide_eq_true (Int.natCast_nonneg _)) | exact hfin _ _ hS' (by rw [he]; rfl)
abbrev bBx (bg : Nat) : Blk := ⟨[.ptr bg 0 0], 0, 45, 1, false, false⟩
theorem c_missClo (x : Nat) (v : Bool) (S : List Blk) (pb bg : Nat) (BP : Blk) (hB : S[pb]? = some BP) (e1 : BP.ver = 0) (e2 : BP.cells = [.ptr bg 0 0]) (e3 : BP.esz = 0) (Q : List Blk → Prop) (hrec : ∀ K : Cont, (∀ S', Q S' → K (Bo v) S') → ACall Try.prog W0 35 [.ptr bg 0 0, U x] S K) (K : Cont) (h0 : ∀ S', Q S' → K (Bo (!v)) S') : ACall Try.prog W0 57 [U x, .ptr pb 0 0] S K := by
  obtain ⟨cs, ver, e, esz, row, room⟩ := BP
  dsimp only at e1 e2 e3
  subst e1; subst e2; subst e3
  refine by57 (Nat.le_of_ble_eq_true rfl) ?_
  repeat' ((conv => whnf); first | (refine Exists.intro ([] : List Nat) ?_) | (refine And.intro rfl ?_) | (refine And.intro (by decide +kernel) ?_) | (refine And.intro trivial ?_) | (refine Exists.intro _ (And.intro hB (And.intro rfl (And.intro (Nat.le_of_ble_eq_true rfl) ?_)))) | (refine hrec _ (fun S2 hQ => ?_)) | (refine Exists.intro _ (And.intro rfl (And.intro rfl (And.intro (Nat.le_of_ble_eq_true rfl) ?_)))) | (refine Exists.intro _ (And.intro rfl (And.intro rfl (And.intro rfl (And.intro (Nat.le_of_ble_eq_true rfl) ?_))))) | (refine And.intro (Exists.intro _ (And.intro rfl rfl)) ?_) | (exact fun hW => absurd hW (by decide +kernel)) | (intro hW; (try simp only [Bool.not_true, Bool.not_false, Bool.not_eq_true', Bool.not_eq_false', decide_eq_true_eq, decide_eq_false_iff_not, reduceCtorEq, Bool.true_eq_false, Bool.false_eq_true, mk_size, List.size_toArray, ByteArray.size_append, ByteArray.size_extract, List.length_cons, List.length_nil, ba_get, ba_empty, Int.toNat_natCast] at hW)) | (refine And.intro (?_ : _ → _) (?_ : _ → _)) | (refine FinR.drop 0 (Nat.zero_le _) (Closed.zero _) rfl ?_) | (refine FinR.keep ?_) | (refine And.intro (det3_agg rfl) ?_) | (refine fL_mk ?_) | (refine And.intro (by (try simp only [mk_size, List.size_toArray, ByteArray.size_append, ByteArray.size_extract, List.length_cons, List.length_nil]); omega) ?_) | (refine And.intro (by (try simp only [mk_size, List.size_toArray, ByteArray.size_append, ByteArray.size_extract, List.length_cons, List.length_nil, wrap64_eq]); omega) ?_) | fail)
  skip
  all_goals first | exact h0 _ hQ | (exfalso; simp_all; done)
theorem c_miss (m : Nat) (hm : m < 2 ^ 36) (hz : m ≠ 0) (V : Nat → Bool) (hV : ∀ n, n < 2 ^ 36 → V n = gW true ((nxL n m).map V)) : ∀ (k n : Nat), n < 2 ^ 36 → 2 ^ 36 - n ≤ k → ∀ (W0 : World) (σ : List Blk) (bg b1 b2 : Nat) (BL : Blk) (kn : List (Nat × Bool)), σ[bg]? = some (bGm m b1 b2) → MemK enB σ b2 BL kn → GoodK V kn → ∀ K : Cont, (∀ S B' kn', MemK enB S b2 B' kn' → GoodK V kn' → keepX b2 σ S → σ.length ≤ S.length → K (Bo (V n)) S) → ACall Try.prog W0 35 [.ptr bg 0 0, U n] σ K
  | 0, n, hn, h, _, _, _, _, _, _, _, _, _, _, _, _ => by omega
  | k + 1, n, hn, h, W0, σ, bg, b1, b2, BL, kn, hG, hM, hg, K, h0 => by
    have ih : ∀ x, x ∈ nxL n m → ∀ (S : List Blk) (BL : Blk) (kn : List (Nat × Bool)), S[bg]? = some (bGm m b1 b2) → MemK enB S b2 BL kn → GoodK V kn → ∀ K : Cont, (∀ S' B' kn', MemK enB S' b2 B' kn' → GoodK V kn' → keepX b2 S S' → S.length ≤ S'.length → K (Bo (V x)) S') → ACall Try.prog W0 35 [.ptr bg 0 0, U x] S K := fun x hx S BL kn q1 q2 q3 K hK =>
      c_miss m hm hz V hV k x (nxL_lt hn x hx) (by have := nxL_gt hn hm hz x hx; have := nxL_lt hn x hx; omega) W0 S bg b1 b2 BL kn q1 q2 q3 K hK
    have hVn := hV n hn
    have h36 := nxL_len n m
    have hne := gm_ne hG hM
    have hfind := find_kv enB n kn
    rw [← hM.c] at hfind
    refine by35 (Nat.le_of_ble_eq_true rfl) ?_
    cases hlk : lookK n kn with
    | some v =>
      rw [hlk] at hfind
      have hv := hg.look hlk
      rw [hv] at h0
      have h0' : ∀ B : Blk, K (Bo v) (σ ++ [B]) := fun B => h0 _ BL kn ⟨getx1 hM.g, hM.v, hM.m, hM.c⟩ hg (keepX.of fun j B hj => getx1 hj) (by rw [List.length_append]; omega)
      repeat' ((conv => whnf); first | (refine Exists.intro ([] : List Nat) ?_) | (refine And.intro rfl ?_) | (refine And.intro (by decide +kernel) ?_) | (refine And.intro trivial ?_) | (refine fS_mk ?_) | (refine Exists.intro _ (And.intro (getl) (And.intro rfl (And.intro (Nat.le_of_ble_eq_true rfl) ?_)))) | (refine And.intro ⟨_, getx1 hG, rfl⟩ ?_) | (refine Exists.intro _ (And.intro (getx1 hG) (And.intro rfl (And.intro (Nat.le_of_ble_eq_true rfl) ?_)))) | (refine Exists.intro BL (And.intro (getx1 hM.g) (And.intro hM.v (And.intro hM.m (And.intro rfl (Exists.intro _ (And.intro hfind ?_))))))) | (refine Exists.intro _ (And.intro rfl (And.intro rfl (And.intro (Nat.le_of_ble_eq_true rfl) ?_)))) | (refine Exists.intro _ (And.intro rfl (And.intro rfl (And.intro rfl (And.intro (Nat.le_of_ble_eq_true rfl) ?_))))) | (refine And.intro (Exists.intro _ (And.intro rfl rfl)) ?_) | (exact fun hW => absurd hW (by decide +kernel)) | (intro hW; (try simp only [Bool.not_true, Bool.not_false, Bool.not_eq_true', Bool.not_eq_false', decide_eq_true_eq, decide_eq_false_iff_not, reduceCtorEq, Bool.true_eq_false, Bool.false_eq_true, mk_size, List.size_toArray, ByteArray.size_append, ByteArray.size_extract, List.length_cons, List.length_nil, ba_get, ba_empty, Int.toNat_natCast] at hW)) | (refine And.intro (?_ : _ → _) (?_ : _ → _)) | (refine FinR.drop 0 (Nat.zero_le _) (Closed.zero _) rfl ?_) | (refine FinR.keep ?_) | (refine And.intro (det3_agg rfl) ?_) | (refine fL_mk ?_) | (refine And.intro (by (try simp only [mk_size, List.size_toArray, ByteArray.size_append, ByteArray.size_extract, List.length_cons, List.length_nil]); omega) ?_) | (refine And.intro (by (try simp only [mk_size, List.size_toArray, ByteArray.size_append, ByteArray.size_extract, List.length_cons, List.length_nil, wrap64_eq]); omega) ?_) | fail)
      skip
      all_goals first | (exfalso; simp_all; done) | exact FinR.keep (h0' _) | exact h0' _
    | none =>
      rw [hlk] at hfind
      have hnx := fun (σ : List Blk) (K : Cont) => d_nexts (W0 := W0) (σ := σ) n m hn hm K
      unfold gW at hVn
      rw [Bool.and_true, List.any_map] at hVn
      generalize nxL n m = L at ih hVn h36 hnx
      have hb2 := getElem?_lt hM.g
      have hfin : ∀ (S : List Blk) (BL : Blk) (kn : List (Nat × Bool)) (w : Bool), MemK enB S b2 BL kn → GoodK V kn → keepX b2 σ S → σ.length ≤ S.length → V n = w → putA .u64 (n : Int) (.lit (enB w)) BL.cells = some (kvE enB (putK n w kn)) ∧ K (Bo w) (S.set b2 { BL with cells := kvE enB (putK n w kn) }) := fun S BL kn w h1 h2 h3 h4 h5 => by
        have hput := put_kv enB n w kn
        rw [← h1.c] at hput
        refine ⟨hput, ?_⟩
        have hgp := h2.put (n := n)
        rw [h5] at hgp h0
        exact h0 _ _ (putK n w kn) ⟨getsG h1.g, h1.v, h1.m, rfl⟩ hgp (fun j B hj hB => getnG (h3 j B hj hB) (Ne.symm hj)) (by rw [List.length_set]; exact h4)
      have hbg := getElem?_lt hG
      cases L with
      | nil =>
        have e1 : decide (((([] : List Nat).length : Nat) : Int) = 0) = true := rfl
        have hVn : V n = true := hVn
        repeat' ((conv => whnf); first | (rw [e1]) | (refine Exists.intro ([] : List Nat) ?_) | (refine And.intro rfl ?_) | (refine And.intro (by decide +kernel) ?_) | (refine And.intro trivial ?_) | (refine fS_mk ?_) | (refine Exists.intro _ (And.intro (getl) (And.intro rfl (And.intro (Nat.le_of_ble_eq_true rfl) ?_)))) | (refine And.intro ⟨_, getx1 hG, rfl⟩ ?_) | (refine Exists.intro _ (And.intro (getx1 hG) (And.intro rfl (And.intro (Nat.le_of_ble_eq_true rfl) ?_)))) | (refine Exists.intro BL (And.intro (getx1 hM.g) (And.intro hM.v (And.intro hM.m (And.intro rfl (Exists.intro _ (And.intro hfind ?_))))))) | (refine hnx _ _ (fun S1 bx vx cx Bx hf fb k1 => ?_)) | (refine And.intro ⟨_, hf.g, hf.v⟩ ?_) | (refine Exists.intro _ (And.intro rfl (And.intro rfl (And.intro (Nat.le_of_ble_eq_true rfl) ?_)))) | (refine Exists.intro _ (And.intro rfl (And.intro rfl (And.intro rfl (And.intro (Nat.le_of_ble_eq_true rfl) ?_))))) | (refine And.intro (Exists.intro _ (And.intro rfl rfl)) ?_) | (exact fun hW => absurd hW (by decide +kernel)) | (intro hW; (try simp only [Bool.not_true, Bool.not_false, Bool.not_eq_true', Bool.not_eq_false', decide_eq_true_eq, decide_eq_false_iff_not, reduceCtorEq, Bool.true_eq_false, Bool.false_eq_true, mk_size, List.size_toArray, ByteArray.size_append, ByteArray.size_extract, List.length_cons, List.length_nil, ba_get, ba_empty, Int.toNat_natCast] at hW)) | (refine And.intro (?_ : _ → _) (?_ : _ → _)) | (refine FinR.drop 0 (Nat.zero_le _) (Closed.zero _) rfl ?_) | (refine FinR.keep ?_) | (refine And.intro (det3_agg rfl) ?_) | (refine fL_mk ?_) | (refine And.intro (by (try simp only [mk_size, List.size_toArray, ByteArray.size_append, ByteArray.size_extract, List.length_cons, List.length_nil]); omega) ?_) | (refine And.intro (by (try simp only [mk_size, List.size_toArray, ByteArray.size_append, ByteArray.size_extract, List.length_cons, List.length_nil, wrap64_eq]); omega) ?_) | fail)
        all_goals first | (exfalso; simp_all; done) | skip
        skip
        have hk1 : keepX b2 σ S1 := keepX.of fun j B hj => k1 j B (getx1 hj)
        have hl1 : σ.length ≤ S1.length := Nat.le_of_lt (getElem?_lt (k1 _ _ getl))
        have hM1 : MemK enB S1 b2 BL kn := ⟨k1 _ _ (getx1 hM.g), hM.v, hM.m, hM.c⟩
        obtain ⟨hput, h0'⟩ := hfin S1 BL kn true hM1 hg hk1 hl1 hVn
        repeat' ((conv => whnf); first | (refine Exists.intro ([] : List Nat) ?_) | (refine And.intro rfl ?_) | (refine And.intro (by decide +kernel) ?_) | (refine And.intro trivial ?_) | (refine Exists.intro _ (And.intro (k1 _ _ getl) (And.intro rfl (And.intro (Nat.le_of_ble_eq_true rfl) ?_)))) | (refine And.intro ⟨_, k1 _ _ (getx1 hG), rfl⟩ ?_) | (refine Exists.intro _ (And.intro (k1 _ _ (getx1 hG)) (And.intro rfl (And.intro (Nat.le_of_ble_eq_true rfl) ?_)))) | (refine Exists.intro _ (And.intro (hM1.g) (And.intro hM1.v (And.intro hM1.m (And.intro rfl (And.intro rfl (Exists.intro _ (And.intro hput ?_)))))))) | (refine fS_mk ?_) | (refine Exists.intro _ (And.intro rfl (And.intro rfl (And.intro (Nat.le_of_ble_eq_true rfl) ?_)))) | (refine Exists.intro _ (And.intro rfl (And.intro rfl (And.intro rfl (And.intro (Nat.le_of_ble_eq_true rfl) ?_))))) | (refine And.intro (Exists.intro _ (And.intro rfl rfl)) ?_) | (exact fun hW => absurd hW (by decide +kernel)) | (intro hW; (try simp only [Bool.not_true, Bool.not_false, Bool.not_eq_true', Bool.not_eq_false', decide_eq_true_eq, decide_eq_false_iff_not, reduceCtorEq, Bool.true_eq_false, Bool.false_eq_true, mk_size, List.size_toArray, ByteArray.size_append, ByteArray.size_extract, List.length_cons, List.length_nil, ba_get, ba_empty, Int.toNat_natCast] at hW)) | (refine And.intro (?_ : _ → _) (?_ : _ → _)) | (refine FinR.drop 0 (Nat.zero_le _) (Closed.zero _) rfl ?_) | (refine FinR.keep ?_) | (refine And.intro (det3_agg rfl) ?_) | (refine fL_mk ?_) | (refine And.intro (by (try simp only [mk_size, List.size_toArray, ByteArray.size_append, ByteArray.size_extract, List.length_cons, List.length_nil]); omega) ?_) | (refine And.intro (by (try simp only [mk_size, List.size_toArray, ByteArray.size_append, ByteArray.size_extract, List.length_cons, List.length_nil, wrap64_eq]); omega) ?_) | fail)
        skip
        all_goals first | (exfalso; simp_all; done) | exact FinR.keep h0' | exact h0'
      | cons y L =>
        have e1 : decide ((((y :: L).length : Nat) : Int) = 0) = false := decide_eq_false (by rw [List.length_cons]; omega)
        have hVn : V n = (y :: L).any (fun x => !V x) := by rw [hVn]; exact Bool.or_false _
        generalize y :: L = L at e1 hVn ih hnx h36
        repeat' ((conv => whnf); first | (rw [e1]) | (refine Exists.intro ([] : List Nat) ?_) | (refine And.intro rfl ?_) | (refine And.intro (by decide +kernel) ?_) | (refine And.intro trivial ?_) | (refine fS_mk ?_) | (refine Exists.intro _ (And.intro (getl) (And.intro rfl (And.intro (Nat.le_of_ble_eq_true rfl) ?_)))) | (refine And.intro ⟨_, getx1 hG, rfl⟩ ?_) | (refine Exists.intro _ (And.intro (getx1 hG) (And.intro rfl (And.intro (Nat.le_of_ble_eq_true rfl) ?_)))) | (refine Exists.intro BL (And.intro (getx1 hM.g) (And.intro hM.v (And.intro hM.m (And.intro rfl (Exists.intro _ (And.intro hfind ?_))))))) | (refine hnx _ _ (fun S1 bx vx cx Bx hf fb k1 => ?_)) | (refine And.intro ⟨_, hf.g, hf.v⟩ ?_) | (refine Exists.intro _ (And.intro rfl (And.intro rfl (And.intro (Nat.le_of_ble_eq_true rfl) ?_)))) | (refine Exists.intro _ (And.intro rfl (And.intro rfl (And.intro rfl (And.intro (Nat.le_of_ble_eq_true rfl) ?_))))) | (refine And.intro (Exists.intro _ (And.intro rfl rfl)) ?_) | (exact fun hW => absurd hW (by decide +kernel)) | (intro hW; (try simp only [Bool.not_true, Bool.not_false, Bool.not_eq_true', Bool.not_eq_false', decide_eq_true_eq, decide_eq_false_iff_not, reduceCtorEq, Bool.true_eq_false, Bool.false_eq_true, mk_size, List.size_toArray, ByteArray.size_append, ByteArray.size_extract, List.length_cons, List.length_nil, ba_get, ba_empty, Int.toNat_natCast] at hW)) | (refine And.intro (?_ : _ → _) (?_ : _ → _)) | (refine FinR.drop 0 (Nat.zero_le _) (Closed.zero _) rfl ?_) | (refine FinR.keep ?_) | (refine And.intro (det3_agg rfl) ?_) | (refine fL_mk ?_) | (refine And.intro (by (try simp only [mk_size, List.size_toArray, ByteArray.size_append, ByteArray.size_extract, List.length_cons, List.length_nil]); omega) ?_) | (refine And.intro (by (try simp only [mk_size, List.size_toArray, ByteArray.size_append, ByteArray.size_extract, List.length_cons, List.length_nil, wrap64_eq]); omega) ?_) | fail)
        all_goals first | (exfalso; simp_all; done) | skip
        skip
        have hk1 : keepX b2 σ S1 := keepX.of fun j B hj => k1 j B (getx1 hj)
        have hl1 : σ.length ≤ S1.length := Nat.le_of_lt (getElem?_lt (k1 _ _ getl))
        have hM1 : MemK enB S1 b2 BL kn := ⟨k1 _ _ (getx1 hM.g), hM.v, hM.m, hM.c⟩
        have hG1 := k1 _ _ (getx1 hG)
        have hP1 := k1 _ _ getl
        have hfb : σ.length + 1 ≤ bx := by simpa using fb
        refine c_ContInv (W0 := W0) 57 [.ptr σ.length 0 0] L (fun x => !V x) (fun S => (∃ BL kn, MemK enB S b2 BL kn ∧ GoodK V kn) ∧ keepX b2 S1 S ∧ S1.length ≤ S.length) bx vx cx Bx (fun S h => ⟨h.2.1 _ _ (by omega) hf.g, hf.v, hf.c⟩) h36 (fun x hx S hS K hK => ?_) S1 ⟨⟨BL, kn, hM1, hg⟩, keepX.refl _ _, Nat.le_refl _⟩ _ (fun S' hS' => ?_)
        · obtain ⟨⟨BL, kn, q1, q2⟩, q3, q4⟩ := hS
          exact c_missClo x (V x) S σ.length bg _ (q3 _ _ (by omega) hP1) rfl rfl rfl (fun S' => (∃ BL kn, MemK enB S' b2 BL kn ∧ GoodK V kn) ∧ keepX b2 S1 S' ∧ S1.length ≤ S'.length) (fun K hK => ih x hx S BL kn (q3 _ _ (by omega) hG1) q1 q2 K fun S' B' kn' g1 g2 g3 g4 => hK S' ⟨⟨B', kn', g1, g2⟩, q3.trans g3, Nat.le_trans q4 g4⟩) K fun S' h => hK S' h
        · obtain ⟨⟨BL2, kn2, q1, q2⟩, q3, q4⟩ := hS'
          have hG2 := q3 _ _ hne hG1
          have hP2 := q3 _ _ (by omega) hP1
          rw [← hVn]
          generalize hw : V n = w at hfin
          obtain ⟨hput, h0'⟩ := hfin S' BL2 kn2 w q1 q2 (hk1.trans q3) (by omega) rfl
          repeat' ((conv => whnf); first | (refine Exists.intro ([] : List Nat) ?_) | (refine And.intro rfl ?_) | (refine And.intro (by decide +kernel) ?_) | (refine And.intro trivial ?_) | (refine Exists.intro _ (And.intro (hP2) (And.intro rfl (And.intro (Nat.le_of_ble_eq_true rfl) ?_)))) | (refine And.intro ⟨_, hG2, rfl⟩ ?_) | (refine Exists.intro _ (And.intro (hG2) (And.intro rfl (And.intro (Nat.le_of_ble_eq_true rfl) ?_)))) | (refine Exists.intro _ (And.intro (q1.g) (And.intro q1.v (And.intro q1.m (And.intro rfl (And.intro rfl (Exists.intro _ (And.intro hput ?_)))))))) | (refine fS_mk ?_) | (refine Exists.intro _ (And.intro rfl (And.intro rfl (And.intro (Nat.le_of_ble_eq_true rfl) ?_)))) | (refine Exists.intro _ (And.intro rfl (And.intro rfl (And.intro rfl (And.intro (Nat.le_of_ble_eq_true rfl) ?_))))) | (refine And.intro (Exists.intro _ (And.intro rfl rfl)) ?_) | (exact fun hW => absurd hW (by decide +kernel)) | (intro hW; (try simp only [Bool.not_true, Bool.not_false, Bool.not_eq_true', Bool.not_eq_false', decide_eq_true_eq, decide_eq_false_iff_not, reduceCtorEq, Bool.true_eq_false, Bool.false_eq_true, mk_size, List.size_toArray, ByteArray.size_append, ByteArray.size_extract, List.length_cons, List.length_nil, ba_get, ba_empty, Int.toNat_natCast] at hW)) | (refine And.intro (?_ : _ → _) (?_ : _ → _)) | (refine FinR.drop 0 (Nat.zero_le _) (Closed.zero _) rfl ?_) | (refine FinR.keep ?_) | (refine And.intro (det3_agg rfl) ?_) | (refine fL_mk ?_) | (refine And.intro (by (try simp only [mk_size, List.size_toArray, ByteArray.size_append, ByteArray.size_extract, List.length_cons, List.length_nil]); omega) ?_) | (refine And.intro (by (try simp only [mk_size, List.size_toArray, ByteArray.size_append, ByteArray.size_extract, List.length_cons, List.length_nil, wrap64_eq]); omega) ?_) | fail)
          skip
          all_goals first | (exfalso; simp_all; done) | exact FinR.keep h0' | exact h0'
theorem d_miss (m : Nat) (hm : m < 2 ^ 36) (hz : m ≠ 0) (V : Nat → Bool) (hV : ∀ n, n < 2 ^ 36 → V n = gW true ((nxL n m).map V)) (n : Nat) (hn : n < 2 ^ 36) (bg b1 b2 : Nat) (h1 : σ[bg]? = some (bGm m b1 b2)) (h2 : σ[b2]? = some bNew) (K : Cont) (h0 : ∀ S, K (Bo (V n)) S) : ACall Try.prog W0 35 [.ptr bg 0 0, U n] σ K :=
  c_miss m hm hz V hV _ n hn (Nat.le_refl _) W0 σ bg b1 b2 bNew [] h1 (new_mem h2) GoodK.nil K fun S _ _ _ _ _ _ => h0 S
theorem c_sMissWinsT (n m : Nat) (hn : n < 2 ^ 36) (hm : m < 2 ^ 36) (hz : m ≠ 0) (hs : smB n m = true) (V : Nat → Bool) (hV : ∀ n, n < 2 ^ 36 → V n = gW true ((nxL n m).map V)) (K : Cont) (h0 : K (.tup [Bo (V n), Bo true]) []) : ACall Try.prog W0 10 [ShN n, ShN m] [] K := by
  refine by10 (Nat.le_of_ble_eq_true rfl) ?_
  repeat' ((conv => whnf); first | (refine Exists.intro ([] : List Nat) ?_) | (refine And.intro rfl ?_) | (refine And.intro (by decide +kernel) ?_) | (refine And.intro trivial ?_) | (refine d_smallT (hn := hn) (hm := hm) (hz := hz) (hs := hs) (h0 := ?_) ..) | (refine d_sWins (hm := hm) (hz := hz) (hV := hV) (hn := hn) (h0 := ?_) ..) | (refine Exists.intro _ (And.intro rfl (And.intro rfl (And.intro (Nat.le_of_ble_eq_true rfl) ?_)))) | (refine Exists.intro _ (And.intro rfl (And.intro rfl (And.intro rfl (And.intro (Nat.le_of_ble_eq_true rfl) ?_))))) | (refine And.intro (Exists.intro _ (And.intro rfl rfl)) ?_) | (exact fun hW => absurd hW (by decide +kernel)) | (intro hW; (try simp only [Bool.not_true, Bool.not_false, Bool.not_eq_true', Bool.not_eq_false', decide_eq_true_eq, decide_eq_false_iff_not, reduceCtorEq, Bool.true_eq_false, Bool.false_eq_true, mk_size, List.size_toArray, ByteArray.size_append, ByteArray.size_extract, List.length_cons, List.length_nil, ba_get, ba_empty, Int.toNat_natCast] at hW)) | (refine And.intro (?_ : _ → _) (?_ : _ → _)) | (refine FinR.drop 0 (Nat.zero_le _) (Closed.zero _) rfl ?_) | (refine FinR.keep ?_) | (refine And.intro (det3_agg rfl) ?_) | (refine fL_mk ?_) | (refine And.intro (by (try simp only [mk_size, List.size_toArray, ByteArray.size_append, ByteArray.size_extract, List.length_cons, List.length_nil]); omega) ?_) | (refine And.intro (by (try simp only [mk_size, List.size_toArray, ByteArray.size_append, ByteArray.size_extract, List.length_cons, List.length_nil, wrap64_eq]); omega) ?_) | fail)
  all_goals first | (exfalso; simp_all; done) | exact h0
theorem d_sMissWinsT (n m : Nat) (hn : n < 2 ^ 36) (hm : m < 2 ^ 36) (hz : m ≠ 0) (hs : smB n m = true) (V : Nat → Bool) (hV : ∀ n, n < 2 ^ 36 → V n = gW true ((nxL n m).map V)) (K : Cont) (h0 : K (.tup [Bo (V n), Bo true]) σ) : ACall Try.prog W0 10 [ShN n, ShN m] σ K :=
  ACall.lift rfl (fun _ => rfl) (fun W1 K _ hK => c_sMissWinsT n m hn hm hz hs V hV K hK) h0
theorem c_sMissWinsF (a b c d e f a' b' c' d' e' f' : Int) (h : Sm a b c d e f a' b' c' d' e' f' none) (K : Cont) (h0 : K (.tup [Bo false, Bo false]) []) : ACall Try.prog W0 10 [Sh a b c d e f, Sh a' b' c' d' e' f'] [] K := by
  refine by10 (Nat.le_of_ble_eq_true rfl) ?_
  repeat' ((conv => whnf); first | (refine Exists.intro ([] : List Nat) ?_) | (refine And.intro rfl ?_) | (refine And.intro (by decide +kernel) ?_) | (refine And.intro trivial ?_) | (refine d_smallF (h := h) (h0 := ?_) ..) | (refine Exists.intro _ (And.intro rfl (And.intro rfl (And.intro (Nat.le_of_ble_eq_true rfl) ?_)))) | (refine Exists.intro _ (And.intro rfl (And.intro rfl (And.intro rfl (And.intro (Nat.le_of_ble_eq_true rfl) ?_))))) | (refine And.intro (Exists.intro _ (And.intro rfl rfl)) ?_) | (exact fun hW => absurd hW (by decide +kernel)) | (intro hW; (try simp only [Bool.not_true, Bool.not_false, Bool.not_eq_true', Bool.not_eq_false', decide_eq_true_eq, decide_eq_false_iff_not, reduceCtorEq, Bool.true_eq_false, Bool.false_eq_true, mk_size, List.size_toArray, ByteArray.size_append, ByteArray.size_extract, List.length_cons, List.length_nil, ba_get, ba_empty, Int.toNat_natCast] at hW)) | (refine And.intro (?_ : _ → _) (?_ : _ → _)) | (refine FinR.drop 0 (Nat.zero_le _) (Closed.zero _) rfl ?_) | (refine FinR.keep ?_) | (refine And.intro (det3_agg rfl) ?_) | (refine fL_mk ?_) | (refine And.intro (by (try simp only [mk_size, List.size_toArray, ByteArray.size_append, ByteArray.size_extract, List.length_cons, List.length_nil]); omega) ?_) | (refine And.intro (by (try simp only [mk_size, List.size_toArray, ByteArray.size_append, ByteArray.size_extract, List.length_cons, List.length_nil, wrap64_eq]); omega) ?_) | fail)
  all_goals first | (exfalso; simp_all; done) | exact h0
theorem d_sMissWinsF (a b c d e f a' b' c' d' e' f' : Int) (h : Sm a b c d e f a' b' c' d' e' f' none) (K : Cont) (h0 : K (.tup [Bo false, Bo false]) σ) : ACall Try.prog W0 10 [Sh a b c d e f, Sh a' b' c' d' e' f'] σ K :=
  ACall.lift rfl (fun _ => rfl) (fun W1 K _ hK => c_sMissWinsF a b c d e f a' b' c' d' e' f' h K hK) h0
theorem c_MissWinsT (n m : Nat) (hn : n < 2 ^ 36) (hm : m < 2 ^ 36) (hz : m ≠ 0) (hs : smB n m = true) (V : Nat → Bool) (hV : ∀ n, n < 2 ^ 36 → V n = gW true ((nxL n m).map V)) (K : Cont) (h0 : K (.tup [Bo (V n), Bo true]) []) : ACall Try.prog W0 12 [ShN n, ShN m] [] K := by
  refine by12 (Nat.le_of_ble_eq_true rfl) ?_
  generalize hvn : V n = q at h0
  have hnum := fun (σ : List Blk) (bg b1 b2 : Nat) (h1 : σ[bg]? = some (bGm m b1 b2)) (h2 : σ[b2]? = some bNew) (K : Cont) (hK : ∀ S, K (Bo q) S) => d_miss (W0 := W0) (σ := σ) m hm hz V hV n hn bg b1 b2 h1 h2 K (fun S => by rw [hvn]; exact hK S)
  repeat' ((conv => whnf); first | (refine Exists.intro ([] : List Nat) ?_) | (refine And.intro rfl ?_) | (refine And.intro (by decide +kernel) ?_) | (refine And.intro trivial ?_) | (refine d_gameOfT (hn := hn) (hm := hm) (hz := hz) (hs := hs) (h0 := fun S g b1 b2 g1 g2 g3 hk => ?_) ..) | (refine hnum _ _ _ _ g1 g3 _ (fun S2 => ?_)) | (refine Exists.intro _ (And.intro rfl (And.intro rfl (And.intro (Nat.le_of_ble_eq_true rfl) ?_)))) | (refine Exists.intro _ (And.intro rfl (And.intro rfl (And.intro rfl (And.intro (Nat.le_of_ble_eq_true rfl) ?_))))) | (refine And.intro (Exists.intro _ (And.intro rfl rfl)) ?_) | (exact fun hW => absurd hW (by decide +kernel)) | (intro hW; (try simp only [Bool.not_true, Bool.not_false, Bool.not_eq_true', Bool.not_eq_false', decide_eq_true_eq, decide_eq_false_iff_not, reduceCtorEq, Bool.true_eq_false, Bool.false_eq_true, mk_size, List.size_toArray, ByteArray.size_append, ByteArray.size_extract, List.length_cons, List.length_nil, ba_get, ba_empty, Int.toNat_natCast] at hW)) | (refine And.intro (?_ : _ → _) (?_ : _ → _)) | (refine FinR.drop 0 (Nat.zero_le _) (Closed.zero _) rfl ?_) | (refine FinR.keep ?_) | (refine And.intro (det3_agg rfl) ?_) | (refine fL_mk ?_) | (refine And.intro (by (try simp only [mk_size, List.size_toArray, ByteArray.size_append, ByteArray.size_extract, List.length_cons, List.length_nil]); omega) ?_) | (refine And.intro (by (try simp only [mk_size, List.size_toArray, ByteArray.size_append, ByteArray.size_extract, List.length_cons, List.length_nil, wrap64_eq]); omega) ?_) | fail)
  skip
  all_goals first | (exfalso; simp_all; done) | exact h0
theorem d_MissWinsT (n m : Nat) (hn : n < 2 ^ 36) (hm : m < 2 ^ 36) (hz : m ≠ 0) (hs : smB n m = true) (V : Nat → Bool) (hV : ∀ n, n < 2 ^ 36 → V n = gW true ((nxL n m).map V)) (K : Cont) (h0 : K (.tup [Bo (V n), Bo true]) σ) : ACall Try.prog W0 12 [ShN n, ShN m] σ K :=
  ACall.lift rfl (fun _ => rfl) (fun W1 K _ hK => c_MissWinsT n m hn hm hz hs V hV K hK) h0
theorem c_MissWinsF (a b c d e f a' b' c' d' e' f' : Int) (h : Sm a b c d e f a' b' c' d' e' f' none) (K : Cont) (h0 : K (.tup [Bo false, Bo false]) []) : ACall Try.prog W0 12 [Sh a b c d e f, Sh a' b' c' d' e' f'] [] K := by
  refine by12 (Nat.le_of_ble_eq_true rfl) ?_
  repeat' ((conv => whnf); first | (refine Exists.intro ([] : List Nat) ?_) | (refine And.intro rfl ?_) | (refine And.intro (by decide +kernel) ?_) | (refine And.intro trivial ?_) | (refine d_gameOfF (h := h) (h0 := fun S g p hk => ?_) ..) | (refine Exists.intro _ (And.intro rfl (And.intro rfl (And.intro (Nat.le_of_ble_eq_true rfl) ?_)))) | (refine Exists.intro _ (And.intro rfl (And.intro rfl (And.intro rfl (And.intro (Nat.le_of_ble_eq_true rfl) ?_))))) | (refine And.intro (Exists.intro _ (And.intro rfl rfl)) ?_) | (exact fun hW => absurd hW (by decide +kernel)) | (intro hW; (try simp only [Bool.not_true, Bool.not_false, Bool.not_eq_true', Bool.not_eq_false', decide_eq_true_eq, decide_eq_false_iff_not, reduceCtorEq, Bool.true_eq_false, Bool.false_eq_true, mk_size, List.size_toArray, ByteArray.size_append, ByteArray.size_extract, List.length_cons, List.length_nil, ba_get, ba_empty, Int.toNat_natCast] at hW)) | (refine And.intro (?_ : _ → _) (?_ : _ → _)) | (refine FinR.drop 0 (Nat.zero_le _) (Closed.zero _) rfl ?_) | (refine FinR.keep ?_) | (refine And.intro (det3_agg rfl) ?_) | (refine fL_mk ?_) | (refine And.intro (by (try simp only [mk_size, List.size_toArray, ByteArray.size_append, ByteArray.size_extract, List.length_cons, List.length_nil]); omega) ?_) | (refine And.intro (by (try simp only [mk_size, List.size_toArray, ByteArray.size_append, ByteArray.size_extract, List.length_cons, List.length_nil, wrap64_eq]); omega) ?_) | fail)
  all_goals first | (exfalso; simp_all; done) | exact h0
theorem d_MissWinsF (a b c d e f a' b' c' d' e' f' : Int) (h : Sm a b c d e f a' b' c' d' e' f' none) (K : Cont) (h0 : K (.tup [Bo false, Bo false]) σ) : ACall Try.prog W0 12 [Sh a b c d e f, Sh a' b' c' d' e' f'] σ K :=
  ACall.lift rfl (fun _ => rfl) (fun W1 K _ hK => c_MissWinsF a b c d e f a' b' c' d' e' f' h K hK) h0
theorem c_law_MissWins (a : Int) (ha : IntKind.i64.has a) (b : Int) (hb : IntKind.i64.has b) (c : Int) (hc : IntKind.i64.has c) (d : Int) (hd : IntKind.i64.has d) (e : Int) (he : IntKind.i64.has e) (f : Int) (hf : IntKind.i64.has f) (a' : Int) (ha' : IntKind.i64.has a') (b' : Int) (hb' : IntKind.i64.has b') (c' : Int) (hc' : IntKind.i64.has c') (d' : Int) (hd' : IntKind.i64.has d') (e' : Int) (he' : IntKind.i64.has e') (f' : Int) (hf' : IntKind.i64.has f') (K : Cont) (h0 : K (Bo true) []) : ACall Try.prog W0 3 [Sh a b c d e f, Sh a' b' c' d' e' f'] [] K := by
  refine by3 (Nat.le_of_ble_eq_true rfl) ?_
  obtain ⟨o, ho⟩ := sm_all a b c d e f a' b' c' d' e' f'
  cases o with
  | none =>
    repeat' ((conv => whnf); first | (refine Exists.intro ([] : List Nat) ?_) | (refine And.intro rfl ?_) | (refine And.intro (by decide +kernel) ?_) | (refine And.intro trivial ?_) | (refine d_toSheet (h0 := ?_) ..) | (refine Exists.intro _ (And.intro (fun τ => callW_fn (d_toSheet (h0 := And.intro rfl rfl) ..)) ?_)) | (refine Exists.intro _ (And.intro (callW_fn (d_toSheet (h0 := And.intro rfl rfl) ..)) (And.intro trivial ?_))) | (refine Exists.intro _ (And.intro (callW_fn (d_toSheet (h0 := And.intro rfl rfl) ..)) ?_)) | (refine Exists.intro _ (And.intro (fun τ _ => callW_fn (d_toSheet (h0 := And.intro rfl rfl) ..)) ?_)) | (refine d_sMissWinsF (h := ho) (h0 := ?_) ..) | (refine Exists.intro _ (And.intro (fun τ => callW_fn (d_sMissWinsF (h := ho) (h0 := And.intro rfl rfl) ..)) ?_)) | (refine Exists.intro _ (And.intro (callW_fn (d_sMissWinsF (h := ho) (h0 := And.intro rfl rfl) ..)) (And.intro trivial ?_))) | (refine Exists.intro _ (And.intro (callW_fn (d_sMissWinsF (h := ho) (h0 := And.intro rfl rfl) ..)) ?_)) | (refine Exists.intro _ (And.intro (fun τ _ => callW_fn (d_sMissWinsF (h := ho) (h0 := And.intro rfl rfl) ..)) ?_)) | (refine d_MissWinsF (h := ho) (h0 := ?_) ..) | (refine Exists.intro _ (And.intro (fun τ => callW_fn (d_MissWinsF (h := ho) (h0 := And.intro rfl rfl) ..)) ?_)) | (refine Exists.intro _ (And.intro (callW_fn (d_MissWinsF (h := ho) (h0 := And.intro rfl rfl) ..)) (And.intro trivial ?_))) | (refine Exists.intro _ (And.intro (callW_fn (d_MissWinsF (h := ho) (h0 := And.intro rfl rfl) ..)) ?_)) | (refine Exists.intro _ (And.intro (fun τ _ => callW_fn (d_MissWinsF (h := ho) (h0 := And.intro rfl rfl) ..)) ?_)) | (refine Exists.intro _ (And.intro rfl (And.intro rfl (And.intro (Nat.le_of_ble_eq_true rfl) ?_)))) | (refine Exists.intro _ (And.intro rfl (And.intro rfl (And.intro rfl (And.intro (Nat.le_of_ble_eq_true rfl) ?_))))) | (refine And.intro (Exists.intro _ (And.intro rfl rfl)) ?_) | (exact fun hW => absurd hW (by decide +kernel)) | (intro hW; (try simp only [Bool.not_true, Bool.not_false, Bool.not_eq_true', Bool.not_eq_false', decide_eq_true_eq, decide_eq_false_iff_not, reduceCtorEq, Bool.true_eq_false, Bool.false_eq_true, mk_size, List.size_toArray, ByteArray.size_append, ByteArray.size_extract, List.length_cons, List.length_nil, ba_get, ba_empty, Int.toNat_natCast] at hW)) | (refine And.intro (?_ : _ → _) (?_ : _ → _)) | (refine FinR.drop 0 (Nat.zero_le _) (Closed.zero _) rfl ?_) | (refine FinR.keep ?_) | (refine And.intro (det3_agg rfl) ?_) | (refine fL_mk ?_) | (refine And.intro (by (try simp only [mk_size, List.size_toArray, ByteArray.size_append, ByteArray.size_extract, List.length_cons, List.length_nil]); omega) ?_) | (refine And.intro (by (try simp only [mk_size, List.size_toArray, ByteArray.size_append, ByteArray.size_extract, List.length_cons, List.length_nil, wrap64_eq]); omega) ?_) | fail)
    all_goals first | exact h0 | (exfalso; simp_all; done)
  | some p =>
    cases ho with
    | yes n m hn hm hz hs =>
      obtain ⟨V, hV⟩ := gmV_has (gW true) hm hz
      have q1 := fun (σ : List Blk) (K : Cont) (h : K (.tup [Bo (V n), Bo true]) σ) => d_sMissWinsT (W0 := W0) (σ := σ) n m hn hm hz hs V hV K h
      have q2 := fun (σ : List Blk) (K : Cont) (h : K (.tup [Bo (V n), Bo true]) σ) => d_MissWinsT (W0 := W0) (σ := σ) n m hn hm hz hs V hV K h
      generalize V n = w at q1 q2
      repeat' ((conv => whnf); first | (refine Exists.intro ([] : List Nat) ?_) | (refine And.intro rfl ?_) | (refine And.intro (by decide +kernel) ?_) | (refine And.intro trivial ?_) | (refine d_toSheet (h0 := ?_) ..) | (refine Exists.intro _ (And.intro (fun τ => callW_fn (d_toSheet (h0 := And.intro rfl rfl) ..)) ?_)) | (refine Exists.intro _ (And.intro (callW_fn (d_toSheet (h0 := And.intro rfl rfl) ..)) (And.intro trivial ?_))) | (refine Exists.intro _ (And.intro (callW_fn (d_toSheet (h0 := And.intro rfl rfl) ..)) ?_)) | (refine Exists.intro _ (And.intro (fun τ _ => callW_fn (d_toSheet (h0 := And.intro rfl rfl) ..)) ?_)) | (refine Exists.intro _ (And.intro (fun τ => callW_fn (q1 _ _ (And.intro rfl rfl))) ?_)) | (refine Exists.intro _ (And.intro (fun τ => callW_fn (q2 _ _ (And.intro rfl rfl))) ?_)) | (refine Exists.intro _ (And.intro rfl (And.intro rfl (And.intro (Nat.le_of_ble_eq_true rfl) ?_)))) | (refine Exists.intro _ (And.intro rfl (And.intro rfl (And.intro rfl (And.intro (Nat.le_of_ble_eq_true rfl) ?_))))) | (refine And.intro (Exists.intro _ (And.intro rfl rfl)) ?_) | (exact fun hW => absurd hW (by decide +kernel)) | (intro hW; (try simp only [Bool.not_true, Bool.not_false, Bool.not_eq_true', Bool.not_eq_false', decide_eq_true_eq, decide_eq_false_iff_not, reduceCtorEq, Bool.true_eq_false, Bool.false_eq_true, mk_size, List.size_toArray, ByteArray.size_append, ByteArray.size_extract, List.length_cons, List.length_nil, ba_get, ba_empty, Int.toNat_natCast] at hW)) | (refine And.intro (?_ : _ → _) (?_ : _ → _)) | (refine FinR.drop 0 (Nat.zero_le _) (Closed.zero _) rfl ?_) | (refine FinR.keep ?_) | (refine And.intro (det3_agg rfl) ?_) | (refine fL_mk ?_) | (refine And.intro (by (try simp only [mk_size, List.size_toArray, ByteArray.size_append, ByteArray.size_extract, List.length_cons, List.length_nil]); omega) ?_) | (refine And.intro (by (try simp only [mk_size, List.size_toArray, ByteArray.size_append, ByteArray.size_extract, List.length_cons, List.length_nil, wrap64_eq]); omega) ?_) | fail)
      skip
      all_goals first | exact h0 | (exfalso; simp_all; done)
end Go.Proofs.Ytcclhjohpicleaa
end
