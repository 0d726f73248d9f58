import Derived.Test.YtjekjbkllhompaaDoorZP3
section
/- Contracts: the law ParseSteps. -/
set_option linter.unusedVariables false
set_option linter.unusedSimpArgs false
set_option maxRecDepth 100000
set_option maxHeartbeats 4000000
namespace Go.Proofs.YtjekjbkllhompaaDoor
open Go Go.RowKit Go.Proofs.YtjekjbkllhompaaDoor.Abs
variable {W0 : World} {σ : List Blk}
theorem get_setU {α : Type} {l : List α} {i : Nat} {a b : α} (h : l[i]? = some a) : (l.set i b)[i]? = some b := by
  rw [List.getElem?_set_self (by rw [List.getElem?_eq_some_iff] at h; exact h.1)]
theorem stU_sh {τ : List Blk} {ys : List (List Int)} {b v : Nat} (h : τ[b]? = some (stU ys v)) : (σ ++ shB σ.length τ)[σ.length + b]? = some (stU ys v) := by
  rw [get_sh h]
  show some (⟨(jc ys).map (sh1 σ.length), _, _, _, _, _⟩ : Blk) = _
  rw [jc_sh]
theorem sli_rowsU {b ver n cap s m : Nat} {B : Blk} {k : Int} (hm : m = n * s) (hB : σ[b]? = some (mB B k m)) (hv : B.ver = ver) : Sli W0 σ s enI (.sl b ver 0 n cap) (rowsM k s n) :=
  .own b ver 0 _ cap _ _ hB hv (rowsM_len k s n).symm fun i x hi j v hj => by
    subst hm
    have hlt : i < n := by have := getElem?_lt hi; rwa [rowsM_len] at this
    rw [rowsM_get k s hlt] at hi
    cases hi
    rw [List.getElem?_map, Option.map_eq_some_iff] at hj
    obtain ⟨m, hm, rfl⟩ := hj
    have hl := getElem?_lt hm
    rw [marks_len] at hl
    rw [marks_get _ hl] at hm
    cases hm
    have hle : i * s + s ≤ n * s := by
      have : (i + 1) * s ≤ n * s := Nat.mul_le_mul_right s (by omega)
      rwa [Nat.add_mul, Nat.one_mul] at this
    show ((marks k (n * s)).map I ++ B.cells.drop (n * s))[0 + i * s + j]? = some _
    rw [List.getElem?_append_left (by rw [List.length_map, marks_len]; omega), List.getElem?_map, marks_get k (by omega)]
    show some (I (k + ((0 + i * s + j : Nat) : Int))) = _
    congr 2; push_cast; omega
theorem d_sParseT (s : ByteArray) (hs : s.size ≤ 1048576) (hv : okP s = true) (K : Cont) (h0 : ∀ b v c S, S[b]? = some (stU ((wdL s).map rdW) v) → σ.length ≤ b → (∀ (j : Nat) (B : Blk), σ[j]? = some B → S[j]? = some B) → K (.tup [.sl b v 0 (wdL s).length c, Bo true]) S) : ACall Tryd.prog W0 4 [Sy s] σ K := by
  refine ACall.frame (K0 := fun v σ' => ∃ b w c, σ'[b]? = some (stU ((wdL s).map rdW) w) ∧ v = .tup [.sl b w 0 (wdL s).length c, Bo true]) rfl (fun W1 _ => c_sParse s hs _ (fun _ b r c τ h => ⟨b, r, c, h, rfl⟩) (fun h => by rw [hv] at h; cases h)) ?_
  rintro v σ' ⟨b, w, c, h, rfl⟩
  exact h0 (σ.length + b) w c _ (stU_sh h) (Nat.le_add_right _ _) (fun j B hj => getx1 hj)
theorem d_sParseF (s : ByteArray) (hs : s.size ≤ 1048576) (hv : okP s = false) (K : Cont) (h0 : ∀ b S, S[b]? = some (stU [] 0) → (∀ (j : Nat) (B : Blk), σ[j]? = some B → S[j]? = some B) → K (.tup [.sl b 0 0 0 0, Bo false]) S) : ACall Tryd.prog W0 4 [Sy s] σ K := by
  refine ACall.frame (K0 := fun v σ' => ∃ b, σ'[b]? = some (stU [] 0) ∧ v = .tup [.sl b 0 0 0 0, Bo false]) rfl (fun W1 _ => c_sParse s hs _ (fun h => by rw [hv] at h; cases h) (fun _ b τ h => ⟨b, h, rfl⟩)) ?_
  rintro v σ' ⟨b, h, rfl⟩
  exact h0 (σ.length + b) _ (stU_sh h) (fun j B hj => getx1 hj)
theorem d_ParseT (s : ByteArray) (hs : s.size ≤ 1048576) (hm : MaxP W0) (hv : okP s = true) (K : Cont) (h0 : ∀ b v c S, S[b]? = some (stU ((wdL s).map rdW) v) → σ.length ≤ b → (∀ (j : Nat) (B : Blk), σ[j]? = some B → S[j]? = some B) → K (.tup [.sl b v 0 (wdL s).length c, Bo true]) S) : ACall Tryd.prog W0 5 [Sy s] σ K := by
  refine ACall.frame (K0 := fun v σ' => ∃ b w c, σ'[b]? = some (stU ((wdL s).map rdW) w) ∧ v = .tup [.sl b w 0 (wdL s).length c, Bo true]) rfl (fun W1 hb => c_Parse s hs (hm.mono hb) _ (fun _ b r c τ h => ⟨b, r, c, h, rfl⟩) (fun h => by rw [hv] at h; cases h)) ?_
  rintro v σ' ⟨b, w, c, h, rfl⟩
  exact h0 (σ.length + b) w c _ (stU_sh h) (Nat.le_add_right _ _) (fun j B hj => getx1 hj)
theorem d_ParseF (s : ByteArray) (hs : s.size ≤ 1048576) (hm : MaxP W0) (hv : okP s = false) (K : Cont) (h0 : ∀ S, (∀ (j : Nat) (B : Blk), σ[j]? = some B → S[j]? = some B) → K (.tup [.lit (.slice none 0 0), Bo false]) S) : ACall Tryd.prog W0 5 [Sy s] σ K := by
  refine ACall.frame (K0 := fun v σ' => v = .tup [.lit (.slice none 0 0), Bo false]) rfl (fun W1 hb => c_Parse s hs (hm.mono hb) _ (fun h => by rw [hv] at h; cases h) (fun _ τ => rfl)) ?_
  rintro v σ' rfl
  exact h0 _ (fun j B hj => getx1 hj)
theorem c_markStep0 (k : Int) (K : Cont) (h0 : K (I k) []) : ACall Tryd.prog W0 7 [.lit (.slice none 0 0), I k] [] K := by
  refine by7 (Nat.le_of_ble_eq_true rfl) ?_
  repeat' ((conv => whnf); first
    | (refine And.intro rfl ?_)
    | (refine And.intro (by decide +kernel) ?_)
    | (refine And.intro trivial ?_)
    | (refine LoopR.unroll 1 ?_)
    | (refine Exists.intro _ (And.intro rfl (And.intro rfl (And.intro (Nat.le_of_ble_eq_true rfl) ?_))))
    | (refine Exists.intro _ (And.intro rfl (And.intro rfl (And.intro rfl (And.intro (Nat.le_of_ble_eq_true rfl) ?_)))))
    | (refine And.intro (Exists.intro _ (And.intro rfl rfl)) ?_)
    | (exact fun hW => absurd hW (by decide +kernel))
    | (intro hW; (try simp only [Bool.not_true, Bool.not_false, Bool.not_eq_true', Bool.not_eq_false', decide_eq_true_eq, decide_eq_false_iff_not, reduceCtorEq, Bool.true_eq_false, Bool.false_eq_true, mk_size, List.size_toArray, ByteArray.size_append, ByteArray.size_extract, List.length_cons, List.length_nil, ba_get, ba_empty, Int.toNat_natCast] at hW))
    | (refine And.intro (?_ : _ → _) (?_ : _ → _))
    | (refine FinR.drop 0 (Nat.zero_le _) (Closed.zero _) rfl ?_)
    | (refine FinR.keep ?_)
    | (refine And.intro (det3_agg rfl) ?_)
    | (refine fL_mk ?_)
    | (refine And.intro (by (try simp only [mk_size, List.size_toArray, ByteArray.size_append, ByteArray.size_extract, List.length_cons, List.length_nil]); omega) ?_)
    | (refine And.intro (by (try simp only [mk_size, List.size_toArray, ByteArray.size_append, ByteArray.size_extract, List.length_cons, List.length_nil, wrap64_eq]); omega) ?_)
    | fail)
  all_goals first | exact h0 | (exfalso; omega)
theorem d_markStep0 (k : Int) (K : Cont) (h0 : K (I k) σ) : ACall Tryd.prog W0 7 [.lit (.slice none 0 0), I k] σ K :=
  ACall.lift rfl (fun _ => rfl) (fun W1 K _ hK => c_markStep0 k K hK) h0
theorem okP_len {s : ByteArray} (h : okP s = true) : (wdL s).length ≤ 40 := by
  unfold okP at h
  rw [Bool.and_eq_true, decide_eq_true_iff] at h
  exact h.1
theorem c_law_ParseSteps (s : ByteArray) (hs : s.size ≤ 9223372036854775807) (ht : MaxP W0) (K : Cont) (h0 : K (Bo true) []) : ACall Tryd.prog W0 3 [Sy s] [] K := by
  refine by3 (Nat.le_of_ble_eq_true rfl) ?_
  by_cases hz : 1048576 < s.size
  · skip
    repeat' ((conv => whnf); first
      | (refine And.intro rfl ?_)
      | (refine And.intro (by decide +kernel) ?_)
      | (refine And.intro trivial ?_)
      | (refine Exists.intro _ (And.intro rfl (And.intro rfl (And.intro (Nat.le_of_ble_eq_true rfl) ?_))))
      | (refine Exists.intro _ (And.intro rfl (And.intro rfl (And.intro rfl (And.intro (Nat.le_of_ble_eq_true rfl) ?_)))))
      | (refine And.intro (Exists.intro _ (And.intro rfl rfl)) ?_)
      | (exact fun hW => absurd hW (by decide +kernel))
      | (intro hW; (try simp only [Bool.not_true, Bool.not_false, Bool.not_eq_true', Bool.not_eq_false', decide_eq_true_eq, decide_eq_false_iff_not, reduceCtorEq, Bool.true_eq_false, Bool.false_eq_true, mk_size, List.size_toArray, ByteArray.size_append, ByteArray.size_extract, List.length_cons, List.length_nil, ba_get, ba_empty, Int.toNat_natCast] at hW))
      | (refine And.intro (?_ : _ → _) (?_ : _ → _))
      | (refine FinR.drop 0 (Nat.zero_le _) (Closed.zero _) rfl ?_)
      | (refine FinR.keep ?_)
      | (refine And.intro (det3_agg rfl) ?_)
      | (refine fL_mk ?_)
      | (refine And.intro (by (try simp only [mk_size, List.size_toArray, ByteArray.size_append, ByteArray.size_extract, List.length_cons, List.length_nil]); omega) ?_)
      | (refine And.intro (by (try simp only [mk_size, List.size_toArray, ByteArray.size_append, ByteArray.size_extract, List.length_cons, List.length_nil, wrap64_eq]); omega) ?_)
      | fail)
    all_goals first | exact h0 | (exfalso; omega)
  · have hs' : s.size ≤ 1048576 := by omega
    cases hv : okP s with
    | false =>
      repeat' ((conv => whnf); first
        | (refine And.intro rfl ?_)
        | (refine And.intro (by decide +kernel) ?_)
        | (refine And.intro trivial ?_)
        | (refine fS_mk ?_)
        | (refine d_sParseF (hs := hs') (hv := hv) (h0 := fun w S e1 hk => ?_) ..)
        | (refine d_ParseF (hs := hs') (hm := ht) (hv := hv) (h0 := fun S2 hk2 => ?_) ..; have e1 := hk2 _ _ e1)
        | (refine d_eqStepS (xs := []) (ha := .nil) (hb' := sli_rows (xs := []) (fun _ h => by cases h) e1) (hx := fun _ h => by cases h) (hl := by decide) (h0 := ?_) ..)
        | (refine d_markStep0 (h0 := ?_) ..)
        | (refine d_heldStepS (n := 0) (k := 1) (ha := .nil) (hn2 := by decide) (hk := by decide) (h0 := ?_) ..)
        | (refine Exists.intro _ (And.intro rfl (And.intro rfl (And.intro (Nat.le_of_ble_eq_true rfl) ?_))))
        | (refine Exists.intro _ (And.intro rfl (And.intro rfl (And.intro rfl (And.intro (Nat.le_of_ble_eq_true rfl) ?_)))))
        | (refine And.intro (Exists.intro _ (And.intro rfl rfl)) ?_)
        | (exact fun hW => absurd hW (by decide +kernel))
        | (intro hW; (try simp only [Bool.not_true, Bool.not_false, Bool.not_eq_true', Bool.not_eq_false', decide_eq_true_eq, decide_eq_false_iff_not, reduceCtorEq, Bool.true_eq_false, Bool.false_eq_true, mk_size, List.size_toArray, ByteArray.size_append, ByteArray.size_extract, List.length_cons, List.length_nil, ba_get, ba_empty, Int.toNat_natCast] at hW))
        | (refine And.intro (?_ : _ → _) (?_ : _ → _))
        | (refine FinR.drop 0 (Nat.zero_le _) (Closed.zero _) rfl ?_)
        | (refine FinR.keep ?_)
        | (refine And.intro (det3_agg rfl) ?_)
        | (refine fL_mk ?_)
        | (refine And.intro (by (try simp only [mk_size, List.size_toArray, ByteArray.size_append, ByteArray.size_extract, List.length_cons, List.length_nil]); omega) ?_)
        | (refine And.intro (by (try simp only [mk_size, List.size_toArray, ByteArray.size_append, ByteArray.size_extract, List.length_cons, List.length_nil, wrap64_eq]); omega) ?_)
        | fail)
      all_goals first | exact h0 | (exfalso; omega) | (exfalso; simp_all; done) | skip
    | true =>
      obtain ⟨ys, hys⟩ : ∃ ys, ys = (wdL s).map rdW := ⟨_, rfl⟩
      have hyl : (wdL s).length = ys.length := by rw [hys, List.length_map]
      have hyx : ∀ x ∈ ys, x.length = 4 := by rw [hys]; exact rd_len
      have hy40 : ys.length ≤ 40 := by rw [← hyl]; exact okP_len hv
      repeat' ((conv => whnf); first
        | (refine And.intro rfl ?_)
        | (refine And.intro (by decide +kernel) ?_)
        | (refine And.intro trivial ?_)
        | (refine fS_mk ?_)
        | (have hz9 := m2; refine d_ParseT (hs := hs') (hm := ht) (hv := hv) (h0 := fun h v3 c3 S3 e3 l3 hk => ?_) ..; rw [← hys] at e3; rw [hyl]; have e1 := hk _ _ e1; have m2 := hk _ _ m2)
        | (have hz9 := e1; refine d_ParseT (hs := hs') (hm := ht) (hv := hv) (h0 := fun g v2 c2 S2 e2 l2 hk => ?_) ..; rw [← hys] at e2; rw [hyl]; have q1 := getElem?_lt e1; have e1 := hk _ _ e1)
        | (refine d_sParseT (hs := hs') (hv := hv) (h0 := fun w v1 c1 S1 e1 l1 hk => ?_) ..; rw [← hys] at e1; rw [hyl])
        | (have hz9 := e3; refine d_eqStepS (xs := ys) (ha := sli_rows hyx e3) (hb' := sli_rows hyx e1) (hx := hyx) (hl := by omega) (h0 := ?_) ..)
        | (refine d_eqStepS (xs := ys) (ha := sli_rows hyx e2) (hb' := sli_rows hyx e1) (hx := hyx) (hl := by omega) (h0 := ?_) ..)
        | (refine d_markStepS (B := stU ys _) (n := ys.length) (k := 1) (hB := e2) (hv := rfl) (hn := by rw [jc_len (s := 4) hyx]; exact Nat.le_refl _) (hn2 := by omega) (hk := by decide) (h0 := ?_) ..; have m2 := get_setU (b := mB (stU ys v2) 1 (ys.length * 4)) e2; have e1 := get_ne (X := mB (stU ys v2) 1 (ys.length * 4)) e1 (show g ≠ w by omega))
        | (refine d_heldStepS (n := ys.length) (k := 1) (ha := sli_rowsU (B := stU ys _) rfl m2 rfl) (hn2 := by omega) (hk := by decide) (h0 := ?_) ..)
        | (refine Exists.intro _ (And.intro rfl (And.intro rfl (And.intro (Nat.le_of_ble_eq_true rfl) ?_))))
        | (refine Exists.intro _ (And.intro rfl (And.intro rfl (And.intro rfl (And.intro (Nat.le_of_ble_eq_true rfl) ?_)))))
        | (refine And.intro (Exists.intro _ (And.intro rfl rfl)) ?_)
        | (exact fun hW => absurd hW (by decide +kernel))
        | (intro hW; (try simp only [Bool.not_true, Bool.not_false, Bool.not_eq_true', Bool.not_eq_false', decide_eq_true_eq, decide_eq_false_iff_not, reduceCtorEq, Bool.true_eq_false, Bool.false_eq_true, mk_size, List.size_toArray, ByteArray.size_append, ByteArray.size_extract, List.length_cons, List.length_nil, ba_get, ba_empty, Int.toNat_natCast] at hW))
        | (refine And.intro (?_ : _ → _) (?_ : _ → _))
        | (refine FinR.drop 0 (Nat.zero_le _) (Closed.zero _) rfl ?_)
        | (refine FinR.keep ?_)
        | (refine And.intro (det3_agg rfl) ?_)
        | (refine fL_mk ?_)
        | (refine And.intro (by (try simp only [mk_size, List.size_toArray, ByteArray.size_append, ByteArray.size_extract, List.length_cons, List.length_nil]); omega) ?_)
        | (refine And.intro (by (try simp only [mk_size, List.size_toArray, ByteArray.size_append, ByteArray.size_extract, List.length_cons, List.length_nil, wrap64_eq]); omega) ?_)
        | fail)
      all_goals first | exact h0 | (exfalso; omega) | (exfalso; simp_all; done) | skip
end Go.Proofs.YtjekjbkllhompaaDoor
end
