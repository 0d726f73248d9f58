/- Contracts: the law LogRecords. -/
import Derived.Test.YtlmplfgnhibfcaaDoorL1
set_option linter.unusedVariables false
set_option linter.unusedSimpArgs false
set_option maxRecDepth 100000
set_option maxHeartbeats 4000000
namespace Go.Proofs.YtlmplfgnhibfcaaDoor
open Go Go.RowKit Go.Proofs.YtlmplfgnhibfcaaDoor.Abs
variable {W0 : World} {σ : List Blk}
theorem getx1L {σ τ : List Blk} {b : Nat} {B : Blk} (h : σ[b]? = some B) : (σ ++ τ)[b]? = some B := by
  rw [List.getElem?_append_left (getElem?_lt h)]; exact h
theorem get_neL {σ : List Blk} {b i : Nat} {B X : Blk} (h : σ[b]? = some B) (hne : i ≠ b) : (σ.set i X)[b]? = some B := by rw [List.getElem?_set_ne hne]; exact h
abbrev reB (es : List Rec) (v : Nat) : Blk := ⟨rcells es, v, 44, 2, true, true⟩
theorem reB_sh {τ : List Blk} {es : List Rec} {b v : Nat} (h : τ[b]? = some (reB es v)) : (σ ++ shB σ.length τ)[σ.length + b]? = some (reB es v) := by
  rw [get_sh h]
  show some (⟨(rcells es).map (sh1 σ.length), _, _, _, _, _⟩ : Blk) = _
  rw [rcells_sh]
theorem c_sRecsT (d p : ByteArray) (cnt : Int) (hd : d.size ≤ 1048576) (hp : p.size ≤ 1048576) (hv : vB d p cnt = true) (K : Cont) (h0 : ∀ es n b v c τ, Reads (tl (d ++ p)) es n → τ[b]? = some (reB es v) → K (.tup [.sl b v 0 es.length c, Bo true]) τ) : ACall Tryd.prog W0 6 [Lg d p cnt] [] K := by
  refine by6 (Nat.le_of_ble_eq_true rfl) ?_
  have es : (d ++ p).size = d.size + p.size := ByteArray.size_append
  have hl : d.size + p.size ≤ 30000 := (vB_iff.1 hv).1
  repeat' ((conv => whnf); first
    | (refine And.intro rfl ?_)
    | (refine And.intro (by decide +kernel) ?_)
    | (refine And.intro trivial ?_)
    | (refine d_l12Valid (hd := hd) (hp := hp) (h0 := ?_) ..; rw [hv])
    | (refine d_l12Open (s := d ++ p) (hs := by omega) (h0 := fun es n ver cap hr => ?_) ..)
    | (refine Exists.intro _ (And.intro rfl (And.intro rfl (And.intro (Nat.le_of_ble_eq_true rfl) ?_))))
    | (refine Exists.intro _ (And.intro rfl (And.intro rfl (And.intro rfl (And.intro (Nat.le_of_ble_eq_true rfl) ?_)))))
    | (refine And.intro (Exists.intro _ (And.intro rfl rfl)) ?_)
    | (exact fun hW => absurd hW (by decide +kernel))
    | (intro hW; (try simp only [Bool.not_true, Bool.not_false, Bool.not_eq_true', Bool.not_eq_false', decide_eq_true_eq, decide_eq_false_iff_not, reduceCtorEq, Bool.true_eq_false, Bool.false_eq_true, mk_size, List.size_toArray, ByteArray.size_append, ByteArray.size_extract, List.length_cons, List.length_nil, ba_get, ba_empty, Int.toNat_natCast] at hW))
    | (refine And.intro (?_ : _ → _) (?_ : _ → _))
    | (refine FinR.drop 0 (Nat.zero_le _) (Closed.zero _) rfl ?_)
    | (refine FinR.keep ?_)
    | (refine And.intro (det3_agg rfl) ?_)
    | (refine fL_mk ?_)
    | (refine And.intro (by (try simp only [mk_size, List.size_toArray, ByteArray.size_append, ByteArray.size_extract, List.length_cons, List.length_nil]); omega) ?_)
    | (refine And.intro (by (try simp only [mk_size, List.size_toArray, ByteArray.size_append, ByteArray.size_extract, List.length_cons, List.length_nil, wrap64_eq]); omega) ?_)
    | fail)
  all_goals first | (exfalso; omega) | (exfalso; simp_all; done) | exact h0 _ _ _ _ _ _ hr rfl | skip
theorem c_RecsT (d p : ByteArray) (cnt : Int) (hd : d.size ≤ 1048576) (hp : p.size ≤ 1048576) (ht : TabP W0) (hv : vB d p cnt = true) (K : Cont) (h0 : ∀ es n b v c τ, Reads (tl (d ++ p)) es n → τ[b]? = some (reB es v) → K (.tup [.sl b v 0 es.length c, Bo true]) τ) : ACall Tryd.prog W0 8 [Lg d p cnt] [] K := by
  refine by8 (Nat.le_of_ble_eq_true rfl) ?_
  have es : (d ++ p).size = d.size + p.size := ByteArray.size_append
  have hl : d.size + p.size ≤ 30000 := (vB_iff.1 hv).1
  repeat' ((conv => whnf); first
    | (refine And.intro rfl ?_)
    | (refine And.intro (by decide +kernel) ?_)
    | (refine And.intro trivial ?_)
    | (refine d_IsValidLog (hd := hd) (hp := hp) (ht := ht) (h0 := ?_) ..; rw [hv])
    | (refine d_recordsOf (s := d ++ p) (hs := by omega) (ht := ht) (h0 := fun es n v1 c1 v2 c2 hr => ?_) ..)
    | (refine Exists.intro _ (And.intro rfl (And.intro rfl (And.intro (Nat.le_of_ble_eq_true rfl) ?_))))
    | (refine Exists.intro _ (And.intro rfl (And.intro rfl (And.intro rfl (And.intro (Nat.le_of_ble_eq_true rfl) ?_)))))
    | (refine And.intro (Exists.intro _ (And.intro rfl rfl)) ?_)
    | (exact fun hW => absurd hW (by decide +kernel))
    | (intro hW; (try simp only [Bool.not_true, Bool.not_false, Bool.not_eq_true', Bool.not_eq_false', decide_eq_true_eq, decide_eq_false_iff_not, reduceCtorEq, Bool.true_eq_false, Bool.false_eq_true, mk_size, List.size_toArray, ByteArray.size_append, ByteArray.size_extract, List.length_cons, List.length_nil, ba_get, ba_empty, Int.toNat_natCast] at hW))
    | (refine And.intro (?_ : _ → _) (?_ : _ → _))
    | (refine FinR.drop 0 (Nat.zero_le _) (Closed.zero _) rfl ?_)
    | (refine FinR.keep ?_)
    | (refine And.intro (det3_agg rfl) ?_)
    | (refine fL_mk ?_)
    | (refine And.intro (by (try simp only [mk_size, List.size_toArray, ByteArray.size_append, ByteArray.size_extract, List.length_cons, List.length_nil]); omega) ?_)
    | (refine And.intro (by (try simp only [mk_size, List.size_toArray, ByteArray.size_append, ByteArray.size_extract, List.length_cons, List.length_nil, wrap64_eq]); omega) ?_)
    | fail)
  all_goals first | (exfalso; omega) | (exfalso; simp_all; done) | exact h0 _ _ _ _ _ _ hr rfl | skip
theorem c_sRecsF (d p : ByteArray) (cnt : Int) (hd : d.size ≤ 1048576) (hp : p.size ≤ 1048576) (hv : vB d p cnt = false) (K : Cont) (h0 : ∀ b τ, τ[b]? = some (reB [] 0) → K (.tup [.sl b 0 0 0 0, Bo false]) τ) : ACall Tryd.prog W0 6 [Lg d p cnt] [] K := by
  refine by6 (Nat.le_of_ble_eq_true rfl) ?_
  repeat' ((conv => whnf); first
    | (refine And.intro rfl ?_)
    | (refine And.intro (by decide +kernel) ?_)
    | (refine And.intro trivial ?_)
    | (refine d_l12Valid (hd := hd) (hp := hp) (h0 := ?_) ..; rw [hv])
    | (refine Exists.intro _ (And.intro rfl (And.intro rfl (And.intro (Nat.le_of_ble_eq_true rfl) ?_))))
    | (refine Exists.intro _ (And.intro rfl (And.intro rfl (And.intro rfl (And.intro (Nat.le_of_ble_eq_true rfl) ?_)))))
    | (refine And.intro (Exists.intro _ (And.intro rfl rfl)) ?_)
    | (exact fun hW => absurd hW (by decide +kernel))
    | (intro hW; (try simp only [Bool.not_true, Bool.not_false, Bool.not_eq_true', Bool.not_eq_false', decide_eq_true_eq, decide_eq_false_iff_not, reduceCtorEq, Bool.true_eq_false, Bool.false_eq_true, mk_size, List.size_toArray, ByteArray.size_append, ByteArray.size_extract, List.length_cons, List.length_nil, ba_get, ba_empty, Int.toNat_natCast] at hW))
    | (refine And.intro (?_ : _ → _) (?_ : _ → _))
    | (refine FinR.drop 0 (Nat.zero_le _) (Closed.zero _) rfl ?_)
    | (refine FinR.keep ?_)
    | (refine And.intro (det3_agg rfl) ?_)
    | (refine fL_mk ?_)
    | (refine And.intro (by (try simp only [mk_size, List.size_toArray, ByteArray.size_append, ByteArray.size_extract, List.length_cons, List.length_nil]); omega) ?_)
    | (refine And.intro (by (try simp only [mk_size, List.size_toArray, ByteArray.size_append, ByteArray.size_extract, List.length_cons, List.length_nil, wrap64_eq]); omega) ?_)
    | fail)
  all_goals first | (exfalso; omega) | (exfalso; simp_all; done) | exact h0 _ _ rfl | skip
theorem c_RecsF (d p : ByteArray) (cnt : Int) (hd : d.size ≤ 1048576) (hp : p.size ≤ 1048576) (ht : TabP W0) (hv : vB d p cnt = false) (K : Cont) (h0 : K (.tup [.lit (.slice none 0 0), Bo false]) []) : ACall Tryd.prog W0 8 [Lg d p cnt] [] K := by
  refine by8 (Nat.le_of_ble_eq_true rfl) ?_
  repeat' ((conv => whnf); first
    | (refine And.intro rfl ?_)
    | (refine And.intro (by decide +kernel) ?_)
    | (refine And.intro trivial ?_)
    | (refine d_IsValidLog (hd := hd) (hp := hp) (ht := ht) (h0 := ?_) ..; rw [hv])
    | (refine Exists.intro _ (And.intro rfl (And.intro rfl (And.intro (Nat.le_of_ble_eq_true rfl) ?_))))
    | (refine Exists.intro _ (And.intro rfl (And.intro rfl (And.intro rfl (And.intro (Nat.le_of_ble_eq_true rfl) ?_)))))
    | (refine And.intro (Exists.intro _ (And.intro rfl rfl)) ?_)
    | (exact fun hW => absurd hW (by decide +kernel))
    | (intro hW; (try simp only [Bool.not_true, Bool.not_false, Bool.not_eq_true', Bool.not_eq_false', decide_eq_true_eq, decide_eq_false_iff_not, reduceCtorEq, Bool.true_eq_false, Bool.false_eq_true, mk_size, List.size_toArray, ByteArray.size_append, ByteArray.size_extract, List.length_cons, List.length_nil, ba_get, ba_empty, Int.toNat_natCast] at hW))
    | (refine And.intro (?_ : _ → _) (?_ : _ → _))
    | (refine FinR.drop 0 (Nat.zero_le _) (Closed.zero _) rfl ?_)
    | (refine FinR.keep ?_)
    | (refine And.intro (det3_agg rfl) ?_)
    | (refine fL_mk ?_)
    | (refine And.intro (by (try simp only [mk_size, List.size_toArray, ByteArray.size_append, ByteArray.size_extract, List.length_cons, List.length_nil]); omega) ?_)
    | (refine And.intro (by (try simp only [mk_size, List.size_toArray, ByteArray.size_append, ByteArray.size_extract, List.length_cons, List.length_nil, wrap64_eq]); omega) ?_)
    | fail)
  all_goals first | (exfalso; omega) | (exfalso; simp_all; done) | exact h0 | skip
theorem d_RecsF (d p : ByteArray) (cnt : Int) (hd : d.size ≤ 1048576) (hp : p.size ≤ 1048576) (ht : TabP W0) (hv : vB d p cnt = false) (K : Cont) (h0 : K (.tup [.lit (.slice none 0 0), Bo false]) σ) : ACall Tryd.prog W0 8 [Lg d p cnt] σ K :=
  ACall.lift rfl (fun _ => rfl) (fun W1 K hb hK => c_RecsF d p cnt hd hp (ht.mono hb) hv K hK) h0
theorem d_sRecsT (d p : ByteArray) (cnt : Int) (hd : d.size ≤ 1048576) (hp : p.size ≤ 1048576) (hv : vB d p cnt = true) (K : Cont) (h0 : ∀ es n b v c S, Reads (tl (d ++ p)) es n → S[b]? = some (reB es v) → σ.length ≤ b → (∀ (j : Nat) (B : Blk), σ[j]? = some B → S[j]? = some B) → K (.tup [.sl b v 0 es.length c, Bo true]) S) : ACall Tryd.prog W0 6 [Lg d p cnt] σ K := by
  refine ACall.frame (K0 := fun v σ' => ∃ es n b w c, Reads (tl (d ++ p)) es n ∧ σ'[b]? = some (reB es w) ∧ v = .tup [.sl b w 0 es.length c, Bo true]) rfl (fun W1 _ => c_sRecsT d p cnt hd hp hv _ fun es n b v c τ hr h => ⟨es, n, b, v, c, hr, h, rfl⟩) ?_
  rintro v σ' ⟨es, n, b, w, c, hr, h, rfl⟩
  exact h0 es n (σ.length + b) w c _ hr (reB_sh h) (Nat.le_add_right _ _) (fun j B hj => getx1L hj)
theorem d_RecsT (d p : ByteArray) (cnt : Int) (hd : d.size ≤ 1048576) (hp : p.size ≤ 1048576) (ht : TabP W0) (hv : vB d p cnt = true) (K : Cont) (h0 : ∀ es n b v c S, Reads (tl (d ++ p)) es n → S[b]? = some (reB es v) → σ.length ≤ b → (∀ (j : Nat) (B : Blk), σ[j]? = some B → S[j]? = some B) → K (.tup [.sl b v 0 es.length c, Bo true]) S) : ACall Tryd.prog W0 8 [Lg d p cnt] σ K := by
  refine ACall.frame (K0 := fun v σ' => ∃ es n b w c, Reads (tl (d ++ p)) es n ∧ σ'[b]? = some (reB es w) ∧ v = .tup [.sl b w 0 es.length c, Bo true]) rfl (fun W1 hb => c_RecsT d p cnt hd hp (ht.mono hb) hv _ fun es n b v c τ hr h => ⟨es, n, b, v, c, hr, h, rfl⟩) ?_
  rintro v σ' ⟨es, n, b, w, c, hr, h, rfl⟩
  exact h0 es n (σ.length + b) w c _ hr (reB_sh h) (Nat.le_add_right _ _) (fun j B hj => getx1L hj)
theorem d_sRecsF (d p : ByteArray) (cnt : Int) (hd : d.size ≤ 1048576) (hp : p.size ≤ 1048576) (hv : vB d p cnt = false) (K : Cont) (h0 : ∀ b S, S[b]? = some (reB [] 0) → (∀ (j : Nat) (B : Blk), σ[j]? = some B → S[j]? = some B) → K (.tup [.sl b 0 0 0 0, Bo false]) S) : ACall Tryd.prog W0 6 [Lg d p cnt] σ K := by
  refine ACall.frame (K0 := fun v σ' => ∃ b, σ'[b]? = some (reB [] 0) ∧ v = .tup [.sl b 0 0 0 0, Bo false]) rfl (fun W1 _ => c_sRecsF d p cnt hd hp hv _ fun b τ h => ⟨b, h, rfl⟩) ?_
  rintro v σ' ⟨b, h, rfl⟩
  exact h0 (σ.length + b) _ (reB_sh h) (fun j B hj => getx1L hj)
theorem c_markRec0 (k : Int) (K : Cont) (h0 : K (I k) []) : ACall Tryd.prog W0 10 [.lit (.slice none 0 0), I k] [] K := by
  refine by10 (Nat.le_of_ble_eq_true rfl) ?_
  repeat' ((conv => whnf); first
    | (refine And.intro rfl ?_)
    | (refine And.intro (by decide +kernel) ?_)
    | (refine And.intro trivial ?_)
    | (refine LoopR.unroll 1 ?_)
    | (refine Exists.intro _ (And.intro rfl (And.intro rfl (And.intro (Nat.le_of_ble_eq_true rfl) ?_))))
    | (refine Exists.intro _ (And.intro rfl (And.intro rfl (And.intro rfl (And.intro (Nat.le_of_ble_eq_true rfl) ?_)))))
    | (refine And.intro (Exists.intro _ (And.intro rfl rfl)) ?_)
    | (exact fun hW => absurd hW (by decide +kernel))
    | (intro hW; (try simp only [Bool.not_true, Bool.not_false, Bool.not_eq_true', Bool.not_eq_false', decide_eq_true_eq, decide_eq_false_iff_not, reduceCtorEq, Bool.true_eq_false, Bool.false_eq_true, mk_size, List.size_toArray, ByteArray.size_append, ByteArray.size_extract, List.length_cons, List.length_nil, ba_get, ba_empty, Int.toNat_natCast] at hW))
    | (refine And.intro (?_ : _ → _) (?_ : _ → _))
    | (refine FinR.drop 0 (Nat.zero_le _) (Closed.zero _) rfl ?_)
    | (refine FinR.keep ?_)
    | (refine And.intro (det3_agg rfl) ?_)
    | (refine fL_mk ?_)
    | (refine And.intro (by (try simp only [mk_size, List.size_toArray, ByteArray.size_append, ByteArray.size_extract, List.length_cons, List.length_nil]); omega) ?_)
    | (refine And.intro (by (try simp only [mk_size, List.size_toArray, ByteArray.size_append, ByteArray.size_extract, List.length_cons, List.length_nil, wrap64_eq]); omega) ?_)
    | fail)
  all_goals first | exact h0 | (exfalso; omega)
theorem d_markRec0 (k : Int) (K : Cont) (h0 : K (I k) σ) : ACall Tryd.prog W0 10 [.lit (.slice none 0 0), I k] σ K :=
  ACall.lift rfl (fun _ => rfl) (fun W1 K _ hK => c_markRec0 k K hK) h0
theorem c_law_LogRecords (d : ByteArray) (hd : d.size ≤ 9223372036854775807) (p : ByteArray) (hp : p.size ≤ 9223372036854775807) (n : Int) (hn : IntKind.i64.has n) (ht : TabP W0) (K : Cont) (h0 : K (Bo true) []) : ACall Tryd.prog W0 3 [Lg d p n] [] K := by
  refine by3 (Nat.le_of_ble_eq_true rfl) ?_
  by_cases hz : szI 1048576 [d.size, p.size] < 0
  · skip
    repeat' ((conv => whnf); first
      | (refine And.intro rfl ?_)
      | (refine And.intro (by decide +kernel) ?_)
      | (refine And.intro trivial ?_)
      | (refine d_szLog (hc := hd) (hr := hp) (hm := by decide) (hm' := by decide) (h0 := ?_) ..)
      | (refine Exists.intro _ (And.intro rfl (And.intro rfl (And.intro (Nat.le_of_ble_eq_true rfl) ?_))))
      | (refine Exists.intro _ (And.intro rfl (And.intro rfl (And.intro rfl (And.intro (Nat.le_of_ble_eq_true rfl) ?_)))))
      | (refine And.intro (Exists.intro _ (And.intro rfl rfl)) ?_)
      | (exact fun hW => absurd hW (by decide +kernel))
      | (intro hW; (try simp only [Bool.not_true, Bool.not_false, Bool.not_eq_true', Bool.not_eq_false', decide_eq_true_eq, decide_eq_false_iff_not, reduceCtorEq, Bool.true_eq_false, Bool.false_eq_true, mk_size, List.size_toArray, ByteArray.size_append, ByteArray.size_extract, List.length_cons, List.length_nil, ba_get, ba_empty, Int.toNat_natCast] at hW))
      | (refine And.intro (?_ : _ → _) (?_ : _ → _))
      | (refine FinR.drop 0 (Nat.zero_le _) (Closed.zero _) rfl ?_)
      | (refine FinR.keep ?_)
      | (refine And.intro (det3_agg rfl) ?_)
      | (refine fL_mk ?_)
      | (refine And.intro (by (try simp only [mk_size, List.size_toArray, ByteArray.size_append, ByteArray.size_extract, List.length_cons, List.length_nil]); omega) ?_)
      | (refine And.intro (by (try simp only [mk_size, List.size_toArray, ByteArray.size_append, ByteArray.size_extract, List.length_cons, List.length_nil, wrap64_eq]); omega) ?_)
      | fail)
    all_goals first | exact h0 | (exfalso; omega)
  · have hb := szI_neg (by decide) (Int.not_lt.1 hz)
    have hd' : d.size ≤ 1048576 := by have := hb d.size (by simp); omega
    have hp' : p.size ≤ 1048576 := by have := hb p.size (by simp); omega
    cases hv : vB d p n with
    | false =>
      repeat' ((conv => whnf); first
        | (refine And.intro rfl ?_)
        | (refine And.intro (by decide +kernel) ?_)
        | (refine And.intro trivial ?_)
        | (refine fS_mkL ?_)
        | (refine d_szLog (hc := hd) (hr := hp) (hm := by decide) (hm' := by decide) (h0 := ?_) ..)
        | (refine d_toLog (h0 := ?_) ..)
        | (refine Exists.intro _ (And.intro (fun τ => callW_fn (d_toLog (h0 := And.intro rfl rfl) ..)) ?_))
        | (refine Exists.intro _ (And.intro (callW_fn (d_toLog (h0 := And.intro rfl rfl) ..)) (And.intro trivial ?_)))
        | (refine Exists.intro _ (And.intro (callW_fn (d_toLog (h0 := And.intro rfl rfl) ..)) ?_))
        | (refine Exists.intro _ (And.intro (fun τ _ => callW_fn (d_toLog (h0 := And.intro rfl rfl) ..)) ?_))
        | (refine d_sRecsF (hd := hd') (hp := hp') (hv := hv) (h0 := fun w S e1 hk => ?_) ..; have z1 := hk 0 _ rfl)
        | (refine d_RecsF (hd := hd') (hp := hp') (ht := ht) (hv := hv) (h0 := ?_) ..)
        | (refine d_eqRecS (es := []) (ha := .nil) (hb' := sli_recs (es := []) e1) (hl := by decide) (h0 := ?_) ..)
        | (refine d_markRec0 (h0 := ?_) ..)
        | (refine d_heldRecS (n := 0) (k := 1) (ha := .nil) (hn2 := by decide) (hk := by decide) (h0 := ?_) ..)
        | (refine Exists.intro _ (And.intro z1 (And.intro rfl (And.intro (Nat.le_of_ble_eq_true rfl) ?_))))
        | (refine Exists.intro _ (And.intro rfl (And.intro rfl (And.intro (Nat.le_of_ble_eq_true rfl) ?_))))
        | (refine Exists.intro _ (And.intro rfl (And.intro rfl (And.intro rfl (And.intro (Nat.le_of_ble_eq_true rfl) ?_)))))
        | (refine And.intro (Exists.intro _ (And.intro rfl rfl)) ?_)
        | (exact fun hW => absurd hW (by decide +kernel))
        | (intro hW; (try simp only [Bool.not_true, Bool.not_false, Bool.not_eq_true', Bool.not_eq_false', decide_eq_true_eq, decide_eq_false_iff_not, reduceCtorEq, Bool.true_eq_false, Bool.false_eq_true, mk_size, List.size_toArray, ByteArray.size_append, ByteArray.size_extract, List.length_cons, List.length_nil, ba_get, ba_empty, Int.toNat_natCast] at hW))
        | (refine And.intro (?_ : _ → _) (?_ : _ → _))
        | (refine FinR.drop 0 (Nat.zero_le _) (Closed.zero _) rfl ?_)
        | (refine FinR.keep ?_)
        | (refine And.intro (det3_agg rfl) ?_)
        | (refine fL_mk ?_)
        | (refine And.intro (by (try simp only [mk_size, List.size_toArray, ByteArray.size_append, ByteArray.size_extract, List.length_cons, List.length_nil]); omega) ?_)
        | (refine And.intro (by (try simp only [mk_size, List.size_toArray, ByteArray.size_append, ByteArray.size_extract, List.length_cons, List.length_nil, wrap64_eq]); omega) ?_)
        | fail)
      all_goals first | exact h0 | (exfalso; omega) | (exfalso; simp_all; done) | skip
    | true =>
      repeat' ((conv => whnf); first
        | (refine And.intro rfl ?_)
        | (refine And.intro (by decide +kernel) ?_)
        | (refine And.intro trivial ?_)
        | (refine fS_mkL ?_)
        | (refine d_szLog (hc := hd) (hr := hp) (hm := by decide) (hm' := by decide) (h0 := ?_) ..)
        | (refine d_toLog (h0 := ?_) ..)
        | (refine Exists.intro _ (And.intro (fun τ => callW_fn (d_toLog (h0 := And.intro rfl rfl) ..)) ?_))
        | (refine Exists.intro _ (And.intro (callW_fn (d_toLog (h0 := And.intro rfl rfl) ..)) (And.intro trivial ?_)))
        | (refine Exists.intro _ (And.intro (callW_fn (d_toLog (h0 := And.intro rfl rfl) ..)) ?_))
        | (refine Exists.intro _ (And.intro (fun τ _ => callW_fn (d_toLog (h0 := And.intro rfl rfl) ..)) ?_))
        | (have hz9 := e2; refine d_RecsT (hd := hd') (hp := hp') (ht := ht) (hv := hv) (h0 := fun es3 n3 h v3 c3 S3 hr3 e3 l3 hk => ?_) ..; obtain ⟨rfl, _⟩ := hr.uniq hr3; have e1 := hk _ _ (get_neL e1 (by omega)); have m2 := hk _ _ (get_setL e2))
        | (have hz9 := e1; refine d_RecsT (hd := hd') (hp := hp') (ht := ht) (hv := hv) (h0 := fun es2 n2 g v2 c2 S2 hr2 e2 l2 hk => ?_) ..; obtain ⟨rfl, _⟩ := hr.uniq hr2; have q1 := getElem?_lt e1; have q0 := getElem?_lt z1; have z1 := hk _ _ z1; have e1 := hk _ _ e1)
        | (refine d_sRecsT (hd := hd') (hp := hp') (hv := hv) (h0 := fun es n1 w v1 c1 S1 hr e1 l1 hk => ?_) ..; have z1 := hk 0 _ rfl; have hmx := hr.max)
        | (have hz9 := e3; refine d_eqRecS (es := es) (ha := sli_recs e3) (hb' := sli_recs e1) (hl := by omega) (h0 := ?_) ..)
        | (refine d_eqRecS (es := es) (ha := sli_recs e2) (hb' := sli_recs e1) (hl := by omega) (h0 := ?_) ..)
        | (refine d_markRecS (B := reB es _) (n := es.length) (k := 1) (hB := e2) (hv := rfl) (hn := by rw [rcells_len]; exact Nat.le_refl _) (hn2 := by omega) (hk := by decide) (h0 := ?_) ..)
        | (have hz9 := e3; refine d_heldRecS (n := es.length) (k := 1) (ha := sli_mk (B := reB es _) rfl m2 rfl) (hn2 := by omega) (hk := by decide) (h0 := ?_) ..)
        | (refine d_heldRecS (n := es.length) (k := 1) (ha := sli_mk (B := reB es _) rfl (get_setL e2) rfl) (hn2 := by omega) (hk := by decide) (h0 := ?_) ..)
        | (refine Exists.intro _ (And.intro z1 (And.intro rfl (And.intro (Nat.le_of_ble_eq_true rfl) ?_))))
        | (refine Exists.intro _ (And.intro (get_neL z1 (show g ≠ 0 by omega)) (And.intro rfl (And.intro (Nat.le_of_ble_eq_true rfl) ?_))))
        | (refine Exists.intro _ (And.intro rfl (And.intro rfl (And.intro (Nat.le_of_ble_eq_true rfl) ?_))))
        | (refine Exists.intro _ (And.intro rfl (And.intro rfl (And.intro rfl (And.intro (Nat.le_of_ble_eq_true rfl) ?_)))))
        | (refine And.intro (Exists.intro _ (And.intro rfl rfl)) ?_)
        | (exact fun hW => absurd hW (by decide +kernel))
        | (intro hW; (try simp only [Bool.not_true, Bool.not_false, Bool.not_eq_true', Bool.not_eq_false', decide_eq_true_eq, decide_eq_false_iff_not, reduceCtorEq, Bool.true_eq_false, Bool.false_eq_true, mk_size, List.size_toArray, ByteArray.size_append, ByteArray.size_extract, List.length_cons, List.length_nil, ba_get, ba_empty, Int.toNat_natCast] at hW))
        | (refine And.intro (?_ : _ → _) (?_ : _ → _))
        | (refine FinR.drop 0 (Nat.zero_le _) (Closed.zero _) rfl ?_)
        | (refine FinR.keep ?_)
        | (refine And.intro (det3_agg rfl) ?_)
        | (refine fL_mk ?_)
        | (refine And.intro (by (try simp only [mk_size, List.size_toArray, ByteArray.size_append, ByteArray.size_extract, List.length_cons, List.length_nil]); omega) ?_)
        | (refine And.intro (by (try simp only [mk_size, List.size_toArray, ByteArray.size_append, ByteArray.size_extract, List.length_cons, List.length_nil, wrap64_eq]); omega) ?_)
        | fail)
      all_goals first | exact h0 | (exfalso; omega) | (exfalso; simp_all; done) | skip
end Go.Proofs.YtlmplfgnhibfcaaDoor
