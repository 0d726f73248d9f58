/- Contracts: valid logs; sync; append. -/
import Derived.Test.YtlmplfgnhibfcaaDoorS7
set_option linter.unusedVariables false
set_option linter.unusedSimpArgs false
set_option maxRecDepth 100000
set_option maxHeartbeats 4000000
namespace Go.Proofs.YtlmplfgnhibfcaaDoor
open Go Go.RowKit Go.Proofs.YtlmplfgnhibfcaaDoor.Abs
variable {W0 : World} {σ : List Blk}
def encI (n : Int) : List Value := [.int .i64 n]
theorem c_slIndex (a : AV) (xs : List Int) (x : Int) (hs : Sli W0 [] 1 encI a xs) (hl : xs.length < 4611686018427387904) (K : Cont) (h0 : ∀ r : Int, (0 ≤ r ↔ xs.contains x = true) → K (I r) []) : ACall Tryd.prog W0 28 [a, I x] [] K := by
  refine by28 (Nat.le_of_ble_eq_true rfl) ?_
  cases hs with
  | nil =>
    repeat' ((conv => whnf); first
      | (refine And.intro rfl ?_)
      | (refine And.intro (by decide +kernel) ?_)
      | (refine And.intro trivial ?_)
      | (refine Exists.intro _ (And.intro rfl (And.intro rfl (And.intro (Nat.le_of_ble_eq_true rfl) ?_))))
      | (refine Exists.intro _ (And.intro rfl (And.intro rfl (And.intro rfl (And.intro (Nat.le_of_ble_eq_true rfl) ?_)))))
      | (refine And.intro (Exists.intro _ (And.intro rfl rfl)) ?_)
      | (exact fun hW => absurd hW (by decide +kernel))
      | (intro hW; (try simp only [Bool.not_true, Bool.not_false, Bool.not_eq_true', Bool.not_eq_false', decide_eq_true_eq, decide_eq_false_iff_not, reduceCtorEq, Bool.true_eq_false, Bool.false_eq_true, mk_size, List.size_toArray, ByteArray.size_append, ByteArray.size_extract, List.length_cons, List.length_nil, ba_get, ba_empty, Int.toNat_natCast] at hW))
      | (refine And.intro (?_ : _ → _) (?_ : _ → _))
      | (refine FinR.drop 0 (Nat.zero_le _) (Closed.zero _) rfl ?_)
      | (refine FinR.keep ?_)
      | (refine And.intro (det3_agg rfl) ?_)
      | (refine fL_mk ?_)
      | (refine And.intro (by (try simp only [mk_size, List.size_toArray, ByteArray.size_append, ByteArray.size_extract, List.length_cons, List.length_nil]); omega) ?_)
      | (refine And.intro (by (try simp only [mk_size, List.size_toArray, ByteArray.size_append, ByteArray.size_extract, List.length_cons, List.length_nil, wrap64_eq]); omega) ?_)
      | fail)
    refine LoopR.unroll 1 ?_
    repeat' ((conv => whnf); first
      | (refine And.intro rfl ?_)
      | (refine And.intro (by decide +kernel) ?_)
      | (refine And.intro trivial ?_)
      | (refine Exists.intro _ (And.intro rfl (And.intro rfl (And.intro (Nat.le_of_ble_eq_true rfl) ?_))))
      | (refine Exists.intro _ (And.intro rfl (And.intro rfl (And.intro rfl (And.intro (Nat.le_of_ble_eq_true rfl) ?_)))))
      | (refine And.intro (Exists.intro _ (And.intro rfl rfl)) ?_)
      | (exact fun hW => absurd hW (by decide +kernel))
      | (intro hW; (try simp only [Bool.not_true, Bool.not_false, Bool.not_eq_true', Bool.not_eq_false', decide_eq_true_eq, decide_eq_false_iff_not, reduceCtorEq, Bool.true_eq_false, Bool.false_eq_true, mk_size, List.size_toArray, ByteArray.size_append, ByteArray.size_extract, List.length_cons, List.length_nil, ba_get, ba_empty, Int.toNat_natCast] at hW))
      | (refine And.intro (?_ : _ → _) (?_ : _ → _))
      | (refine FinR.drop 0 (Nat.zero_le _) (Closed.zero _) rfl ?_)
      | (refine FinR.keep ?_)
      | (refine And.intro (det3_agg rfl) ?_)
      | (refine fL_mk ?_)
      | (refine And.intro (by (try simp only [mk_size, List.size_toArray, ByteArray.size_append, ByteArray.size_extract, List.length_cons, List.length_nil]); omega) ?_)
      | (refine And.intro (by (try simp only [mk_size, List.size_toArray, ByteArray.size_append, ByteArray.size_extract, List.length_cons, List.length_nil, wrap64_eq]); omega) ?_)
      | fail)
    all_goals first | (exfalso; omega) | exact h0 (-1) (by simp)
  | inn ad n cap xs hn hc hm hb hx =>
    subst hn
    repeat' ((conv => whnf); first
      | (refine And.intro rfl ?_)
      | (refine And.intro (by decide +kernel) ?_)
      | (refine And.intro trivial ?_)
      | (refine Exists.intro _ (And.intro rfl (And.intro rfl (And.intro (Nat.le_of_ble_eq_true rfl) ?_))))
      | (refine Exists.intro _ (And.intro rfl (And.intro rfl (And.intro rfl (And.intro (Nat.le_of_ble_eq_true rfl) ?_)))))
      | (refine And.intro (Exists.intro _ (And.intro rfl rfl)) ?_)
      | (exact fun hW => absurd hW (by decide +kernel))
      | (intro hW; (try simp only [Bool.not_true, Bool.not_false, Bool.not_eq_true', Bool.not_eq_false', decide_eq_true_eq, decide_eq_false_iff_not, reduceCtorEq, Bool.true_eq_false, Bool.false_eq_true, mk_size, List.size_toArray, ByteArray.size_append, ByteArray.size_extract, List.length_cons, List.length_nil, ba_get, ba_empty, Int.toNat_natCast] at hW))
      | (refine And.intro (?_ : _ → _) (?_ : _ → _))
      | (refine FinR.drop 0 (Nat.zero_le _) (Closed.zero _) rfl ?_)
      | (refine FinR.keep ?_)
      | (refine And.intro (det3_agg rfl) ?_)
      | (refine fL_mk ?_)
      | (refine And.intro (by (try simp only [mk_size, List.size_toArray, ByteArray.size_append, ByteArray.size_extract, List.length_cons, List.length_nil]); omega) ?_)
      | (refine And.intro (by (try simp only [mk_size, List.size_toArray, ByteArray.size_append, ByteArray.size_extract, List.length_cons, List.length_nil, wrap64_eq]); omega) ?_)
      | fail)
    refine LoopR.live (fun i : Nat => [(0, .lit (.slice (some ad) xs.length cap)), (1, I x), (7, I xs.length), (8, I i)]) (fun _ => []) (fun i => i ≤ xs.length ∧ (xs.take i).all (fun y => !(x == y)) = true) (fun i => xs.length - i) 0 ⟨rfl, rfl, rfl, rfl, trivial⟩ (.keep rfl) ⟨Nat.zero_le _, rfl⟩ ?_
    rintro i ⟨hi, ha⟩
    by_cases hlt : i < xs.length
    · have hxi : xs[i]? = some (xs.getD i 0) := by simp [List.getD, hlt]
      have hld := fun C h => ldIn (W0 := W0) (s := 1) (enc := encI) hb hx (k := i) hxi rfl (C := C) h
      repeat' ((conv => whnf); first
        | (refine And.intro rfl ?_)
        | (refine And.intro (by decide +kernel) ?_)
        | (refine And.intro trivial ?_)
        | (refine hld _ ?_)
        | (refine Exists.intro _ (And.intro rfl (And.intro rfl (And.intro (Nat.le_of_ble_eq_true rfl) ?_))))
        | (refine Exists.intro _ (And.intro rfl (And.intro rfl (And.intro rfl (And.intro (Nat.le_of_ble_eq_true rfl) ?_)))))
        | (refine And.intro (Exists.intro _ (And.intro rfl rfl)) ?_)
        | (exact fun hW => absurd hW (by decide +kernel))
        | (intro hW; (try simp only [Bool.not_true, Bool.not_false, Bool.not_eq_true', Bool.not_eq_false', decide_eq_true_eq, decide_eq_false_iff_not, reduceCtorEq, Bool.true_eq_false, Bool.false_eq_true, mk_size, List.size_toArray, ByteArray.size_append, ByteArray.size_extract, List.length_cons, List.length_nil, ba_get, ba_empty, Int.toNat_natCast] at hW))
        | (refine And.intro (?_ : _ → _) (?_ : _ → _))
        | (refine FinR.drop 0 (Nat.zero_le _) (Closed.zero _) rfl ?_)
        | (refine FinR.keep ?_)
        | (refine And.intro (det3_agg rfl) ?_)
        | (refine fL_mk ?_)
        | (refine And.intro (by (try simp only [mk_size, List.size_toArray, ByteArray.size_append, ByteArray.size_extract, List.length_cons, List.length_nil]); omega) ?_)
        | (refine And.intro (by (try simp only [mk_size, List.size_toArray, ByteArray.size_append, ByteArray.size_extract, List.length_cons, List.length_nil, wrap64_eq]); omega) ?_)
        | fail)
      all_goals first | (exfalso; omega) | skip
      · refine h0 i ⟨fun _ => ?_, fun _ => by omega⟩
        rw [List.contains_iff_mem]
        have : xs.getD i 0 ∈ xs := List.mem_of_getElem? hxi
        rw [hW]; exact this
      · exact Again.go (i + 1) ⟨rfl, rfl, rfl, slI (iN i (by omega)), trivial⟩ (.keep rfl) ⟨by omega, by rw [all_step (d := 0) hlt, ha]; simp; exact hW⟩ (by omega)
    · skip
      repeat' ((conv => whnf); first
        | (refine And.intro rfl ?_)
        | (refine And.intro (by decide +kernel) ?_)
        | (refine And.intro trivial ?_)
        | (refine Exists.intro _ (And.intro rfl (And.intro rfl (And.intro (Nat.le_of_ble_eq_true rfl) ?_))))
        | (refine Exists.intro _ (And.intro rfl (And.intro rfl (And.intro rfl (And.intro (Nat.le_of_ble_eq_true rfl) ?_)))))
        | (refine And.intro (Exists.intro _ (And.intro rfl rfl)) ?_)
        | (exact fun hW => absurd hW (by decide +kernel))
        | (intro hW; (try simp only [Bool.not_true, Bool.not_false, Bool.not_eq_true', Bool.not_eq_false', decide_eq_true_eq, decide_eq_false_iff_not, reduceCtorEq, Bool.true_eq_false, Bool.false_eq_true, mk_size, List.size_toArray, ByteArray.size_append, ByteArray.size_extract, List.length_cons, List.length_nil, ba_get, ba_empty, Int.toNat_natCast] at hW))
        | (refine And.intro (?_ : _ → _) (?_ : _ → _))
        | (refine FinR.drop 0 (Nat.zero_le _) (Closed.zero _) rfl ?_)
        | (refine FinR.keep ?_)
        | (refine And.intro (det3_agg rfl) ?_)
        | (refine fL_mk ?_)
        | (refine And.intro (by (try simp only [mk_size, List.size_toArray, ByteArray.size_append, ByteArray.size_extract, List.length_cons, List.length_nil]); omega) ?_)
        | (refine And.intro (by (try simp only [mk_size, List.size_toArray, ByteArray.size_append, ByteArray.size_extract, List.length_cons, List.length_nil, wrap64_eq]); omega) ?_)
        | fail)
      all_goals first | (exfalso; omega) | skip
      refine h0 (-1) ⟨fun h => by omega, fun h => ?_⟩
      have h1 := all_take_true (by omega) ha
      rw [List.contains_iff_mem] at h
      have := List.all_eq_true.1 h1 x h
      simp at this
  | own b ver off n cap B xs hB => simp at hB
theorem d_slContains (a : AV) (xs : List Int) (x : Int) (hs : Sli W0 σ 1 encI a xs) (hl : xs.length < 4611686018427387904) (K : Cont) (h0 : K (Bo (xs.contains x)) σ) : ACall Tryd.prog W0 23 [a, I x] σ K := by
  refine ACall.frameA (K0 := fun v σ' => v = Bo (xs.contains x) ∧ σ' = []) (by kernel_rfl) (fun W1 ι vs hh hr => ?_) ?_
  · obtain ⟨v1, vs', rfl, hr1, hr2⟩ := Rels.uncons hr
    obtain ⟨a', ha, hs'⟩ := hs.conc hh ⟨v1, hr1⟩
    have hs2 := hs'
    refine ⟨[a', I x], Rels.cons (ha _ hr1) (hr2.mono' fun b hb c hbc => rel3_pure (by rw [List.mem_singleton.1 hb]; rfl) hbc), ?_⟩
    refine by23 (Nat.le_of_ble_eq_true rfl) ?_
    cases hs' with
    | nil =>
      repeat' ((conv => whnf); first
        | (refine And.intro rfl ?_)
        | (refine And.intro (by decide +kernel) ?_)
        | (refine And.intro trivial ?_)
        | (refine c_slIndex (hs := hs2) (hl := hl) (h0 := fun r hrr => ?_) ..)
        | (refine Exists.intro _ (And.intro rfl (And.intro rfl (And.intro (Nat.le_of_ble_eq_true rfl) ?_))))
        | (refine Exists.intro _ (And.intro rfl (And.intro rfl (And.intro rfl (And.intro (Nat.le_of_ble_eq_true rfl) ?_)))))
        | (refine And.intro (Exists.intro _ (And.intro rfl rfl)) ?_)
        | (exact fun hW => absurd hW (by decide +kernel))
        | (intro hW; (try simp only [Bool.not_true, Bool.not_false, Bool.not_eq_true', Bool.not_eq_false', decide_eq_true_eq, decide_eq_false_iff_not, reduceCtorEq, Bool.true_eq_false, Bool.false_eq_true, mk_size, List.size_toArray, ByteArray.size_append, ByteArray.size_extract, List.length_cons, List.length_nil, ba_get, ba_empty, Int.toNat_natCast] at hW))
        | (refine And.intro (?_ : _ → _) (?_ : _ → _))
        | (refine FinR.drop 0 (Nat.zero_le _) (Closed.zero _) rfl ?_)
        | (refine FinR.keep ?_)
        | (refine And.intro (det3_agg rfl) ?_)
        | (refine fL_mk ?_)
        | (refine And.intro (by (try simp only [mk_size, List.size_toArray, ByteArray.size_append, ByteArray.size_extract, List.length_cons, List.length_nil]); omega) ?_)
        | (refine And.intro (by (try simp only [mk_size, List.size_toArray, ByteArray.size_append, ByteArray.size_extract, List.length_cons, List.length_nil, wrap64_eq]); omega) ?_)
        | fail)
      all_goals exact kB (K := fun v σ' => v = Bo (([] : List Int).contains x) ∧ σ' = []) ⟨rfl, rfl⟩ (by rw [Bool.eq_iff_iff, decide_eq_true_iff]; exact hrr.symm)
    | inn ad n cap xs hn hc hm hb hx =>
      repeat' ((conv => whnf); first
        | (refine And.intro rfl ?_)
        | (refine And.intro (by decide +kernel) ?_)
        | (refine And.intro trivial ?_)
        | (refine c_slIndex (hs := hs2) (hl := hl) (h0 := fun r hrr => ?_) ..)
        | (refine Exists.intro _ (And.intro rfl (And.intro rfl (And.intro (Nat.le_of_ble_eq_true rfl) ?_))))
        | (refine Exists.intro _ (And.intro rfl (And.intro rfl (And.intro rfl (And.intro (Nat.le_of_ble_eq_true rfl) ?_)))))
        | (refine And.intro (Exists.intro _ (And.intro rfl rfl)) ?_)
        | (exact fun hW => absurd hW (by decide +kernel))
        | (intro hW; (try simp only [Bool.not_true, Bool.not_false, Bool.not_eq_true', Bool.not_eq_false', decide_eq_true_eq, decide_eq_false_iff_not, reduceCtorEq, Bool.true_eq_false, Bool.false_eq_true, mk_size, List.size_toArray, ByteArray.size_append, ByteArray.size_extract, List.length_cons, List.length_nil, ba_get, ba_empty, Int.toNat_natCast] at hW))
        | (refine And.intro (?_ : _ → _) (?_ : _ → _))
        | (refine FinR.drop 0 (Nat.zero_le _) (Closed.zero _) rfl ?_)
        | (refine FinR.keep ?_)
        | (refine And.intro (det3_agg rfl) ?_)
        | (refine fL_mk ?_)
        | (refine And.intro (by (try simp only [mk_size, List.size_toArray, ByteArray.size_append, ByteArray.size_extract, List.length_cons, List.length_nil]); omega) ?_)
        | (refine And.intro (by (try simp only [mk_size, List.size_toArray, ByteArray.size_append, ByteArray.size_extract, List.length_cons, List.length_nil, wrap64_eq]); omega) ?_)
        | fail)
      all_goals exact kB (K := fun v σ' => v = Bo (xs.contains x) ∧ σ' = []) ⟨rfl, rfl⟩ (by rw [Bool.eq_iff_iff, decide_eq_true_iff]; exact hrr.symm)
    | own b ver off n cap B xs hB => simp at hB
  · rintro v σ' ⟨rfl, rfl⟩
    have e : σ ++ shB σ.length [] = σ := by simp [shB]
    rw [e]; exact h0
/-! ### valid logs -/
theorem encL_append : ∀ (a b : List Rec) (k : Nat), encL k (a ++ b) = encL k a ++ encL (k + a.length) b
  | [], b, k => by simp [encL]
  | e :: a, b, k => by
    simp only [List.cons_append, encL, List.length_cons]
    rw [encL_append a b (k + 1), List.append_assoc, show k + 1 + a.length = k + (a.length + 1) by omega]
theorem line_pos (k : Nat) (c r : ByteArray) : 1 ≤ (tl (lineB k c r)).length := by rw [tl_line]; simp
theorem enc_prefix : ∀ {es' es : List Rec} {k : Nat} {q : Bs}, (∀ e ∈ es, recB e.1 e.2 = true) → (∀ e ∈ es', recB e.1 e.2 = true) → encL k es = encL k es' ++ q → ∃ es2, es = es' ++ es2
  | [], es, _, _, _, _, _ => ⟨es, rfl⟩
  | e' :: es', [], k, q, _, _, he => by
    have h1 := congrArg List.length he
    have h2 := line_pos k e'.1 e'.2
    simp only [encL, List.length_append, List.length_nil] at h1; omega
  | e' :: es', e :: es, k, q, h, h', he => by
    simp only [encL, List.append_assoc] at he
    obtain ⟨h1, h2, h3⟩ := line_inj (h e List.mem_cons_self) (h' e' List.mem_cons_self) he
    obtain ⟨es2, h4⟩ := enc_prefix (fun x hx => h x (List.mem_cons_of_mem _ hx)) (fun x hx => h' x (List.mem_cons_of_mem _ hx)) h3
    exact ⟨es2, by rw [h4, show e = e' from Prod.ext h1 h2]; rfl⟩
theorem last_nil (k : Nat) : Last k [] := fun ⟨c, r, t', _, _, he⟩ => by
  have h1 := congrArg List.length he
  have h2 := line_pos k c r
  simp only [List.length_append, List.length_nil] at h1; omega
theorem Reads.all {l : Bs} {es : List Rec} {n : Nat} (h : Reads l es n) (hn : n = l.length) : l = encL 0 es := by
  obtain ⟨t, e, _⟩ := h.pre
  have := congrArg List.length e
  rw [List.length_append, ← h.len, hn] at this
  have ht : t = [] := List.length_eq_zero_iff.1 (by omega)
  rw [e, ht, List.append_nil]
theorem dur_iff {d p : ByteArray} {es es' : List Rec} {n n' : Nat} (hr : Reads (tl (d ++ p)) es n) (hn : n = d.size + p.size) (hr' : Reads (tl d) es' n') : n' = d.size ↔ d.size ∈ endsL es := by
  have hall : tl (d ++ p) = encL 0 es := hr.all (by rw [hn, tl_len, ByteArray.size_append])
  rw [tl_append] at hall
  constructor
  · intro h
    have h1 := hr'.all (by rw [h, tl_len])
    rw [h1] at hall
    obtain ⟨es2, h2⟩ := enc_prefix hr.val hr'.val hall.symm
    refine List.mem_map.2 ⟨es'.length, List.mem_range.2 (by rw [h2]; simp; omega), ?_⟩
    rw [h2, List.take_left, ← hr'.len, h]
  · intro h
    obtain ⟨i, hi, h1⟩ := List.mem_map.1 h
    have h2 := encL_append (es.take i) (es.drop i) 0
    rw [List.take_append_drop, ← hall] at h2
    have h3 := (List.append_inj h2 (by rw [tl_len, ← h1])).1
    have hq : Reads (tl d) (es.take i) d.size := ⟨h1.symm, ⟨[], by rw [List.append_nil]; exact h3, last_nil _⟩, fun e he => hr.val e (List.mem_of_mem_take he), by have := hr.max; rw [List.length_take]; omega⟩
    exact (hr'.uniq hq).2
def VLog (d p : ByteArray) (cnt : Int) : Prop := d.size + p.size ≤ 30000 ∧ ∃ es, Reads (tl (d ++ p)) es (d.size + p.size) ∧ cnt = (es.length : Nat) ∧ d.size ∈ endsL es
noncomputable def vB (d p : ByteArray) (cnt : Int) : Bool := @decide (VLog d p cnt) (Classical.propDecidable _)
theorem vB_iff {d p : ByteArray} {cnt : Int} : vB d p cnt = true ↔ VLog d p cnt := by
  unfold vB; exact @decide_eq_true_iff _ (Classical.propDecidable _)
theorem vB_of {d p : ByteArray} {cnt : Int} {b : Bool} (h : VLog d p cnt ↔ b = true) : vB d p cnt = b := by
  rw [Bool.eq_iff_iff, vB_iff]; exact h
theorem vlog_iff {d p : ByteArray} {cnt : Int} {es : List Rec} {n : Nat} (hs : d.size + p.size ≤ 30000) (hr : Reads (tl (d ++ p)) es n) : VLog d p cnt ↔ n = d.size + p.size ∧ d.size ∈ endsL es ∧ cnt = (es.length : Nat) := by
  constructor
  · rintro ⟨_, es', h1, h2, h3⟩
    obtain ⟨rfl, rfl⟩ := hr.uniq h1
    exact ⟨rfl, h3, h2⟩
  · rintro ⟨rfl, h3, h2⟩
    exact ⟨hs, es, hr, h2, h3⟩
abbrev Lg (d p : ByteArray) (cnt : Int) : AV := .agg [St d, St p, I cnt]
theorem c_l12Valid (d p : ByteArray) (cnt : Int) (hd : d.size ≤ 1048576) (hp : p.size ≤ 1048576) (K : Cont) (h0 : K (Bo (vB d p cnt)) []) : ACall Tryd.prog W0 14 [Lg d p cnt] [] K := by
  refine by14 (Nat.le_of_ble_eq_true rfl) ?_
  have ew : IntKind.i64.wrap (((d.size : Nat) : Int) + ((p.size : Nat) : Int)) = ((d.size + p.size : Nat) : Int) := by rw [wrap_i64 _ (by omega) (by omega)]; omega
  have es : (d ++ p).size = d.size + p.size := ByteArray.size_append
  by_cases hs : d.size + p.size ≤ 30000
  · skip
    repeat' ((conv => whnf); first
      | (refine And.intro rfl ?_)
      | (refine And.intro (by decide +kernel) ?_)
      | (refine And.intro trivial ?_)
      | (refine d_l12Open (s := d ++ p) (hs := by omega) (h0 := fun es n ver cap hr => ?_) ..)
      | (refine d_l12Open (s := d) (hs := by omega) (h0 := fun es' n' ver' cap' hr' => ?_) ..)
      | (refine Exists.intro _ (And.intro rfl (And.intro rfl (And.intro (Nat.le_of_ble_eq_true rfl) ?_))))
      | (refine Exists.intro _ (And.intro rfl (And.intro rfl (And.intro rfl (And.intro (Nat.le_of_ble_eq_true rfl) ?_)))))
      | (refine And.intro (Exists.intro _ (And.intro rfl rfl)) ?_)
      | (exact fun hW => absurd hW (by decide +kernel))
      | (intro hW; (try simp only [Bool.not_true, Bool.not_false, Bool.not_eq_true', Bool.not_eq_false', decide_eq_true_eq, decide_eq_false_iff_not, reduceCtorEq, Bool.true_eq_false, Bool.false_eq_true, mk_size, List.size_toArray, ByteArray.size_append, ByteArray.size_extract, List.length_cons, List.length_nil, ba_get, ba_empty, Int.toNat_natCast] at hW))
      | (refine And.intro (?_ : _ → _) (?_ : _ → _))
      | (refine FinR.drop 0 (Nat.zero_le _) (Closed.zero _) rfl ?_)
      | (refine FinR.keep ?_)
      | (refine And.intro (det3_agg rfl) ?_)
      | (refine fL_mk ?_)
      | (refine And.intro (by (try simp only [mk_size, List.size_toArray, ByteArray.size_append, ByteArray.size_extract, List.length_cons, List.length_nil]); omega) ?_)
      | (refine And.intro (by (try simp only [mk_size, List.size_toArray, ByteArray.size_append, ByteArray.size_extract, List.length_cons, List.length_nil, wrap64_eq]); omega) ?_)
      | fail)
    · exfalso; omega
    · rename_i e1 _ e2
      refine kB h0 (vB_of ?_)
      rw [vlog_iff hs hr, decide_eq_true_iff]
      exact ⟨fun h => h.2.2.symm, fun h => ⟨by omega, (dur_iff hr (by omega) hr').1 (by omega), h.symm⟩⟩
    · rename_i e1 _ e2
      refine kB h0 (vB_of ⟨fun hv => ?_, fun h => by cases h⟩)
      have h1 := (vlog_iff hs hr).1 hv
      exact (e2 (by rw [(dur_iff hr h1.1 hr').2 h1.2.1])).elim
    · rename_i e1 _ _
      refine kB h0 (vB_of ⟨fun hv => ?_, fun h => by cases h⟩)
      have h1 := (vlog_iff hs hr).1 hv
      omega
  · skip
    repeat' ((conv => whnf); first
      | (refine And.intro rfl ?_)
      | (refine And.intro (by decide +kernel) ?_)
      | (refine And.intro trivial ?_)
      | (exfalso; omega)
      | (refine Exists.intro _ (And.intro rfl (And.intro rfl (And.intro (Nat.le_of_ble_eq_true rfl) ?_))))
      | (refine Exists.intro _ (And.intro rfl (And.intro rfl (And.intro rfl (And.intro (Nat.le_of_ble_eq_true rfl) ?_)))))
      | (refine And.intro (Exists.intro _ (And.intro rfl rfl)) ?_)
      | (exact fun hW => absurd hW (by decide +kernel))
      | (intro hW; (try simp only [Bool.not_true, Bool.not_false, Bool.not_eq_true', Bool.not_eq_false', decide_eq_true_eq, decide_eq_false_iff_not, reduceCtorEq, Bool.true_eq_false, Bool.false_eq_true, mk_size, List.size_toArray, ByteArray.size_append, ByteArray.size_extract, List.length_cons, List.length_nil, ba_get, ba_empty, Int.toNat_natCast] at hW))
      | (refine And.intro (?_ : _ → _) (?_ : _ → _))
      | (refine FinR.drop 0 (Nat.zero_le _) (Closed.zero _) rfl ?_)
      | (refine FinR.keep ?_)
      | (refine And.intro (det3_agg rfl) ?_)
      | (refine fL_mk ?_)
      | (refine And.intro (by (try simp only [mk_size, List.size_toArray, ByteArray.size_append, ByteArray.size_extract, List.length_cons, List.length_nil]); omega) ?_)
      | (refine And.intro (by (try simp only [mk_size, List.size_toArray, ByteArray.size_append, ByteArray.size_extract, List.length_cons, List.length_nil, wrap64_eq]); omega) ?_)
      | fail)
    all_goals exact kB h0 (vB_of ⟨fun hv => (hs hv.1).elim, fun h => by cases h⟩)
theorem d_l12Valid (d p : ByteArray) (cnt : Int) (hd : d.size ≤ 1048576) (hp : p.size ≤ 1048576) (K : Cont) (h0 : K (Bo (vB d p cnt)) σ) : ACall Tryd.prog W0 14 [Lg d p cnt] σ K :=
  ACall.lift rfl (fun _ => rfl) (fun W1 K _ hK => c_l12Valid d p cnt hd hp K hK) h0
theorem ends_sli {es : List Rec} {v2 c2 : Nat} {σ : List Blk} {b : Nat} {e : Nat} {r m : Bool} (hb : σ[b]? = some ⟨icells (endsL es), v2, e, 1, r, m⟩) : Sli W0 σ 1 encI (.sl b v2 0 (es.length + 1) c2) ((endsL es).map fun n : Nat => (n : Int)) :=
  .own b v2 0 _ c2 _ _ hb rfl (by simp [endsL]) fun i x hx j v hj => by
    rw [List.getElem?_map, Option.map_eq_some_iff] at hx
    obtain ⟨y, hy, rfl⟩ := hx
    cases j with
    | zero =>
      simp [encI] at hj; subst hj
      show (icells (endsL es))[0 + i * 1 + 0]? = _
      rw [show 0 + i * 1 + 0 = i by omega]
      simp [icells, hy]
    | succ j => simp [encI] at hj
theorem contains_int {l : List Nat} {k : Nat} : (l.map fun n : Nat => (n : Int)).contains (k : Int) = true ↔ k ∈ l := by
  rw [List.contains_iff_mem, List.mem_map]
  constructor
  · rintro ⟨x, hx, e⟩; rw [show k = x by omega]; exact hx
  · intro h; exact ⟨k, h, rfl⟩
theorem c_IsValidLog (d p : ByteArray) (cnt : Int) (hd : d.size ≤ 1048576) (hp : p.size ≤ 1048576) (ht : TabP W0) (K : Cont) (h0 : K (Bo (vB d p cnt)) []) : ACall Tryd.prog W0 16 [Lg d p cnt] [] K := by
  refine by16 (Nat.le_of_ble_eq_true rfl) ?_
  have ew : IntKind.i64.wrap (((d.size : Nat) : Int) + ((p.size : Nat) : Int)) = ((d.size + p.size : Nat) : Int) := by rw [wrap_i64 _ (by omega) (by omega)]; omega
  have es : (d ++ p).size = d.size + p.size := ByteArray.size_append
  by_cases hs : d.size + p.size ≤ 30000
  · skip
    repeat' ((conv => whnf); first
      | (refine And.intro rfl ?_)
      | (refine And.intro (by decide +kernel) ?_)
      | (refine And.intro trivial ?_)
      | (refine d_recordsOf (s := d ++ p) (hs := by omega) (ht := ht) (h0 := fun es n v1 c1 v2 c2 hr => ?_) ..)
      | (refine Exists.intro _ (And.intro rfl (And.intro rfl (And.intro (by simp [icells_len, endsL]) ?_))); rw [ends_at hr])
      | (refine d_slContains (hs := ends_sli rfl) (hl := by simp [endsL]; have := hr.max; omega) (h0 := ?_) ..)
      | (refine Exists.intro _ (And.intro rfl (And.intro rfl (And.intro (Nat.le_of_ble_eq_true rfl) ?_))))
      | (refine Exists.intro _ (And.intro rfl (And.intro rfl (And.intro rfl (And.intro (Nat.le_of_ble_eq_true rfl) ?_)))))
      | (refine And.intro (Exists.intro _ (And.intro rfl rfl)) ?_)
      | (exact fun hW => absurd hW (by decide +kernel))
      | (intro hW; (try simp only [Bool.not_true, Bool.not_false, Bool.not_eq_true', Bool.not_eq_false', decide_eq_true_eq, decide_eq_false_iff_not, reduceCtorEq, Bool.true_eq_false, Bool.false_eq_true, mk_size, List.size_toArray, ByteArray.size_append, ByteArray.size_extract, List.length_cons, List.length_nil, ba_get, ba_empty, Int.toNat_natCast] at hW))
      | (refine And.intro (?_ : _ → _) (?_ : _ → _))
      | (refine FinR.drop 0 (Nat.zero_le _) (Closed.zero _) rfl ?_)
      | (refine FinR.keep ?_)
      | (refine And.intro (det3_agg rfl) ?_)
      | (refine fL_mk ?_)
      | (refine And.intro (by (try simp only [mk_size, List.size_toArray, ByteArray.size_append, ByteArray.size_extract, List.length_cons, List.length_nil]); omega) ?_)
      | (refine And.intro (by (try simp only [mk_size, List.size_toArray, ByteArray.size_append, ByteArray.size_extract, List.length_cons, List.length_nil, wrap64_eq]); omega) ?_)
      | fail)
    · exfalso; omega
    · rename_i e1 e2 e3
      refine kB h0 (vB_of ?_)
      have hn : n = d.size + p.size := by omega
      rw [vlog_iff hs hr, decide_eq_true_iff]
      exact ⟨fun h => h.2.2, fun h => ⟨hn, contains_int.1 e3, h⟩⟩
    · rename_i e1 e2 e3
      refine kB h0 (vB_of ⟨fun hv => ?_, fun h => by cases h⟩)
      have h1 := (vlog_iff hs hr).1 hv
      have h2 := contains_int.2 h1.2.1
      rw [h2] at e3; cases e3
    · rename_i e1 _ _
      refine kB h0 (vB_of ⟨fun hv => ?_, fun h => by cases h⟩)
      have h1 := (vlog_iff hs hr).1 hv
      omega
  · skip
    repeat' ((conv => whnf); first
      | (refine And.intro rfl ?_)
      | (refine And.intro (by decide +kernel) ?_)
      | (refine And.intro trivial ?_)
      | (exfalso; omega)
      | (refine Exists.intro _ (And.intro rfl (And.intro rfl (And.intro (Nat.le_of_ble_eq_true rfl) ?_))))
      | (refine Exists.intro _ (And.intro rfl (And.intro rfl (And.intro rfl (And.intro (Nat.le_of_ble_eq_true rfl) ?_)))))
      | (refine And.intro (Exists.intro _ (And.intro rfl rfl)) ?_)
      | (exact fun hW => absurd hW (by decide +kernel))
      | (intro hW; (try simp only [Bool.not_true, Bool.not_false, Bool.not_eq_true', Bool.not_eq_false', decide_eq_true_eq, decide_eq_false_iff_not, reduceCtorEq, Bool.true_eq_false, Bool.false_eq_true, mk_size, List.size_toArray, ByteArray.size_append, ByteArray.size_extract, List.length_cons, List.length_nil, ba_get, ba_empty, Int.toNat_natCast] at hW))
      | (refine And.intro (?_ : _ → _) (?_ : _ → _))
      | (refine FinR.drop 0 (Nat.zero_le _) (Closed.zero _) rfl ?_)
      | (refine FinR.keep ?_)
      | (refine And.intro (det3_agg rfl) ?_)
      | (refine fL_mk ?_)
      | (refine And.intro (by (try simp only [mk_size, List.size_toArray, ByteArray.size_append, ByteArray.size_extract, List.length_cons, List.length_nil]); omega) ?_)
      | (refine And.intro (by (try simp only [mk_size, List.size_toArray, ByteArray.size_append, ByteArray.size_extract, List.length_cons, List.length_nil, wrap64_eq]); omega) ?_)
      | fail)
    all_goals exact kB h0 (vB_of ⟨fun hv => (hs hv.1).elim, fun h => by cases h⟩)
theorem d_IsValidLog (d p : ByteArray) (cnt : Int) (hd : d.size ≤ 1048576) (hp : p.size ≤ 1048576) (ht : TabP W0) (K : Cont) (h0 : K (Bo (vB d p cnt)) σ) : ACall Tryd.prog W0 16 [Lg d p cnt] σ K :=
  ACall.lift rfl (fun _ => rfl) (fun W1 K hb hK => c_IsValidLog d p cnt hd hp (ht.mono hb) K hK) h0
end Go.Proofs.YtlmplfgnhibfcaaDoor
