import Derived.Test.YthncpkdhcfaflaaZLawLastPrints4
section
/- Contracts: layers of prints. -/
set_option linter.unusedVariables false
set_option linter.unusedSimpArgs false
set_option maxRecDepth 100000
set_option maxHeartbeats 4000000
namespace Go.Proofs.Ythncpkdhcfaflaa
open Go Go.RowKit Go.Proofs.Ythncpkdhcfaflaa.Abs
variable {W0 : World} {σ : List Blk}
theorem sli_lit {α : Type} {W0 : World} {s : Nat} {enc : α → List Value} {a : AV} {xs : List α} (h : Sli W0 [] s enc a xs) : ∃ v, a = .lit v := by
  cases h with
  | nil => exact ⟨_, rfl⟩
  | inn ad n cap xs hn hc hm hb hx => exact ⟨_, rfl⟩
  | own b ver off n cap B xs hB => simp at hB
theorem sli_up {α : Type} {W0 : World} {σ : List Blk} {s : Nat} {enc : α → List Value} {a : AV} {xs : List α} (h : Sli W0 [] s enc a xs) : Sli W0 σ s enc a xs := by
  cases h with
  | nil => exact .nil
  | inn ad n cap xs hn hc hm hb hx => exact .inn ad n cap xs hn hc hm hb hx
  | own b ver off n cap B xs hB => simp at hB
theorem closNil (k : Nat) : Closed k [] := fun B hB => by cases hB
theorem closCons {k : Nat} {B : Blk} {l : List Blk} (h : B.cells.all (bel1 k) = true) (hs : Closed k l) : Closed k (B :: l) := fun B' hB => by
  rcases List.mem_cons.1 hB with rfl | hB
  · exact h
  · exact hs B' hB
theorem belI (k : Nat) (l : List Int) : (l.map I).all (bel1 k) = true := by
  rw [List.all_map]; exact List.all_eq_true.2 fun _ _ => rfl
/-- the cells of layers -/
def lyC (xs : List (List Int)) : List AV := (xs.map fun x => [U (pSet x : Nat), I (pInk x)]).flatten
theorem belL (k : Nat) (xs : List (List Int)) : (lyC xs).all (bel1 k) = true := by
  refine List.all_eq_true.2 fun v hv => ?_
  obtain ⟨l, hl, hv⟩ := List.mem_flatten.1 hv
  obtain ⟨x, _, rfl⟩ := List.mem_map.1 hl
  rcases List.mem_cons.1 hv with rfl | hv
  · rfl
  · rw [List.mem_singleton.1 hv]; rfl
theorem lyC_len : ∀ xs : List (List Int), (lyC xs).length = xs.length * 2
  | [] => rfl
  | x :: xs => by
    show ([U (pSet x : Nat), I (pInk x)] ++ lyC xs).length = _
    rw [List.length_append, lyC_len xs, List.length_cons]; simp; omega
theorem lyC_snoc (xs : List (List Int)) (x : List Int) : lyC (xs ++ [x]) = lyC xs ++ [U (pSet x : Nat), I (pInk x)] := by simp [lyC]
theorem lyC_get : ∀ {xs : List (List Int)} {i : Nat} {x : List Int}, xs[i]? = some x → (lyC xs)[i * 2]? = some (U (pSet x : Nat)) ∧ (lyC xs)[i * 2 + 1]? = some (I (pInk x))
  | [], i, x, h => by simp at h
  | y :: xs, 0, x, h => by simp at h; subst h; exact ⟨rfl, rfl⟩
  | y :: xs, i + 1, x, h => by
    obtain ⟨h1, h2⟩ := lyC_get (xs := xs) (by simpa using h)
    have e : lyC (y :: xs) = U (pSet y : Nat) :: I (pInk y) :: lyC xs := rfl
    rw [e, show (i + 1) * 2 = i * 2 + 1 + 1 by omega]
    exact ⟨by simpa using h1, by simpa using h2⟩
abbrev lyB (xs : List (List Int)) : Blk := ⟨lyC xs, xs.length, 93, 2, true, true⟩
theorem take_snoc {α : Type} {xs : List α} {i : Nat} {x : α} (h : xs[i]? = some x) : xs.take (i + 1) = xs.take i ++ [x] := by rw [List.take_add_one, h]; rfl
theorem c_layersOf (a : AV) (xs : List (List Int)) (ha : Sli W0 [] 9 enI a xs) (hx : ∀ x ∈ xs, x.length = 9) (hl : xs.length ≤ 1048576) (K : Cont)
    (h1 : xs.all pOk = true → ∀ cap, K (.tup [.sl 0 xs.length 0 xs.length cap, Bo (decide (xs.length ≤ 6))]) [lyB xs]) (h2 : xs.all pOk = false → K (.tup [.lit (.slice none 0 0), Bo false]) []) : ACall Try.prog W0 56 [a] [] K := by
  refine by56 (Nat.le_of_ble_eq_true rfl) ?_
  cases ha with
  | nil =>
    have h0 := h1 rfl 0
    repeat' ((conv => whnf); first
      | (refine And.intro rfl ?_)
      | (refine And.intro (by decide +kernel) ?_)
      | (refine And.intro trivial ?_)
      | (refine Exists.intro _ (And.intro rfl (And.intro rfl (And.intro (Nat.le_of_ble_eq_true rfl) ?_))))
      | (refine Exists.intro _ (And.intro rfl (And.intro rfl (And.intro rfl (And.intro (Nat.le_of_ble_eq_true rfl) ?_)))))
      | (refine And.intro (Exists.intro _ (And.intro rfl rfl)) ?_)
      | (exact fun hW => absurd hW (by decide +kernel))
      | (intro hW; (try simp only [Bool.not_true, Bool.not_false, Bool.not_eq_true', Bool.not_eq_false', decide_eq_true_eq, decide_eq_false_iff_not, reduceCtorEq, Bool.true_eq_false, Bool.false_eq_true, mk_size, List.size_toArray, ByteArray.size_append, ByteArray.size_extract, List.length_cons, List.length_nil, ba_get, ba_empty, Int.toNat_natCast] at hW))
      | (refine And.intro (?_ : _ → _) (?_ : _ → _))
      | (refine FinR.drop 0 (Nat.zero_le _) (Closed.zero _) rfl ?_)
      | (refine FinR.keep ?_)
      | (refine And.intro (det3_agg rfl) ?_)
      | (refine fL_mk ?_)
      | (refine And.intro (by (try simp only [mk_size, List.size_toArray, ByteArray.size_append, ByteArray.size_extract, List.length_cons, List.length_nil]); omega) ?_)
      | (refine And.intro (by (try simp only [mk_size, List.size_toArray, ByteArray.size_append, ByteArray.size_extract, List.length_cons, List.length_nil, wrap64_eq]); omega) ?_)
      | fail)
    all_goals first | (exfalso; omega) | skip
    refine LoopR.unroll 1 ?_
    repeat' ((conv => whnf); first
      | (refine And.intro rfl ?_)
      | (refine And.intro (by decide +kernel) ?_)
      | (refine And.intro trivial ?_)
      | (refine Exists.intro _ (And.intro rfl (And.intro rfl (And.intro (Nat.le_of_ble_eq_true rfl) ?_))))
      | (refine Exists.intro _ (And.intro rfl (And.intro rfl (And.intro rfl (And.intro (Nat.le_of_ble_eq_true rfl) ?_)))))
      | (refine And.intro (Exists.intro _ (And.intro rfl rfl)) ?_)
      | (exact fun hW => absurd hW (by decide +kernel))
      | (intro hW; (try simp only [Bool.not_true, Bool.not_false, Bool.not_eq_true', Bool.not_eq_false', decide_eq_true_eq, decide_eq_false_iff_not, reduceCtorEq, Bool.true_eq_false, Bool.false_eq_true, mk_size, List.size_toArray, ByteArray.size_append, ByteArray.size_extract, List.length_cons, List.length_nil, ba_get, ba_empty, Int.toNat_natCast] at hW))
      | (refine And.intro (?_ : _ → _) (?_ : _ → _))
      | (refine FinR.drop 0 (Nat.zero_le _) (Closed.zero _) rfl ?_)
      | (refine FinR.keep ?_)
      | (refine And.intro (det3_agg rfl) ?_)
      | (refine fL_mk ?_)
      | (refine And.intro (by (try simp only [mk_size, List.size_toArray, ByteArray.size_append, ByteArray.size_extract, List.length_cons, List.length_nil]); omega) ?_)
      | (refine And.intro (by (try simp only [mk_size, List.size_toArray, ByteArray.size_append, ByteArray.size_extract, List.length_cons, List.length_nil, wrap64_eq]); omega) ?_)
      | fail)
    all_goals first | (exfalso; omega) | exact h0
  | inn ad n cap xs hn hc hcm hb hxx =>
    subst hn
    repeat' ((conv => whnf); first
      | (refine And.intro rfl ?_)
      | (refine And.intro (by decide +kernel) ?_)
      | (refine And.intro trivial ?_)
      | (refine Exists.intro _ (And.intro rfl (And.intro rfl (And.intro (Nat.le_of_ble_eq_true rfl) ?_))))
      | (refine Exists.intro _ (And.intro rfl (And.intro rfl (And.intro rfl (And.intro (Nat.le_of_ble_eq_true rfl) ?_)))))
      | (refine And.intro (Exists.intro _ (And.intro rfl rfl)) ?_)
      | (exact fun hW => absurd hW (by decide +kernel))
      | (intro hW; (try simp only [Bool.not_true, Bool.not_false, Bool.not_eq_true', Bool.not_eq_false', decide_eq_true_eq, decide_eq_false_iff_not, reduceCtorEq, Bool.true_eq_false, Bool.false_eq_true, mk_size, List.size_toArray, ByteArray.size_append, ByteArray.size_extract, List.length_cons, List.length_nil, ba_get, ba_empty, Int.toNat_natCast] at hW))
      | (refine And.intro (?_ : _ → _) (?_ : _ → _))
      | (refine FinR.drop 0 (Nat.zero_le _) (Closed.zero _) rfl ?_)
      | (refine FinR.keep ?_)
      | (refine And.intro (det3_agg rfl) ?_)
      | (refine fL_mk ?_)
      | (refine And.intro (by (try simp only [mk_size, List.size_toArray, ByteArray.size_append, ByteArray.size_extract, List.length_cons, List.length_nil]); omega) ?_)
      | (refine And.intro (by (try simp only [mk_size, List.size_toArray, ByteArray.size_append, ByteArray.size_extract, List.length_cons, List.length_nil, wrap64_eq]); omega) ?_)
      | fail)
    refine LoopR.live (fun y : Nat × Nat => [(0, .lit (.slice (some ad) xs.length cap)), (4, .sl 0 y.1 0 y.1 y.2), (10, .lit (.slice (some ad) xs.length cap)), (11, I xs.length), (12, I y.1)]) (fun y => [⟨lyC (xs.take y.1), y.1, 93, 2, true, true⟩]) (fun y => y.1 ≤ xs.length ∧ (xs.take y.1).all pOk = true) (fun y => xs.length - y.1) (0, 0) ⟨rfl, rfl, rfl, rfl, rfl, trivial⟩ (.keep rfl) ⟨Nat.zero_le _, rfl⟩ ?_
    rintro ⟨i, cp⟩ ⟨hi, hall⟩
    dsimp only at hi hall
    by_cases hlt : i < xs.length
    · obtain ⟨c0, c1, c2, c3, c4, c5, c6, c7, c8, hxi⟩ := row9 hx hlt
      have hld := ld9 hb hxx hxi rfl
      have hst := all_take hxi
      have hsn := take_snoc hxi
      have hlen : i * 2 = (lyC (xs.take i)).length := by rw [lyC_len, List.length_take, Nat.min_eq_left hi]
      cases hp : pOk [c0, c1, c2, c3, c4, c5, c6, c7, c8] with
      | true =>
        obtain ⟨n, u, v, hn, hu, hv, _, rfl, rfl, rfl, rfl, rfl, rfl, rfl, rfl, he⟩ := pr_parts hp
        have hpr : ∀ {W : World} {σ : List Blk} (K : Cont), K (U (pSet [c0, (rowN n 0 : Nat), (rowN n 1 : Nat), (rowN n 2 : Nat), (rowN n 3 : Nat), (rowN n 4 : Nat), (rowN n 5 : Nat), u, v] : Nat)) σ → ACall Try.prog W 90 [U n, I (v * 6 + u : Nat)] σ K := by
          intro W σ K hK
          refine d_pressed n (v * 6 + u) hn (by omega) K ?_
          rw [show (v * 6 + u) % 6 = u by omega, show (v * 6 + u) / 6 = v by omega]
          rw [he] at hK; exact hK
        repeat' ((conv => whnf); first
          | (refine And.intro rfl ?_)
          | (refine And.intro (by decide +kernel) ?_)
          | (refine And.intro trivial ?_)
          | (refine hld _ ?_)
          | (refine d_IsPrint (h0 := ?_) ..)
          | (refine Exists.intro _ (And.intro (fun τ => callW_fn (d_IsPrint (h0 := And.intro rfl rfl) ..)) ?_))
          | (refine Exists.intro _ (And.intro (callW_fn (d_IsPrint (h0 := And.intro rfl rfl) ..)) (And.intro trivial ?_)))
          | (refine Exists.intro _ (And.intro (callW_fn (d_IsPrint (h0 := And.intro rfl rfl) ..)) ?_))
          | (refine Exists.intro _ (And.intro (fun τ _ => callW_fn (d_IsPrint (h0 := And.intro rfl rfl) ..)) ?_))
          | (refine d_setOfN (n := n) (hn := hn) (h0 := ?_) ..)
          | (refine Exists.intro _ (And.intro (fun τ => callW_fn (d_setOfN (n := n) (hn := hn) (h0 := And.intro rfl rfl) ..)) ?_))
          | (refine Exists.intro _ (And.intro (callW_fn (d_setOfN (n := n) (hn := hn) (h0 := And.intro rfl rfl) ..)) (And.intro trivial ?_)))
          | (refine Exists.intro _ (And.intro (callW_fn (d_setOfN (n := n) (hn := hn) (h0 := And.intro rfl rfl) ..)) ?_))
          | (refine Exists.intro _ (And.intro (fun τ _ => callW_fn (d_setOfN (n := n) (hn := hn) (h0 := And.intro rfl rfl) ..)) ?_))
          | (refine d_number (hx := by omega) (hy := by omega) (h0 := ?_) ..)
          | (refine Exists.intro _ (And.intro (fun τ => callW_fn (d_number (hx := by omega) (hy := by omega) (h0 := And.intro rfl rfl) ..)) ?_))
          | (refine Exists.intro _ (And.intro (callW_fn (d_number (hx := by omega) (hy := by omega) (h0 := And.intro rfl rfl) ..)) (And.intro trivial ?_)))
          | (refine Exists.intro _ (And.intro (callW_fn (d_number (hx := by omega) (hy := by omega) (h0 := And.intro rfl rfl) ..)) ?_))
          | (refine Exists.intro _ (And.intro (fun τ _ => callW_fn (d_number (hx := by omega) (hy := by omega) (h0 := And.intro rfl rfl) ..)) ?_))
          | (refine Exists.intro _ (And.intro (callW_fn (hpr _ (And.intro rfl rfl))) ?_))
          | (refine Exists.intro _ (And.intro rfl (And.intro rfl (And.intro rfl (And.intro rfl (And.intro rfl (And.intro rfl (And.intro (by decide) (And.intro (by simp [hlen.symm]) (And.intro rfl (And.intro (by (try dsimp only); unfold maxLen; omega) (And.intro (by (try dsimp only); omega) (fun cap' hcap1 hcap2 => ?_)))))))))))))
          | (refine Exists.intro _ (And.intro rfl (And.intro rfl (And.intro (Nat.le_of_ble_eq_true rfl) ?_))))
          | (refine Exists.intro _ (And.intro rfl (And.intro rfl (And.intro rfl (And.intro (Nat.le_of_ble_eq_true rfl) ?_)))))
          | (refine And.intro (Exists.intro _ (And.intro rfl rfl)) ?_)
          | (exact fun hW => absurd hW (by decide +kernel))
          | (intro hW; (try simp only [Bool.not_true, Bool.not_false, Bool.not_eq_true', Bool.not_eq_false', decide_eq_true_eq, decide_eq_false_iff_not, reduceCtorEq, Bool.true_eq_false, Bool.false_eq_true, mk_size, List.size_toArray, ByteArray.size_append, ByteArray.size_extract, List.length_cons, List.length_nil, ba_get, ba_empty, Int.toNat_natCast] at hW))
          | (refine And.intro (?_ : _ → _) (?_ : _ → _))
          | (refine FinR.drop 0 (Nat.zero_le _) (Closed.zero _) rfl ?_)
          | (refine FinR.keep ?_)
          | (refine And.intro (det3_agg rfl) ?_)
          | (refine fL_mk ?_)
          | (refine And.intro (by (try simp only [mk_size, List.size_toArray, ByteArray.size_append, ByteArray.size_extract, List.length_cons, List.length_nil]); omega) ?_)
          | (refine And.intro (by (try simp only [mk_size, List.size_toArray, ByteArray.size_append, ByteArray.size_extract, List.length_cons, List.length_nil, wrap64_eq]); omega) ?_)
          | fail)
        all_goals first | (exfalso; omega) | (exfalso; simp_all; done) | skip
        refine Again.go (i + 1, _) ⟨rfl, rfl, rfl, rfl, slI' (wsucc' i (by omega)), trivial⟩ (.drop 1 (Nat.zero_le _) ?_ (closCons (belL 1 _) (closNil 1)) rfl) ⟨by dsimp only; omega, by dsimp only; rw [hst, hall, hp]; rfl⟩ (by dsimp only; omega)
        dsimp only
        rw [hsn, lyC_snoc]
        rfl
      | false =>
        have hf : xs.all pOk = false := by
          rw [Bool.eq_false_iff]; intro hc
          rw [List.all_eq_true.1 hc _ (List.mem_of_getElem? hxi)] at hp; cases hp
        have h0 := h2 hf
        repeat' ((conv => whnf); first
          | (refine And.intro rfl ?_)
          | (refine And.intro (by decide +kernel) ?_)
          | (refine And.intro trivial ?_)
          | (refine hld _ ?_)
          | (refine d_IsPrint (h0 := ?_) ..)
          | (refine Exists.intro _ (And.intro (fun τ => callW_fn (d_IsPrint (h0 := And.intro rfl rfl) ..)) ?_))
          | (refine Exists.intro _ (And.intro (callW_fn (d_IsPrint (h0 := And.intro rfl rfl) ..)) (And.intro trivial ?_)))
          | (refine Exists.intro _ (And.intro (callW_fn (d_IsPrint (h0 := And.intro rfl rfl) ..)) ?_))
          | (refine Exists.intro _ (And.intro (fun τ _ => callW_fn (d_IsPrint (h0 := And.intro rfl rfl) ..)) ?_))
          | (refine Exists.intro _ (And.intro rfl (And.intro rfl (And.intro (Nat.le_of_ble_eq_true rfl) ?_))))
          | (refine Exists.intro _ (And.intro rfl (And.intro rfl (And.intro rfl (And.intro (Nat.le_of_ble_eq_true rfl) ?_)))))
          | (refine And.intro (Exists.intro _ (And.intro rfl rfl)) ?_)
          | (exact fun hW => absurd hW (by decide +kernel))
          | (intro hW; (try simp only [Bool.not_true, Bool.not_false, Bool.not_eq_true', Bool.not_eq_false', decide_eq_true_eq, decide_eq_false_iff_not, reduceCtorEq, Bool.true_eq_false, Bool.false_eq_true, mk_size, List.size_toArray, ByteArray.size_append, ByteArray.size_extract, List.length_cons, List.length_nil, ba_get, ba_empty, Int.toNat_natCast] at hW))
          | (refine And.intro (?_ : _ → _) (?_ : _ → _))
          | (refine FinR.drop 0 (Nat.zero_le _) (Closed.zero _) rfl ?_)
          | (refine FinR.keep ?_)
          | (refine And.intro (det3_agg rfl) ?_)
          | (refine fL_mk ?_)
          | (refine And.intro (by (try simp only [mk_size, List.size_toArray, ByteArray.size_append, ByteArray.size_extract, List.length_cons, List.length_nil]); omega) ?_)
          | (refine And.intro (by (try simp only [mk_size, List.size_toArray, ByteArray.size_append, ByteArray.size_extract, List.length_cons, List.length_nil, wrap64_eq]); omega) ?_)
          | fail)
        all_goals first | (exfalso; omega) | (exfalso; simp_all; done) | exact h0
    · obtain rfl : i = xs.length := by omega
      rw [List.take_length] at hall ⊢
      have h0 := h1 hall cp
      have hf : decide ((xs.length : Int) ≤ 6) = decide (xs.length ≤ 6) := decide_eq_decide.2 (by omega)
      rw [← hf] at h0
      repeat' ((conv => whnf); first
        | (refine And.intro rfl ?_)
        | (refine And.intro (by decide +kernel) ?_)
        | (refine And.intro trivial ?_)
        | (refine Exists.intro _ (And.intro rfl (And.intro rfl (And.intro (Nat.le_of_ble_eq_true rfl) ?_))))
        | (refine Exists.intro _ (And.intro rfl (And.intro rfl (And.intro rfl (And.intro (Nat.le_of_ble_eq_true rfl) ?_)))))
        | (refine And.intro (Exists.intro _ (And.intro rfl rfl)) ?_)
        | (exact fun hW => absurd hW (by decide +kernel))
        | (intro hW; (try simp only [Bool.not_true, Bool.not_false, Bool.not_eq_true', Bool.not_eq_false', decide_eq_true_eq, decide_eq_false_iff_not, reduceCtorEq, Bool.true_eq_false, Bool.false_eq_true, mk_size, List.size_toArray, ByteArray.size_append, ByteArray.size_extract, List.length_cons, List.length_nil, ba_get, ba_empty, Int.toNat_natCast] at hW))
        | (refine And.intro (?_ : _ → _) (?_ : _ → _))
        | (refine FinR.drop 0 (Nat.zero_le _) (Closed.zero _) rfl ?_)
        | (refine FinR.keep ?_)
        | (refine And.intro (det3_agg rfl) ?_)
        | (refine fL_mk ?_)
        | (refine And.intro (by (try simp only [mk_size, List.size_toArray, ByteArray.size_append, ByteArray.size_extract, List.length_cons, List.length_nil]); omega) ?_)
        | (refine And.intro (by (try simp only [mk_size, List.size_toArray, ByteArray.size_append, ByteArray.size_extract, List.length_cons, List.length_nil, wrap64_eq]); omega) ?_)
        | fail)
      all_goals first | (exfalso; omega) | exact h0
  | own b ver off n cap B xs hB => simp at hB
theorem sh_lyC (k : Nat) (xs : List (List Int)) : (lyC xs).map (sh1 k) = lyC xs := by
  unfold lyC
  induction xs with
  | nil => rfl
  | cons x l ih => simp only [List.map_cons, List.flatten_cons, List.map_append, ih]; rfl
theorem d_layersOf (a : AV) (xs : List (List Int)) (ha : Sli W0 σ 9 enI a xs) (hx : ∀ x ∈ xs, x.length = 9) (hl : xs.length ≤ 1048576) (K : Cont)
    (h1 : xs.all pOk = true → ∀ cap, K (.tup [.sl σ.length xs.length 0 xs.length cap, Bo (decide (xs.length ≤ 6))]) (σ ++ [lyB xs])) (h2 : xs.all pOk = false → K (.tup [.lit (.slice none 0 0), Bo false]) σ) : ACall Try.prog W0 56 [a] σ K := by
  refine ACall.frameA (K0 := fun v σ' => (xs.all pOk = true ∧ ∃ cap, v = .tup [.sl 0 xs.length 0 xs.length cap, Bo (decide (xs.length ≤ 6))] ∧ σ' = [lyB xs]) ∨ (xs.all pOk = false ∧ v = .tup [.lit (.slice none 0 0), Bo false] ∧ σ' = [])) (by kernel_rfl) (fun W1 ι vs hh hr => ?_) ?_
  · obtain ⟨v1, vs', rfl, hr1, hr2⟩ := Rels.uncons hr
    obtain ⟨a', ha, hs'⟩ := ha.conc hh ⟨v1, hr1⟩
    obtain rfl := hr2.nil_inv
    exact ⟨[a'], Rels.cons (ha _ hr1) Rels.nil, c_layersOf a' xs hs' hx hl _ (fun h cap => .inl ⟨h, cap, rfl, rfl⟩) (fun h => .inr ⟨h, rfl, rfl⟩)⟩
  · rintro v σ' (⟨h, cap, rfl, rfl⟩ | ⟨h, rfl, rfl⟩)
    · have e : shB σ.length [lyB xs] = [lyB xs] := by simp [shB, lyB, sh_lyC]
      rw [e]; exact h1 h cap
    · have e : σ ++ shB σ.length [] = σ := by simp [shB]
      rw [e]; exact h2 h
end Go.Proofs.Ythncpkdhcfaflaa
end

section
/- Contracts: places of layers of which something is so. -/
set_option linter.unusedVariables false
set_option linter.unusedSimpArgs false
set_option maxRecDepth 100000
set_option maxHeartbeats 4000000
namespace Go.Proofs.Ythncpkdhcfaflaa
open Go Go.RowKit Go.Proofs.Ythncpkdhcfaflaa.Abs
variable {W0 : World} {σ : List Blk}
/-- the places at which something is so, rising; and those from the end on, falling -/
def selN (q : Nat → Bool) : Nat → List Int
  | 0 => []
  | n + 1 => selN q n ++ if q n then [(n : Int)] else []
theorem selN_succ (q : Nat → Bool) (n : Nat) : selN q (n + 1) = selN q n ++ if q n then [(n : Int)] else [] := rfl
theorem selN_len (q : Nat → Bool) : ∀ n, (selN q n).length ≤ n
  | 0 => Nat.le_refl _
  | n + 1 => by
    have := selN_len q n
    rw [selN_succ, List.length_append]; split <;> simp <;> omega
theorem lay_le {xs : List (List Int)} {i off s : Nat} (h : i < xs.length) (ho : off + s ≤ i * 2 + 2) : off + s ≤ (lyC xs).length := by rw [lyC_len]; omega
theorem listB_iff {xs : List (List Int)} : listB xs = true ↔ xs.length ≤ 6 ∧ xs.all pOk = true := by simp [listB]
end Go.Proofs.Ythncpkdhcfaflaa
end

section
/- Contracts: hidden and whole prints. -/
set_option linter.unusedVariables false
set_option linter.unusedSimpArgs false
set_option maxRecDepth 100000
set_option maxHeartbeats 4000000
namespace Go.Proofs.Ythncpkdhcfaflaa
open Go Go.RowKit Go.Proofs.Ythncpkdhcfaflaa.Abs
variable {W0 : World} {σ : List Blk}
theorem sh_I (k : Nat) (l : List Int) : (l.map I).map (sh1 k) = l.map I := by rw [List.map_map]; rfl
theorem lift_PS1 {α : Type} {enc : α → List Value} {g : FuncId} {b a : AV} {xs : List α} {s : Nat} {ι : Type} (r : ι → AV) (β : ι → List Blk) (hok : callOK Try.prog g = true) (hb : pure3 b = true) (hs : Sli W0 σ s enc a xs)
    (h : ∀ (W1 : World) (a' : AV), Sli W1 [] s enc a' xs → ∀ K : Cont, (∀ i, K (r i) (β i)) → ACall Try.prog W1 g [b, a'] [] K) (K : Cont) (h0 : ∀ i, K (sh3 σ.length (r i)) (σ ++ shB σ.length (β i))) : ACall Try.prog W0 g [b, a] σ K := by
  refine ACall.frameA (K0 := fun v σ' => ∃ i, v = r i ∧ σ' = β i) hok (fun W1 ι vs hh hrr => ?_) ?_
  · obtain ⟨v1, vs', rfl, hr1, hr2⟩ := Rels.uncons hrr
    obtain ⟨v2, vs'', rfl, hr3, hr4⟩ := Rels.uncons hr2
    obtain ⟨a', ha, hs'⟩ := hs.conc hh ⟨v2, hr3⟩
    obtain rfl := hr4.nil_inv
    exact ⟨[b, a'], Rels.cons (rel3_pure hb hr1) (Rels.cons (ha _ hr3) Rels.nil), h W1 a' hs' _ (fun i => ⟨i, rfl, rfl⟩)⟩
  · rintro v σ' ⟨i, rfl, rfl⟩; exact h0 i
abbrev outB (l : List Int) : Blk := ⟨l.map I, l.length, 3, 1, true, true⟩
abbrev nilA : AV := .lit (.slice none 0 0)
/-! the reference: what is seen of prints -/
def shR (n : Nat) : List Int := [(rowN n 0 : Nat), (rowN n 1 : Nat), (rowN n 2 : Nat), (rowN n 3 : Nat), (rowN n 4 : Nat), (rowN n 5 : Nat)]
abbrev z6 : List Int := [0, 0, 0, 0, 0, 0]
end Go.Proofs.Ythncpkdhcfaflaa
end

section
/- Contracts: the laws of hidden and whole prints. -/
set_option linter.unusedVariables false
set_option linter.unusedSimpArgs false
set_option maxRecDepth 100000
set_option maxHeartbeats 4000000
namespace Go.Proofs.Ythncpkdhcfaflaa
open Go Go.RowKit Go.Proofs.Ythncpkdhcfaflaa.Abs
variable {W0 : World} {σ : List Blk}
theorem sli_marks2 {b ver n cap : Nat} {B : Blk} {k : Int} (hB : σ[b]? = some (mB B k n)) (hv : B.ver = ver) : Sli W0 σ 1 en1 (.sl b ver 0 n cap) (marks k n) := by
  have h := sli_marks (W0 := W0) (σ := σ) (n := n) (cap := cap) (B := mB B k n) (k := k) hB hv
  refine .own b ver 0 _ cap _ _ hB hv (marks_len k n).symm fun i x hi j v hj => ?_
  have hlt : i < n := by have := getElem?_lt hi; rwa [marks_len] at this
  cases j with
  | zero =>
    simp only [List.getElem?_cons_zero, Option.some.injEq] at hj
    subst hj
    show ((marks k n).map I ++ B.cells.drop n)[0 + i * 1 + 0]? = _
    rw [show 0 + i * 1 + 0 = i by omega, List.getElem?_append_left (by rw [List.length_map, marks_len]; exact hlt), List.getElem?_map, hi]; rfl
  | succ j => simp at hj
abbrev prB (xs : List (List Int)) : Blk := ⟨jc xs, 0, 83, 9, true, true⟩
theorem jc_len9 {xs : List (List Int)} (hx : ∀ x ∈ xs, x.length = 9) : xs.length * 9 ≤ (prB xs).cells.length := by rw [jc_len (s := 9) hx]; exact Nat.le_refl _
end Go.Proofs.Ythncpkdhcfaflaa
end

section
/- Contracts: prints that overlap. -/
set_option linter.unusedVariables false
set_option linter.unusedSimpArgs false
set_option maxRecDepth 100000
set_option maxHeartbeats 4000000
namespace Go.Proofs.Ythncpkdhcfaflaa
open Go Go.RowKit Go.Proofs.Ythncpkdhcfaflaa.Abs
variable {W0 : World} {σ : List Blk}
/-- pairs of places -/
def inn (q : Nat → Nat → Bool) (i : Nat) : Nat → List (List Int)
  | 0 => []
  | m + 1 => inn q i m ++ if q i (i + 1 + m) then [[(i : Int), ((i + 1 + m : Nat) : Int)]] else []
abbrev prsB (l : List (List Int)) : Blk := ⟨jc l, l.length, 81, 2, true, true⟩
end Go.Proofs.Ythncpkdhcfaflaa
end

section
/- Contracts: pictures. -/
set_option linter.unusedVariables false
set_option linter.unusedSimpArgs false
set_option maxRecDepth 100000
set_option maxHeartbeats 4000000
namespace Go.Proofs.Ythncpkdhcfaflaa
open Go Go.RowKit Go.Proofs.Ythncpkdhcfaflaa.Abs
variable {W0 : World} {σ : List Blk}
abbrev Pi (q : List Int) : AV := .agg (q.map I)
theorem pureI (q : List Int) : pure3 (Pi q) = true := by
  show (q.map I).all _ = true
  rw [List.all_map]; exact List.all_eq_true.2 fun _ _ => rfl
theorem sh_Pi (k : Nat) (q : List Int) : sh3 k (Pi q) = Pi q := by show AV.agg ((q.map I).map (sh1 k)) = _; rw [sh_I]
theorem pic_le {q : List Int} (hq : q.length = 36) {off : Nat} (ho : off = 0) : off + 36 ≤ (q.map I).length := by rw [List.length_map]; omega
theorem pic_len {q : List Int} (hq : q.length = 36) : (q.map I).length = 36 := by rw [List.length_map]; exact hq
theorem pic_ld {q : List Int} (hq : q.length = 36) (off : Nat) (ho : off = 0) : mkAV true (((q.map I).drop off).take 36) = Pi q := by
  subst ho
  show AV.agg (((q.map I).drop 0).take 36) = _
  rw [List.drop_zero, List.take_of_length_le (by rw [pic_len hq]; exact Nat.le_refl _)]
theorem pic_res {q : List Int} (hq : q.length = 36) (Z : List AV) : mkAV true (((Z.take 0 ++ q.map I ++ Z.drop (0 + 36)).drop 0).take 36) = Pi q := by
  show AV.agg _ = _
  rw [List.take_zero, List.nil_append, List.drop_zero, List.take_left' (pic_len hq)]
theorem pic_rle {q : List Int} (hq : q.length = 36) (Z : List AV) : 0 + 36 ≤ (Z.take 0 ++ q.map I ++ Z.drop (0 + 36)).length := by
  rw [List.length_append, List.length_append, pic_len hq]; omega
theorem cell_le {q : List Int} {off : Nat} (h : off < q.length) : off + 1 ≤ (q.map I).length := by rw [List.length_map]; omega
theorem cell_ld {q : List Int} {off : Nat} (h : off < q.length) : mkAV false (((q.map I).drop off).take 1) = I (q.getD off 0) := by
  rw [← List.map_drop, ← List.map_take, List.drop_eq_getElem_cons h, List.getD_eq_getElem?_getD, List.getElem?_eq_getElem h]; rfl
theorem cell_st {q : List Int} {off : Nat} (v : Int) (h : off < q.length) : (q.map I).take off ++ [I v] ++ (q.map I).drop (off + 1) = (q.set off v).map I := by
  rw [List.set_eq_take_append_cons_drop, if_pos h, List.map_append, List.map_cons, List.map_take, List.map_drop, List.append_assoc]; rfl
theorem row_ld {q : List Int} {i : Nat} (h : i * 6 + 6 ≤ q.length) : ∃ a b c d e f, (q.drop (i * 6)).take 6 = [a, b, c, d, e, f] := by
  have : ((q.drop (i * 6)).take 6).length = 6 := by rw [List.length_take, List.length_drop]; omega
  match hh : (q.drop (i * 6)).take 6, this with
  | [a, b, c, d, e, f], _ => exact ⟨a, b, c, d, e, f, rfl⟩
theorem row_mk {q : List Int} {i off : Nat} {a b c d e f : Int} (h : (q.drop (i * 6)).take 6 = [a, b, c, d, e, f]) (ho : off = i * 6) : mkAV true (((q.map I).drop off).take 6) = Sh a b c d e f := by
  subst ho
  rw [← List.map_drop, ← List.map_take, h]; rfl
/-- a picture of which the first rows are there -/
def cpy (q : List Int) (i : Nat) : List Int := q.take (i * 6) ++ List.replicate (36 - i * 6) 0
theorem cpy_len {q : List Int} (hq : q.length = 36) {i : Nat} (hi : i ≤ 6) : (cpy q i).length = 36 := by
  rw [cpy, List.length_append, List.length_take, List.length_replicate]; omega
theorem cpy_end {q : List Int} (hq : q.length = 36) : cpy q 6 = q := by
  simp [cpy, List.take_of_length_le (Nat.le_of_eq hq)]
theorem cpy_step {q : List Int} (hq : q.length = 36) {i : Nat} (hi : i < 6) {a b c d e f : Int} (h : (q.drop (i * 6)).take 6 = [a, b, c, d, e, f]) (off : Nat) (ho : off = i * 6) :
    ((cpy q i).map I).take off ++ [I a, I b, I c, I d, I e, I f] ++ ((cpy q i).map I).drop (off + 6) = (cpy q (i + 1)).map I := by
  subst ho
  have hl : (q.take (i * 6)).length = i * 6 := by rw [List.length_take]; omega
  have e1 : (cpy q i).take (i * 6) = q.take (i * 6) := by rw [cpy, List.take_left' hl]
  have e2 : (cpy q i).drop (i * 6 + 6) = List.replicate (36 - (i + 1) * 6) 0 := by
    rw [cpy, ← List.drop_drop, List.drop_left' hl, List.drop_replicate]; congr 1; omega
  have e3 : q.take ((i + 1) * 6) = q.take (i * 6) ++ [a, b, c, d, e, f] := by
    rw [Nat.add_mul, List.take_add, h]
  rw [← List.map_take, ← List.map_drop, e1, e2, cpy, e3]
  simp
def bQ (q : List Int) (e : TypeId) : Blk := ⟨q.map I, 0, e, 0, false, false⟩
abbrev z36 : List Int := List.replicate 36 0
theorem belPi (k : Nat) (q : List Int) : bel3 k (Pi q) = true := belI k q
theorem c_toIntA6A6 (q : List Int) (hq : q.length = 36) (K : Cont) (h0 : K (Pi q) []) : ACall Try.prog W0 65 [Pi q] [] K := by
  refine by65 (Nat.le_of_ble_eq_true rfl) ?_
  repeat' ((conv => whnf); first
    | (refine And.intro rfl ?_)
    | (refine And.intro (by decide +kernel) ?_)
    | (refine And.intro trivial ?_)
    | (refine Exists.intro _ (And.intro rfl (And.intro rfl (And.intro (Nat.le_of_ble_eq_true rfl) ?_))))
    | (refine Exists.intro _ (And.intro rfl (And.intro rfl (And.intro rfl (And.intro (Nat.le_of_ble_eq_true rfl) ?_)))))
    | (refine And.intro (Exists.intro _ (And.intro rfl rfl)) ?_)
    | (exact fun hW => absurd hW (by decide +kernel))
    | (intro hW; (try simp only [Bool.not_true, Bool.not_false, Bool.not_eq_true', Bool.not_eq_false', decide_eq_true_eq, decide_eq_false_iff_not, reduceCtorEq, Bool.true_eq_false, Bool.false_eq_true, mk_size, List.size_toArray, ByteArray.size_append, ByteArray.size_extract, List.length_cons, List.length_nil, ba_get, ba_empty, Int.toNat_natCast] at hW))
    | (refine And.intro (?_ : _ → _) (?_ : _ → _))
    | (refine FinR.drop 0 (Nat.zero_le _) (Closed.zero _) rfl ?_)
    | (refine FinR.keep ?_)
    | (refine And.intro (det3_agg rfl) ?_)
    | (refine fL_mk ?_)
    | (refine And.intro (by (try simp only [mk_size, List.size_toArray, ByteArray.size_append, ByteArray.size_extract, List.length_cons, List.length_nil]); omega) ?_)
    | (refine And.intro (by (try simp only [mk_size, List.size_toArray, ByteArray.size_append, ByteArray.size_extract, List.length_cons, List.length_nil, wrap64_eq]); omega) ?_)
    | fail)
  refine LoopR.live (fun i : Nat => [(1, .ptr 0 0 0), (2, .ptr 1 0 0), (3, .ptr 2 0 0), (4, I i)]) (fun i => [bQ q 40, bQ z36 40, bQ (cpy q i) 40]) (fun i => i ≤ 6) (fun i => 6 - i) 0 ⟨rfl, rfl, rfl, rfl, trivial⟩ (.keep rfl) (Nat.zero_le _) ?_
  intro i hi
  by_cases hlt : i < 6
  · obtain ⟨a, b, c, d, e, f, hr⟩ := row_ld (q := q) (i := i) (by omega)
    have hle : ∀ off, off = i * 6 → off + 6 ≤ (q.map I).length := fun off ho => by rw [pic_len hq]; omega
    have hle2 : ∀ off, off = i * 6 → off + 6 ≤ ((cpy q i).map I).length := fun off ho => by rw [pic_len (cpy_len hq hi)]; omega
    have hst := cpy_step hq hlt hr (0 + ((i : Nat) : Int).toNat * 6) (by rw [Int.toNat_natCast]; omega)
    repeat' ((conv => whnf); first
      | (refine Exists.intro (bQ q 40) (And.intro rfl (And.intro rfl (And.intro (hle _ (by rw [Int.toNat_natCast]; omega)) ?_))); show _; rw [show (bQ q 40).cells = q.map I from rfl, row_mk hr (by rw [Int.toNat_natCast]; omega)])
      | (refine Exists.intro (bQ (cpy q i) 40) (And.intro rfl (And.intro rfl (And.intro rfl (And.intro (hle2 _ (by rw [Int.toNat_natCast]; omega)) ?_)))))
      | (refine And.intro rfl ?_)
      | (refine And.intro (by decide +kernel) ?_)
      | (refine And.intro trivial ?_)
      | (refine d_toIntA6 (h0 := ?_) ..)
      | (refine Exists.intro _ (And.intro (fun τ => callW_fn (d_toIntA6 (h0 := And.intro rfl rfl) ..)) ?_))
      | (refine Exists.intro _ (And.intro (callW_fn (d_toIntA6 (h0 := And.intro rfl rfl) ..)) (And.intro trivial ?_)))
      | (refine Exists.intro _ (And.intro (callW_fn (d_toIntA6 (h0 := And.intro rfl rfl) ..)) ?_))
      | (refine Exists.intro _ (And.intro (fun τ _ => callW_fn (d_toIntA6 (h0 := And.intro rfl rfl) ..)) ?_))
      | (refine Exists.intro _ (And.intro rfl (And.intro rfl (And.intro (Nat.le_of_ble_eq_true rfl) ?_))))
      | (refine Exists.intro _ (And.intro rfl (And.intro rfl (And.intro rfl (And.intro (Nat.le_of_ble_eq_true rfl) ?_)))))
      | (refine And.intro (Exists.intro _ (And.intro rfl rfl)) ?_)
      | (exact fun hW => absurd hW (by decide +kernel))
      | (intro hW; (try simp only [Bool.not_true, Bool.not_false, Bool.not_eq_true', Bool.not_eq_false', decide_eq_true_eq, decide_eq_false_iff_not, reduceCtorEq, Bool.true_eq_false, Bool.false_eq_true, mk_size, List.size_toArray, ByteArray.size_append, ByteArray.size_extract, List.length_cons, List.length_nil, ba_get, ba_empty, Int.toNat_natCast] at hW))
      | (refine And.intro (?_ : _ → _) (?_ : _ → _))
      | (refine FinR.drop 0 (Nat.zero_le _) (Closed.zero _) rfl ?_)
      | (refine FinR.keep ?_)
      | (refine And.intro (det3_agg rfl) ?_)
      | (refine fL_mk ?_)
      | (refine And.intro (by (try simp only [mk_size, List.size_toArray, ByteArray.size_append, ByteArray.size_extract, List.length_cons, List.length_nil]); omega) ?_)
      | (refine And.intro (by (try simp only [mk_size, List.size_toArray, ByteArray.size_append, ByteArray.size_extract, List.length_cons, List.length_nil, wrap64_eq]); omega) ?_)
      | fail)
    all_goals first | (exfalso; omega) | skip
    refine Again.go (i + 1) ⟨rfl, rfl, rfl, slI' (wsucc' i (by omega)), trivial⟩ (.keep ?_) (by omega) (by omega)
    dsimp only [bQ]
    rw [← hst]
    rfl
  · obtain rfl : i = 6 := by omega
    rw [cpy_end hq]
    repeat' ((conv => whnf); first
      | (refine Exists.intro (bQ q 40) (And.intro rfl (And.intro rfl (And.intro (pic_le hq rfl) ?_))); rw [show (bQ q 40).cells = q.map I from rfl, pic_ld hq _ rfl])
      | (refine Exists.intro _ (And.intro rfl (And.intro rfl (And.intro (pic_len hq) (And.intro (Nat.le_of_ble_eq_true rfl) ?_)))))
      | (refine Exists.intro _ (And.intro rfl (And.intro rfl (And.intro (pic_rle hq _) ?_))); rw [pic_res hq _])
      | (refine FinR.drop 0 (Nat.zero_le _) (Closed.zero _) (belPi 0 _) ?_)
      | (refine And.intro rfl ?_)
      | (refine And.intro (by decide +kernel) ?_)
      | (refine And.intro trivial ?_)
      | (refine Exists.intro _ (And.intro rfl (And.intro rfl (And.intro (Nat.le_of_ble_eq_true rfl) ?_))))
      | (refine Exists.intro _ (And.intro rfl (And.intro rfl (And.intro rfl (And.intro (Nat.le_of_ble_eq_true rfl) ?_)))))
      | (refine And.intro (Exists.intro _ (And.intro rfl rfl)) ?_)
      | (exact fun hW => absurd hW (by decide +kernel))
      | (intro hW; (try simp only [Bool.not_true, Bool.not_false, Bool.not_eq_true', Bool.not_eq_false', decide_eq_true_eq, decide_eq_false_iff_not, reduceCtorEq, Bool.true_eq_false, Bool.false_eq_true, mk_size, List.size_toArray, ByteArray.size_append, ByteArray.size_extract, List.length_cons, List.length_nil, ba_get, ba_empty, Int.toNat_natCast] at hW))
      | (refine And.intro (?_ : _ → _) (?_ : _ → _))
      | (refine FinR.drop 0 (Nat.zero_le _) (Closed.zero _) rfl ?_)
      | (refine FinR.keep ?_)
      | (refine And.intro (det3_agg rfl) ?_)
      | (refine fL_mk ?_)
      | (refine And.intro (by (try simp only [mk_size, List.size_toArray, ByteArray.size_append, ByteArray.size_extract, List.length_cons, List.length_nil]); omega) ?_)
      | (refine And.intro (by (try simp only [mk_size, List.size_toArray, ByteArray.size_append, ByteArray.size_extract, List.length_cons, List.length_nil, wrap64_eq]); omega) ?_)
      | fail)
    all_goals first | (exfalso; omega) | exact h0
theorem d_toIntA6A6 (q : List Int) (hq : q.length = 36) (K : Cont) (h0 : K (Pi q) σ) : ACall Try.prog W0 65 [Pi q] σ K :=
  ACall.lift (by rw [List.all_cons, pureI]; rfl) (fun k => sh_Pi k q) (fun W1 K _ hK => c_toIntA6A6 q hq K hK) h0
theorem c_toPicture (q : List Int) (hq : q.length = 36) (K : Cont) (h0 : K (Pi q) []) : ACall Try.prog W0 30 [Pi q] [] K := by
  refine by30 (Nat.le_of_ble_eq_true rfl) ?_
  repeat' ((conv => whnf); first
    | (refine Exists.intro _ (And.intro rfl (And.intro rfl (And.intro (pic_le hq rfl) ?_))); rw [pic_ld hq _ rfl])
    | (refine Exists.intro _ (And.intro rfl (And.intro rfl (And.intro (pic_len hq) (And.intro (Nat.le_of_ble_eq_true rfl) ?_)))))
    | (refine Exists.intro _ (And.intro rfl (And.intro rfl (And.intro (pic_rle hq _) ?_))); rw [pic_res hq _])
    | (refine FinR.drop 0 (Nat.zero_le _) (Closed.zero _) (belPi 0 _) ?_)
    | (refine And.intro rfl ?_)
    | (refine And.intro (by decide +kernel) ?_)
    | (refine And.intro trivial ?_)
    | (refine d_toIntA6A6 (hq := hq) (h0 := ?_) ..)
    | (refine Exists.intro _ (And.intro rfl (And.intro rfl (And.intro (Nat.le_of_ble_eq_true rfl) ?_))))
    | (refine Exists.intro _ (And.intro rfl (And.intro rfl (And.intro rfl (And.intro (Nat.le_of_ble_eq_true rfl) ?_)))))
    | (refine And.intro (Exists.intro _ (And.intro rfl rfl)) ?_)
    | (exact fun hW => absurd hW (by decide +kernel))
    | (intro hW; (try simp only [Bool.not_true, Bool.not_false, Bool.not_eq_true', Bool.not_eq_false', decide_eq_true_eq, decide_eq_false_iff_not, reduceCtorEq, Bool.true_eq_false, Bool.false_eq_true, mk_size, List.size_toArray, ByteArray.size_append, ByteArray.size_extract, List.length_cons, List.length_nil, ba_get, ba_empty, Int.toNat_natCast] at hW))
    | (refine And.intro (?_ : _ → _) (?_ : _ → _))
    | (refine FinR.drop 0 (Nat.zero_le _) (Closed.zero _) rfl ?_)
    | (refine FinR.keep ?_)
    | (refine And.intro (det3_agg rfl) ?_)
    | (refine fL_mk ?_)
    | (refine And.intro (by (try simp only [mk_size, List.size_toArray, ByteArray.size_append, ByteArray.size_extract, List.length_cons, List.length_nil]); omega) ?_)
    | (refine And.intro (by (try simp only [mk_size, List.size_toArray, ByteArray.size_append, ByteArray.size_extract, List.length_cons, List.length_nil, wrap64_eq]); omega) ?_)
    | fail)
  all_goals exact h0
theorem d_toPicture (q : List Int) (hq : q.length = 36) (K : Cont) (h0 : K (Pi q) σ) : ACall Try.prog W0 30 [Pi q] σ K :=
  ACall.lift (by rw [List.all_cons, pureI]; rfl) (fun k => sh_Pi k q) (fun W1 K _ hK => c_toPicture q hq K hK) h0
/-- a valid picture -/
def picB (q : List Int) : Bool := q.all fun x => inB x 0 4
theorem picB_take {q : List Int} {k : Nat} {x : Int} (h : q[k]? = some x) : picB (q.take (k + 1)) = (picB (q.take k) && inB x 0 4) := by
  rw [picB, take_snoc h, List.all_append]; simp [picB]
theorem picB_bad {q : List Int} {k : Nat} {x : Int} (h : q[k]? = some x) (hx : inB x 0 4 = false) : picB q = false := by
  rw [Bool.eq_false_iff]; intro hc
  rw [List.all_eq_true.1 hc x (List.mem_of_getElem? h)] at hx; cases hx
theorem getD_at {q : List Int} {k : Nat} {x : Int} (h : q[k]? = some x) : q.getD k 0 = x := by rw [List.getD_eq_getElem?_getD, h]; rfl
theorem c_l8Picture (q : List Int) (hq : q.length = 36) (K : Cont) (h0 : K (Bo (picB q)) []) : ACall Try.prog W0 63 [Pi q] [] K := by
  refine by63 (Nat.le_of_ble_eq_true rfl) ?_
  repeat' ((conv => whnf); first
    | (refine And.intro rfl ?_)
    | (refine And.intro (by decide +kernel) ?_)
    | (refine And.intro trivial ?_)
    | (refine Exists.intro _ (And.intro rfl (And.intro rfl (And.intro (Nat.le_of_ble_eq_true rfl) ?_))))
    | (refine Exists.intro _ (And.intro rfl (And.intro rfl (And.intro rfl (And.intro (Nat.le_of_ble_eq_true rfl) ?_)))))
    | (refine And.intro (Exists.intro _ (And.intro rfl rfl)) ?_)
    | (exact fun hW => absurd hW (by decide +kernel))
    | (intro hW; (try simp only [Bool.not_true, Bool.not_false, Bool.not_eq_true', Bool.not_eq_false', decide_eq_true_eq, decide_eq_false_iff_not, reduceCtorEq, Bool.true_eq_false, Bool.false_eq_true, mk_size, List.size_toArray, ByteArray.size_append, ByteArray.size_extract, List.length_cons, List.length_nil, ba_get, ba_empty, Int.toNat_natCast] at hW))
    | (refine And.intro (?_ : _ → _) (?_ : _ → _))
    | (refine FinR.drop 0 (Nat.zero_le _) (Closed.zero _) rfl ?_)
    | (refine FinR.keep ?_)
    | (refine And.intro (det3_agg rfl) ?_)
    | (refine fL_mk ?_)
    | (refine And.intro (by (try simp only [mk_size, List.size_toArray, ByteArray.size_append, ByteArray.size_extract, List.length_cons, List.length_nil]); omega) ?_)
    | (refine And.intro (by (try simp only [mk_size, List.size_toArray, ByteArray.size_append, ByteArray.size_extract, List.length_cons, List.length_nil, wrap64_eq]); omega) ?_)
    | fail)
  refine LoopR.live (fun y : Nat => [(1, .ptr 0 0 0), (3, I y)]) (fun y => [bQ q 44]) (fun y => y ≤ 6 ∧ picB (q.take (y * 6)) = true) (fun y => 6 - y) 0 ⟨rfl, rfl, trivial⟩ (.keep rfl) ⟨Nat.zero_le _, rfl⟩ ?_
  rintro y ⟨hy, hall⟩
  by_cases hlt : y < 6
  · skip
    repeat' ((conv => whnf); first
      | (refine And.intro rfl ?_)
      | (refine And.intro (by decide +kernel) ?_)
      | (refine And.intro trivial ?_)
      | (refine Exists.intro _ (And.intro rfl (And.intro rfl (And.intro (Nat.le_of_ble_eq_true rfl) ?_))))
      | (refine Exists.intro _ (And.intro rfl (And.intro rfl (And.intro rfl (And.intro (Nat.le_of_ble_eq_true rfl) ?_)))))
      | (refine And.intro (Exists.intro _ (And.intro rfl rfl)) ?_)
      | (exact fun hW => absurd hW (by decide +kernel))
      | (intro hW; (try simp only [Bool.not_true, Bool.not_false, Bool.not_eq_true', Bool.not_eq_false', decide_eq_true_eq, decide_eq_false_iff_not, reduceCtorEq, Bool.true_eq_false, Bool.false_eq_true, mk_size, List.size_toArray, ByteArray.size_append, ByteArray.size_extract, List.length_cons, List.length_nil, ba_get, ba_empty, Int.toNat_natCast] at hW))
      | (refine And.intro (?_ : _ → _) (?_ : _ → _))
      | (refine FinR.drop 0 (Nat.zero_le _) (Closed.zero _) rfl ?_)
      | (refine FinR.keep ?_)
      | (refine And.intro (det3_agg rfl) ?_)
      | (refine fL_mk ?_)
      | (refine And.intro (by (try simp only [mk_size, List.size_toArray, ByteArray.size_append, ByteArray.size_extract, List.length_cons, List.length_nil]); omega) ?_)
      | (refine And.intro (by (try simp only [mk_size, List.size_toArray, ByteArray.size_append, ByteArray.size_extract, List.length_cons, List.length_nil, wrap64_eq]); omega) ?_)
      | fail)
    all_goals first | (exfalso; omega) | skip
    refine LoopR.live (fun x : Nat => [(1, .ptr 0 0 0), (3, I y), (4, I x)]) (fun x => [bQ q 44]) (fun x => x ≤ 6 ∧ picB (q.take (y * 6 + x)) = true) (fun x => 6 - x) 0 ⟨rfl, rfl, rfl, trivial⟩ (.keep rfl) ⟨Nat.zero_le _, hall⟩ ?_
    rintro x ⟨hx, hall2⟩
    by_cases hlt2 : x < 6
    · obtain ⟨v, hv⟩ : ∃ v, q[y * 6 + x]? = some v := ⟨_, List.getElem?_eq_getElem (by omega)⟩
      have hle : ∀ off, off = y * 6 + x → off + 1 ≤ (q.map I).length := fun off ho => cell_le (by omega)
      have hce : ∀ off, off = y * 6 + x → mkAV false (((q.map I).drop off).take 1) = I v := fun off ho => by subst ho; rw [cell_ld (by omega), getD_at hv]
      cases hb : inB v 0 4 with
      | true =>
        repeat' ((conv => whnf); first
          | (refine Exists.intro (bQ q 44) (And.intro rfl (And.intro rfl (And.intro (hle _ (by simp only [Int.toNat_natCast]; omega)) ?_))); rw [show (bQ q 44).cells = q.map I from rfl, hce _ (by simp only [Int.toNat_natCast]; omega)])
          | (refine And.intro rfl ?_)
          | (refine And.intro (by decide +kernel) ?_)
          | (refine And.intro trivial ?_)
          | (refine d_l1In (h0 := ?_) ..)
          | (refine Exists.intro _ (And.intro (fun τ => callW_fn (d_l1In (h0 := And.intro rfl rfl) ..)) ?_))
          | (refine Exists.intro _ (And.intro (callW_fn (d_l1In (h0 := And.intro rfl rfl) ..)) (And.intro trivial ?_)))
          | (refine Exists.intro _ (And.intro (callW_fn (d_l1In (h0 := And.intro rfl rfl) ..)) ?_))
          | (refine Exists.intro _ (And.intro (fun τ _ => callW_fn (d_l1In (h0 := And.intro rfl rfl) ..)) ?_))
          | (refine Exists.intro _ (And.intro rfl (And.intro rfl (And.intro (Nat.le_of_ble_eq_true rfl) ?_))))
          | (refine Exists.intro _ (And.intro rfl (And.intro rfl (And.intro rfl (And.intro (Nat.le_of_ble_eq_true rfl) ?_)))))
          | (refine And.intro (Exists.intro _ (And.intro rfl rfl)) ?_)
          | (exact fun hW => absurd hW (by decide +kernel))
          | (intro hW; (try simp only [Bool.not_true, Bool.not_false, Bool.not_eq_true', Bool.not_eq_false', decide_eq_true_eq, decide_eq_false_iff_not, reduceCtorEq, Bool.true_eq_false, Bool.false_eq_true, mk_size, List.size_toArray, ByteArray.size_append, ByteArray.size_extract, List.length_cons, List.length_nil, ba_get, ba_empty, Int.toNat_natCast] at hW))
          | (refine And.intro (?_ : _ → _) (?_ : _ → _))
          | (refine FinR.drop 0 (Nat.zero_le _) (Closed.zero _) rfl ?_)
          | (refine FinR.keep ?_)
          | (refine And.intro (det3_agg rfl) ?_)
          | (refine fL_mk ?_)
          | (refine And.intro (by (try simp only [mk_size, List.size_toArray, ByteArray.size_append, ByteArray.size_extract, List.length_cons, List.length_nil]); omega) ?_)
          | (refine And.intro (by (try simp only [mk_size, List.size_toArray, ByteArray.size_append, ByteArray.size_extract, List.length_cons, List.length_nil, wrap64_eq]); omega) ?_)
          | fail)
        all_goals first | (exfalso; omega) | (exfalso; simp_all; done) | skip
        exact Again.go (x + 1) ⟨rfl, rfl, slI' (wsucc' x (by omega)), trivial⟩ (.keep rfl) ⟨by omega, by rw [← Nat.add_assoc, picB_take hv, hall2, hb]; rfl⟩ (by omega)
      | false =>
        rw [picB_bad hv hb] at h0
        repeat' ((conv => whnf); first
          | (refine Exists.intro (bQ q 44) (And.intro rfl (And.intro rfl (And.intro (hle _ (by simp only [Int.toNat_natCast]; omega)) ?_))); rw [show (bQ q 44).cells = q.map I from rfl, hce _ (by simp only [Int.toNat_natCast]; omega)])
          | (refine And.intro rfl ?_)
          | (refine And.intro (by decide +kernel) ?_)
          | (refine And.intro trivial ?_)
          | (refine d_l1In (h0 := ?_) ..)
          | (refine Exists.intro _ (And.intro (fun τ => callW_fn (d_l1In (h0 := And.intro rfl rfl) ..)) ?_))
          | (refine Exists.intro _ (And.intro (callW_fn (d_l1In (h0 := And.intro rfl rfl) ..)) (And.intro trivial ?_)))
          | (refine Exists.intro _ (And.intro (callW_fn (d_l1In (h0 := And.intro rfl rfl) ..)) ?_))
          | (refine Exists.intro _ (And.intro (fun τ _ => callW_fn (d_l1In (h0 := And.intro rfl rfl) ..)) ?_))
          | (refine Exists.intro _ (And.intro rfl (And.intro rfl (And.intro (Nat.le_of_ble_eq_true rfl) ?_))))
          | (refine Exists.intro _ (And.intro rfl (And.intro rfl (And.intro rfl (And.intro (Nat.le_of_ble_eq_true rfl) ?_)))))
          | (refine And.intro (Exists.intro _ (And.intro rfl rfl)) ?_)
          | (exact fun hW => absurd hW (by decide +kernel))
          | (intro hW; (try simp only [Bool.not_true, Bool.not_false, Bool.not_eq_true', Bool.not_eq_false', decide_eq_true_eq, decide_eq_false_iff_not, reduceCtorEq, Bool.true_eq_false, Bool.false_eq_true, mk_size, List.size_toArray, ByteArray.size_append, ByteArray.size_extract, List.length_cons, List.length_nil, ba_get, ba_empty, Int.toNat_natCast] at hW))
          | (refine And.intro (?_ : _ → _) (?_ : _ → _))
          | (refine FinR.drop 0 (Nat.zero_le _) (Closed.zero _) rfl ?_)
          | (refine FinR.keep ?_)
          | (refine And.intro (det3_agg rfl) ?_)
          | (refine fL_mk ?_)
          | (refine And.intro (by (try simp only [mk_size, List.size_toArray, ByteArray.size_append, ByteArray.size_extract, List.length_cons, List.length_nil]); omega) ?_)
          | (refine And.intro (by (try simp only [mk_size, List.size_toArray, ByteArray.size_append, ByteArray.size_extract, List.length_cons, List.length_nil, wrap64_eq]); omega) ?_)
          | fail)
        all_goals first | (exfalso; omega) | (exfalso; simp_all; done) | exact h0
    · obtain rfl : x = 6 := by omega
      repeat' ((conv => whnf); first
        | (refine And.intro rfl ?_)
        | (refine And.intro (by decide +kernel) ?_)
        | (refine And.intro trivial ?_)
        | (refine Exists.intro _ (And.intro rfl (And.intro rfl (And.intro (Nat.le_of_ble_eq_true rfl) ?_))))
        | (refine Exists.intro _ (And.intro rfl (And.intro rfl (And.intro rfl (And.intro (Nat.le_of_ble_eq_true rfl) ?_)))))
        | (refine And.intro (Exists.intro _ (And.intro rfl rfl)) ?_)
        | (exact fun hW => absurd hW (by decide +kernel))
        | (intro hW; (try simp only [Bool.not_true, Bool.not_false, Bool.not_eq_true', Bool.not_eq_false', decide_eq_true_eq, decide_eq_false_iff_not, reduceCtorEq, Bool.true_eq_false, Bool.false_eq_true, mk_size, List.size_toArray, ByteArray.size_append, ByteArray.size_extract, List.length_cons, List.length_nil, ba_get, ba_empty, Int.toNat_natCast] at hW))
        | (refine And.intro (?_ : _ → _) (?_ : _ → _))
        | (refine FinR.drop 0 (Nat.zero_le _) (Closed.zero _) rfl ?_)
        | (refine FinR.keep ?_)
        | (refine And.intro (det3_agg rfl) ?_)
        | (refine fL_mk ?_)
        | (refine And.intro (by (try simp only [mk_size, List.size_toArray, ByteArray.size_append, ByteArray.size_extract, List.length_cons, List.length_nil]); omega) ?_)
        | (refine And.intro (by (try simp only [mk_size, List.size_toArray, ByteArray.size_append, ByteArray.size_extract, List.length_cons, List.length_nil, wrap64_eq]); omega) ?_)
        | fail)
      all_goals first | (exfalso; omega) | skip
      exact Again.go (y + 1) ⟨rfl, slI' (wsucc' y (by omega)), trivial⟩ (.keep rfl) ⟨by omega, by rw [Nat.add_mul]; exact hall2⟩ (by omega)
  · obtain rfl : y = 6 := by omega
    have e : picB q = true := by rw [List.take_of_length_le (by omega)] at hall; exact hall
    rw [e] at h0
    repeat' ((conv => whnf); first
      | (refine And.intro rfl ?_)
      | (refine And.intro (by decide +kernel) ?_)
      | (refine And.intro trivial ?_)
      | (refine Exists.intro _ (And.intro rfl (And.intro rfl (And.intro (Nat.le_of_ble_eq_true rfl) ?_))))
      | (refine Exists.intro _ (And.intro rfl (And.intro rfl (And.intro rfl (And.intro (Nat.le_of_ble_eq_true rfl) ?_)))))
      | (refine And.intro (Exists.intro _ (And.intro rfl rfl)) ?_)
      | (exact fun hW => absurd hW (by decide +kernel))
      | (intro hW; (try simp only [Bool.not_true, Bool.not_false, Bool.not_eq_true', Bool.not_eq_false', decide_eq_true_eq, decide_eq_false_iff_not, reduceCtorEq, Bool.true_eq_false, Bool.false_eq_true, mk_size, List.size_toArray, ByteArray.size_append, ByteArray.size_extract, List.length_cons, List.length_nil, ba_get, ba_empty, Int.toNat_natCast] at hW))
      | (refine And.intro (?_ : _ → _) (?_ : _ → _))
      | (refine FinR.drop 0 (Nat.zero_le _) (Closed.zero _) rfl ?_)
      | (refine FinR.keep ?_)
      | (refine And.intro (det3_agg rfl) ?_)
      | (refine fL_mk ?_)
      | (refine And.intro (by (try simp only [mk_size, List.size_toArray, ByteArray.size_append, ByteArray.size_extract, List.length_cons, List.length_nil]); omega) ?_)
      | (refine And.intro (by (try simp only [mk_size, List.size_toArray, ByteArray.size_append, ByteArray.size_extract, List.length_cons, List.length_nil, wrap64_eq]); omega) ?_)
      | fail)
    all_goals first | (exfalso; omega) | exact h0
theorem d_l8Picture (q : List Int) (hq : q.length = 36) (K : Cont) (h0 : K (Bo (picB q)) σ) : ACall Try.prog W0 63 [Pi q] σ K :=
  ACall.lift (by rw [List.all_cons, pureI]; rfl) (fun k => rfl) (fun W1 K _ hK => c_l8Picture q hq K hK) h0
theorem c_IsPicture (q : List Int) (hq : q.length = 36) (K : Cont) (h0 : K (Bo (picB q)) []) : ACall Try.prog W0 66 [Pi q] [] K := by
  refine by66 (Nat.le_of_ble_eq_true rfl) ?_
  repeat' ((conv => whnf); first
    | (refine Exists.intro _ (And.intro rfl (And.intro rfl (And.intro (pic_le hq rfl) ?_))); rw [pic_ld hq _ rfl])
    | (refine And.intro rfl ?_)
    | (refine And.intro (by decide +kernel) ?_)
    | (refine And.intro trivial ?_)
    | (refine Exists.intro _ (And.intro rfl (And.intro rfl (And.intro (Nat.le_of_ble_eq_true rfl) ?_))))
    | (refine Exists.intro _ (And.intro rfl (And.intro rfl (And.intro rfl (And.intro (Nat.le_of_ble_eq_true rfl) ?_)))))
    | (refine And.intro (Exists.intro _ (And.intro rfl rfl)) ?_)
    | (exact fun hW => absurd hW (by decide +kernel))
    | (intro hW; (try simp only [Bool.not_true, Bool.not_false, Bool.not_eq_true', Bool.not_eq_false', decide_eq_true_eq, decide_eq_false_iff_not, reduceCtorEq, Bool.true_eq_false, Bool.false_eq_true, mk_size, List.size_toArray, ByteArray.size_append, ByteArray.size_extract, List.length_cons, List.length_nil, ba_get, ba_empty, Int.toNat_natCast] at hW))
    | (refine And.intro (?_ : _ → _) (?_ : _ → _))
    | (refine FinR.drop 0 (Nat.zero_le _) (Closed.zero _) rfl ?_)
    | (refine FinR.keep ?_)
    | (refine And.intro (det3_agg rfl) ?_)
    | (refine fL_mk ?_)
    | (refine And.intro (by (try simp only [mk_size, List.size_toArray, ByteArray.size_append, ByteArray.size_extract, List.length_cons, List.length_nil]); omega) ?_)
    | (refine And.intro (by (try simp only [mk_size, List.size_toArray, ByteArray.size_append, ByteArray.size_extract, List.length_cons, List.length_nil, wrap64_eq]); omega) ?_)
    | fail)
  refine LoopR.live (fun y : Nat => [(8, Pi q), (9, I y)]) (fun y => []) (fun y => y ≤ 6 ∧ picB (q.take (y * 6)) = true) (fun y => 6 - y) 0 ⟨rfl, rfl, trivial⟩ (.drop 0 (Nat.zero_le _) rfl (closNil 0) (by show (bel3 0 (Pi q) && true) = true; rw [belPi]; rfl)) ⟨Nat.zero_le _, rfl⟩ ?_
  rintro y ⟨hy, hall⟩
  by_cases hlt : y < 6
  · obtain ⟨a, b, c, d, e, f, hr⟩ := row_ld (q := q) (i := y) (by omega)
    have hpa : ∀ off, off = y * 6 → partA true 6 off (q.map I) = some (Sh a b c d e f) := fun off ho => by
      rw [partA, if_pos rfl, show AV.agg (((q.map I).drop off).take 6) = mkAV true (((q.map I).drop off).take 6) from rfl, row_mk hr ho]
    have hsn : picB (q.take ((y + 1) * 6)) = (picB (q.take (y * 6)) && [a, b, c, d, e, f].all fun x => inB x 0 4) := by
      rw [Nat.add_mul, List.take_add, hr, picB, List.all_append]; rfl
    have hal : ([a, b, c, d, e, f].all fun x => inB x 0 4) = true ↔ ((0 ≤ a ∧ a ≤ 4) ∧ (0 ≤ b ∧ b ≤ 4) ∧ (0 ≤ c ∧ c ≤ 4) ∧ (0 ≤ d ∧ d ≤ 4) ∧ (0 ≤ e ∧ e ≤ 4) ∧ (0 ≤ f ∧ f ≤ 4)) := by
      simp [inB]
    cases hrow : ([a, b, c, d, e, f].all fun x => inB x 0 4) with
    | true =>
      have hf := hal.1 hrow
      repeat' ((conv => whnf); first
        | (rw [hpa _ (by simp only [Int.toNat_natCast])])
        | (refine And.intro rfl ?_)
        | (refine And.intro (by decide +kernel) ?_)
        | (refine And.intro trivial ?_)
        | (refine LoopR.unroll 7 ?_)
        | (refine Exists.intro _ (And.intro rfl (And.intro rfl (And.intro (Nat.le_of_ble_eq_true rfl) ?_))))
        | (refine Exists.intro _ (And.intro rfl (And.intro rfl (And.intro rfl (And.intro (Nat.le_of_ble_eq_true rfl) ?_)))))
        | (refine And.intro (Exists.intro _ (And.intro rfl rfl)) ?_)
        | (exact fun hW => absurd hW (by decide +kernel))
        | (intro hW; (try simp only [Bool.not_true, Bool.not_false, Bool.not_eq_true', Bool.not_eq_false', decide_eq_true_eq, decide_eq_false_iff_not, reduceCtorEq, Bool.true_eq_false, Bool.false_eq_true, mk_size, List.size_toArray, ByteArray.size_append, ByteArray.size_extract, List.length_cons, List.length_nil, ba_get, ba_empty, Int.toNat_natCast] at hW))
        | (refine And.intro (?_ : _ → _) (?_ : _ → _))
        | (refine FinR.drop 0 (Nat.zero_le _) (Closed.zero _) rfl ?_)
        | (refine FinR.keep ?_)
        | (refine And.intro (det3_agg rfl) ?_)
        | (refine fL_mk ?_)
        | (refine And.intro (by (try simp only [mk_size, List.size_toArray, ByteArray.size_append, ByteArray.size_extract, List.length_cons, List.length_nil]); omega) ?_)
        | (refine And.intro (by (try simp only [mk_size, List.size_toArray, ByteArray.size_append, ByteArray.size_extract, List.length_cons, List.length_nil, wrap64_eq]); omega) ?_)
        | fail)
      all_goals first | (exfalso; omega) | skip
      exact Again.go (y + 1) ⟨rfl, slI' (wsucc' y (by omega)), trivial⟩ (.drop 0 (Nat.zero_le _) rfl (closNil 0) (by show (bel3 0 (Pi q) && true) = true; rw [belPi]; rfl)) ⟨by omega, by rw [hsn, hall, hrow]; rfl⟩ (by omega)
    | false =>
      have hf : ¬ ((0 ≤ a ∧ a ≤ 4) ∧ (0 ≤ b ∧ b ≤ 4) ∧ (0 ≤ c ∧ c ≤ 4) ∧ (0 ≤ d ∧ d ≤ 4) ∧ (0 ≤ e ∧ e ≤ 4) ∧ (0 ≤ f ∧ f ≤ 4)) := fun h => by rw [hal.2 h] at hrow; cases hrow
      have hpf : picB q = false := by
        rw [Bool.eq_false_iff]; intro hc
        have : picB (q.take ((y + 1) * 6)) = true := List.all_eq_true.2 fun x hx => List.all_eq_true.1 hc x (List.mem_of_mem_take hx)
        rw [hsn, hrow, Bool.and_false] at this; cases this
      rw [hpf] at h0
      repeat' ((conv => whnf); first
        | (rw [hpa _ (by simp only [Int.toNat_natCast])])
        | (refine And.intro rfl ?_)
        | (refine And.intro (by decide +kernel) ?_)
        | (refine And.intro trivial ?_)
        | (refine LoopR.unroll 7 ?_)
        | (refine Exists.intro _ (And.intro rfl (And.intro rfl (And.intro (Nat.le_of_ble_eq_true rfl) ?_))))
        | (refine Exists.intro _ (And.intro rfl (And.intro rfl (And.intro rfl (And.intro (Nat.le_of_ble_eq_true rfl) ?_)))))
        | (refine And.intro (Exists.intro _ (And.intro rfl rfl)) ?_)
        | (exact fun hW => absurd hW (by decide +kernel))
        | (intro hW; (try simp only [Bool.not_true, Bool.not_false, Bool.not_eq_true', Bool.not_eq_false', decide_eq_true_eq, decide_eq_false_iff_not, reduceCtorEq, Bool.true_eq_false, Bool.false_eq_true, mk_size, List.size_toArray, ByteArray.size_append, ByteArray.size_extract, List.length_cons, List.length_nil, ba_get, ba_empty, Int.toNat_natCast] at hW))
        | (refine And.intro (?_ : _ → _) (?_ : _ → _))
        | (refine FinR.drop 0 (Nat.zero_le _) (Closed.zero _) rfl ?_)
        | (refine FinR.keep ?_)
        | (refine And.intro (det3_agg rfl) ?_)
        | (refine fL_mk ?_)
        | (refine And.intro (by (try simp only [mk_size, List.size_toArray, ByteArray.size_append, ByteArray.size_extract, List.length_cons, List.length_nil]); omega) ?_)
        | (refine And.intro (by (try simp only [mk_size, List.size_toArray, ByteArray.size_append, ByteArray.size_extract, List.length_cons, List.length_nil, wrap64_eq]); omega) ?_)
        | fail)
      all_goals first | (exfalso; omega) | exact h0
  · obtain rfl : y = 6 := by omega
    have e : picB q = true := by rw [List.take_of_length_le (by omega)] at hall; exact hall
    rw [e] at h0
    repeat' ((conv => whnf); first
      | (refine And.intro rfl ?_)
      | (refine And.intro (by decide +kernel) ?_)
      | (refine And.intro trivial ?_)
      | (refine Exists.intro _ (And.intro rfl (And.intro rfl (And.intro (Nat.le_of_ble_eq_true rfl) ?_))))
      | (refine Exists.intro _ (And.intro rfl (And.intro rfl (And.intro rfl (And.intro (Nat.le_of_ble_eq_true rfl) ?_)))))
      | (refine And.intro (Exists.intro _ (And.intro rfl rfl)) ?_)
      | (exact fun hW => absurd hW (by decide +kernel))
      | (intro hW; (try simp only [Bool.not_true, Bool.not_false, Bool.not_eq_true', Bool.not_eq_false', decide_eq_true_eq, decide_eq_false_iff_not, reduceCtorEq, Bool.true_eq_false, Bool.false_eq_true, mk_size, List.size_toArray, ByteArray.size_append, ByteArray.size_extract, List.length_cons, List.length_nil, ba_get, ba_empty, Int.toNat_natCast] at hW))
      | (refine And.intro (?_ : _ → _) (?_ : _ → _))
      | (refine FinR.drop 0 (Nat.zero_le _) (Closed.zero _) rfl ?_)
      | (refine FinR.keep ?_)
      | (refine And.intro (det3_agg rfl) ?_)
      | (refine fL_mk ?_)
      | (refine And.intro (by (try simp only [mk_size, List.size_toArray, ByteArray.size_append, ByteArray.size_extract, List.length_cons, List.length_nil]); omega) ?_)
      | (refine And.intro (by (try simp only [mk_size, List.size_toArray, ByteArray.size_append, ByteArray.size_extract, List.length_cons, List.length_nil, wrap64_eq]); omega) ?_)
      | fail)
    all_goals first | (exfalso; omega) | exact h0
theorem d_IsPicture (q : List Int) (hq : q.length = 36) (K : Cont) (h0 : K (Bo (picB q)) σ) : ACall Try.prog W0 66 [Pi q] σ K :=
  ACall.lift (by rw [List.all_cons, pureI]; rfl) (fun k => rfl) (fun W1 K _ hK => c_IsPicture q hq K hK) h0
/-! prints made -/
def madeK (q : List Int) (n : Nat) (ink : Int) : Nat → List Int
  | 0 => q
  | k + 1 => if n.testBit k then (madeK q n ink k).set k ink else madeK q n ink k
theorem madeK_succ (q : List Int) (n : Nat) (ink : Int) (k : Nat) : madeK q n ink (k + 1) = if n.testBit k then (madeK q n ink k).set k ink else madeK q n ink k := rfl
theorem madeK_len (q : List Int) (n : Nat) (ink : Int) : ∀ k, (madeK q n ink k).length = q.length
  | 0 => rfl
  | k + 1 => by rw [madeK_succ]; split <;> simp [madeK_len q n ink k]
theorem c_l8Made (q : List Int) (hq : q.length = 36) (c0 c1 c2 c3 c4 c5 c6 c7 c8 : Int) (hp : pOk [c0, c1, c2, c3, c4, c5, c6, c7, c8] = true) (K : Cont) (h0 : K (Pi (madeK q (pSet [c0, c1, c2, c3, c4, c5, c6, c7, c8]) c0 36)) []) : ACall Try.prog W0 64 [Pi q, Pr c0 c1 c2 c3 c4 c5 c6 c7 c8] [] K := by
  refine by64 (Nat.le_of_ble_eq_true rfl) ?_
  repeat' ((conv => whnf); first
    | (refine And.intro rfl ?_)
    | (refine And.intro (by decide +kernel) ?_)
    | (refine And.intro trivial ?_)
    | (refine d_l8Cells (h := hp) (h0 := ?_) ..)
    | (refine Exists.intro _ (And.intro (fun τ => callW_fn (d_l8Cells (h := hp) (h0 := And.intro rfl rfl) ..)) ?_))
    | (refine Exists.intro _ (And.intro (callW_fn (d_l8Cells (h := hp) (h0 := And.intro rfl rfl) ..)) (And.intro trivial ?_)))
    | (refine Exists.intro _ (And.intro (callW_fn (d_l8Cells (h := hp) (h0 := And.intro rfl rfl) ..)) ?_))
    | (refine Exists.intro _ (And.intro (fun τ _ => callW_fn (d_l8Cells (h := hp) (h0 := And.intro rfl rfl) ..)) ?_))
    | (refine Exists.intro _ (And.intro rfl (And.intro rfl (And.intro (Nat.le_of_ble_eq_true rfl) ?_))))
    | (refine Exists.intro _ (And.intro rfl (And.intro rfl (And.intro rfl (And.intro (Nat.le_of_ble_eq_true rfl) ?_)))))
    | (refine And.intro (Exists.intro _ (And.intro rfl rfl)) ?_)
    | (exact fun hW => absurd hW (by decide +kernel))
    | (intro hW; (try simp only [Bool.not_true, Bool.not_false, Bool.not_eq_true', Bool.not_eq_false', decide_eq_true_eq, decide_eq_false_iff_not, reduceCtorEq, Bool.true_eq_false, Bool.false_eq_true, mk_size, List.size_toArray, ByteArray.size_append, ByteArray.size_extract, List.length_cons, List.length_nil, ba_get, ba_empty, Int.toNat_natCast] at hW))
    | (refine And.intro (?_ : _ → _) (?_ : _ → _))
    | (refine FinR.drop 0 (Nat.zero_le _) (Closed.zero _) rfl ?_)
    | (refine FinR.keep ?_)
    | (refine And.intro (det3_agg rfl) ?_)
    | (refine fL_mk ?_)
    | (refine And.intro (by (try simp only [mk_size, List.size_toArray, ByteArray.size_append, ByteArray.size_extract, List.length_cons, List.length_nil]); omega) ?_)
    | (refine And.intro (by (try simp only [mk_size, List.size_toArray, ByteArray.size_append, ByteArray.size_extract, List.length_cons, List.length_nil, wrap64_eq]); omega) ?_)
    | fail)
  generalize pSet [c0, c1, c2, c3, c4, c5, c6, c7, c8] = n at h0 ⊢
  refine LoopR.live (fun y : Nat => [(2, .ptr 0 0 0), (3, .ptr 1 0 0), (4, .ptr 2 0 0), (5, .ptr 3 0 0), (6, I y)]) (fun y => [bQ (madeK q n c0 (6 * y)) 44, bQ [c0, c1, c2, c3, c4, c5, c6, c7, c8] 83, bQ z36 44, bl n]) (fun y => y ≤ 6) (fun y => 6 - y) 0 ⟨rfl, rfl, rfl, rfl, rfl, trivial⟩ (.keep rfl) (Nat.zero_le _) ?_
  intro y hy
  by_cases hlt : y < 6
  · skip
    repeat' ((conv => whnf); first
      | (refine And.intro rfl ?_)
      | (refine And.intro (by decide +kernel) ?_)
      | (refine And.intro trivial ?_)
      | (refine Exists.intro _ (And.intro rfl (And.intro rfl (And.intro (Nat.le_of_ble_eq_true rfl) ?_))))
      | (refine Exists.intro _ (And.intro rfl (And.intro rfl (And.intro rfl (And.intro (Nat.le_of_ble_eq_true rfl) ?_)))))
      | (refine And.intro (Exists.intro _ (And.intro rfl rfl)) ?_)
      | (exact fun hW => absurd hW (by decide +kernel))
      | (intro hW; (try simp only [Bool.not_true, Bool.not_false, Bool.not_eq_true', Bool.not_eq_false', decide_eq_true_eq, decide_eq_false_iff_not, reduceCtorEq, Bool.true_eq_false, Bool.false_eq_true, mk_size, List.size_toArray, ByteArray.size_append, ByteArray.size_extract, List.length_cons, List.length_nil, ba_get, ba_empty, Int.toNat_natCast] at hW))
      | (refine And.intro (?_ : _ → _) (?_ : _ → _))
      | (refine FinR.drop 0 (Nat.zero_le _) (Closed.zero _) rfl ?_)
      | (refine FinR.keep ?_)
      | (refine And.intro (det3_agg rfl) ?_)
      | (refine fL_mk ?_)
      | (refine And.intro (by (try simp only [mk_size, List.size_toArray, ByteArray.size_append, ByteArray.size_extract, List.length_cons, List.length_nil]); omega) ?_)
      | (refine And.intro (by (try simp only [mk_size, List.size_toArray, ByteArray.size_append, ByteArray.size_extract, List.length_cons, List.length_nil, wrap64_eq]); omega) ?_)
      | fail)
    all_goals first | (exfalso; omega) | skip
    refine LoopR.live (fun x : Nat => [(2, .ptr 0 0 0), (3, .ptr 1 0 0), (4, .ptr 2 0 0), (5, .ptr 3 0 0), (6, I y), (7, I x)]) (fun x => [bQ (madeK q n c0 (6 * y + x)) 44, bQ [c0, c1, c2, c3, c4, c5, c6, c7, c8] 83, bQ z36 44, bl n]) (fun x => x ≤ 6) (fun x => 6 - x) 0 ⟨rfl, rfl, rfl, rfl, rfl, rfl, trivial⟩ (.keep rfl) (Nat.zero_le _) ?_
    intro x hx
    by_cases hlt2 : x < 6
    · have hml : (madeK q n c0 (6 * y + x)).length = 36 := by rw [madeK_len, hq]
      have hle : ∀ off, off = 6 * y + x → off + 1 ≤ ((madeK q n c0 (6 * y + x)).map I).length := fun off ho => cell_le (by omega)
      have hoff : 0 + 0 + ((y : Nat) : Int).toNat * 6 + ((x : Nat) : Int).toNat * 1 = 6 * y + x := by simp only [Int.toNat_natCast]; omega
      have hst : ((madeK q n c0 (6 * y + x)).map I).take (0 + 0 + ((y : Nat) : Int).toNat * 6 + ((x : Nat) : Int).toNat * 1) ++ [I c0] ++ ((madeK q n c0 (6 * y + x)).map I).drop (0 + 0 + ((y : Nat) : Int).toNat * 6 + ((x : Nat) : Int).toNat * 1 + 1) = ((madeK q n c0 (6 * y + x)).set (6 * y + x) c0).map I := by
        rw [hoff]; exact cell_st c0 (by omega)
      have hm := madeK_succ q n c0 (6 * y + x)
      repeat' ((conv => whnf); first
        | (refine Exists.intro (bQ (madeK q n c0 (6 * y + x)) 44) (And.intro rfl (And.intro rfl (And.intro rfl (And.intro (hle _ hoff) ?_)))))
        | (refine And.intro rfl ?_)
        | (refine And.intro (by decide +kernel) ?_)
        | (refine And.intro trivial ?_)
        | (refine d_l2GetN (hx := hlt2) (hy := hlt) (h0 := ?_) ..)
        | (refine Exists.intro _ (And.intro (fun τ => callW_fn (d_l2GetN (hx := hlt2) (hy := hlt) (h0 := And.intro rfl rfl) ..)) ?_))
        | (refine Exists.intro _ (And.intro (callW_fn (d_l2GetN (hx := hlt2) (hy := hlt) (h0 := And.intro rfl rfl) ..)) (And.intro trivial ?_)))
        | (refine Exists.intro _ (And.intro (callW_fn (d_l2GetN (hx := hlt2) (hy := hlt) (h0 := And.intro rfl rfl) ..)) ?_))
        | (refine Exists.intro _ (And.intro (fun τ _ => callW_fn (d_l2GetN (hx := hlt2) (hy := hlt) (h0 := And.intro rfl rfl) ..)) ?_))
        | (refine Exists.intro _ (And.intro rfl (And.intro rfl (And.intro (Nat.le_of_ble_eq_true rfl) ?_))))
        | (refine Exists.intro _ (And.intro rfl (And.intro rfl (And.intro rfl (And.intro (Nat.le_of_ble_eq_true rfl) ?_)))))
        | (refine And.intro (Exists.intro _ (And.intro rfl rfl)) ?_)
        | (exact fun hW => absurd hW (by decide +kernel))
        | (intro hW; (try simp only [Bool.not_true, Bool.not_false, Bool.not_eq_true', Bool.not_eq_false', decide_eq_true_eq, decide_eq_false_iff_not, reduceCtorEq, Bool.true_eq_false, Bool.false_eq_true, mk_size, List.size_toArray, ByteArray.size_append, ByteArray.size_extract, List.length_cons, List.length_nil, ba_get, ba_empty, Int.toNat_natCast] at hW))
        | (refine And.intro (?_ : _ → _) (?_ : _ → _))
        | (refine FinR.drop 0 (Nat.zero_le _) (Closed.zero _) rfl ?_)
        | (refine FinR.keep ?_)
        | (refine And.intro (det3_agg rfl) ?_)
        | (refine fL_mk ?_)
        | (refine And.intro (by (try simp only [mk_size, List.size_toArray, ByteArray.size_append, ByteArray.size_extract, List.length_cons, List.length_nil]); omega) ?_)
        | (refine And.intro (by (try simp only [mk_size, List.size_toArray, ByteArray.size_append, ByteArray.size_extract, List.length_cons, List.length_nil, wrap64_eq]); omega) ?_)
        | fail)
      all_goals first | (exfalso; omega) | skip
      · rw [hW, if_pos rfl] at hm
        refine Again.go (x + 1) ⟨rfl, rfl, rfl, rfl, rfl, slI' (wsucc' x (by omega)), trivial⟩ (.keep ?_) (by omega) (by omega)
        rw [← Nat.add_assoc, hm]
        dsimp only [bQ]
        rw [← hst]
        rfl
      · rw [hW, if_neg (by decide)] at hm
        refine Again.go (x + 1) ⟨rfl, rfl, rfl, rfl, rfl, slI' (wsucc' x (by omega)), trivial⟩ (.keep ?_) (by omega) (by omega)
        rw [← Nat.add_assoc, hm]
    · obtain rfl : x = 6 := by omega
      repeat' ((conv => whnf); first
        | (refine And.intro rfl ?_)
        | (refine And.intro (by decide +kernel) ?_)
        | (refine And.intro trivial ?_)
        | (refine Exists.intro _ (And.intro rfl (And.intro rfl (And.intro (Nat.le_of_ble_eq_true rfl) ?_))))
        | (refine Exists.intro _ (And.intro rfl (And.intro rfl (And.intro rfl (And.intro (Nat.le_of_ble_eq_true rfl) ?_)))))
        | (refine And.intro (Exists.intro _ (And.intro rfl rfl)) ?_)
        | (exact fun hW => absurd hW (by decide +kernel))
        | (intro hW; (try simp only [Bool.not_true, Bool.not_false, Bool.not_eq_true', Bool.not_eq_false', decide_eq_true_eq, decide_eq_false_iff_not, reduceCtorEq, Bool.true_eq_false, Bool.false_eq_true, mk_size, List.size_toArray, ByteArray.size_append, ByteArray.size_extract, List.length_cons, List.length_nil, ba_get, ba_empty, Int.toNat_natCast] at hW))
        | (refine And.intro (?_ : _ → _) (?_ : _ → _))
        | (refine FinR.drop 0 (Nat.zero_le _) (Closed.zero _) rfl ?_)
        | (refine FinR.keep ?_)
        | (refine And.intro (det3_agg rfl) ?_)
        | (refine fL_mk ?_)
        | (refine And.intro (by (try simp only [mk_size, List.size_toArray, ByteArray.size_append, ByteArray.size_extract, List.length_cons, List.length_nil]); omega) ?_)
        | (refine And.intro (by (try simp only [mk_size, List.size_toArray, ByteArray.size_append, ByteArray.size_extract, List.length_cons, List.length_nil, wrap64_eq]); omega) ?_)
        | fail)
      all_goals first | (exfalso; omega) | skip
      exact Again.go (y + 1) ⟨rfl, rfl, rfl, rfl, slI' (wsucc' y (by omega)), trivial⟩ (.keep (by rw [Nat.mul_add])) (by omega) (by omega)
  · obtain rfl : y = 6 := by omega
    have hml : (madeK q n c0 (6 * 6)).length = 36 := by rw [madeK_len, hq]
    repeat' ((conv => whnf); first
      | (refine Exists.intro (bQ (madeK q n c0 (6 * 6)) 44) (And.intro rfl (And.intro rfl (And.intro (pic_le hml rfl) ?_))); rw [show (bQ (madeK q n c0 (6 * 6)) 44).cells = (madeK q n c0 (6 * 6)).map I from rfl, pic_ld hml _ rfl])
      | (refine Exists.intro _ (And.intro rfl (And.intro rfl (And.intro (pic_len hml) (And.intro (Nat.le_of_ble_eq_true rfl) ?_)))))
      | (refine Exists.intro _ (And.intro rfl (And.intro rfl (And.intro (pic_rle hml _) ?_))); rw [pic_res hml _])
      | (refine FinR.drop 0 (Nat.zero_le _) (Closed.zero _) (belPi 0 _) ?_)
      | (refine And.intro rfl ?_)
      | (refine And.intro (by decide +kernel) ?_)
      | (refine And.intro trivial ?_)
      | (refine Exists.intro _ (And.intro rfl (And.intro rfl (And.intro (Nat.le_of_ble_eq_true rfl) ?_))))
      | (refine Exists.intro _ (And.intro rfl (And.intro rfl (And.intro rfl (And.intro (Nat.le_of_ble_eq_true rfl) ?_)))))
      | (refine And.intro (Exists.intro _ (And.intro rfl rfl)) ?_)
      | (exact fun hW => absurd hW (by decide +kernel))
      | (intro hW; (try simp only [Bool.not_true, Bool.not_false, Bool.not_eq_true', Bool.not_eq_false', decide_eq_true_eq, decide_eq_false_iff_not, reduceCtorEq, Bool.true_eq_false, Bool.false_eq_true, mk_size, List.size_toArray, ByteArray.size_append, ByteArray.size_extract, List.length_cons, List.length_nil, ba_get, ba_empty, Int.toNat_natCast] at hW))
      | (refine And.intro (?_ : _ → _) (?_ : _ → _))
      | (refine FinR.drop 0 (Nat.zero_le _) (Closed.zero _) rfl ?_)
      | (refine FinR.keep ?_)
      | (refine And.intro (det3_agg rfl) ?_)
      | (refine fL_mk ?_)
      | (refine And.intro (by (try simp only [mk_size, List.size_toArray, ByteArray.size_append, ByteArray.size_extract, List.length_cons, List.length_nil]); omega) ?_)
      | (refine And.intro (by (try simp only [mk_size, List.size_toArray, ByteArray.size_append, ByteArray.size_extract, List.length_cons, List.length_nil, wrap64_eq]); omega) ?_)
      | fail)
    all_goals first | (exfalso; omega) | exact h0
theorem d_l8Made (q : List Int) (hq : q.length = 36) (c0 c1 c2 c3 c4 c5 c6 c7 c8 : Int) (hp : pOk [c0, c1, c2, c3, c4, c5, c6, c7, c8] = true) (K : Cont) (h0 : K (Pi (madeK q (pSet [c0, c1, c2, c3, c4, c5, c6, c7, c8]) c0 36)) σ) : ACall Try.prog W0 64 [Pi q, Pr c0 c1 c2 c3 c4 c5 c6 c7 c8] σ K :=
  ACall.lift (by rw [List.all_cons, pureI]; rfl) (fun k => sh_Pi k _) (fun W1 K _ hK => c_l8Made q hq c0 c1 c2 c3 c4 c5 c6 c7 c8 hp K hK) h0
end Go.Proofs.Ythncpkdhcfaflaa
end

section
/- Contracts: the last prints. -/
set_option linter.unusedVariables false
set_option linter.unusedSimpArgs false
set_option maxRecDepth 100000
set_option maxHeartbeats 4000000
namespace Go.Proofs.Ythncpkdhcfaflaa
open Go Go.RowKit Go.Proofs.Ythncpkdhcfaflaa.Abs
variable {W0 : World} {σ : List Blk}
theorem lits_I : ∀ l : List Int, litsA (l.map I) = some (l.map (Value.int .i64))
  | [] => rfl
  | x :: l => by
    show (litsA (l.map I)).map _ = _
    rw [lits_I l]; rfl
theorem eqC_I : ∀ (n : Nat) (l m : List Int), l.length = n → m.length = n → eqC (List.replicate n .int) (l.map (Value.int .i64)) (m.map (Value.int .i64)) = some (decide (l = m))
  | 0, [], [], _, _ => rfl
  | n + 1, x :: l, y :: m, h1, h2 => by
    have h := eqC_I n l m (by simpa using h1) (by simpa using h2)
    show (if IntKind.i64 = IntKind.i64 then (eqC (List.replicate n .int) (l.map (Value.int .i64)) (m.map (Value.int .i64))).map (decide (x = y) && ·) else none) = _
    rw [if_pos rfl, h]
    show some (decide (x = y) && decide (l = m)) = _
    congr 1
    rw [Bool.eq_iff_iff]; simp
  | 0, _ :: _, _, h, _ => by simp at h
  | n + 1, [], _, h, _ => by simp at h
  | 0, [], _ :: _, _, h => by simp at h
  | n + 1, _ :: _, [], _, h => by simp at h
theorem eqC36 {l m : List Int} (hl : l.length = 36) (hm : m.length = 36) : eqC [.int, .int, .int, .int, .int, .int, .int, .int, .int, .int, .int, .int, .int, .int, .int, .int, .int, .int, .int, .int, .int, .int, .int, .int, .int, .int, .int, .int, .int, .int, .int, .int, .int, .int, .int, .int] (l.map (Value.int .i64)) (m.map (Value.int .i64)) = some (decide (l = m)) := eqC_I 36 l m hl hm
/-- the cells at which something is so -/
def whN (f : Nat → Bool) : Nat → Nat
  | 0 => 0
  | m + 1 => whN f m ||| (if f m then 2 ^ m else 0)
theorem whN_succ (f : Nat → Bool) (m : Nat) : whN f (m + 1) = whN f m ||| (if f m then 2 ^ m else 0) := rfl
theorem whN_bit (f : Nat → Bool) (j : Nat) : ∀ m, (whN f m).testBit j = (decide (j < m) && f j)
  | 0 => by simp [whN]
  | m + 1 => by
    rw [whN_succ, Nat.testBit_or, whN_bit f j m]
    by_cases e : j = m
    · subst e
      cases hf : f j <;> simp [Nat.testBit_two_pow]
    · have e2 : (if f m then 2 ^ m else 0).testBit j = false := by
        split
        · rw [Nat.testBit_two_pow]; simp; omega
        · simp
      rw [e2, Bool.or_false]
      congr 1
      exact decide_eq_decide.2 (by omega)
theorem whN_lt (f : Nat → Bool) {m : Nat} (hm : m ≤ 36) : whN f m < 2 ^ 36 := by
  refine Nat.lt_pow_two_of_testBit _ fun i hi => ?_
  rw [whN_bit]; simp; omega
theorem wh_or {f : Nat → Bool} {k : Nat} (hk : k < 36) (hf : f k = true) : bOr .u64 (whN f k : Nat) (shL .u64 1 (k : Nat)) = (whN f (k + 1) : Nat) := by
  have hp : 2 ^ k < 2 ^ 36 := Nat.pow_lt_pow_right (by decide) hk
  rw [show (1 : Int) = ((1 : Nat) : Int) from rfl, shL_u64 1 k (by omega) (by rw [Nat.one_mul]; exact Nat.lt_trans hp (by decide)), Nat.one_mul, bOrU (whN_lt f (by omega)) hp, whN_succ, if_pos hf]
theorem c_where (g0 : FuncId) (caps : List AV) (f : Nat → Bool) (hc : ∀ k : Nat, k < 36 → ∀ K : Cont, K (Bo (f k)) σ → ACall Try.prog W0 g0 (I k :: caps) σ K) (K : Cont) (h0 : K (U (whN f 36 : Nat)) σ) : ACall Try.prog W0 98 [.fn (.func g0) [] caps] σ K := by
  refine by98 (Nat.le_of_ble_eq_true rfl) ?_
  repeat' ((conv => whnf); first
    | (refine And.intro rfl ?_)
    | (refine And.intro (by decide +kernel) ?_)
    | (refine And.intro trivial ?_)
    | (refine Exists.intro _ (And.intro rfl (And.intro rfl (And.intro (Nat.le_of_ble_eq_true rfl) ?_))))
    | (refine Exists.intro _ (And.intro rfl (And.intro rfl (And.intro rfl (And.intro (Nat.le_of_ble_eq_true rfl) ?_)))))
    | (refine And.intro (Exists.intro _ (And.intro rfl rfl)) ?_)
    | (exact fun hW => absurd hW (by decide +kernel))
    | (intro hW; (try simp only [Bool.not_true, Bool.not_false, Bool.not_eq_true', Bool.not_eq_false', decide_eq_true_eq, decide_eq_false_iff_not, reduceCtorEq, Bool.true_eq_false, Bool.false_eq_true, mk_size, List.size_toArray, ByteArray.size_append, ByteArray.size_extract, List.length_cons, List.length_nil, ba_get, ba_empty, Int.toNat_natCast] at hW))
    | (refine And.intro (?_ : _ → _) (?_ : _ → _))
    | (refine FinR.drop 0 (Nat.zero_le _) (Closed.zero _) rfl ?_)
    | (refine FinR.keep ?_)
    | (refine And.intro (det3_agg rfl) ?_)
    | (refine fL_mk ?_)
    | (refine And.intro (by (try simp only [mk_size, List.size_toArray, ByteArray.size_append, ByteArray.size_extract, List.length_cons, List.length_nil]); omega) ?_)
    | (refine And.intro (by (try simp only [mk_size, List.size_toArray, ByteArray.size_append, ByteArray.size_extract, List.length_cons, List.length_nil, wrap64_eq]); omega) ?_)
    | fail)
  refine LoopR.live (fun k : Nat => [(0, .fn (.func g0) [] caps), (3, U (whN f k : Nat)), (5, I k)]) (fun _ => σ) (fun k => k ≤ 36) (fun k => 36 - k) 0 ⟨rfl, rfl, rfl, trivial⟩ (.keep rfl) (Nat.zero_le _) ?_
  intro k hk
  by_cases hlt : k < 36
  · have hcall := hc k hlt
    cases hf : f k with
    | true =>
      rw [hf] at hcall
      repeat' ((conv => whnf); first
        | (refine hcall _ ?_)
        | (refine And.intro rfl ?_)
        | (refine And.intro (by decide +kernel) ?_)
        | (refine And.intro trivial ?_)
        | (refine Exists.intro _ (And.intro rfl (And.intro rfl (And.intro (Nat.le_of_ble_eq_true rfl) ?_))))
        | (refine Exists.intro _ (And.intro rfl (And.intro rfl (And.intro rfl (And.intro (Nat.le_of_ble_eq_true rfl) ?_)))))
        | (refine And.intro (Exists.intro _ (And.intro rfl rfl)) ?_)
        | (exact fun hW => absurd hW (by decide +kernel))
        | (intro hW; (try simp only [Bool.not_true, Bool.not_false, Bool.not_eq_true', Bool.not_eq_false', decide_eq_true_eq, decide_eq_false_iff_not, reduceCtorEq, Bool.true_eq_false, Bool.false_eq_true, mk_size, List.size_toArray, ByteArray.size_append, ByteArray.size_extract, List.length_cons, List.length_nil, ba_get, ba_empty, Int.toNat_natCast] at hW))
        | (refine And.intro (?_ : _ → _) (?_ : _ → _))
        | (refine FinR.drop 0 (Nat.zero_le _) (Closed.zero _) rfl ?_)
        | (refine FinR.keep ?_)
        | (refine And.intro (det3_agg rfl) ?_)
        | (refine fL_mk ?_)
        | (refine And.intro (by (try simp only [mk_size, List.size_toArray, ByteArray.size_append, ByteArray.size_extract, List.length_cons, List.length_nil]); omega) ?_)
        | (refine And.intro (by (try simp only [mk_size, List.size_toArray, ByteArray.size_append, ByteArray.size_extract, List.length_cons, List.length_nil, wrap64_eq]); omega) ?_)
        | fail)
      all_goals first | (exfalso; omega) | (exfalso; simp_all; done) | skip
      exact Again.go (k + 1) ⟨rfl, slU (wh_or hlt hf), slI' (wsucc' k (by omega)), trivial⟩ (.keep rfl) (by omega) (by omega)
    | false =>
      rw [hf] at hcall
      have e : whN f (k + 1) = whN f k := by rw [whN_succ, hf, if_neg (by decide), Nat.or_zero]
      repeat' ((conv => whnf); first
        | (refine hcall _ ?_)
        | (refine And.intro rfl ?_)
        | (refine And.intro (by decide +kernel) ?_)
        | (refine And.intro trivial ?_)
        | (refine Exists.intro _ (And.intro rfl (And.intro rfl (And.intro (Nat.le_of_ble_eq_true rfl) ?_))))
        | (refine Exists.intro _ (And.intro rfl (And.intro rfl (And.intro rfl (And.intro (Nat.le_of_ble_eq_true rfl) ?_)))))
        | (refine And.intro (Exists.intro _ (And.intro rfl rfl)) ?_)
        | (exact fun hW => absurd hW (by decide +kernel))
        | (intro hW; (try simp only [Bool.not_true, Bool.not_false, Bool.not_eq_true', Bool.not_eq_false', decide_eq_true_eq, decide_eq_false_iff_not, reduceCtorEq, Bool.true_eq_false, Bool.false_eq_true, mk_size, List.size_toArray, ByteArray.size_append, ByteArray.size_extract, List.length_cons, List.length_nil, ba_get, ba_empty, Int.toNat_natCast] at hW))
        | (refine And.intro (?_ : _ → _) (?_ : _ → _))
        | (refine FinR.drop 0 (Nat.zero_le _) (Closed.zero _) rfl ?_)
        | (refine FinR.keep ?_)
        | (refine And.intro (det3_agg rfl) ?_)
        | (refine fL_mk ?_)
        | (refine And.intro (by (try simp only [mk_size, List.size_toArray, ByteArray.size_append, ByteArray.size_extract, List.length_cons, List.length_nil]); omega) ?_)
        | (refine And.intro (by (try simp only [mk_size, List.size_toArray, ByteArray.size_append, ByteArray.size_extract, List.length_cons, List.length_nil, wrap64_eq]); omega) ?_)
        | fail)
      all_goals first | (exfalso; omega) | (exfalso; simp_all; done) | skip
      exact Again.go (k + 1) ⟨rfl, slU (by rw [e]), slI' (wsucc' k (by omega)), trivial⟩ (.keep rfl) (by omega) (by omega)
  · obtain rfl : k = 36 := by omega
    repeat' ((conv => whnf); first
      | (refine And.intro rfl ?_)
      | (refine And.intro (by decide +kernel) ?_)
      | (refine And.intro trivial ?_)
      | (refine Exists.intro _ (And.intro rfl (And.intro rfl (And.intro (Nat.le_of_ble_eq_true rfl) ?_))))
      | (refine Exists.intro _ (And.intro rfl (And.intro rfl (And.intro rfl (And.intro (Nat.le_of_ble_eq_true rfl) ?_)))))
      | (refine And.intro (Exists.intro _ (And.intro rfl rfl)) ?_)
      | (exact fun hW => absurd hW (by decide +kernel))
      | (intro hW; (try simp only [Bool.not_true, Bool.not_false, Bool.not_eq_true', Bool.not_eq_false', decide_eq_true_eq, decide_eq_false_iff_not, reduceCtorEq, Bool.true_eq_false, Bool.false_eq_true, mk_size, List.size_toArray, ByteArray.size_append, ByteArray.size_extract, List.length_cons, List.length_nil, ba_get, ba_empty, Int.toNat_natCast] at hW))
      | (refine And.intro (?_ : _ → _) (?_ : _ → _))
      | (refine FinR.drop 0 (Nat.zero_le _) (Closed.zero _) rfl ?_)
      | (refine FinR.keep ?_)
      | (refine And.intro (det3_agg rfl) ?_)
      | (refine fL_mk ?_)
      | (refine And.intro (by (try simp only [mk_size, List.size_toArray, ByteArray.size_append, ByteArray.size_extract, List.length_cons, List.length_nil]); omega) ?_)
      | (refine And.intro (by (try simp only [mk_size, List.size_toArray, ByteArray.size_append, ByteArray.size_extract, List.length_cons, List.length_nil, wrap64_eq]); omega) ?_)
      | fail)
    all_goals first | (exfalso; omega) | exact h0
def inkF (q : List Int) (ink : Int) (k : Nat) : Bool := decide (q.getD k 0 = ink)
theorem inkClo (q : List Int) (hq : q.length = 36) (ink : Int) (k : Nat) (hk : k < 36) (K : Cont) (h0 : K (Bo (inkF q ink k)) [bQ q 44, ⟨[I ink], 0, 3, 0, false, false⟩]) : ACall Try.prog W0 99 (I k :: [.ptr 0 0 0, .ptr 1 0 0]) [bQ q 44, ⟨[I ink], 0, 3, 0, false, false⟩] K := by
  refine by99 (Nat.le_of_ble_eq_true rfl) ?_
  have e1 : ((k : Int)).tmod 6 = ((k % 6 : Nat) : Int) := by rw [Int.tmod_eq_emod_of_nonneg (by omega)]; rfl
  have e2 : IntKind.i64.wrap ((k : Int).tdiv 6) = ((k / 6 : Nat) : Int) := by rw [Int.tdiv_eq_ediv_of_nonneg (by omega), wrap_i64 _ (by omega) (by omega)]; rfl
  have hoff : 0 + 0 + (IntKind.i64.wrap ((k : Int).tdiv 6)).toNat * 6 + (((k : Int)).tmod 6).toNat * 1 = k := by rw [e1, e2]; simp only [Int.toNat_natCast]; omega
  have hle : ∀ off, off = k → off + 1 ≤ (q.map I).length := fun off ho => cell_le (by omega)
  have hce : ∀ off, off = k → mkAV false (((q.map I).drop off).take 1) = I (q.getD k 0) := fun off ho => by subst ho; exact cell_ld (by omega)
  repeat' ((conv => whnf); first
    | (refine And.intro rfl (Exists.intro (bQ q 44) (And.intro rfl (And.intro rfl (And.intro (hle _ hoff) ?_)))); rw [show (bQ q 44).cells = q.map I from rfl, hce _ hoff])
    | (refine And.intro rfl ?_)
    | (refine And.intro (by decide +kernel) ?_)
    | (refine And.intro trivial ?_)
    | (refine Exists.intro _ (And.intro rfl (And.intro rfl (And.intro (Nat.le_of_ble_eq_true rfl) ?_))))
    | (refine Exists.intro _ (And.intro rfl (And.intro rfl (And.intro rfl (And.intro (Nat.le_of_ble_eq_true rfl) ?_)))))
    | (refine And.intro (Exists.intro _ (And.intro rfl rfl)) ?_)
    | (exact fun hW => absurd hW (by decide +kernel))
    | (intro hW; (try simp only [Bool.not_true, Bool.not_false, Bool.not_eq_true', Bool.not_eq_false', decide_eq_true_eq, decide_eq_false_iff_not, reduceCtorEq, Bool.true_eq_false, Bool.false_eq_true, mk_size, List.size_toArray, ByteArray.size_append, ByteArray.size_extract, List.length_cons, List.length_nil, ba_get, ba_empty, Int.toNat_natCast] at hW))
    | (refine And.intro (?_ : _ → _) (?_ : _ → _))
    | (refine FinR.drop 0 (Nat.zero_le _) (Closed.zero _) rfl ?_)
    | (refine FinR.keep ?_)
    | (refine And.intro (det3_agg rfl) ?_)
    | (refine fL_mk ?_)
    | (refine And.intro (by (try simp only [mk_size, List.size_toArray, ByteArray.size_append, ByteArray.size_extract, List.length_cons, List.length_nil]); omega) ?_)
    | (refine And.intro (by (try simp only [mk_size, List.size_toArray, ByteArray.size_append, ByteArray.size_extract, List.length_cons, List.length_nil, wrap64_eq]); omega) ?_)
    | fail)
  all_goals first | (exfalso; omega) | exact h0
theorem c_inkSet (q : List Int) (hq : q.length = 36) (ink : Int) (K : Cont) (h0 : K (U (whN (inkF q ink) 36 : Nat)) []) : ACall Try.prog W0 67 [Pi q, I ink] [] K := by
  refine by67 (Nat.le_of_ble_eq_true rfl) ?_
  repeat' ((conv => whnf); first
    | (refine And.intro rfl ?_)
    | (refine And.intro (by decide +kernel) ?_)
    | (refine And.intro trivial ?_)
    | (refine c_where (f := inkF q ink) (hc := fun k hk K hK => inkClo q hq ink k hk K hK) (h0 := ?_) ..)
    | (refine Exists.intro _ (And.intro rfl (And.intro rfl (And.intro (Nat.le_of_ble_eq_true rfl) ?_))))
    | (refine Exists.intro _ (And.intro rfl (And.intro rfl (And.intro rfl (And.intro (Nat.le_of_ble_eq_true rfl) ?_)))))
    | (refine And.intro (Exists.intro _ (And.intro rfl rfl)) ?_)
    | (exact fun hW => absurd hW (by decide +kernel))
    | (intro hW; (try simp only [Bool.not_true, Bool.not_false, Bool.not_eq_true', Bool.not_eq_false', decide_eq_true_eq, decide_eq_false_iff_not, reduceCtorEq, Bool.true_eq_false, Bool.false_eq_true, mk_size, List.size_toArray, ByteArray.size_append, ByteArray.size_extract, List.length_cons, List.length_nil, ba_get, ba_empty, Int.toNat_natCast] at hW))
    | (refine And.intro (?_ : _ → _) (?_ : _ → _))
    | (refine FinR.drop 0 (Nat.zero_le _) (Closed.zero _) rfl ?_)
    | (refine FinR.keep ?_)
    | (refine And.intro (det3_agg rfl) ?_)
    | (refine fL_mk ?_)
    | (refine And.intro (by (try simp only [mk_size, List.size_toArray, ByteArray.size_append, ByteArray.size_extract, List.length_cons, List.length_nil]); omega) ?_)
    | (refine And.intro (by (try simp only [mk_size, List.size_toArray, ByteArray.size_append, ByteArray.size_extract, List.length_cons, List.length_nil, wrap64_eq]); omega) ?_)
    | fail)
  all_goals exact h0
theorem d_inkSet (q : List Int) (hq : q.length = 36) (ink : Int) (K : Cont) (h0 : K (U (whN (inkF q ink) 36 : Nat)) σ) : ACall Try.prog W0 67 [Pi q, I ink] σ K :=
  ACall.lift (by rw [List.all_cons, pureI]; rfl) (fun k => rfl) (fun W1 K _ hK => c_inkSet q hq ink K hK) h0
/-! the law of the plain side -/
theorem madeK_get (q : List Int) (n : Nat) (ink : Int) (j : Nat) : ∀ k, (madeK q n ink k)[j]? = if j < k ∧ n.testBit j = true ∧ j < q.length then some ink else q[j]?
  | 0 => by simp [madeK]
  | k + 1 => by
    rw [madeK_succ]
    by_cases hb : n.testBit k = true
    · rw [if_pos hb, List.getElem?_set, madeK_len]
      by_cases e : k = j
      · subst e
        rw [if_pos rfl]
        by_cases hl : k < q.length
        · rw [if_pos hl, if_pos ⟨by omega, hb, hl⟩]
        · rw [if_neg hl, if_neg (by omega)]
          exact (List.getElem?_eq_none (by omega)).symm
      · rw [if_neg e, madeK_get q n ink j k]
        by_cases h : j < k ∧ n.testBit j = true ∧ j < q.length
        · rw [if_pos h, if_pos ⟨by omega, h.2⟩]
        · rw [if_neg h, if_neg (fun h' => h ⟨by omega, h'.2⟩)]
    · rw [if_neg hb, madeK_get q n ink j k]
      by_cases h : j < k ∧ n.testBit j = true ∧ j < q.length
      · rw [if_pos h, if_pos ⟨by omega, h.2⟩]
      · rw [if_neg h, if_neg (fun h' => h ⟨by
          have : j ≠ k := fun e => by rw [e] at h'; exact hb h'.2.1
          omega, h'.2⟩)]
theorem last_dec {q : List Int} (hq : q.length = 36) {n : Nat} (hn : n < 2 ^ 36) (ink : Int) : decide (n &&& (fullN ^^^ whN (inkF q ink) 36) = 0) = decide (madeK q n ink 36 = q) := by
  refine decide_eq_decide.2 ⟨fun h => ?_, fun h => ?_⟩
  · refine List.ext_getElem? fun j => ?_
    rw [madeK_get]
    split
    · rename_i hj
      have e := congrArg (fun x => Nat.testBit x j) h
      simp only [Nat.testBit_and, Nat.testBit_xor, Nat.zero_testBit, whN_bit, full_bit hj.1, hj.2.1, decide_eq_true hj.1, Bool.true_and, Bool.true_xor, Bool.not_eq_false', inkF, decide_eq_true_eq] at e
      rw [← e, List.getD_eq_getElem?_getD, List.getElem?_eq_getElem hj.2.2]; rfl
    · rfl
  · apply Nat.eq_of_testBit_eq; intro j
    simp only [Nat.testBit_and, Nat.testBit_xor, Nat.zero_testBit, whN_bit]
    by_cases hj : j < 36
    · rw [full_bit hj]
      cases hb : n.testBit j with
      | false => rfl
      | true =>
        have e := congrArg (fun x : List Int => x[j]?) h
        simp only [madeK_get, hj, hb, hq, and_self, if_true] at e
        have : q.getD j 0 = ink := getD_at e.symm
        rw [inkF, this]; simp [hj]
    · rw [Nat.testBit_lt_two_pow (Nat.lt_of_lt_of_le hn (Nat.pow_le_pow_right (by decide) (by omega : 36 ≤ j)))]; rfl
end Go.Proofs.Ythncpkdhcfaflaa
end

section
/- Contracts: the last prints, by both sides. -/
set_option linter.unusedVariables false
set_option linter.unusedSimpArgs false
set_option maxRecDepth 100000
set_option maxHeartbeats 4000000
namespace Go.Proofs.Ythncpkdhcfaflaa
open Go Go.RowKit Go.Proofs.Ythncpkdhcfaflaa.Abs
variable {W0 : World} {σ : List Blk}
def lastQ (p : List Int) (xs : List (List Int)) (i : Nat) : Bool := decide (madeK p (pSet (xs.getD i [])) (pInk (xs.getD i [])) 36 = p)
theorem lastQ_at {p : List Int} {xs : List (List Int)} {i : Nat} {x : List Int} (h : xs[i]? = some x) : lastQ p xs i = decide (madeK p (pSet x) (pInk x) 36 = p) := by
  rw [lastQ, List.getD_eq_getElem?_getD, h]; rfl
theorem sh_bQ (k : Nat) (q : List Int) (e : TypeId) (l : List Blk) : shB k (bQ q e :: l) = bQ q e :: shB k l := by
  show (⟨(q.map I).map (sh1 k), 0, e, 0, false, false⟩ : Blk) :: shB k l = _
  rw [sh_I]; rfl
theorem c_sLastT (p : List Int) (hq : p.length = 36) (a : AV) (xs : List (List Int)) (ha : Sli W0 [] 9 enI a xs) (hx : ∀ x ∈ xs, x.length = 9) (hb' : listB xs = true) (hpic : picB p = true) (K : Cont)
    (h0 : ∀ cap, K (.tup [.sl 1 (selN (lastQ p xs) xs.length).length 0 (selN (lastQ p xs) xs.length).length cap, Bo true]) [bQ p 44, outB (selN (lastQ p xs) xs.length)]) : ACall Try.prog W0 29 [Pi p, a] [] K := by
  obtain ⟨hl, hall⟩ := listB_iff.1 hb'
  refine by29 (Nat.le_of_ble_eq_true rfl) ?_
  have ha0 := ha
  cases ha with
  | nil =>
    have h0 := h0 0
    repeat' ((conv => whnf); first
      | (refine Exists.intro (bQ p 44) (And.intro rfl (And.intro rfl (And.intro (pic_le hq rfl) ?_))); rw [show (bQ p 44).cells = p.map I from rfl, pic_ld hq _ rfl])
      | (refine And.intro rfl ?_)
      | (refine And.intro (by decide +kernel) ?_)
      | (refine And.intro trivial ?_)
      | (refine d_l8Picture (hq := hq) (h0 := ?_) ..; rw [hpic])
      | (refine d_l8List (ha := sli_up ha0) (hx := hx) (hl := by omega) (h0 := ?_) ..; rw [hb'])
      | (refine Exists.intro _ (And.intro rfl (And.intro rfl (And.intro (Nat.le_of_ble_eq_true rfl) ?_))))
      | (refine Exists.intro _ (And.intro rfl (And.intro rfl (And.intro rfl (And.intro (Nat.le_of_ble_eq_true rfl) ?_)))))
      | (refine And.intro (Exists.intro _ (And.intro rfl rfl)) ?_)
      | (exact fun hW => absurd hW (by decide +kernel))
      | (intro hW; (try simp only [Bool.not_true, Bool.not_false, Bool.not_eq_true', Bool.not_eq_false', decide_eq_true_eq, decide_eq_false_iff_not, reduceCtorEq, Bool.true_eq_false, Bool.false_eq_true, mk_size, List.size_toArray, ByteArray.size_append, ByteArray.size_extract, List.length_cons, List.length_nil, ba_get, ba_empty, Int.toNat_natCast] at hW))
      | (refine And.intro (?_ : _ → _) (?_ : _ → _))
      | (refine FinR.drop 0 (Nat.zero_le _) (Closed.zero _) rfl ?_)
      | (refine FinR.keep ?_)
      | (refine And.intro (det3_agg rfl) ?_)
      | (refine fL_mk ?_)
      | (refine And.intro (by (try simp only [mk_size, List.size_toArray, ByteArray.size_append, ByteArray.size_extract, List.length_cons, List.length_nil]); omega) ?_)
      | (refine And.intro (by (try simp only [mk_size, List.size_toArray, ByteArray.size_append, ByteArray.size_extract, List.length_cons, List.length_nil, wrap64_eq]); omega) ?_)
      | fail)
    all_goals first | (exfalso; omega) | (exfalso; simp_all; done) | skip
    refine LoopR.unroll 1 ?_
    repeat' ((conv => whnf); first
      | (refine And.intro rfl ?_)
      | (refine And.intro (by decide +kernel) ?_)
      | (refine And.intro trivial ?_)
      | (refine Exists.intro _ (And.intro rfl (And.intro rfl (And.intro (Nat.le_of_ble_eq_true rfl) ?_))))
      | (refine Exists.intro _ (And.intro rfl (And.intro rfl (And.intro rfl (And.intro (Nat.le_of_ble_eq_true rfl) ?_)))))
      | (refine And.intro (Exists.intro _ (And.intro rfl rfl)) ?_)
      | (exact fun hW => absurd hW (by decide +kernel))
      | (intro hW; (try simp only [Bool.not_true, Bool.not_false, Bool.not_eq_true', Bool.not_eq_false', decide_eq_true_eq, decide_eq_false_iff_not, reduceCtorEq, Bool.true_eq_false, Bool.false_eq_true, mk_size, List.size_toArray, ByteArray.size_append, ByteArray.size_extract, List.length_cons, List.length_nil, ba_get, ba_empty, Int.toNat_natCast] at hW))
      | (refine And.intro (?_ : _ → _) (?_ : _ → _))
      | (refine FinR.drop 0 (Nat.zero_le _) (Closed.zero _) rfl ?_)
      | (refine FinR.keep ?_)
      | (refine And.intro (det3_agg rfl) ?_)
      | (refine fL_mk ?_)
      | (refine And.intro (by (try simp only [mk_size, List.size_toArray, ByteArray.size_append, ByteArray.size_extract, List.length_cons, List.length_nil]); omega) ?_)
      | (refine And.intro (by (try simp only [mk_size, List.size_toArray, ByteArray.size_append, ByteArray.size_extract, List.length_cons, List.length_nil, wrap64_eq]); omega) ?_)
      | fail)
    all_goals first | (exfalso; omega) | exact h0
  | inn ad n cap xs hn hc hcm hb hxx =>
    subst hn
    repeat' ((conv => whnf); first
      | (refine Exists.intro (bQ p 44) (And.intro rfl (And.intro rfl (And.intro (pic_le hq rfl) ?_))); rw [show (bQ p 44).cells = p.map I from rfl, pic_ld hq _ rfl])
      | (refine And.intro rfl ?_)
      | (refine And.intro (by decide +kernel) ?_)
      | (refine And.intro trivial ?_)
      | (refine d_l8Picture (hq := hq) (h0 := ?_) ..; rw [hpic])
      | (refine d_l8List (ha := sli_up ha0) (hx := hx) (hl := by omega) (h0 := ?_) ..; rw [hb'])
      | (refine Exists.intro _ (And.intro rfl (And.intro rfl (And.intro (Nat.le_of_ble_eq_true rfl) ?_))))
      | (refine Exists.intro _ (And.intro rfl (And.intro rfl (And.intro rfl (And.intro (Nat.le_of_ble_eq_true rfl) ?_)))))
      | (refine And.intro (Exists.intro _ (And.intro rfl rfl)) ?_)
      | (exact fun hW => absurd hW (by decide +kernel))
      | (intro hW; (try simp only [Bool.not_true, Bool.not_false, Bool.not_eq_true', Bool.not_eq_false', decide_eq_true_eq, decide_eq_false_iff_not, reduceCtorEq, Bool.true_eq_false, Bool.false_eq_true, mk_size, List.size_toArray, ByteArray.size_append, ByteArray.size_extract, List.length_cons, List.length_nil, ba_get, ba_empty, Int.toNat_natCast] at hW))
      | (refine And.intro (?_ : _ → _) (?_ : _ → _))
      | (refine FinR.drop 0 (Nat.zero_le _) (Closed.zero _) rfl ?_)
      | (refine FinR.keep ?_)
      | (refine And.intro (det3_agg rfl) ?_)
      | (refine fL_mk ?_)
      | (refine And.intro (by (try simp only [mk_size, List.size_toArray, ByteArray.size_append, ByteArray.size_extract, List.length_cons, List.length_nil]); omega) ?_)
      | (refine And.intro (by (try simp only [mk_size, List.size_toArray, ByteArray.size_append, ByteArray.size_extract, List.length_cons, List.length_nil, wrap64_eq]); omega) ?_)
      | fail)
    all_goals first | (exfalso; omega) | (exfalso; simp_all; done) | skip
    refine LoopR.live (fun y : Nat × Nat => [(1, .lit (.slice (some ad) xs.length cap)), (2, .ptr 0 0 0), (6, .sl 1 (selN (lastQ p xs) y.1).length 0 (selN (lastQ p xs) y.1).length y.2), (7, I y.1)]) (fun y => [bQ p 44, outB (selN (lastQ p xs) y.1)]) (fun y => y.1 ≤ xs.length) (fun y => xs.length - y.1) (0, 0) ⟨rfl, rfl, rfl, rfl, trivial⟩ (.keep rfl) (Nat.zero_le _) ?_
    rintro ⟨i, cp⟩ hi
    dsimp only at hi
    have hsl := selN_len (lastQ p xs) i
    by_cases hlt : i < xs.length
    · obtain ⟨c0, c1, c2, c3, c4, c5, c6, c7, c8, hxi⟩ := row9 hx hlt
      have hp : pOk [c0, c1, c2, c3, c4, c5, c6, c7, c8] = true := List.all_eq_true.1 hall _ (List.mem_of_getElem? hxi)
      have hld := ld9 hb hxx hxi rfl
      have hm36 : (madeK p (pSet [c0, c1, c2, c3, c4, c5, c6, c7, c8]) c0 36).length = 36 := by rw [madeK_len, hq]
      have hq1 := selN_succ (lastQ p xs) i
      rw [lastQ_at hxi] at hq1
      repeat' ((conv => whnf); first
        | (refine Exists.intro (bQ p 44) (And.intro rfl (And.intro rfl (And.intro (pic_le hq rfl) ?_))); rw [show (bQ p 44).cells = p.map I from rfl, pic_ld hq _ rfl])
        | (rw [lits_I, lits_I])
        | (rw [eqC36 hm36 hq])
        | (refine And.intro rfl ?_)
        | (refine And.intro (by decide +kernel) ?_)
        | (refine And.intro trivial ?_)
        | (refine And.intro rfl ?_)
        | (refine hld _ ?_)
        | (refine Exists.intro _ (And.intro (fun τ => callW_fn (d_l8Made (hq := hq) (hp := hp) (h0 := And.intro rfl rfl) ..)) ?_))
        | (refine Exists.intro _ (And.intro rfl (And.intro rfl (And.intro rfl (And.intro rfl (And.intro rfl (And.intro rfl (And.intro (by decide) (And.intro (by simp [List.length_map]) (And.intro rfl (And.intro (by (try dsimp only); unfold maxLen; omega) (And.intro (by (try dsimp only); omega) (fun cap' hcap1 hcap2 => ?_)))))))))))))
        | (refine Exists.intro _ (And.intro rfl (And.intro rfl (And.intro (Nat.le_of_ble_eq_true rfl) ?_))))
        | (refine Exists.intro _ (And.intro rfl (And.intro rfl (And.intro rfl (And.intro (Nat.le_of_ble_eq_true rfl) ?_)))))
        | (refine And.intro (Exists.intro _ (And.intro rfl rfl)) ?_)
        | (exact fun hW => absurd hW (by decide +kernel))
        | (intro hW; (try simp only [Bool.not_true, Bool.not_false, Bool.not_eq_true', Bool.not_eq_false', decide_eq_true_eq, decide_eq_false_iff_not, reduceCtorEq, Bool.true_eq_false, Bool.false_eq_true, mk_size, List.size_toArray, ByteArray.size_append, ByteArray.size_extract, List.length_cons, List.length_nil, ba_get, ba_empty, Int.toNat_natCast] at hW))
        | (refine And.intro (?_ : _ → _) (?_ : _ → _))
        | (refine FinR.drop 0 (Nat.zero_le _) (Closed.zero _) rfl ?_)
        | (refine FinR.keep ?_)
        | (refine And.intro (det3_agg rfl) ?_)
        | (refine fL_mk ?_)
        | (refine And.intro (by (try simp only [mk_size, List.size_toArray, ByteArray.size_append, ByteArray.size_extract, List.length_cons, List.length_nil]); omega) ?_)
        | (refine And.intro (by (try simp only [mk_size, List.size_toArray, ByteArray.size_append, ByteArray.size_extract, List.length_cons, List.length_nil, wrap64_eq]); omega) ?_)
        | fail)
      all_goals first | (exfalso; omega) | skip
      · have hW' : decide (madeK p (pSet [c0, c1, c2, c3, c4, c5, c6, c7, c8]) c0 36 = p) = true := by simpa using hW
        rw [show pInk [c0, c1, c2, c3, c4, c5, c6, c7, c8] = c0 from rfl, hW', if_pos rfl] at hq1
        refine Again.go (i + 1, _) ⟨rfl, rfl, (by show AV.sl _ _ _ _ _ = AV.sl _ _ _ _ _; rw [hq1, List.length_append]; rfl), slI' (wsucc' i (by omega)), trivial⟩ (.keep ?_) (by dsimp only; omega) (by dsimp only; omega)
        dsimp only [outB]
        rw [hq1, List.length_append, List.map_append]; rfl
      · have hW' : decide (madeK p (pSet [c0, c1, c2, c3, c4, c5, c6, c7, c8]) c0 36 = p) = false := by simpa using hW
        rw [show pInk [c0, c1, c2, c3, c4, c5, c6, c7, c8] = c0 from rfl, hW', if_neg (by decide), List.append_nil] at hq1
        refine Again.go (i + 1, cp) ⟨rfl, rfl, (by show AV.sl _ _ _ _ _ = AV.sl _ _ _ _ _; rw [hq1]), slI' (wsucc' i (by omega)), trivial⟩ (.keep ?_) (by dsimp only; omega) (by dsimp only; omega)
        dsimp only [outB]
        rw [hq1]
    · obtain rfl : i = xs.length := by omega
      have h0 := h0 cp
      repeat' ((conv => whnf); first
        | (refine And.intro rfl ?_)
        | (refine And.intro (by decide +kernel) ?_)
        | (refine And.intro trivial ?_)
        | (refine Exists.intro _ (And.intro rfl (And.intro rfl (And.intro (Nat.le_of_ble_eq_true rfl) ?_))))
        | (refine Exists.intro _ (And.intro rfl (And.intro rfl (And.intro rfl (And.intro (Nat.le_of_ble_eq_true rfl) ?_)))))
        | (refine And.intro (Exists.intro _ (And.intro rfl rfl)) ?_)
        | (exact fun hW => absurd hW (by decide +kernel))
        | (intro hW; (try simp only [Bool.not_true, Bool.not_false, Bool.not_eq_true', Bool.not_eq_false', decide_eq_true_eq, decide_eq_false_iff_not, reduceCtorEq, Bool.true_eq_false, Bool.false_eq_true, mk_size, List.size_toArray, ByteArray.size_append, ByteArray.size_extract, List.length_cons, List.length_nil, ba_get, ba_empty, Int.toNat_natCast] at hW))
        | (refine And.intro (?_ : _ → _) (?_ : _ → _))
        | (refine FinR.drop 0 (Nat.zero_le _) (Closed.zero _) rfl ?_)
        | (refine FinR.keep ?_)
        | (refine And.intro (det3_agg rfl) ?_)
        | (refine fL_mk ?_)
        | (refine And.intro (by (try simp only [mk_size, List.size_toArray, ByteArray.size_append, ByteArray.size_extract, List.length_cons, List.length_nil]); omega) ?_)
        | (refine And.intro (by (try simp only [mk_size, List.size_toArray, ByteArray.size_append, ByteArray.size_extract, List.length_cons, List.length_nil, wrap64_eq]); omega) ?_)
        | fail)
      all_goals first | (exfalso; omega) | exact h0
  | own b ver off n cap B xs hB => simp at hB
theorem c_sLastF (p : List Int) (hq : p.length = 36) (a : AV) (xs : List (List Int)) (ha : Sli W0 [] 9 enI a xs) (hx : ∀ x ∈ xs, x.length = 9) (hl : xs.length ≤ 1048576) (hb : (picB p && listB xs) = false) (K : Cont) (h0 : K (.tup [.sl 1 0 0 0 0, Bo false]) [bQ p 44, outB []]) : ACall Try.prog W0 29 [Pi p, a] [] K := by
  obtain ⟨va, rfl⟩ := sli_lit ha
  refine by29 (Nat.le_of_ble_eq_true rfl) ?_
  cases hpic : picB p with
  | true =>
    rw [hpic, Bool.true_and] at hb
    repeat' ((conv => whnf); first
      | (refine Exists.intro (bQ p 44) (And.intro rfl (And.intro rfl (And.intro (pic_le hq rfl) ?_))); rw [show (bQ p 44).cells = p.map I from rfl, pic_ld hq _ rfl])
      | (refine And.intro rfl ?_)
      | (refine And.intro (by decide +kernel) ?_)
      | (refine And.intro trivial ?_)
      | (refine d_l8Picture (hq := hq) (h0 := ?_) ..; rw [hpic])
      | (refine d_l8List (ha := sli_up ha) (hx := hx) (hl := by omega) (h0 := ?_) ..; rw [hb])
      | (refine Exists.intro _ (And.intro rfl (And.intro rfl (And.intro (Nat.le_of_ble_eq_true rfl) ?_))))
      | (refine Exists.intro _ (And.intro rfl (And.intro rfl (And.intro rfl (And.intro (Nat.le_of_ble_eq_true rfl) ?_)))))
      | (refine And.intro (Exists.intro _ (And.intro rfl rfl)) ?_)
      | (exact fun hW => absurd hW (by decide +kernel))
      | (intro hW; (try simp only [Bool.not_true, Bool.not_false, Bool.not_eq_true', Bool.not_eq_false', decide_eq_true_eq, decide_eq_false_iff_not, reduceCtorEq, Bool.true_eq_false, Bool.false_eq_true, mk_size, List.size_toArray, ByteArray.size_append, ByteArray.size_extract, List.length_cons, List.length_nil, ba_get, ba_empty, Int.toNat_natCast] at hW))
      | (refine And.intro (?_ : _ → _) (?_ : _ → _))
      | (refine FinR.drop 0 (Nat.zero_le _) (Closed.zero _) rfl ?_)
      | (refine FinR.keep ?_)
      | (refine And.intro (det3_agg rfl) ?_)
      | (refine fL_mk ?_)
      | (refine And.intro (by (try simp only [mk_size, List.size_toArray, ByteArray.size_append, ByteArray.size_extract, List.length_cons, List.length_nil]); omega) ?_)
      | (refine And.intro (by (try simp only [mk_size, List.size_toArray, ByteArray.size_append, ByteArray.size_extract, List.length_cons, List.length_nil, wrap64_eq]); omega) ?_)
      | fail)
    all_goals first | (exfalso; omega) | (exfalso; simp_all; done) | exact h0
  | false =>
    repeat' ((conv => whnf); first
      | (refine Exists.intro (bQ p 44) (And.intro rfl (And.intro rfl (And.intro (pic_le hq rfl) ?_))); rw [show (bQ p 44).cells = p.map I from rfl, pic_ld hq _ rfl])
      | (refine And.intro rfl ?_)
      | (refine And.intro (by decide +kernel) ?_)
      | (refine And.intro trivial ?_)
      | (refine d_l8Picture (hq := hq) (h0 := ?_) ..; rw [hpic])
      | (refine Exists.intro _ (And.intro rfl (And.intro rfl (And.intro (Nat.le_of_ble_eq_true rfl) ?_))))
      | (refine Exists.intro _ (And.intro rfl (And.intro rfl (And.intro rfl (And.intro (Nat.le_of_ble_eq_true rfl) ?_)))))
      | (refine And.intro (Exists.intro _ (And.intro rfl rfl)) ?_)
      | (exact fun hW => absurd hW (by decide +kernel))
      | (intro hW; (try simp only [Bool.not_true, Bool.not_false, Bool.not_eq_true', Bool.not_eq_false', decide_eq_true_eq, decide_eq_false_iff_not, reduceCtorEq, Bool.true_eq_false, Bool.false_eq_true, mk_size, List.size_toArray, ByteArray.size_append, ByteArray.size_extract, List.length_cons, List.length_nil, ba_get, ba_empty, Int.toNat_natCast] at hW))
      | (refine And.intro (?_ : _ → _) (?_ : _ → _))
      | (refine FinR.drop 0 (Nat.zero_le _) (Closed.zero _) rfl ?_)
      | (refine FinR.keep ?_)
      | (refine And.intro (det3_agg rfl) ?_)
      | (refine fL_mk ?_)
      | (refine And.intro (by (try simp only [mk_size, List.size_toArray, ByteArray.size_append, ByteArray.size_extract, List.length_cons, List.length_nil]); omega) ?_)
      | (refine And.intro (by (try simp only [mk_size, List.size_toArray, ByteArray.size_append, ByteArray.size_extract, List.length_cons, List.length_nil, wrap64_eq]); omega) ?_)
      | fail)
    all_goals first | (exfalso; omega) | (exfalso; simp_all; done) | exact h0
theorem lay_pair {xs : List (List Int)} {i off : Nat} {x : List Int} (h : xs[i]? = some x) (ho : off = i * 2) : mkAV true (((lyC xs).drop off).take 2) = .agg [U (pSet x : Nat), I (pInk x)] := by
  subst ho
  obtain ⟨h1, h2⟩ := lyC_get h
  rw [List.drop_eq_getElem_cons (getElem?_lt h1), List.drop_eq_getElem_cons (getElem?_lt h2), (List.getElem?_eq_some_iff.1 h1).2, (List.getElem?_eq_some_iff.1 h2).2]; rfl
theorem c_LastT (p : List Int) (hq : p.length = 36) (a : AV) (xs : List (List Int)) (ha : Sli W0 [] 9 enI a xs) (hx : ∀ x ∈ xs, x.length = 9) (hb : listB xs = true) (hpic : picB p = true) (K : Cont)
    (h0 : ∀ cap, K (.tup [.sl 2 (selN (lastQ p xs) xs.length).length 0 (selN (lastQ p xs) xs.length).length cap, Bo true]) [bQ p 44, lyB xs, outB (selN (lastQ p xs) xs.length)]) : ACall Try.prog W0 31 [Pi p, a] [] K := by
  obtain ⟨hl, hall⟩ := listB_iff.1 hb
  obtain ⟨va, rfl⟩ := sli_lit ha
  refine by31 (Nat.le_of_ble_eq_true rfl) ?_
  have h6 : decide (xs.length ≤ 6) = true := by simpa using hl
  repeat' ((conv => whnf); first
    | (refine Exists.intro (bQ p 44) (And.intro rfl (And.intro rfl (And.intro (pic_le hq rfl) ?_))); rw [show (bQ p 44).cells = p.map I from rfl, pic_ld hq _ rfl])
    | (refine And.intro rfl ?_)
    | (refine And.intro (by decide +kernel) ?_)
    | (refine And.intro trivial ?_)
    | (refine d_layersOf (ha := sli_up ha) (hx := hx) (hl := by omega) (h1 := fun _ cp => ?_) (h2 := fun hf => by rw [hall] at hf; cases hf) ..; rw [h6])
    | (refine d_IsPicture (hq := hq) (h0 := ?_) ..; rw [hpic])
    | (refine Exists.intro _ (And.intro rfl (And.intro rfl (And.intro (Nat.le_of_ble_eq_true rfl) ?_))))
    | (refine Exists.intro _ (And.intro rfl (And.intro rfl (And.intro rfl (And.intro (Nat.le_of_ble_eq_true rfl) ?_)))))
    | (refine And.intro (Exists.intro _ (And.intro rfl rfl)) ?_)
    | (exact fun hW => absurd hW (by decide +kernel))
    | (intro hW; (try simp only [Bool.not_true, Bool.not_false, Bool.not_eq_true', Bool.not_eq_false', decide_eq_true_eq, decide_eq_false_iff_not, reduceCtorEq, Bool.true_eq_false, Bool.false_eq_true, mk_size, List.size_toArray, ByteArray.size_append, ByteArray.size_extract, List.length_cons, List.length_nil, ba_get, ba_empty, Int.toNat_natCast] at hW))
    | (refine And.intro (?_ : _ → _) (?_ : _ → _))
    | (refine FinR.drop 0 (Nat.zero_le _) (Closed.zero _) rfl ?_)
    | (refine FinR.keep ?_)
    | (refine And.intro (det3_agg rfl) ?_)
    | (refine fL_mk ?_)
    | (refine And.intro (by (try simp only [mk_size, List.size_toArray, ByteArray.size_append, ByteArray.size_extract, List.length_cons, List.length_nil]); omega) ?_)
    | (refine And.intro (by (try simp only [mk_size, List.size_toArray, ByteArray.size_append, ByteArray.size_extract, List.length_cons, List.length_nil, wrap64_eq]); omega) ?_)
    | fail)
  all_goals first | (exfalso; omega) | (exfalso; simp_all; done) | skip
  refine LoopR.live (fun y : Nat × Nat => [(2, .ptr 0 0 0), (8, .sl 2 (selN (lastQ p xs) y.1).length 0 (selN (lastQ p xs) y.1).length y.2), (24, .sl 1 xs.length 0 xs.length cp), (25, I xs.length), (26, I y.1)]) (fun y => [bQ p 44, lyB xs, outB (selN (lastQ p xs) y.1)]) (fun y => y.1 ≤ xs.length) (fun y => xs.length - y.1) (0, 0) ⟨rfl, rfl, rfl, rfl, rfl, trivial⟩ (.keep rfl) (Nat.zero_le _) ?_
  rintro ⟨i, cp1⟩ hi
  dsimp only at hi
  have hsl := selN_len (lastQ p xs) i
  by_cases hlt : i < xs.length
  · obtain ⟨x, hxi⟩ : ∃ x, xs[i]? = some x := ⟨_, List.getElem?_eq_getElem hlt⟩
    have hp : pOk x = true := List.all_eq_true.1 hall _ (List.mem_of_getElem? hxi)
    have hs := pSet_lt (hx _ (List.mem_of_getElem? hxi)) hp
    have hbn := bAndNotU hs (whN_lt (inkF p (pInk x)) (Nat.le_refl 36))
    have hle1 : ∀ (off : Nat), off = i * 2 → off + 2 ≤ (lyC xs).length := fun off ho => lay_le hlt (by omega)
    have hq1 := selN_succ (lastQ p xs) i
    rw [lastQ_at hxi, ← last_dec hq hs] at hq1
    repeat' ((conv => whnf); first
      | (refine And.intro rfl (Exists.intro (bQ p 44) (And.intro rfl (And.intro rfl (And.intro (pic_le hq rfl) ?_)))); rw [show (bQ p 44).cells = p.map I from rfl, pic_ld hq _ rfl])
      | (refine Exists.intro (lyB xs) (And.intro rfl (And.intro rfl (And.intro (hle1 _ (by rw [Int.toNat_natCast]; omega)) ?_))); rw [lay_pair hxi (by rw [Int.toNat_natCast]; omega)])
      | (refine And.intro rfl ?_)
      | (refine And.intro (by decide +kernel) ?_)
      | (refine And.intro trivial ?_)
      | (refine Exists.intro _ (And.intro (fun τ => callW_fn (d_inkSet (hq := hq) (h0 := And.intro rfl rfl) ..)) ?_))
      | (refine Exists.intro _ (And.intro rfl (And.intro rfl (And.intro rfl (And.intro rfl (And.intro rfl (And.intro rfl (And.intro (by decide) (And.intro (by simp [List.length_map]) (And.intro rfl (And.intro (by (try dsimp only); unfold maxLen; omega) (And.intro (by (try dsimp only); omega) (fun cap' hcap1 hcap2 => ?_)))))))))))))
      | (refine Exists.intro _ (And.intro rfl (And.intro rfl (And.intro (Nat.le_of_ble_eq_true rfl) ?_))))
      | (refine Exists.intro _ (And.intro rfl (And.intro rfl (And.intro rfl (And.intro (Nat.le_of_ble_eq_true rfl) ?_)))))
      | (refine And.intro (Exists.intro _ (And.intro rfl rfl)) ?_)
      | (exact fun hW => absurd hW (by decide +kernel))
      | (intro hW; (try simp only [Bool.not_true, Bool.not_false, Bool.not_eq_true', Bool.not_eq_false', decide_eq_true_eq, decide_eq_false_iff_not, reduceCtorEq, Bool.true_eq_false, Bool.false_eq_true, mk_size, List.size_toArray, ByteArray.size_append, ByteArray.size_extract, List.length_cons, List.length_nil, ba_get, ba_empty, Int.toNat_natCast] at hW))
      | (refine And.intro (?_ : _ → _) (?_ : _ → _))
      | (refine FinR.drop 0 (Nat.zero_le _) (Closed.zero _) rfl ?_)
      | (refine FinR.keep ?_)
      | (refine And.intro (det3_agg rfl) ?_)
      | (refine fL_mk ?_)
      | (refine And.intro (by (try simp only [mk_size, List.size_toArray, ByteArray.size_append, ByteArray.size_extract, List.length_cons, List.length_nil]); omega) ?_)
      | (refine And.intro (by (try simp only [mk_size, List.size_toArray, ByteArray.size_append, ByteArray.size_extract, List.length_cons, List.length_nil, wrap64_eq]); omega) ?_)
      | fail)
    all_goals first | (exfalso; omega) | skip
    all_goals (rw [hbn] at hW)
    · have hW' : decide (pSet x &&& (fullN ^^^ whN (inkF p (pInk x)) 36) = 0) = true := by simp; omega
      rw [hW', if_pos rfl] at hq1
      refine Again.go (i + 1, _) ⟨rfl, (by show AV.sl _ _ _ _ _ = AV.sl _ _ _ _ _; rw [hq1, List.length_append]; rfl), rfl, rfl, slI' (wsucc' i (by omega)), trivial⟩ (.drop 3 (Nat.zero_le _) ?_ (closCons (belI 3 _) (closCons (belL 3 _) (closCons (belI 3 _) (closNil 3)))) rfl) (by dsimp only; omega) (by dsimp only; omega)
      dsimp only [outB]
      rw [hq1, List.length_append, List.map_append]; rfl
    · have hW' : decide (pSet x &&& (fullN ^^^ whN (inkF p (pInk x)) 36) = 0) = false := by simp; omega
      rw [hW', if_neg (by decide), List.append_nil] at hq1
      refine Again.go (i + 1, cp1) ⟨rfl, (by show AV.sl _ _ _ _ _ = AV.sl _ _ _ _ _; rw [hq1]), rfl, rfl, slI' (wsucc' i (by omega)), trivial⟩ (.drop 3 (Nat.zero_le _) ?_ (closCons (belI 3 _) (closCons (belL 3 _) (closCons (belI 3 _) (closNil 3)))) rfl) (by dsimp only; omega) (by dsimp only; omega)
      dsimp only [outB]
      rw [hq1]; rfl
  · obtain rfl : i = xs.length := by omega
    have h0 := h0 cp1
    repeat' ((conv => whnf); first
      | (refine And.intro rfl ?_)
      | (refine And.intro (by decide +kernel) ?_)
      | (refine And.intro trivial ?_)
      | (refine Exists.intro _ (And.intro rfl (And.intro rfl (And.intro (Nat.le_of_ble_eq_true rfl) ?_))))
      | (refine Exists.intro _ (And.intro rfl (And.intro rfl (And.intro rfl (And.intro (Nat.le_of_ble_eq_true rfl) ?_)))))
      | (refine And.intro (Exists.intro _ (And.intro rfl rfl)) ?_)
      | (exact fun hW => absurd hW (by decide +kernel))
      | (intro hW; (try simp only [Bool.not_true, Bool.not_false, Bool.not_eq_true', Bool.not_eq_false', decide_eq_true_eq, decide_eq_false_iff_not, reduceCtorEq, Bool.true_eq_false, Bool.false_eq_true, mk_size, List.size_toArray, ByteArray.size_append, ByteArray.size_extract, List.length_cons, List.length_nil, ba_get, ba_empty, Int.toNat_natCast] at hW))
      | (refine And.intro (?_ : _ → _) (?_ : _ → _))
      | (refine FinR.drop 0 (Nat.zero_le _) (Closed.zero _) rfl ?_)
      | (refine FinR.keep ?_)
      | (refine And.intro (det3_agg rfl) ?_)
      | (refine fL_mk ?_)
      | (refine And.intro (by (try simp only [mk_size, List.size_toArray, ByteArray.size_append, ByteArray.size_extract, List.length_cons, List.length_nil]); omega) ?_)
      | (refine And.intro (by (try simp only [mk_size, List.size_toArray, ByteArray.size_append, ByteArray.size_extract, List.length_cons, List.length_nil, wrap64_eq]); omega) ?_)
      | fail)
    all_goals first | (exfalso; omega) | exact h0
theorem c_LastF (p : List Int) (hq : p.length = 36) (a : AV) (xs : List (List Int)) (ha : Sli W0 [] 9 enI a xs) (hx : ∀ x ∈ xs, x.length = 9) (hl : xs.length ≤ 1048576) (hb : (picB p && listB xs) = false) (K : Cont) (h0 : K (.tup [nilA, Bo false]) []) : ACall Try.prog W0 31 [Pi p, a] [] K := by
  obtain ⟨va, rfl⟩ := sli_lit ha
  refine by31 (Nat.le_of_ble_eq_true rfl) ?_
  cases hpic : picB p with
  | true =>
    rw [hpic, Bool.true_and] at hb
    have h6 : xs.all pOk = true → decide (xs.length ≤ 6) = false := by
      intro h; simp only [listB, h, Bool.and_true] at hb; exact hb
    repeat' ((conv => whnf); first
      | (refine Exists.intro (bQ p 44) (And.intro rfl (And.intro rfl (And.intro (pic_le hq rfl) ?_))); rw [show (bQ p 44).cells = p.map I from rfl, pic_ld hq _ rfl])
      | (refine And.intro rfl ?_)
      | (refine And.intro (by decide +kernel) ?_)
      | (refine And.intro trivial ?_)
      | (refine d_layersOf (ha := sli_up ha) (hx := hx) (hl := by omega) (h1 := fun hall cp => ?_) (h2 := fun hf => ?_) .. <;> try rw [h6 hall])
      | (refine d_IsPicture (hq := hq) (h0 := ?_) ..; rw [hpic])
      | (refine Exists.intro _ (And.intro rfl (And.intro rfl (And.intro (Nat.le_of_ble_eq_true rfl) ?_))))
      | (refine Exists.intro _ (And.intro rfl (And.intro rfl (And.intro rfl (And.intro (Nat.le_of_ble_eq_true rfl) ?_)))))
      | (refine And.intro (Exists.intro _ (And.intro rfl rfl)) ?_)
      | (exact fun hW => absurd hW (by decide +kernel))
      | (intro hW; (try simp only [Bool.not_true, Bool.not_false, Bool.not_eq_true', Bool.not_eq_false', decide_eq_true_eq, decide_eq_false_iff_not, reduceCtorEq, Bool.true_eq_false, Bool.false_eq_true, mk_size, List.size_toArray, ByteArray.size_append, ByteArray.size_extract, List.length_cons, List.length_nil, ba_get, ba_empty, Int.toNat_natCast] at hW))
      | (refine And.intro (?_ : _ → _) (?_ : _ → _))
      | (refine FinR.drop 0 (Nat.zero_le _) (Closed.zero _) rfl ?_)
      | (refine FinR.keep ?_)
      | (refine And.intro (det3_agg rfl) ?_)
      | (refine fL_mk ?_)
      | (refine And.intro (by (try simp only [mk_size, List.size_toArray, ByteArray.size_append, ByteArray.size_extract, List.length_cons, List.length_nil]); omega) ?_)
      | (refine And.intro (by (try simp only [mk_size, List.size_toArray, ByteArray.size_append, ByteArray.size_extract, List.length_cons, List.length_nil, wrap64_eq]); omega) ?_)
      | fail)
    all_goals first | (exfalso; omega) | (exfalso; simp_all; done) | exact h0
  | false =>
    repeat' ((conv => whnf); first
      | (refine Exists.intro (bQ p 44) (And.intro rfl (And.intro rfl (And.intro (pic_le hq rfl) ?_))); rw [show (bQ p 44).cells = p.map I from rfl, pic_ld hq _ rfl])
      | (refine And.intro rfl ?_)
      | (refine And.intro (by decide +kernel) ?_)
      | (refine And.intro trivial ?_)
      | (refine d_layersOf (ha := sli_up ha) (hx := hx) (hl := by omega) (h1 := fun hall cp => ?_) (h2 := fun hf => ?_) ..)
      | (refine d_IsPicture (hq := hq) (h0 := ?_) ..; rw [hpic])
      | (refine Exists.intro _ (And.intro rfl (And.intro rfl (And.intro (Nat.le_of_ble_eq_true rfl) ?_))))
      | (refine Exists.intro _ (And.intro rfl (And.intro rfl (And.intro rfl (And.intro (Nat.le_of_ble_eq_true rfl) ?_)))))
      | (refine And.intro (Exists.intro _ (And.intro rfl rfl)) ?_)
      | (exact fun hW => absurd hW (by decide +kernel))
      | (intro hW; (try simp only [Bool.not_true, Bool.not_false, Bool.not_eq_true', Bool.not_eq_false', decide_eq_true_eq, decide_eq_false_iff_not, reduceCtorEq, Bool.true_eq_false, Bool.false_eq_true, mk_size, List.size_toArray, ByteArray.size_append, ByteArray.size_extract, List.length_cons, List.length_nil, ba_get, ba_empty, Int.toNat_natCast] at hW))
      | (refine And.intro (?_ : _ → _) (?_ : _ → _))
      | (refine FinR.drop 0 (Nat.zero_le _) (Closed.zero _) rfl ?_)
      | (refine FinR.keep ?_)
      | (refine And.intro (det3_agg rfl) ?_)
      | (refine fL_mk ?_)
      | (refine And.intro (by (try simp only [mk_size, List.size_toArray, ByteArray.size_append, ByteArray.size_extract, List.length_cons, List.length_nil]); omega) ?_)
      | (refine And.intro (by (try simp only [mk_size, List.size_toArray, ByteArray.size_append, ByteArray.size_extract, List.length_cons, List.length_nil, wrap64_eq]); omega) ?_)
      | fail)
    all_goals first | (exfalso; omega) | (exfalso; simp_all; done) | exact h0
end Go.Proofs.Ythncpkdhcfaflaa
end

section
/- Contracts: the law of the last prints. -/
set_option linter.unusedVariables false
set_option linter.unusedSimpArgs false
set_option maxRecDepth 100000
set_option maxHeartbeats 4000000
namespace Go.Proofs.Ythncpkdhcfaflaa
open Go Go.RowKit Go.Proofs.Ythncpkdhcfaflaa.Abs
variable {W0 : World} {σ : List Blk}
theorem sh_out1 (k : Nat) (l : List Int) : shB k [outB l] = [outB l] := by simp only [shB, List.map_cons, List.map_nil, outB, sh_I]
theorem sh_lyout (k : Nat) (xs : List (List Int)) (l : List Int) : shB k [lyB xs, outB l] = [lyB xs, outB l] := by simp only [shB, List.map_cons, List.map_nil, lyB, outB, sh_lyC, sh_I]
theorem d_sLastF (p : List Int) (hq : p.length = 36) (a : AV) (xs : List (List Int)) (ha : Sli W0 σ 9 enI a xs) (hx : ∀ x ∈ xs, x.length = 9) (hl : xs.length ≤ 1048576) (hb : (picB p && listB xs) = false) (K : Cont) (h0 : K (.tup [.sl (σ.length + 1) 0 0 0 0, Bo false]) (σ ++ [bQ p 44, outB []])) : ACall Try.prog W0 29 [Pi p, a] σ K :=
  lift_PS1 (ι := Unit) (fun _ => .tup [.sl 1 0 0 0 0, Bo false]) (fun _ => [bQ p 44, outB []]) (by kernel_rfl) (pureI p) ha (fun W1 a' h K hK => c_sLastF p hq a' xs h hx hl hb K (hK ())) K (fun _ => by rw [sh_bQ]; exact h0)
theorem d_sLastT (p : List Int) (hq : p.length = 36) (a : AV) (xs : List (List Int)) (ha : Sli W0 σ 9 enI a xs) (hx : ∀ x ∈ xs, x.length = 9) (hb : listB xs = true) (hpic : picB p = true) (K : Cont)
    (h0 : ∀ cap, K (.tup [.sl (σ.length + 1) (selN (lastQ p xs) xs.length).length 0 (selN (lastQ p xs) xs.length).length cap, Bo true]) (σ ++ [bQ p 44, outB (selN (lastQ p xs) xs.length)])) : ACall Try.prog W0 29 [Pi p, a] σ K :=
  lift_PS1 (ι := Nat) (fun cap => .tup [.sl 1 (selN (lastQ p xs) xs.length).length 0 (selN (lastQ p xs) xs.length).length cap, Bo true]) (fun _ => [bQ p 44, outB (selN (lastQ p xs) xs.length)]) (by kernel_rfl) (pureI p) ha
    (fun W1 a' h K hK => c_sLastT p hq a' xs h hx hb hpic K hK) K (fun cap => by rw [sh_bQ, sh_out1]; exact h0 cap)
theorem d_LastT (p : List Int) (hq : p.length = 36) (a : AV) (xs : List (List Int)) (ha : Sli W0 σ 9 enI a xs) (hx : ∀ x ∈ xs, x.length = 9) (hb : listB xs = true) (hpic : picB p = true) (K : Cont)
    (h0 : ∀ cap, K (.tup [.sl (σ.length + 2) (selN (lastQ p xs) xs.length).length 0 (selN (lastQ p xs) xs.length).length cap, Bo true]) (σ ++ [bQ p 44, lyB xs, outB (selN (lastQ p xs) xs.length)])) : ACall Try.prog W0 31 [Pi p, a] σ K :=
  lift_PS1 (ι := Nat) (fun cap => .tup [.sl 2 (selN (lastQ p xs) xs.length).length 0 (selN (lastQ p xs) xs.length).length cap, Bo true]) (fun _ => [bQ p 44, lyB xs, outB (selN (lastQ p xs) xs.length)]) (by kernel_rfl) (pureI p) ha
    (fun W1 a' h K hK => c_LastT p hq a' xs h hx hb hpic K hK) K (fun cap => by rw [sh_bQ, sh_lyout]; exact h0 cap)
theorem d_LastF (p : List Int) (hq : p.length = 36) (a : AV) (xs : List (List Int)) (ha : Sli W0 σ 9 enI a xs) (hx : ∀ x ∈ xs, x.length = 9) (hl : xs.length ≤ 1048576) (hb : (picB p && listB xs) = false) (K : Cont) (h0 : K (.tup [nilA, Bo false]) σ) : ACall Try.prog W0 31 [Pi p, a] σ K :=
  lift_PS1 (ι := Unit) (fun _ => .tup [nilA, Bo false]) (fun _ => []) (by kernel_rfl) (pureI p) ha (fun W1 a' h K hK => c_LastF p hq a' xs h hx hl hb K (hK ())) K (fun _ => by
    rw [show shB σ.length [] = [] from rfl, List.append_nil]; exact h0)
theorem c_law_LastPrintsT (p : List Int) (hq : p.length = 36) (v : Value) (xs : List (List Int)) (ha : Sli W0 [] 9 enI (.lit v) xs) (hx : ∀ x ∈ xs, x.length = 9) (hb : listB xs = true) (hpic : picB p = true) (K : Cont) (h0 : K (Bo true) []) : ACall Try.prog W0 6 [Pi p, .lit v] [] K := by
  refine by6 (Nat.le_of_ble_eq_true rfl) ?_
  obtain ⟨hl, hall⟩ := listB_iff.1 hb
  have hz : ¬ ((1048576 : Int) - (xs.length : Nat) < 0) := by omega
  have hsl := selN_len (lastQ p xs) xs.length
  have h9 := jc_len9 hx
  repeat' ((conv => whnf); first
    | (refine Exists.intro (bQ p 42) (And.intro rfl (And.intro rfl (And.intro (pic_le hq rfl) ?_))); rw [show (bQ p 42).cells = p.map I from rfl, pic_ld hq _ rfl])
    | (refine And.intro rfl ?_)
    | (refine And.intro (by decide +kernel) ?_)
    | (refine And.intro trivial ?_)
    | (refine d_szPrintS (ha := sli_up ha) (hl := by omega) (hm := by decide) (h0 := ?_) .. <;> try rw [if_neg hz])
    | (refine d_toPicture (hq := hq) (h0 := ?_) ..)
    | (refine d_toPrintS (hs := sli_up ha) (hx := hx) (hl := by omega) (h0 := ?_) ..)
    | (refine d_sLastT (hq := hq) (ha := sli_rows hx rfl) (hx := hx) (hb := hb) (hpic := hpic) (h0 := fun cap => ?_) ..)
    | (refine d_LastT (hq := hq) (ha := sli_rows hx rfl) (hx := hx) (hb := hb) (hpic := hpic) (h0 := fun cap => ?_) ..)
    | (refine d_eqIntS (ha := sli_ints rfl) (hb' := sli_ints rfl) (hl := by omega) (h0 := ?_) ..)
    | (refine d_eqPrintS (ha := sli_rows hx rfl) (hb' := sli_rows hx rfl) (hx := hx) (hl := by omega) (h0 := ?_) ..)
    | (refine d_markPrintS (B := prB xs) (hB := rfl) (hv := rfl) (hn := h9) (hn2 := by omega) (hk := by omega) (h0 := ?_) ..)
    | (refine d_markIntS (B := outB (selN (lastQ p xs) xs.length)) (hB := rfl) (hv := rfl) (hn := by rw [List.length_map]; exact Nat.le_refl _) (hn2 := by omega) (hk := by omega) (h0 := ?_) ..)
    | (refine d_heldIntS (ha := sli_marks2 (B := outB (selN (lastQ p xs) xs.length)) rfl rfl) (hn2 := by omega) (hk := by omega) (h0 := ?_) ..)
    | (refine Exists.intro _ (And.intro rfl (And.intro rfl (And.intro (Nat.le_of_ble_eq_true rfl) ?_))))
    | (refine Exists.intro _ (And.intro rfl (And.intro rfl (And.intro rfl (And.intro (Nat.le_of_ble_eq_true rfl) ?_)))))
    | (refine And.intro (Exists.intro _ (And.intro rfl rfl)) ?_)
    | (exact fun hW => absurd hW (by decide +kernel))
    | (intro hW; (try simp only [Bool.not_true, Bool.not_false, Bool.not_eq_true', Bool.not_eq_false', decide_eq_true_eq, decide_eq_false_iff_not, reduceCtorEq, Bool.true_eq_false, Bool.false_eq_true, mk_size, List.size_toArray, ByteArray.size_append, ByteArray.size_extract, List.length_cons, List.length_nil, ba_get, ba_empty, Int.toNat_natCast] at hW))
    | (refine And.intro (?_ : _ → _) (?_ : _ → _))
    | (refine FinR.drop 0 (Nat.zero_le _) (Closed.zero _) rfl ?_)
    | (refine FinR.keep ?_)
    | (refine And.intro (det3_agg rfl) ?_)
    | (refine fL_mk ?_)
    | (refine And.intro (by (try simp only [mk_size, List.size_toArray, ByteArray.size_append, ByteArray.size_extract, List.length_cons, List.length_nil]); omega) ?_)
    | (refine And.intro (by (try simp only [mk_size, List.size_toArray, ByteArray.size_append, ByteArray.size_extract, List.length_cons, List.length_nil, wrap64_eq]); omega) ?_)
    | fail)
  all_goals first | exact h0 | (exfalso; omega) | (exfalso; simp_all; done) | skip
theorem c_law_LastPrintsF (p : List Int) (hq : p.length = 36) (v : Value) (xs : List (List Int)) (ha : Sli W0 [] 9 enI (.lit v) xs) (hx : ∀ x ∈ xs, x.length = 9) (hl : xs.length ≤ 1048576) (hb : (picB p && listB xs) = false) (K : Cont) (h0 : K (Bo true) []) : ACall Try.prog W0 6 [Pi p, .lit v] [] K := by
  refine by6 (Nat.le_of_ble_eq_true rfl) ?_
  have hz : ¬ ((1048576 : Int) - (xs.length : Nat) < 0) := by omega
  have h9 := jc_len9 hx
  repeat' ((conv => whnf); first
    | (refine Exists.intro (bQ p 42) (And.intro rfl (And.intro rfl (And.intro (pic_le hq rfl) ?_))); rw [show (bQ p 42).cells = p.map I from rfl, pic_ld hq _ rfl])
    | (refine And.intro rfl ?_)
    | (refine And.intro (by decide +kernel) ?_)
    | (refine And.intro trivial ?_)
    | (refine d_szPrintS (ha := sli_up ha) (hl := by omega) (hm := by decide) (h0 := ?_) .. <;> try rw [if_neg hz])
    | (refine d_toPicture (hq := hq) (h0 := ?_) ..)
    | (refine d_toPrintS (hs := sli_up ha) (hx := hx) (hl := by omega) (h0 := ?_) ..)
    | (refine d_sLastF (hq := hq) (ha := sli_rows hx rfl) (hx := hx) (hl := hl) (hb := hb) (h0 := ?_) ..)
    | (refine d_LastF (hq := hq) (ha := sli_rows hx rfl) (hx := hx) (hl := hl) (hb := hb) (h0 := ?_) ..)
    | (refine d_eqIntS (xs := []) (ha := .nil) (hb' := sli_ints rfl) (hl := by decide) (h0 := ?_) ..)
    | (refine d_eqPrintS (ha := sli_rows hx rfl) (hb' := sli_rows hx rfl) (hx := hx) (hl := by omega) (h0 := ?_) ..)
    | (refine d_markPrintS (B := prB xs) (hB := rfl) (hv := rfl) (hn := h9) (hn2 := by omega) (hk := by omega) (h0 := ?_) ..)
    | (refine d_markIntS0 (h0 := ?_) ..)
    | (refine d_heldIntS (n := 0) (ha := .nil) (hn2 := by omega) (hk := by omega) (h0 := ?_) ..)
    | (refine Exists.intro _ (And.intro rfl (And.intro rfl (And.intro (Nat.le_of_ble_eq_true rfl) ?_))))
    | (refine Exists.intro _ (And.intro rfl (And.intro rfl (And.intro rfl (And.intro (Nat.le_of_ble_eq_true rfl) ?_)))))
    | (refine And.intro (Exists.intro _ (And.intro rfl rfl)) ?_)
    | (exact fun hW => absurd hW (by decide +kernel))
    | (intro hW; (try simp only [Bool.not_true, Bool.not_false, Bool.not_eq_true', Bool.not_eq_false', decide_eq_true_eq, decide_eq_false_iff_not, reduceCtorEq, Bool.true_eq_false, Bool.false_eq_true, mk_size, List.size_toArray, ByteArray.size_append, ByteArray.size_extract, List.length_cons, List.length_nil, ba_get, ba_empty, Int.toNat_natCast] at hW))
    | (refine And.intro (?_ : _ → _) (?_ : _ → _))
    | (refine FinR.drop 0 (Nat.zero_le _) (Closed.zero _) rfl ?_)
    | (refine FinR.keep ?_)
    | (refine And.intro (det3_agg rfl) ?_)
    | (refine fL_mk ?_)
    | (refine And.intro (by (try simp only [mk_size, List.size_toArray, ByteArray.size_append, ByteArray.size_extract, List.length_cons, List.length_nil]); omega) ?_)
    | (refine And.intro (by (try simp only [mk_size, List.size_toArray, ByteArray.size_append, ByteArray.size_extract, List.length_cons, List.length_nil, wrap64_eq]); omega) ?_)
    | fail)
  all_goals first | exact h0 | (exfalso; omega) | (exfalso; simp_all; done) | skip
theorem c_law_LastPrintsQ (p : List Int) (hq : p.length = 36) (v : Value) (xs : List (List Int)) (ha : Sli W0 [] 9 enI (.lit v) xs) (hx : ∀ x ∈ xs, x.length = 9) (hm : xs.length ≤ maxLen) (K : Cont) (h0 : K (Bo true) []) : ACall Try.prog W0 6 [Pi p, .lit v] [] K := by
  have hm' : xs.length ≤ 9223372036854775807 := hm
  by_cases hl : xs.length ≤ 1048576
  · cases hb : picB p && listB xs with
    | true =>
      rw [Bool.and_eq_true] at hb
      exact c_law_LastPrintsT p hq v xs ha hx hb.2 hb.1 K h0
    | false => exact c_law_LastPrintsF p hq v xs ha hx hl hb K h0
  · refine by6 (Nat.le_of_ble_eq_true rfl) ?_
    have hz : ((1048576 : Int) - (xs.length : Nat) < 0) := by omega
    repeat' ((conv => whnf); first
      | (refine Exists.intro (bQ p 42) (And.intro rfl (And.intro rfl (And.intro (pic_le hq rfl) ?_))); rw [show (bQ p 42).cells = p.map I from rfl, pic_ld hq _ rfl])
      | (refine And.intro rfl ?_)
      | (refine And.intro (by decide +kernel) ?_)
      | (refine And.intro trivial ?_)
      | (refine d_szPrintS (ha := sli_up ha) (hl := hm') (hm := by decide) (h0 := ?_) .. <;> try rw [if_pos hz])
      | (refine Exists.intro _ (And.intro rfl (And.intro rfl (And.intro (Nat.le_of_ble_eq_true rfl) ?_))))
      | (refine Exists.intro _ (And.intro rfl (And.intro rfl (And.intro rfl (And.intro (Nat.le_of_ble_eq_true rfl) ?_)))))
      | (refine And.intro (Exists.intro _ (And.intro rfl rfl)) ?_)
      | (exact fun hW => absurd hW (by decide +kernel))
      | (intro hW; (try simp only [Bool.not_true, Bool.not_false, Bool.not_eq_true', Bool.not_eq_false', decide_eq_true_eq, decide_eq_false_iff_not, reduceCtorEq, Bool.true_eq_false, Bool.false_eq_true, mk_size, List.size_toArray, ByteArray.size_append, ByteArray.size_extract, List.length_cons, List.length_nil, ba_get, ba_empty, Int.toNat_natCast] at hW))
      | (refine And.intro (?_ : _ → _) (?_ : _ → _))
      | (refine FinR.drop 0 (Nat.zero_le _) (Closed.zero _) rfl ?_)
      | (refine FinR.keep ?_)
      | (refine And.intro (det3_agg rfl) ?_)
      | (refine fL_mk ?_)
      | (refine And.intro (by (try simp only [mk_size, List.size_toArray, ByteArray.size_append, ByteArray.size_extract, List.length_cons, List.length_nil]); omega) ?_)
      | (refine And.intro (by (try simp only [mk_size, List.size_toArray, ByteArray.size_append, ByteArray.size_extract, List.length_cons, List.length_nil, wrap64_eq]); omega) ?_)
      | fail)
    all_goals first | exact h0 | (exfalso; omega) | (exfalso; simp_all; done)
theorem c_law_LastPrints (a0 : Int) (ha0 : IntKind.i64.has a0) (a1 : Int) (ha1 : IntKind.i64.has a1) (a2 : Int) (ha2 : IntKind.i64.has a2) (a3 : Int) (ha3 : IntKind.i64.has a3) (a4 : Int) (ha4 : IntKind.i64.has a4) (a5 : Int) (ha5 : IntKind.i64.has a5) (a6 : Int) (ha6 : IntKind.i64.has a6) (a7 : Int) (ha7 : IntKind.i64.has a7) (a8 : Int) (ha8 : IntKind.i64.has a8) (a9 : Int) (ha9 : IntKind.i64.has a9) (a10 : Int) (ha10 : IntKind.i64.has a10) (a11 : Int) (ha11 : IntKind.i64.has a11) (a12 : Int) (ha12 : IntKind.i64.has a12) (a13 : Int) (ha13 : IntKind.i64.has a13) (a14 : Int) (ha14 : IntKind.i64.has a14) (a15 : Int) (ha15 : IntKind.i64.has a15) (a16 : Int) (ha16 : IntKind.i64.has a16) (a17 : Int) (ha17 : IntKind.i64.has a17) (a18 : Int) (ha18 : IntKind.i64.has a18) (a19 : Int) (ha19 : IntKind.i64.has a19) (a20 : Int) (ha20 : IntKind.i64.has a20) (a21 : Int) (ha21 : IntKind.i64.has a21) (a22 : Int) (ha22 : IntKind.i64.has a22) (a23 : Int) (ha23 : IntKind.i64.has a23) (a24 : Int) (ha24 : IntKind.i64.has a24) (a25 : Int) (ha25 : IntKind.i64.has a25) (a26 : Int) (ha26 : IntKind.i64.has a26) (a27 : Int) (ha27 : IntKind.i64.has a27) (a28 : Int) (ha28 : IntKind.i64.has a28) (a29 : Int) (ha29 : IntKind.i64.has a29) (a30 : Int) (ha30 : IntKind.i64.has a30) (a31 : Int) (ha31 : IntKind.i64.has a31) (a32 : Int) (ha32 : IntKind.i64.has a32) (a33 : Int) (ha33 : IntKind.i64.has a33) (a34 : Int) (ha34 : IntKind.i64.has a34) (a35 : Int) (ha35 : IntKind.i64.has a35) (v : Value) (xs : List (List Int)) (ha : Sli W0 [] 9 enI (.lit v) xs) (hxx : ∀ x ∈ xs, x.length = 9 ∧ ∀ n ∈ x, IntKind.i64.has n) (hm : xs.length ≤ maxLen) (K : Cont) (h0 : K (Bo true) []) : ACall Try.prog W0 6 [Pi (a0 :: a1 :: a2 :: a3 :: a4 :: a5 :: a6 :: a7 :: a8 :: a9 :: a10 :: a11 :: a12 :: a13 :: a14 :: a15 :: a16 :: a17 :: a18 :: a19 :: a20 :: a21 :: a22 :: a23 :: a24 :: a25 :: a26 :: a27 :: a28 :: a29 :: a30 :: a31 :: a32 :: a33 :: a34 :: a35 :: []), .lit v] [] K :=
  c_law_LastPrintsQ _ rfl v xs ha (fun x h => (hxx x h).1) hm K h0
end Go.Proofs.Ythncpkdhcfaflaa
end
