import Derived.Test.YtcclhjohpicleaaW4
section
/- Games: the sheets that can come of one free press; plain laws. -/
set_option linter.unusedVariables false
set_option linter.unusedSimpArgs false
set_option maxRecDepth 100000
namespace Go.Proofs.Ytcclhjohpicleaa
open Go Go.RowKit Go.Proofs.Ytcclhjohpicleaa.Abs
/-- a stamp that is pressed at a cell's number -/
def prK (m k : Nat) : Nat := prN m (k % 6) (k / 6)
theorem prK_lt {m k : Nat} (hk : k < 36) : prK m k < 2 ^ 36 := prN_lt (by omega) (by omega)
/-- whether a press is free -/
def frF (n m k : Nat) : Bool := decide (prK m k &&& n = 0)
/-- the numbers of the cells at which a press is free -/
def frS (n m : Nat) : List Int := selN (frF n m) 36
/-- what comes of the free presses -/
def cdL (n m : Nat) : List Nat := (frS n m).map fun k => n ||| prK m k.toNat
def nxL (n m : Nat) : List Nat := ddL (srtL (cdL n m))
theorem selN_sat {f : Nat → Bool} : ∀ {n : Nat} {k : Nat}, ((k : Nat) : Int) ∈ selN f n → f k = true
  | 0, k, h => by cases h
  | n + 1, k, h => by
    rw [selN_succ] at h
    rcases List.mem_append.1 h with h | h
    · exact selN_sat h
    · split at h
      · rename_i hf
        have := List.mem_singleton.1 h
        have e : k = n := by omega
        rw [e]; exact hf
      · cases h
theorem prK_ne {m k : Nat} (hm : m < 2 ^ 36) (h0 : m ≠ 0) (hk : k < 36) : prK m k ≠ 0 := by
  intro h
  apply h0
  apply Nat.eq_of_testBit_eq
  intro i
  rw [Nat.zero_testBit]
  by_cases hi : i < 36
  · cases hb : m.testBit i with
    | false => rfl
    | true =>
      have : (prK m k).testBit (shG (k % 6) (k / 6) i) = true := (mvN_bit _ _ _ 36).2 ⟨i, hi, hb, rfl⟩
      rw [h, Nat.zero_testBit] at this; cases this
  · exact Nat.testBit_lt_two_pow (Nat.lt_of_lt_of_le hm (Nat.pow_le_pow_right (by decide) (by omega)))
theorem selN_wh (f : Nat → Bool) : selN (whN f 36).testBit 36 = selN f 36 :=
  selN_congr fun k hk => by rw [whN_bit, decide_eq_true hk, Bool.true_and]
theorem cdL_lt {n m : Nat} (hn : n < 2 ^ 36) : ∀ x ∈ cdL n m, x < 2 ^ 36 := by
  intro x hx
  obtain ⟨k, hk, rfl⟩ := List.mem_map.1 hx
  obtain ⟨j, rfl, hj⟩ := selN_mem _ _ _ hk
  exact Nat.or_lt_two_pow hn (by rw [Int.toNat_natCast]; exact prK_lt hj)
theorem cdL_len (n m : Nat) : (cdL n m).length ≤ 36 := by
  unfold cdL frS
  rw [List.length_map]
  exact selN_len _ _
/-! strictly ascending lists -/
abbrev Asc (l : List Nat) : Prop := l.Pairwise fun x y => kyN x < kyN y
theorem asc_ext : ∀ {a b : List Nat}, Asc a → Asc b → (∀ x, x ∈ a ↔ x ∈ b) → a = b
  | [], [], _, _, _ => rfl
  | [], y :: b, _, _, h => absurd ((h y).2 List.mem_cons_self) (by simp)
  | x :: a, [], _, _, h => absurd ((h x).1 List.mem_cons_self) (by simp)
  | x :: a, y :: b, ha, hb, h => by
    have ha' := List.pairwise_cons.1 ha
    have hb' := List.pairwise_cons.1 hb
    have e : x = y := by
      rcases List.mem_cons.1 ((h x).1 List.mem_cons_self) with e | e
      · exact e
      · rcases List.mem_cons.1 ((h y).2 List.mem_cons_self) with e2 | e2
        · exact e2.symm
        · have := hb'.1 x e; have := ha'.1 y e2; omega
    subst e
    rw [asc_ext ha'.2 hb'.2 fun z => ?_]
    constructor
    · intro hz
      rcases List.mem_cons.1 ((h z).1 (List.mem_cons_of_mem _ hz)) with e | e
      · subst e; have := ha'.1 z hz; omega
      · exact e
    · intro hz
      rcases List.mem_cons.1 ((h z).2 (List.mem_cons_of_mem _ hz)) with e | e
      · subst e; have := hb'.1 z hz; omega
      · exact e
theorem ddN_asc {l : List Nat} (hl : ∀ x ∈ l, x < 2 ^ 36) (hs : l.Pairwise fun x y => kyN x ≤ kyN y) : ∀ i, i ≤ l.length → Asc (ddN l i) ∧ ∀ x, x ∈ ddN l i ↔ x ∈ l.take i
  | 0, _ => ⟨List.Pairwise.nil, fun x => by simp [ddN]⟩
  | i + 1, hi => by
    obtain ⟨h1, h2⟩ := ddN_asc hl hs i (by omega)
    have hli : l.getD i 0 = l[i]'(by omega) := by rw [List.getD_eq_getElem?_getD, List.getElem?_eq_getElem (by omega)]; rfl
    have hcov : ∀ x, x ∈ ddN l i → 0 < i ∧ kyN x ≤ kyN (l.getD (i - 1) 0) := by
      intro x hx
      obtain ⟨j, hj⟩ := List.getElem?_of_mem ((h2 x).1 hx)
      have hlt := getElem?_lt hj
      rw [List.length_take] at hlt
      rw [List.getElem?_take, if_pos (by omega), List.getElem?_eq_getElem (by omega)] at hj
      cases hj
      refine ⟨by omega, ?_⟩
      rw [List.getD_eq_getElem?_getD, List.getElem?_eq_getElem (by omega : i - 1 < l.length), Option.getD_some]
      by_cases e : j = i - 1
      · subst e; exact Nat.le_refl _
      · exact List.pairwise_iff_getElem.1 hs j (i - 1) (by omega) (by omega) (by omega)
    rw [ddN_succ, take_ld (by omega)]
    split
    · rename_i he
      rw [List.append_nil]
      refine ⟨h1, fun x => ?_⟩
      rw [h2, List.mem_append, List.mem_singleton]
      constructor
      · exact .inl
      · rintro (h | h)
        · exact h
        · rw [h, ← he.2]
          have : l.getD (i - 1) 0 = (l.take i)[i - 1]'(by rw [List.length_take]; omega) := by
            rw [List.getD_eq_getElem?_getD, List.getElem?_eq_getElem (by omega : i - 1 < l.length), List.getElem_take]; rfl
          rw [this]; exact List.getElem_mem _
    · rename_i he
      refine ⟨List.pairwise_append.2 ⟨h1, List.pairwise_singleton _ _, fun x hx y hy => ?_⟩, fun x => by rw [List.mem_append, List.mem_append, h2]⟩
      rw [List.mem_singleton.1 hy]
      obtain ⟨hi0, hle⟩ := hcov x hx
      have hne : l.getD (i - 1) 0 ≠ l.getD i 0 := fun e => he ⟨hi0, e⟩
      have e1 : l.getD (i - 1) 0 = l[i - 1]'(by omega) := by rw [List.getD_eq_getElem?_getD, List.getElem?_eq_getElem (by omega : i - 1 < l.length)]; rfl
      have hle2 : kyN (l.getD (i - 1) 0) ≤ kyN (l.getD i 0) := by rw [e1, hli]; exact List.pairwise_iff_getElem.1 hs (i - 1) i (by omega) (by omega) (by omega)
      have hk : kyN (l.getD (i - 1) 0) ≠ kyN (l.getD i 0) := fun e => hne (ky_inj (by rw [e1]; exact hl _ (List.getElem_mem _)) (by rw [hli]; exact hl _ (List.getElem_mem _)) e)
      omega
theorem nxL_asc {n m : Nat} (hn : n < 2 ^ 36) : Asc (nxL n m) ∧ ∀ x, x ∈ nxL n m ↔ x ∈ cdL n m := by
  have hp := srtL_perm (cdL n m)
  obtain ⟨h1, h2⟩ := ddN_asc (l := srtL (cdL n m)) (fun x hx => cdL_lt hn x (hp.mem_iff.1 hx)) (srtL_pair _) _ (Nat.le_refl _)
  refine ⟨h1, fun x => ?_⟩
  show x ∈ ddN _ _ ↔ _
  rw [h2, List.take_length, hp.mem_iff]
/-! the reference's insertion -/
def insR (x : Nat) : List Nat → List Nat
  | [] => [x]
  | y :: L => if ltS y x then y :: insR x L else if y = x then y :: L else x :: y :: L
theorem insR_at (x : Nat) : ∀ (L : List Nat) (n : Nat), n ≤ L.length → (∀ i, i < n → ltS (L.getD i 0) x = true) → (n < L.length → ltS (L.getD n 0) x = false) → insR x L = if n < L.length ∧ L.getD n 0 = x then L else L.take n ++ x :: L.drop n
  | [], n, hn, _, _ => by
    obtain rfl : n = 0 := by simpa using hn
    rw [if_neg (by simp)]; rfl
  | y :: L, 0, _, _, h => by
    have h := h (by simp)
    have h : ltS y x = false := h
    unfold insR
    rw [h, if_neg (by decide)]
    by_cases e : y = x
    · rw [if_pos e, if_pos ⟨by simp, e⟩]
    · rw [if_neg e, if_neg (fun h => e h.2)]; rfl
  | y :: L, n + 1, hn, h1, h2 => by
    have hy : ltS y x = true := h1 0 (by omega)
    unfold insR
    rw [hy, if_pos rfl, insR_at x L n (by simpa using hn) (fun i hi => h1 (i + 1) (by omega)) (fun h => h2 (by simpa using h))]
    by_cases e : n < L.length ∧ L.getD n 0 = x
    · rw [if_pos e, if_pos ⟨by simpa using e.1, e.2⟩]
    · rw [if_neg e, if_neg (fun h => e ⟨by simpa using h.1, h.2⟩)]; rfl
theorem insR_asc {x : Nat} (hx : x < 2 ^ 36) : ∀ {L : List Nat}, (∀ y ∈ L, y < 2 ^ 36) → Asc L → Asc (insR x L) ∧ ∀ z, z ∈ insR x L ↔ z = x ∨ z ∈ L
  | [], _, _ => ⟨List.pairwise_singleton _ _, fun z => by simp [insR]⟩
  | y :: L, hL, h => by
    have h' := List.pairwise_cons.1 h
    obtain ⟨i1, i2⟩ := insR_asc hx (fun z hz => hL z (List.mem_cons_of_mem _ hz)) h'.2
    unfold insR
    by_cases h1 : ltS y x = true
    · rw [if_pos h1]
      rw [ltS_iff] at h1
      refine ⟨List.pairwise_cons.2 ⟨fun z hz => ?_, i1⟩, fun z => ?_⟩
      · rcases (i2 z).1 hz with e | e
        · rw [e]; exact h1
        · exact h'.1 z e
      · rw [List.mem_cons, i2, List.mem_cons]
        constructor
        · rintro (h | h | h)
          · exact .inr (.inl h)
          · exact .inl h
          · exact .inr (.inr h)
        · rintro (h | h | h)
          · exact .inr (.inl h)
          · exact .inl h
          · exact .inr (.inr h)
    · rw [if_neg h1]
      have h2 : ltS y x = false := by simpa using h1
      rw [ltS_false] at h2
      by_cases e : y = x
      · rw [if_pos e]
        refine ⟨h, fun z => ⟨.inr, ?_⟩⟩
        rintro (h | h)
        · rw [h, ← e]; exact List.mem_cons_self
        · exact h
      · rw [if_neg e]
        have hne : kyN x ≠ kyN y := fun q => e (ky_inj hx (hL y List.mem_cons_self) q).symm
        refine ⟨List.pairwise_cons.2 ⟨fun z hz => ?_, h⟩, fun z => List.mem_cons⟩
        rcases List.mem_cons.1 hz with q | q
        · rw [q]; omega
        · have := h'.1 z q; omega
/-- inserted one by one -/
def rxL (l : List Nat) : List Nat := l.foldl (fun L x => insR x L) []
theorem rxL_snoc (l : List Nat) (x : Nat) : rxL (l ++ [x]) = insR x (rxL l) := by unfold rxL; rw [List.foldl_append]; rfl
theorem rx_aux : ∀ (l : List Nat) (L : List Nat), (∀ x ∈ l, x < 2 ^ 36) → (∀ y ∈ L, y < 2 ^ 36) → Asc L → Asc (l.foldl (fun L x => insR x L) L) ∧ ∀ z, z ∈ l.foldl (fun L x => insR x L) L ↔ z ∈ l ∨ z ∈ L
  | [], L, _, _, h => ⟨h, fun z => by simp⟩
  | x :: l, L, hl, hL, h => by
    have hx := hl x List.mem_cons_self
    obtain ⟨i1, i2⟩ := insR_asc hx hL h
    obtain ⟨j1, j2⟩ := rx_aux l (insR x L) (fun y hy => hl y (List.mem_cons_of_mem _ hy)) (fun y hy => by
      rcases (i2 y).1 hy with e | e
      · rw [e]; exact hx
      · exact hL y e) i1
    refine ⟨j1, fun z => ?_⟩
    show z ∈ l.foldl _ (insR x L) ↔ _
    rw [j2, i2, List.mem_cons]
    constructor
    · rintro (h | h | h)
      · exact .inl (.inr h)
      · exact .inl (.inl h)
      · exact .inr h
    · rintro ((h | h) | h)
      · exact .inr (.inl h)
      · exact .inl h
      · exact .inr (.inr h)
theorem rx_all {l : List Nat} (hl : ∀ x ∈ l, x < 2 ^ 36) : Asc (rxL l) ∧ ∀ z, z ∈ rxL l ↔ z ∈ l := by
  obtain ⟨h1, h2⟩ := rx_aux l [] hl (fun y hy => by cases hy) List.Pairwise.nil
  exact ⟨h1, fun z => (h2 z).trans (by simp)⟩
/-- both sides list the same sheets, in the same order -/
theorem rx_nx {n m : Nat} (hn : n < 2 ^ 36) : rxL (cdL n m) = nxL n m := by
  have hc := cdL_lt (m := m) hn
  have hx := nxL_asc (m := m) hn
  generalize cdL n m = c at hc hx ⊢
  generalize nxL n m = d at hx ⊢
  obtain ⟨h1, h2⟩ := rx_all hc
  exact asc_ext h1 hx.1 fun x => (h2 x).trans (hx.2 x).symm
theorem nxL_lt {n m : Nat} (hn : n < 2 ^ 36) : ∀ x ∈ nxL n m, x < 2 ^ 36 := fun x hx => cdL_lt hn x (((nxL_asc hn).2 x).1 hx)
theorem nxL_len (n m : Nat) : (nxL n m).length ≤ 36 := by
  have h := ddN_len (srtL (cdL n m)) (srtL (cdL n m)).length
  have := cdL_len n m
  rw [srtL_len] at h
  show (ddN (srtL (cdL n m)) (srtL (cdL n m)).length).length ≤ 36
  rw [srtL_len]; omega
/-- a free press adds cells -/
theorem nxL_gt {n m : Nat} (hn : n < 2 ^ 36) (hm : m < 2 ^ 36) (h0 : m ≠ 0) : ∀ x ∈ nxL n m, n < x := by
  intro x hx
  obtain ⟨k, hk, rfl⟩ := List.mem_map.1 (((nxL_asc hn).2 x).1 hx)
  obtain ⟨j, rfl, hj⟩ := selN_mem _ _ _ hk
  have hfr : frF n m j = true := selN_sat hk
  rw [Int.toNat_natCast]
  have hz : prK m j &&& n = 0 := by unfold frF at hfr; exact of_decide_eq_true hfr
  have hne : prK m j ≠ 0 := prK_ne hm h0 hj
  have hle : n ≤ n ||| prK m j := Nat.left_le_or
  rcases Nat.lt_or_ge n (n ||| prK m j) with h | h
  · exact h
  · exfalso
    have e : n ||| prK m j = n := by omega
    apply hne
    apply Nat.eq_of_testBit_eq
    intro i
    have e1 := congrArg (fun z => Nat.testBit z i) e
    have e2 := congrArg (fun z => Nat.testBit z i) hz
    simp only [Nat.testBit_or, Nat.testBit_and, Nat.zero_testBit] at e1 e2 ⊢
    cases h1 : (prK m j).testBit i <;> simp_all
end Go.Proofs.Ytcclhjohpicleaa
end

section
/- Games: free presses and what comes of them, by the program. -/
set_option linter.unusedVariables false
set_option linter.unusedSimpArgs false
set_option maxRecDepth 100000
set_option maxHeartbeats 4000000
namespace Go.Proofs.Ytcclhjohpicleaa
open Go Go.RowKit Go.Proofs.Ytcclhjohpicleaa.Abs
variable {W0 : World} {σ : List Blk}
theorem d_pressK (n k : Nat) (hn : n < 2 ^ 36) (hk : k < 36) (K : Cont) (h0 : K (Un (prK n k)) σ) : ACall Try.prog W0 53 [U n, I k] σ K :=
  d_pressed n k hn hk K h0
abbrev bU (n : Nat) : Blk := ⟨[Un n], 0, 47, 0, false, false⟩
theorem freeClo (n m : Nat) (hn : n < 2 ^ 36) (hm : m < 2 ^ 36) (k : Nat) (hk : k < 36) (K : Cont) (h0 : K (Bo (frF n m k)) [bU n, bU m]) : ACall Try.prog W0 72 (I k :: [.ptr 1 0 0, .ptr 0 0 0]) [bU n, bU m] K := by
  refine by72 (Nat.le_of_ble_eq_true rfl) ?_
  have e : decide (bAnd .u64 (prK m k : Nat) (n : Nat) = 0) = frF n m k := by
    rw [bAnd_u64 _ _ (Nat.lt_trans (prK_lt hk) (by decide)) (Nat.lt_trans hn (by decide))]
    unfold frF
    exact decide_eq_decide.2 (by omega)
  repeat' ((conv => whnf); first | (rw [e]) | (refine Exists.intro ([] : List Nat) ?_) | (refine And.intro rfl ?_) | (refine And.intro (by decide +kernel) ?_) | (refine And.intro trivial ?_) | (refine d_pressK (hn := hm) (hk := hk) (h0 := ?_) ..) | (refine Exists.intro _ (And.intro (fun τ => callW_fn (d_pressK (hn := hm) (hk := hk) (h0 := And.intro rfl rfl) ..)) ?_)) | (refine Exists.intro _ (And.intro (callW_fn (d_pressK (hn := hm) (hk := hk) (h0 := And.intro rfl rfl) ..)) (And.intro trivial ?_))) | (refine Exists.intro _ (And.intro (callW_fn (d_pressK (hn := hm) (hk := hk) (h0 := And.intro rfl rfl) ..)) ?_)) | (refine Exists.intro _ (And.intro (fun τ _ => callW_fn (d_pressK (hn := hm) (hk := hk) (h0 := And.intro rfl rfl) ..)) ?_)) | (refine Exists.intro _ (And.intro rfl (And.intro rfl (And.intro (Nat.le_of_ble_eq_true rfl) ?_)))) | (refine Exists.intro _ (And.intro rfl (And.intro rfl (And.intro rfl (And.intro (Nat.le_of_ble_eq_true rfl) ?_))))) | (refine And.intro (Exists.intro _ (And.intro rfl rfl)) ?_) | (exact fun hW => absurd hW (by decide +kernel)) | (intro hW; (try simp only [Bool.not_true, Bool.not_false, Bool.not_eq_true', Bool.not_eq_false', decide_eq_true_eq, decide_eq_false_iff_not, reduceCtorEq, Bool.true_eq_false, Bool.false_eq_true, mk_size, List.size_toArray, ByteArray.size_append, ByteArray.size_extract, List.length_cons, List.length_nil, ba_get, ba_empty, Int.toNat_natCast] at hW)) | (refine And.intro (?_ : _ → _) (?_ : _ → _)) | (refine FinR.drop 0 (Nat.zero_le _) (Closed.zero _) rfl ?_) | (refine FinR.keep ?_) | (refine And.intro (det3_agg rfl) ?_) | (refine fL_mk ?_) | (refine And.intro (by (try simp only [mk_size, List.size_toArray, ByteArray.size_append, ByteArray.size_extract, List.length_cons, List.length_nil]); omega) ?_) | (refine And.intro (by (try simp only [mk_size, List.size_toArray, ByteArray.size_append, ByteArray.size_extract, List.length_cons, List.length_nil, wrap64_eq]); omega) ?_) | fail)
  all_goals exact h0
theorem c_free (n m : Nat) (hn : n < 2 ^ 36) (hm : m < 2 ^ 36) (K : Cont) (h0 : K (U (whN (frF n m) 36 : Nat)) []) : ACall Try.prog W0 51 [U n, U m] [] K := by
  refine by51 (Nat.le_of_ble_eq_true rfl) ?_
  repeat' ((conv => whnf); first | (refine Exists.intro ([] : List Nat) ?_) | (refine And.intro rfl ?_) | (refine And.intro (by decide +kernel) ?_) | (refine And.intro trivial ?_) | (refine c_where (f := frF n m) (hc := fun k hk K hK => freeClo n m hn hm k hk K hK) (h0 := ?_) ..) | (refine Exists.intro _ (And.intro rfl (And.intro rfl (And.intro (Nat.le_of_ble_eq_true rfl) ?_)))) | (refine Exists.intro _ (And.intro rfl (And.intro rfl (And.intro rfl (And.intro (Nat.le_of_ble_eq_true rfl) ?_))))) | (refine And.intro (Exists.intro _ (And.intro rfl rfl)) ?_) | (exact fun hW => absurd hW (by decide +kernel)) | (intro hW; (try simp only [Bool.not_true, Bool.not_false, Bool.not_eq_true', Bool.not_eq_false', decide_eq_true_eq, decide_eq_false_iff_not, reduceCtorEq, Bool.true_eq_false, Bool.false_eq_true, mk_size, List.size_toArray, ByteArray.size_append, ByteArray.size_extract, List.length_cons, List.length_nil, ba_get, ba_empty, Int.toNat_natCast] at hW)) | (refine And.intro (?_ : _ → _) (?_ : _ → _)) | (refine FinR.drop 0 (Nat.zero_le _) (Closed.zero _) rfl ?_) | (refine FinR.keep ?_) | (refine And.intro (det3_agg rfl) ?_) | (refine fL_mk ?_) | (refine And.intro (by (try simp only [mk_size, List.size_toArray, ByteArray.size_append, ByteArray.size_extract, List.length_cons, List.length_nil]); omega) ?_) | (refine And.intro (by (try simp only [mk_size, List.size_toArray, ByteArray.size_append, ByteArray.size_extract, List.length_cons, List.length_nil, wrap64_eq]); omega) ?_) | fail)
  all_goals exact h0
theorem d_free (n m : Nat) (hn : n < 2 ^ 36) (hm : m < 2 ^ 36) (K : Cont) (h0 : K (U (whN (frF n m) 36 : Nat)) σ) : ACall Try.prog W0 51 [U n, U m] σ K :=
  ACall.lift rfl (fun _ => rfl) (fun W1 K _ hK => c_free n m hn hm K hK) h0
/-- numbers of sets in own memory, and perhaps more behind them -/
structure Own (S : List Blk) (b v : Nat) (B : Blk) (L : List Nat) : Prop where
  g : S[b]? = some B
  v : B.ver = v
  c : ∃ rest, B.cells = L.map Un ++ rest
theorem Own.keep {S S' : List Blk} {b v : Nat} {B : Blk} {L : List Nat} (h : Own S b v B L) (hk : ∀ (j : Nat) (B : Blk), S[j]? = some B → S'[j]? = some B) : Own S' b v B L := ⟨hk _ _ h.g, h.v, h.c⟩
theorem Own.le {S : List Blk} {b v : Nat} {B : Blk} {L : List Nat} (h : Own S b v B L) {i off : Nat} (hi : i < L.length) (ho : off = i) : off + 1 ≤ B.cells.length := by
  obtain ⟨rest, e⟩ := h.c
  rw [e, List.length_append, List.length_map]; omega
theorem Own.ld {S : List Blk} {b v : Nat} {B : Blk} {L : List Nat} (h : Own S b v B L) {i off : Nat} (hi : i < L.length) (ho : off = i) : mkAV false ((B.cells.drop off).take 1) = Un (L.getD i 0) := by
  obtain ⟨rest, e⟩ := h.c
  subst ho
  rw [e, List.drop_append_of_le_length (by rw [List.length_map]; omega), List.take_append_of_le_length (by rw [List.length_drop, List.length_map]; omega)]
  exact un_ld hi rfl
theorem cd_take {n m : Nat} {i : Nat} (hi : i < (frS n m).length) : (cdL n m).take (i + 1) = (cdL n m).take i ++ [n ||| prK m ((frS n m).getD i 0).toNat] := by
  unfold cdL
  rw [← List.map_take, ← List.map_take, List.take_add_one, List.map_append, List.getD_eq_getElem?_getD, List.getElem?_eq_getElem hi]; rfl
theorem fr_nat {n m : Nat} {i : Nat} (hi : i < (frS n m).length) : ∃ k, (frS n m).getD i 0 = ((k : Nat) : Int) ∧ k < 36 := by
  have hm : (frS n m).getD i 0 ∈ selN (frF n m) 36 := by rw [List.getD_eq_getElem?_getD, List.getElem?_eq_getElem hi]; exact List.getElem_mem hi
  obtain ⟨k, hk, hl⟩ := selN_mem _ _ _ hm
  exact ⟨k, hk, hl⟩
structure GNX where
  i : Nat
  v : Nat
  cp : Nat
theorem c_nexts (n m : Nat) (hn : n < 2 ^ 36) (hm : m < 2 ^ 36) (K : Cont) (h0 : ∀ S b v cap B, Own S b v B (nxL n m) → K (.sl b v 0 (nxL n m).length cap) S) : ACall Try.prog W0 44 [U n, U m] [] K := by
  refine by44 (Nat.le_of_ble_eq_true rfl) ?_
  have hfl : selN (whN (frF n m) 36).testBit 36 = frS n m := selN_wh _
  have hwl := whN_lt (frF n m) (Nat.le_refl 36)
  have hlist := fun (σ : List Blk) (K : Cont) => d_list (W0 := W0) (σ := σ) (whN (frF n m) 36) hwl K
  rw [hfl] at hlist
  have hfn := fun i (h : i < (frS n m).length) => fr_nat h
  have hct := fun i (h : i < (frS n m).length) => cd_take h
  have hcl : (cdL n m).length = (frS n m).length := by unfold cdL; rw [List.length_map]
  have hc36 := cdL_len n m
  have hclt := cdL_lt (m := m) hn
  unfold nxL at h0
  generalize frS n m = F at hlist hfn hct hcl
  generalize cdL n m = C at h0 hct hcl hc36 hclt
  repeat' ((conv => whnf); first | (refine Exists.intro ([] : List Nat) ?_) | (refine And.intro rfl ?_) | (refine And.intro (by decide +kernel) ?_) | (refine And.intro trivial ?_) | (refine d_free (hn := hn) (hm := hm) (h0 := ?_) ..) | (refine hlist _ _ (fun cap1 => ?_)) | (refine Exists.intro _ (And.intro rfl (And.intro rfl (And.intro (Nat.le_of_ble_eq_true rfl) ?_)))) | (refine Exists.intro _ (And.intro rfl (And.intro rfl (And.intro rfl (And.intro (Nat.le_of_ble_eq_true rfl) ?_))))) | (refine And.intro (Exists.intro _ (And.intro rfl rfl)) ?_) | (exact fun hW => absurd hW (by decide +kernel)) | (intro hW; (try simp only [Bool.not_true, Bool.not_false, Bool.not_eq_true', Bool.not_eq_false', decide_eq_true_eq, decide_eq_false_iff_not, reduceCtorEq, Bool.true_eq_false, Bool.false_eq_true, mk_size, List.size_toArray, ByteArray.size_append, ByteArray.size_extract, List.length_cons, List.length_nil, ba_get, ba_empty, Int.toNat_natCast] at hW)) | (refine And.intro (?_ : _ → _) (?_ : _ → _)) | (refine FinR.drop 0 (Nat.zero_le _) (Closed.zero _) rfl ?_) | (refine FinR.keep ?_) | (refine And.intro (det3_agg rfl) ?_) | (refine fL_mk ?_) | (refine And.intro (by (try simp only [mk_size, List.size_toArray, ByteArray.size_append, ByteArray.size_extract, List.length_cons, List.length_nil]); omega) ?_) | (refine And.intro (by (try simp only [mk_size, List.size_toArray, ByteArray.size_append, ByteArray.size_extract, List.length_cons, List.length_nil, wrap64_eq]); omega) ?_) | fail)
  skip
  refine LoopR.live (fun x : GNX => [(0, U n), (1, U m), (5, .sl 0 x.v 0 x.i x.cp), (12, .sl 1 F.length 0 F.length cap1), (13, I F.length), (14, I x.i)]) (fun x => [⟨(C.take x.i).map Un, x.v, 47, 1, true, true⟩, outB F]) (fun x => x.i ≤ F.length ∧ x.i ≤ x.cp) (fun x => F.length - x.i) ⟨0, 0, 0⟩ ⟨rfl, rfl, rfl, rfl, rfl, rfl, trivial⟩ (.keep rfl) ⟨Nat.zero_le _, Nat.le_refl _⟩ ?_
  rintro ⟨i, v, cp⟩ ⟨hi, hcp⟩
  dsimp only at hi hcp
  have ew : IntKind.i64.wrap ((i : Nat) + 1 : Int) = ((i + 1 : Nat) : Int) := wsucc' i (by omega)
  by_cases hlt : i < F.length
  · obtain ⟨k, hFk, hk⟩ := hfn i hlt
    have hct := hct i hlt
    rw [hFk, Int.toNat_natCast] at hct
    have o1 : 0 + ((i : Nat) : Int).toNat * 1 = i := by rw [Int.toNat_natCast]; omega
    have l1 : 0 + ((i : Nat) : Int).toNat * 1 + 1 ≤ (F.map I).length := by rw [o1, List.length_map]; omega
    have d1 : mkAV false (((F.map I).drop (0 + ((i : Nat) : Int).toNat * 1)).take 1) = I k := by
      rw [o1, ← hFk, ← List.map_drop, List.drop_eq_getElem_cons hlt, List.getD_eq_getElem?_getD, List.getElem?_eq_getElem hlt]; rfl
    have ho : bOr .u64 ((n : Nat) : Int) ((prK m k : Nat) : Int) = ((n ||| prK m k : Nat) : Int) := bOrU hn (prK_lt hk)
    have hln : ((C.take i).map Un).length = i := by rw [List.length_map, List.length_take]; omega
    repeat' ((conv => whnf); first | (rw [ew]) | (rw [ho]) | (refine Exists.intro (outB F) (And.intro rfl (And.intro rfl (And.intro l1 ?_))); rw [show (outB F).cells = F.map I from rfl, d1]) | (refine Exists.intro ([] : List Nat) ?_) | (refine And.intro rfl ?_) | (refine And.intro (by decide +kernel) ?_) | (refine And.intro trivial ?_) | (refine d_pressK (hn := hm) (hk := hk) (h0 := ?_) ..) | (refine Exists.intro _ (And.intro rfl (And.intro rfl (And.intro rfl (And.intro rfl (And.intro rfl (And.intro rfl (And.intro (by decide) (And.intro (by show i * 1 = ((C.take i).map Un).length; rw [hln, Nat.mul_one]) (And.intro rfl (And.intro (by show i + 1 ≤ maxLen; unfold maxLen; omega) (And.intro (by show (i + 1) * 8 ≤ 140737488355328; omega) (fun cap2 hcap2 hcap3 => ?_))))))))))))) | (refine Exists.intro _ (And.intro rfl (And.intro rfl (And.intro (Nat.le_of_ble_eq_true rfl) ?_)))) | (refine Exists.intro _ (And.intro rfl (And.intro rfl (And.intro rfl (And.intro (Nat.le_of_ble_eq_true rfl) ?_))))) | (refine And.intro (Exists.intro _ (And.intro rfl rfl)) ?_) | (exact fun hW => absurd hW (by decide +kernel)) | (intro hW; (try simp only [Bool.not_true, Bool.not_false, Bool.not_eq_true', Bool.not_eq_false', decide_eq_true_eq, decide_eq_false_iff_not, reduceCtorEq, Bool.true_eq_false, Bool.false_eq_true, mk_size, List.size_toArray, ByteArray.size_append, ByteArray.size_extract, List.length_cons, List.length_nil, ba_get, ba_empty, Int.toNat_natCast] at hW)) | (refine And.intro (?_ : _ → _) (?_ : _ → _)) | (refine FinR.drop 0 (Nat.zero_le _) (Closed.zero _) rfl ?_) | (refine FinR.keep ?_) | (refine And.intro (det3_agg rfl) ?_) | (refine fL_mk ?_) | (refine And.intro (by (try simp only [mk_size, List.size_toArray, ByteArray.size_append, ByteArray.size_extract, List.length_cons, List.length_nil]); omega) ?_) | (refine And.intro (by (try simp only [mk_size, List.size_toArray, ByteArray.size_append, ByteArray.size_extract, List.length_cons, List.length_nil, wrap64_eq]); omega) ?_) | fail)
    all_goals first | (exfalso; omega) | skip
    skip
    refine Again.go ⟨i + 1, v + 1, cap2⟩ ⟨rfl, rfl, rfl, rfl, rfl, rfl, trivial⟩ (.keep ?_) ⟨by show i + 1 ≤ F.length; omega, hcap2⟩ (by show F.length - (i + 1) < F.length - i; omega)
    show [(⟨(C.take (i + 1)).map Un, v + 1, 47, 1, true, true⟩ : Blk), outB F] = [⟨(C.take i).map Un ++ [Un (n ||| prK m k)], v + 1, 47, 1, true, true⟩, outB F]
    rw [hct, List.map_append]; rfl
  · obtain rfl : i = F.length := by omega
    have hz : C.take F.length = C := by rw [← hcl]; exact List.take_length
    rw [hz]
    have hsl : (srtL C).length = F.length := (srtL_len C).trans hcl
    have hsort := fun (S : List Blk) (B : Blk) (v cp : Nat) (h1 : S[0]? = some B) (h2 : B.ver = v) (h3 : B.row = true) (h4 : B.cells = C.map Un) (K : Cont) (h5 : K (.tup []) (S.set 0 { B with cells := (srtL C).map Un })) => d_Sort (W0 := W0) (σ := S) 0 v cp B C hclt h1 h2 h3 h4 (by omega) K h5
    have hcomp := fun (S : List Blk) (B : Blk) (v cp : Nat) (h1 : S[0]? = some B) (h2 : B.ver = v) (h3 : B.esz = 1) (h4 : B.cells = (srtL C).map Un) (h6 : F.length ≤ cp) (K : Cont) (h5 : ∀ rest cap', K (.sl 0 v 0 (ddL (srtL C)).length cap') (S.set 0 { B with cells := (ddL (srtL C)).map Un ++ rest })) => d_Compact (W0 := W0) (σ := S) 0 v cp B (srtL C) h1 h2 h3 h4 (by omega) (by omega) K h5
    rw [hcl] at hsort
    rw [hsl] at hcomp
    repeat' ((conv => whnf); first | (refine Exists.intro ([] : List Nat) ?_) | (refine And.intro rfl ?_) | (refine And.intro (by decide +kernel) ?_) | (refine And.intro trivial ?_) | (refine hsort _ ⟨C.map Un, v, 47, 1, true, true⟩ _ _ rfl rfl rfl rfl _ ?_) | (refine hcomp _ ⟨(srtL C).map Un, v, 47, 1, true, true⟩ _ _ rfl rfl rfl rfl hcp _ (fun rest cap' => ?_)) | (refine Exists.intro _ (And.intro rfl (And.intro rfl (And.intro (Nat.le_of_ble_eq_true rfl) ?_)))) | (refine Exists.intro _ (And.intro rfl (And.intro rfl (And.intro rfl (And.intro (Nat.le_of_ble_eq_true rfl) ?_))))) | (refine And.intro (Exists.intro _ (And.intro rfl rfl)) ?_) | (exact fun hW => absurd hW (by decide +kernel)) | (intro hW; (try simp only [Bool.not_true, Bool.not_false, Bool.not_eq_true', Bool.not_eq_false', decide_eq_true_eq, decide_eq_false_iff_not, reduceCtorEq, Bool.true_eq_false, Bool.false_eq_true, mk_size, List.size_toArray, ByteArray.size_append, ByteArray.size_extract, List.length_cons, List.length_nil, ba_get, ba_empty, Int.toNat_natCast] at hW)) | (refine And.intro (?_ : _ → _) (?_ : _ → _)) | (refine FinR.drop 0 (Nat.zero_le _) (Closed.zero _) rfl ?_) | (refine FinR.keep ?_) | (refine And.intro (det3_agg rfl) ?_) | (refine fL_mk ?_) | (refine And.intro (by (try simp only [mk_size, List.size_toArray, ByteArray.size_append, ByteArray.size_extract, List.length_cons, List.length_nil]); omega) ?_) | (refine And.intro (by (try simp only [mk_size, List.size_toArray, ByteArray.size_append, ByteArray.size_extract, List.length_cons, List.length_nil, wrap64_eq]); omega) ?_) | fail)
    all_goals first | (exfalso; omega) | skip
    skip
    refine h0 _ 0 _ _ _ ⟨rfl, rfl, rest, rfl⟩
end Go.Proofs.Ytcclhjohpicleaa
end

section
/- Games: nexts beside any blocks; the reference's free presses. -/
set_option linter.unusedVariables false
set_option linter.unusedSimpArgs false
set_option maxRecDepth 100000
set_option maxHeartbeats 4000000
namespace Go.Proofs.Ytcclhjohpicleaa
open Go Go.RowKit Go.Proofs.Ytcclhjohpicleaa.Abs
variable {W0 : World} {σ : List Blk}
theorem sh_Un (k : Nat) (l : List Nat) : (l.map Un).map (sh1 k) = l.map Un := by rw [List.map_map]; rfl
theorem Own.sh {S T : List Blk} {b v : Nat} {B : Blk} {L : List Nat} (h : Own S b v B L) : Own (T ++ shB T.length S) (T.length + b) v { B with cells := B.cells.map (sh1 T.length) } L := by
  obtain ⟨rest, e⟩ := h.c
  exact ⟨get_sh h.g, h.v, rest.map (sh1 T.length), by show B.cells.map _ = _; rw [e, List.map_append, sh_Un]⟩
theorem d_nexts (n m : Nat) (hn : n < 2 ^ 36) (hm : m < 2 ^ 36) (K : Cont) (h0 : ∀ S b v cap B, Own S b v B (nxL n m) → σ.length ≤ b → (∀ (j : Nat) (B : Blk), σ[j]? = some B → S[j]? = some B) → K (.sl b v 0 (nxL n m).length cap) S) : ACall Try.prog W0 44 [U n, U m] σ K := by
  refine ACall.frame (K0 := fun v S => ∃ b vv cap B, v = .sl b vv 0 (nxL n m).length cap ∧ Own S b vv B (nxL n m)) rfl (fun W1 _ => c_nexts n m hn hm _ fun S b v cap B h => ⟨b, v, cap, B, rfl, h⟩) ?_
  rintro v S ⟨b, vv, cap, B, rfl, h⟩
  exact h0 _ _ _ cap _ h.sh (Nat.le_add_right _ _) (fun j B hj => getx1 hj)
/-! sheets as rows -/
def rS6 (n : Nat) : List Int := [(rowN n 0 : Nat), (rowN n 1 : Nat), (rowN n 2 : Nat), (rowN n 3 : Nat), (rowN n 4 : Nat), (rowN n 5 : Nat)]
theorem rS6_inj {a b : Nat} (ha : a < 2 ^ 36) (hb : b < 2 ^ 36) (h : rS6 a = rS6 b) : a = b := by
  unfold rS6 at h
  simp only [List.cons.injEq, and_true] at h
  obtain ⟨h0, h1, h2, h3, h4, h5⟩ := h
  rw [← setN_rows ha, ← setN_rows hb, show rowN a 0 = rowN b 0 by omega, show rowN a 1 = rowN b 1 by omega, show rowN a 2 = rowN b 2 by omega, show rowN a 3 = rowN b 3 by omega, show rowN a 4 = rowN b 4 by omega, show rowN a 5 = rowN b 5 by omega]
theorem eqS_I {a b : Nat} (ha : a < 2 ^ 36) (hb : b < 2 ^ 36) : eqC [.int, .int, .int, .int, .int, .int] ((rS6 a).map (Value.int .i64)) ((rS6 b).map (Value.int .i64)) = some (decide (a = b)) := by
  have h := eqC_I 6 (rS6 a) (rS6 b) rfl rfl
  rw [show ([.int, .int, .int, .int, .int, .int] : List CK) = List.replicate 6 .int from rfl, h]
  congr 1
  exact decide_eq_decide.2 ⟨fun e => rS6_inj ha hb e, fun e => by rw [e]⟩
theorem and_lt {a b : Nat} (ha : a < 2 ^ 36) : a &&& b < 2 ^ 36 := by rw [Nat.and_comm]; exact Nat.and_lt_two_pow b ha
theorem d_atK (m k : Nat) (hk : k < 36) (K : Cont) (h0 : K (ShN (prK m k)) σ) : ACall Try.prog W0 50 [ShN m, Ce (k % 6 : Nat) (k / 6 : Nat)] σ K :=
  d_l2AtN m (k % 6) (k / 6) (by omega) (by omega) K h0
theorem c_l10IsFree (n m k : Nat) (hn : n < 2 ^ 36) (hk : k < 36) (K : Cont) (h0 : K (Bo (frF n m k)) []) : ACall Try.prog W0 69 [ShN n, ShN m, Ce (k % 6 : Nat) (k / 6 : Nat)] [] K := by
  refine by69 (Nat.le_of_ble_eq_true rfl) ?_
  have e : eqC [.int, .int, .int, .int, .int, .int] ((rS6 (n &&& prK m k)).map (Value.int .i64)) ((rS6 0).map (Value.int .i64)) = some (frF n m k) := by
    rw [eqS_I (and_lt hn) (by decide)]
    congr 1
    unfold frF
    rw [Nat.and_comm]
  unfold rS6 at e
  simp only [List.map_cons, List.map_nil] at e
  repeat' ((conv => whnf); first | (rw [e]) | (refine Exists.intro ([] : List Nat) ?_) | (refine And.intro rfl ?_) | (refine And.intro (by decide +kernel) ?_) | (refine And.intro trivial ?_) | (refine Exists.intro _ (And.intro (fun τ => callW_fn (d_atK (hk := hk) (h0 := And.intro rfl rfl) ..)) ?_)) | (refine d_l2AndM (h0 := ?_) ..) | (refine Exists.intro _ (And.intro (fun τ => callW_fn (d_l2AndM (h0 := And.intro rfl rfl) ..)) ?_)) | (refine Exists.intro _ (And.intro (callW_fn (d_l2AndM (h0 := And.intro rfl rfl) ..)) (And.intro trivial ?_))) | (refine Exists.intro _ (And.intro (callW_fn (d_l2AndM (h0 := And.intro rfl rfl) ..)) ?_)) | (refine Exists.intro _ (And.intro (fun τ _ => callW_fn (d_l2AndM (h0 := And.intro rfl rfl) ..)) ?_)) | (refine Exists.intro _ (And.intro rfl (And.intro rfl (And.intro (Nat.le_of_ble_eq_true rfl) ?_)))) | (refine Exists.intro _ (And.intro rfl (And.intro rfl (And.intro rfl (And.intro (Nat.le_of_ble_eq_true rfl) ?_))))) | (refine And.intro (Exists.intro _ (And.intro rfl rfl)) ?_) | (exact fun hW => absurd hW (by decide +kernel)) | (intro hW; (try simp only [Bool.not_true, Bool.not_false, Bool.not_eq_true', Bool.not_eq_false', decide_eq_true_eq, decide_eq_false_iff_not, reduceCtorEq, Bool.true_eq_false, Bool.false_eq_true, mk_size, List.size_toArray, ByteArray.size_append, ByteArray.size_extract, List.length_cons, List.length_nil, ba_get, ba_empty, Int.toNat_natCast] at hW)) | (refine And.intro (?_ : _ → _) (?_ : _ → _)) | (refine FinR.drop 0 (Nat.zero_le _) (Closed.zero _) rfl ?_) | (refine FinR.keep ?_) | (refine And.intro (det3_agg rfl) ?_) | (refine fL_mk ?_) | (refine And.intro (by (try simp only [mk_size, List.size_toArray, ByteArray.size_append, ByteArray.size_extract, List.length_cons, List.length_nil]); omega) ?_) | (refine And.intro (by (try simp only [mk_size, List.size_toArray, ByteArray.size_append, ByteArray.size_extract, List.length_cons, List.length_nil, wrap64_eq]); omega) ?_) | fail)
  all_goals (refine kB' (σ := []) h0 ?_; exact Option.some.inj e)
theorem d_l10IsFree (n m k : Nat) (hn : n < 2 ^ 36) (hk : k < 36) (K : Cont) (h0 : K (Bo (frF n m k)) σ) : ACall Try.prog W0 69 [ShN n, ShN m, Ce (k % 6 : Nat) (k / 6 : Nat)] σ K :=
  ACall.lift rfl (fun _ => rfl) (fun W1 K _ hK => c_l10IsFree n m k hn hk K hK) h0
/-- the cells of free presses -/
def ceL (k : Nat) : List Int := [((k % 6 : Nat) : Int), ((k / 6 : Nat) : Int)]
def fcL (l : List Int) : List (List Int) := l.map fun k => ceL k.toNat
theorem fcL_row (l : List Int) : ∀ r ∈ fcL l, r.length = 2 := by
  intro r hr
  obtain ⟨k, _, rfl⟩ := List.mem_map.1 hr
  rfl
structure GFX where
  i : Nat
  v : Nat
  cp : Nat
theorem c_l10Free (n m : Nat) (hn : n < 2 ^ 36) (K : Cont) (h0 : ∀ S b v cap B, S[b]? = some B → B.ver = v → B.cells = jc (fcL (frS n m)) → K (.sl b v 0 (frS n m).length cap) S) : ACall Try.prog W0 48 [ShN n, ShN m] [] K := by
  refine by48 (Nat.le_of_ble_eq_true rfl) ?_
  unfold frS at h0
  repeat' ((conv => whnf); first | (refine Exists.intro ([] : List Nat) ?_) | (refine And.intro rfl ?_) | (refine And.intro (by decide +kernel) ?_) | (refine And.intro trivial ?_) | (refine Exists.intro _ (And.intro rfl (And.intro rfl (And.intro (Nat.le_of_ble_eq_true rfl) ?_)))) | (refine Exists.intro _ (And.intro rfl (And.intro rfl (And.intro rfl (And.intro (Nat.le_of_ble_eq_true rfl) ?_))))) | (refine And.intro (Exists.intro _ (And.intro rfl rfl)) ?_) | (exact fun hW => absurd hW (by decide +kernel)) | (intro hW; (try simp only [Bool.not_true, Bool.not_false, Bool.not_eq_true', Bool.not_eq_false', decide_eq_true_eq, decide_eq_false_iff_not, reduceCtorEq, Bool.true_eq_false, Bool.false_eq_true, mk_size, List.size_toArray, ByteArray.size_append, ByteArray.size_extract, List.length_cons, List.length_nil, ba_get, ba_empty, Int.toNat_natCast] at hW)) | (refine And.intro (?_ : _ → _) (?_ : _ → _)) | (refine FinR.drop 0 (Nat.zero_le _) (Closed.zero _) rfl ?_) | (refine FinR.keep ?_) | (refine And.intro (det3_agg rfl) ?_) | (refine fL_mk ?_) | (refine And.intro (by (try simp only [mk_size, List.size_toArray, ByteArray.size_append, ByteArray.size_extract, List.length_cons, List.length_nil]); omega) ?_) | (refine And.intro (by (try simp only [mk_size, List.size_toArray, ByteArray.size_append, ByteArray.size_extract, List.length_cons, List.length_nil, wrap64_eq]); omega) ?_) | fail)
  skip
  refine LoopR.live (fun x : GFX => [(2, .ptr 0 0 0), (3, .ptr 1 0 0), (5, .sl 2 x.v 0 (selN (frF n m) x.i).length x.cp), (6, I x.i)]) (fun x => [bl n, bl m, ⟨jc (fcL (selN (frF n m) x.i)), x.v, 70, 2, true, true⟩]) (fun x => x.i ≤ 36) (fun x => 36 - x.i) ⟨0, 0, 0⟩ ⟨rfl, rfl, rfl, rfl, trivial⟩ (.keep rfl) (Nat.zero_le _) ?_
  rintro ⟨i, v, cp⟩ hi
  dsimp only at hi
  have ew : IntKind.i64.wrap ((i : Nat) + 1 : Int) = ((i + 1 : Nat) : Int) := wsucc' i (by omega)
  by_cases hlt : i < 36
  · have e1 : ((i : Int)).tmod 6 = ((i % 6 : Nat) : Int) := by rw [Int.tmod_eq_emod_of_nonneg (by omega)]; rfl
    have e2 : IntKind.i64.wrap ((i : Int).tdiv 6) = ((i / 6 : Nat) : Int) := by rw [Int.tdiv_eq_ediv_of_nonneg (by omega), wrap_i64 _ (by omega) (by omega)]; rfl
    have hs := selN_succ (frF n m) i
    have hl := selN_len (frF n m) i
    have hjl : (selN (frF n m) i).length * 2 = (jc (fcL (selN (frF n m) i))).length := by rw [jc_len (s := 2) (fcL_row _)]; unfold fcL; rw [List.length_map]
    cases hf : frF n m i with
    | true =>
      rw [hf, if_pos rfl] at hs
      repeat' ((conv => whnf); first | (rw [ew]) | (rw [e1]) | (rw [e2]) | (refine Exists.intro ([] : List Nat) ?_) | (refine And.intro rfl ?_) | (refine And.intro (by decide +kernel) ?_) | (refine And.intro trivial ?_) | (refine d_l10IsFree (hn := hn) (hk := hlt) (h0 := ?_) ..; rw [hf]) | (refine Exists.intro _ (And.intro rfl (And.intro rfl (And.intro rfl (And.intro rfl (And.intro rfl (And.intro rfl (And.intro (by decide) (And.intro (by exact hjl) (And.intro rfl (And.intro (by show (selN (frF n m) i).length + 1 ≤ maxLen; unfold maxLen; omega) (And.intro (by show ((selN (frF n m) i).length + 1) * 16 ≤ 140737488355328; omega) (fun cap2 hcap2 hcap3 => ?_))))))))))))) | (refine Exists.intro _ (And.intro rfl (And.intro rfl (And.intro (Nat.le_of_ble_eq_true rfl) ?_)))) | (refine Exists.intro _ (And.intro rfl (And.intro rfl (And.intro rfl (And.intro (Nat.le_of_ble_eq_true rfl) ?_))))) | (refine And.intro (Exists.intro _ (And.intro rfl rfl)) ?_) | (exact fun hW => absurd hW (by decide +kernel)) | (intro hW; (try simp only [Bool.not_true, Bool.not_false, Bool.not_eq_true', Bool.not_eq_false', decide_eq_true_eq, decide_eq_false_iff_not, reduceCtorEq, Bool.true_eq_false, Bool.false_eq_true, mk_size, List.size_toArray, ByteArray.size_append, ByteArray.size_extract, List.length_cons, List.length_nil, ba_get, ba_empty, Int.toNat_natCast] at hW)) | (refine And.intro (?_ : _ → _) (?_ : _ → _)) | (refine FinR.drop 0 (Nat.zero_le _) (Closed.zero _) rfl ?_) | (refine FinR.keep ?_) | (refine And.intro (det3_agg rfl) ?_) | (refine fL_mk ?_) | (refine And.intro (by (try simp only [mk_size, List.size_toArray, ByteArray.size_append, ByteArray.size_extract, List.length_cons, List.length_nil]); omega) ?_) | (refine And.intro (by (try simp only [mk_size, List.size_toArray, ByteArray.size_append, ByteArray.size_extract, List.length_cons, List.length_nil, wrap64_eq]); omega) ?_) | fail)
      all_goals first | (exfalso; omega) | (exfalso; simp_all; done) | skip
      skip
      refine Again.go ⟨i + 1, v + 1, cap2⟩ ⟨rfl, rfl, (by show AV.sl 2 (v + 1) 0 ((selN (frF n m) i).length + 1) cap2 = AV.sl 2 (v + 1) 0 (selN (frF n m) (i + 1)).length cap2; rw [hs, List.length_append]; rfl), rfl, trivial⟩ (.drop 3 (Nat.zero_le _) ?_ (closCons rfl (closCons rfl (closCons (belJ _ _) (closNil _)))) rfl) (by show i + 1 ≤ 36; omega) (by show 36 - (i + 1) < 36 - i; omega)
      show [bl n, bl m, (⟨jc (fcL (selN (frF n m) (i + 1))), v + 1, 70, 2, true, true⟩ : Blk)] = [bl n, bl m, ⟨jc (fcL (selN (frF n m) i)) ++ [I (i % 6 : Nat), I (i / 6 : Nat)], v + 1, 70, 2, true, true⟩]
      rw [hs]
      unfold fcL
      rw [List.map_append, jc_append]; rfl
    | false =>
      rw [hf, if_neg (by decide), List.append_nil] at hs
      repeat' ((conv => whnf); first | (rw [ew]) | (rw [e1]) | (rw [e2]) | (refine Exists.intro ([] : List Nat) ?_) | (refine And.intro rfl ?_) | (refine And.intro (by decide +kernel) ?_) | (refine And.intro trivial ?_) | (refine d_l10IsFree (hn := hn) (hk := hlt) (h0 := ?_) ..; rw [hf]) | (refine Exists.intro _ (And.intro rfl (And.intro rfl (And.intro rfl (And.intro rfl (And.intro rfl (And.intro rfl (And.intro (by decide) (And.intro (by exact hjl) (And.intro rfl (And.intro (by show (selN (frF n m) i).length + 1 ≤ maxLen; unfold maxLen; omega) (And.intro (by show ((selN (frF n m) i).length + 1) * 16 ≤ 140737488355328; omega) (fun cap2 hcap2 hcap3 => ?_))))))))))))) | (refine Exists.intro _ (And.intro rfl (And.intro rfl (And.intro (Nat.le_of_ble_eq_true rfl) ?_)))) | (refine Exists.intro _ (And.intro rfl (And.intro rfl (And.intro rfl (And.intro (Nat.le_of_ble_eq_true rfl) ?_))))) | (refine And.intro (Exists.intro _ (And.intro rfl rfl)) ?_) | (exact fun hW => absurd hW (by decide +kernel)) | (intro hW; (try simp only [Bool.not_true, Bool.not_false, Bool.not_eq_true', Bool.not_eq_false', decide_eq_true_eq, decide_eq_false_iff_not, reduceCtorEq, Bool.true_eq_false, Bool.false_eq_true, mk_size, List.size_toArray, ByteArray.size_append, ByteArray.size_extract, List.length_cons, List.length_nil, ba_get, ba_empty, Int.toNat_natCast] at hW)) | (refine And.intro (?_ : _ → _) (?_ : _ → _)) | (refine FinR.drop 0 (Nat.zero_le _) (Closed.zero _) rfl ?_) | (refine FinR.keep ?_) | (refine And.intro (det3_agg rfl) ?_) | (refine fL_mk ?_) | (refine And.intro (by (try simp only [mk_size, List.size_toArray, ByteArray.size_append, ByteArray.size_extract, List.length_cons, List.length_nil]); omega) ?_) | (refine And.intro (by (try simp only [mk_size, List.size_toArray, ByteArray.size_append, ByteArray.size_extract, List.length_cons, List.length_nil, wrap64_eq]); omega) ?_) | fail)
      all_goals first | (exfalso; omega) | (exfalso; simp_all; done) | skip
      skip
      exact Again.go ⟨i + 1, v, cp⟩ ⟨rfl, rfl, (by show AV.sl 2 v 0 (selN (frF n m) i).length cp = AV.sl 2 v 0 (selN (frF n m) (i + 1)).length cp; rw [hs]), rfl, trivial⟩ (.drop 3 (Nat.zero_le _) (by show [bl n, bl m, (⟨jc (fcL (selN (frF n m) (i + 1))), v, 70, 2, true, true⟩ : Blk)] = [bl n, bl m, ⟨jc (fcL (selN (frF n m) i)), v, 70, 2, true, true⟩]; rw [hs]) (closCons rfl (closCons rfl (closCons (belJ _ _) (closNil _)))) rfl) (by show i + 1 ≤ 36; omega) (by show 36 - (i + 1) < 36 - i; omega)
  · obtain rfl : i = 36 := by omega
    generalize selN (frF n m) 36 = F at h0 ⊢
    have h0' : K (.sl 2 v 0 F.length cp) [bl n, bl m, ⟨jc (fcL F), v, 70, 2, true, true⟩] := h0 [bl n, bl m, ⟨jc (fcL F), v, 70, 2, true, true⟩] 2 v cp _ rfl rfl rfl
    repeat' ((conv => whnf); first | (refine Exists.intro ([] : List Nat) ?_) | (refine And.intro rfl ?_) | (refine And.intro (by decide +kernel) ?_) | (refine And.intro trivial ?_) | (refine Exists.intro _ (And.intro rfl (And.intro rfl (And.intro (Nat.le_of_ble_eq_true rfl) ?_)))) | (refine Exists.intro _ (And.intro rfl (And.intro rfl (And.intro rfl (And.intro (Nat.le_of_ble_eq_true rfl) ?_))))) | (refine And.intro (Exists.intro _ (And.intro rfl rfl)) ?_) | (exact fun hW => absurd hW (by decide +kernel)) | (intro hW; (try simp only [Bool.not_true, Bool.not_false, Bool.not_eq_true', Bool.not_eq_false', decide_eq_true_eq, decide_eq_false_iff_not, reduceCtorEq, Bool.true_eq_false, Bool.false_eq_true, mk_size, List.size_toArray, ByteArray.size_append, ByteArray.size_extract, List.length_cons, List.length_nil, ba_get, ba_empty, Int.toNat_natCast] at hW)) | (refine And.intro (?_ : _ → _) (?_ : _ → _)) | (refine FinR.drop 0 (Nat.zero_le _) (Closed.zero _) rfl ?_) | (refine FinR.keep ?_) | (refine And.intro (det3_agg rfl) ?_) | (refine fL_mk ?_) | (refine And.intro (by (try simp only [mk_size, List.size_toArray, ByteArray.size_append, ByteArray.size_extract, List.length_cons, List.length_nil]); omega) ?_) | (refine And.intro (by (try simp only [mk_size, List.size_toArray, ByteArray.size_append, ByteArray.size_extract, List.length_cons, List.length_nil, wrap64_eq]); omega) ?_) | fail)
    all_goals first | (exfalso; omega) | exact h0'
end Go.Proofs.Ytcclhjohpicleaa
end
