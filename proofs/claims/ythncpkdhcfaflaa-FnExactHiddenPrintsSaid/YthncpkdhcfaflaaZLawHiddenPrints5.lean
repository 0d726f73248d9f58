import Derived.Test.YthncpkdhcfaflaaZLawHiddenPrints4
section
/- Contracts: places of layers of which something is so. -/
set_option linter.unusedVariables false
set_option linter.unusedSimpArgs false
set_option maxRecDepth 100000
set_option maxHeartbeats 4000000
namespace Go.Proofs.Ythncpkdhcfaflaa
open Go Go.RowKit Go.Proofs.Ythncpkdhcfaflaa.Abs
variable {W0 : World} {σ : List Blk}
theorem c_rev (A : Blk) (l : List Int) (hl : l.length ≤ 6) (ver cap : Nat) (r m : Bool) (K : Cont) (h0 : K (.tup []) [A, ⟨l.reverse.map I, ver, 3, 1, r, m⟩]) : ACall Try.prog W0 94 [.sl 1 ver 0 l.length cap] [A, ⟨l.map I, ver, 3, 1, r, m⟩] K := by
  match l, hl with
  | [], _ =>
    show ACall Try.prog W0 94 [.sl 1 ver 0 0 cap] [A, ⟨[], ver, 3, 1, r, m⟩] K
    refine by94 (Nat.le_of_ble_eq_true rfl) ?_
    repeat' ((conv => whnf); first
      | (refine And.intro rfl ?_)
      | (refine And.intro (by decide +kernel) ?_)
      | (refine And.intro trivial ?_)
      | (refine LoopR.unroll 4 ?_)
      | (refine Exists.intro _ (And.intro rfl (And.intro rfl (And.intro (Nat.le_of_ble_eq_true rfl) ?_))))
      | (refine Exists.intro _ (And.intro rfl (And.intro rfl (And.intro rfl (And.intro (Nat.le_of_ble_eq_true rfl) ?_)))))
      | (refine And.intro (Exists.intro _ (And.intro rfl rfl)) ?_)
      | (exact fun hW => absurd hW (by decide +kernel))
      | (intro hW; (try simp only [Bool.not_true, Bool.not_false, Bool.not_eq_true', Bool.not_eq_false', decide_eq_true_eq, decide_eq_false_iff_not, reduceCtorEq, Bool.true_eq_false, Bool.false_eq_true, mk_size, List.size_toArray, ByteArray.size_append, ByteArray.size_extract, List.length_cons, List.length_nil, ba_get, ba_empty, Int.toNat_natCast] at hW))
      | (refine And.intro (?_ : _ → _) (?_ : _ → _))
      | (refine FinR.drop 0 (Nat.zero_le _) (Closed.zero _) rfl ?_)
      | (refine FinR.keep ?_)
      | (refine And.intro (det3_agg rfl) ?_)
      | (refine fL_mk ?_)
      | (refine And.intro (by (try simp only [mk_size, List.size_toArray, ByteArray.size_append, ByteArray.size_extract, List.length_cons, List.length_nil]); omega) ?_)
      | (refine And.intro (by (try simp only [mk_size, List.size_toArray, ByteArray.size_append, ByteArray.size_extract, List.length_cons, List.length_nil, wrap64_eq]); omega) ?_)
      | fail)
    all_goals exact h0
  | [a], _ =>
    show ACall Try.prog W0 94 [.sl 1 ver 0 1 cap] [A, ⟨[I a], ver, 3, 1, r, m⟩] K
    refine by94 (Nat.le_of_ble_eq_true rfl) ?_
    repeat' ((conv => whnf); first
      | (refine And.intro rfl ?_)
      | (refine And.intro (by decide +kernel) ?_)
      | (refine And.intro trivial ?_)
      | (refine LoopR.unroll 4 ?_)
      | (refine Exists.intro _ (And.intro rfl (And.intro rfl (And.intro (Nat.le_of_ble_eq_true rfl) ?_))))
      | (refine Exists.intro _ (And.intro rfl (And.intro rfl (And.intro rfl (And.intro (Nat.le_of_ble_eq_true rfl) ?_)))))
      | (refine And.intro (Exists.intro _ (And.intro rfl rfl)) ?_)
      | (exact fun hW => absurd hW (by decide +kernel))
      | (intro hW; (try simp only [Bool.not_true, Bool.not_false, Bool.not_eq_true', Bool.not_eq_false', decide_eq_true_eq, decide_eq_false_iff_not, reduceCtorEq, Bool.true_eq_false, Bool.false_eq_true, mk_size, List.size_toArray, ByteArray.size_append, ByteArray.size_extract, List.length_cons, List.length_nil, ba_get, ba_empty, Int.toNat_natCast] at hW))
      | (refine And.intro (?_ : _ → _) (?_ : _ → _))
      | (refine FinR.drop 0 (Nat.zero_le _) (Closed.zero _) rfl ?_)
      | (refine FinR.keep ?_)
      | (refine And.intro (det3_agg rfl) ?_)
      | (refine fL_mk ?_)
      | (refine And.intro (by (try simp only [mk_size, List.size_toArray, ByteArray.size_append, ByteArray.size_extract, List.length_cons, List.length_nil]); omega) ?_)
      | (refine And.intro (by (try simp only [mk_size, List.size_toArray, ByteArray.size_append, ByteArray.size_extract, List.length_cons, List.length_nil, wrap64_eq]); omega) ?_)
      | fail)
    all_goals exact h0
  | [a, b], _ =>
    show ACall Try.prog W0 94 [.sl 1 ver 0 2 cap] [A, ⟨[I a, I b], ver, 3, 1, r, m⟩] K
    refine by94 (Nat.le_of_ble_eq_true rfl) ?_
    repeat' ((conv => whnf); first
      | (refine And.intro rfl ?_)
      | (refine And.intro (by decide +kernel) ?_)
      | (refine And.intro trivial ?_)
      | (refine LoopR.unroll 4 ?_)
      | (refine Exists.intro _ (And.intro rfl (And.intro rfl (And.intro (Nat.le_of_ble_eq_true rfl) ?_))))
      | (refine Exists.intro _ (And.intro rfl (And.intro rfl (And.intro rfl (And.intro (Nat.le_of_ble_eq_true rfl) ?_)))))
      | (refine And.intro (Exists.intro _ (And.intro rfl rfl)) ?_)
      | (exact fun hW => absurd hW (by decide +kernel))
      | (intro hW; (try simp only [Bool.not_true, Bool.not_false, Bool.not_eq_true', Bool.not_eq_false', decide_eq_true_eq, decide_eq_false_iff_not, reduceCtorEq, Bool.true_eq_false, Bool.false_eq_true, mk_size, List.size_toArray, ByteArray.size_append, ByteArray.size_extract, List.length_cons, List.length_nil, ba_get, ba_empty, Int.toNat_natCast] at hW))
      | (refine And.intro (?_ : _ → _) (?_ : _ → _))
      | (refine FinR.drop 0 (Nat.zero_le _) (Closed.zero _) rfl ?_)
      | (refine FinR.keep ?_)
      | (refine And.intro (det3_agg rfl) ?_)
      | (refine fL_mk ?_)
      | (refine And.intro (by (try simp only [mk_size, List.size_toArray, ByteArray.size_append, ByteArray.size_extract, List.length_cons, List.length_nil]); omega) ?_)
      | (refine And.intro (by (try simp only [mk_size, List.size_toArray, ByteArray.size_append, ByteArray.size_extract, List.length_cons, List.length_nil, wrap64_eq]); omega) ?_)
      | fail)
    all_goals exact h0
  | [a, b, c], _ =>
    show ACall Try.prog W0 94 [.sl 1 ver 0 3 cap] [A, ⟨[I a, I b, I c], ver, 3, 1, r, m⟩] K
    refine by94 (Nat.le_of_ble_eq_true rfl) ?_
    repeat' ((conv => whnf); first
      | (refine And.intro rfl ?_)
      | (refine And.intro (by decide +kernel) ?_)
      | (refine And.intro trivial ?_)
      | (refine LoopR.unroll 4 ?_)
      | (refine Exists.intro _ (And.intro rfl (And.intro rfl (And.intro (Nat.le_of_ble_eq_true rfl) ?_))))
      | (refine Exists.intro _ (And.intro rfl (And.intro rfl (And.intro rfl (And.intro (Nat.le_of_ble_eq_true rfl) ?_)))))
      | (refine And.intro (Exists.intro _ (And.intro rfl rfl)) ?_)
      | (exact fun hW => absurd hW (by decide +kernel))
      | (intro hW; (try simp only [Bool.not_true, Bool.not_false, Bool.not_eq_true', Bool.not_eq_false', decide_eq_true_eq, decide_eq_false_iff_not, reduceCtorEq, Bool.true_eq_false, Bool.false_eq_true, mk_size, List.size_toArray, ByteArray.size_append, ByteArray.size_extract, List.length_cons, List.length_nil, ba_get, ba_empty, Int.toNat_natCast] at hW))
      | (refine And.intro (?_ : _ → _) (?_ : _ → _))
      | (refine FinR.drop 0 (Nat.zero_le _) (Closed.zero _) rfl ?_)
      | (refine FinR.keep ?_)
      | (refine And.intro (det3_agg rfl) ?_)
      | (refine fL_mk ?_)
      | (refine And.intro (by (try simp only [mk_size, List.size_toArray, ByteArray.size_append, ByteArray.size_extract, List.length_cons, List.length_nil]); omega) ?_)
      | (refine And.intro (by (try simp only [mk_size, List.size_toArray, ByteArray.size_append, ByteArray.size_extract, List.length_cons, List.length_nil, wrap64_eq]); omega) ?_)
      | fail)
    all_goals exact h0
  | [a, b, c, d], _ =>
    show ACall Try.prog W0 94 [.sl 1 ver 0 4 cap] [A, ⟨[I a, I b, I c, I d], ver, 3, 1, r, m⟩] K
    refine by94 (Nat.le_of_ble_eq_true rfl) ?_
    repeat' ((conv => whnf); first
      | (refine And.intro rfl ?_)
      | (refine And.intro (by decide +kernel) ?_)
      | (refine And.intro trivial ?_)
      | (refine LoopR.unroll 4 ?_)
      | (refine Exists.intro _ (And.intro rfl (And.intro rfl (And.intro (Nat.le_of_ble_eq_true rfl) ?_))))
      | (refine Exists.intro _ (And.intro rfl (And.intro rfl (And.intro rfl (And.intro (Nat.le_of_ble_eq_true rfl) ?_)))))
      | (refine And.intro (Exists.intro _ (And.intro rfl rfl)) ?_)
      | (exact fun hW => absurd hW (by decide +kernel))
      | (intro hW; (try simp only [Bool.not_true, Bool.not_false, Bool.not_eq_true', Bool.not_eq_false', decide_eq_true_eq, decide_eq_false_iff_not, reduceCtorEq, Bool.true_eq_false, Bool.false_eq_true, mk_size, List.size_toArray, ByteArray.size_append, ByteArray.size_extract, List.length_cons, List.length_nil, ba_get, ba_empty, Int.toNat_natCast] at hW))
      | (refine And.intro (?_ : _ → _) (?_ : _ → _))
      | (refine FinR.drop 0 (Nat.zero_le _) (Closed.zero _) rfl ?_)
      | (refine FinR.keep ?_)
      | (refine And.intro (det3_agg rfl) ?_)
      | (refine fL_mk ?_)
      | (refine And.intro (by (try simp only [mk_size, List.size_toArray, ByteArray.size_append, ByteArray.size_extract, List.length_cons, List.length_nil]); omega) ?_)
      | (refine And.intro (by (try simp only [mk_size, List.size_toArray, ByteArray.size_append, ByteArray.size_extract, List.length_cons, List.length_nil, wrap64_eq]); omega) ?_)
      | fail)
    all_goals exact h0
  | [a, b, c, d, e], _ =>
    show ACall Try.prog W0 94 [.sl 1 ver 0 5 cap] [A, ⟨[I a, I b, I c, I d, I e], ver, 3, 1, r, m⟩] K
    refine by94 (Nat.le_of_ble_eq_true rfl) ?_
    repeat' ((conv => whnf); first
      | (refine And.intro rfl ?_)
      | (refine And.intro (by decide +kernel) ?_)
      | (refine And.intro trivial ?_)
      | (refine LoopR.unroll 4 ?_)
      | (refine Exists.intro _ (And.intro rfl (And.intro rfl (And.intro (Nat.le_of_ble_eq_true rfl) ?_))))
      | (refine Exists.intro _ (And.intro rfl (And.intro rfl (And.intro rfl (And.intro (Nat.le_of_ble_eq_true rfl) ?_)))))
      | (refine And.intro (Exists.intro _ (And.intro rfl rfl)) ?_)
      | (exact fun hW => absurd hW (by decide +kernel))
      | (intro hW; (try simp only [Bool.not_true, Bool.not_false, Bool.not_eq_true', Bool.not_eq_false', decide_eq_true_eq, decide_eq_false_iff_not, reduceCtorEq, Bool.true_eq_false, Bool.false_eq_true, mk_size, List.size_toArray, ByteArray.size_append, ByteArray.size_extract, List.length_cons, List.length_nil, ba_get, ba_empty, Int.toNat_natCast] at hW))
      | (refine And.intro (?_ : _ → _) (?_ : _ → _))
      | (refine FinR.drop 0 (Nat.zero_le _) (Closed.zero _) rfl ?_)
      | (refine FinR.keep ?_)
      | (refine And.intro (det3_agg rfl) ?_)
      | (refine fL_mk ?_)
      | (refine And.intro (by (try simp only [mk_size, List.size_toArray, ByteArray.size_append, ByteArray.size_extract, List.length_cons, List.length_nil]); omega) ?_)
      | (refine And.intro (by (try simp only [mk_size, List.size_toArray, ByteArray.size_append, ByteArray.size_extract, List.length_cons, List.length_nil, wrap64_eq]); omega) ?_)
      | fail)
    all_goals exact h0
  | [a, b, c, d, e, f], _ =>
    show ACall Try.prog W0 94 [.sl 1 ver 0 6 cap] [A, ⟨[I a, I b, I c, I d, I e, I f], ver, 3, 1, r, m⟩] K
    refine by94 (Nat.le_of_ble_eq_true rfl) ?_
    repeat' ((conv => whnf); first
      | (refine And.intro rfl ?_)
      | (refine And.intro (by decide +kernel) ?_)
      | (refine And.intro trivial ?_)
      | (refine LoopR.unroll 4 ?_)
      | (refine Exists.intro _ (And.intro rfl (And.intro rfl (And.intro (Nat.le_of_ble_eq_true rfl) ?_))))
      | (refine Exists.intro _ (And.intro rfl (And.intro rfl (And.intro rfl (And.intro (Nat.le_of_ble_eq_true rfl) ?_)))))
      | (refine And.intro (Exists.intro _ (And.intro rfl rfl)) ?_)
      | (exact fun hW => absurd hW (by decide +kernel))
      | (intro hW; (try simp only [Bool.not_true, Bool.not_false, Bool.not_eq_true', Bool.not_eq_false', decide_eq_true_eq, decide_eq_false_iff_not, reduceCtorEq, Bool.true_eq_false, Bool.false_eq_true, mk_size, List.size_toArray, ByteArray.size_append, ByteArray.size_extract, List.length_cons, List.length_nil, ba_get, ba_empty, Int.toNat_natCast] at hW))
      | (refine And.intro (?_ : _ → _) (?_ : _ → _))
      | (refine FinR.drop 0 (Nat.zero_le _) (Closed.zero _) rfl ?_)
      | (refine FinR.keep ?_)
      | (refine And.intro (det3_agg rfl) ?_)
      | (refine fL_mk ?_)
      | (refine And.intro (by (try simp only [mk_size, List.size_toArray, ByteArray.size_append, ByteArray.size_extract, List.length_cons, List.length_nil]); omega) ?_)
      | (refine And.intro (by (try simp only [mk_size, List.size_toArray, ByteArray.size_append, ByteArray.size_extract, List.length_cons, List.length_nil, wrap64_eq]); omega) ?_)
      | fail)
    all_goals exact h0
  | a :: b :: c :: d :: e :: f :: g :: l, h => simp at h
/-- the places at which something is so, rising; and those from the end on, falling -/
def selN (q : Nat → Bool) : Nat → List Int
  | 0 => []
  | n + 1 => selN q n ++ if q n then [(n : Int)] else []
def selD (q : Nat → Bool) (n : Nat) : Nat → List Int
  | 0 => []
  | j + 1 => selD q n j ++ if q (n - 1 - j) then [((n - 1 - j : Nat) : Int)] else []
theorem selN_succ (q : Nat → Bool) (n : Nat) : selN q (n + 1) = selN q n ++ if q n then [(n : Int)] else [] := rfl
theorem selD_succ (q : Nat → Bool) (n j : Nat) : selD q n (j + 1) = selD q n j ++ if q (n - 1 - j) then [((n - 1 - j : Nat) : Int)] else [] := rfl
theorem selN_len (q : Nat → Bool) : ∀ n, (selN q n).length ≤ n
  | 0 => Nat.le_refl _
  | n + 1 => by
    have := selN_len q n
    rw [selN_succ, List.length_append]; split <;> simp <;> omega
theorem selD_len (q : Nat → Bool) (n : Nat) : ∀ j, (selD q n j).length ≤ j
  | 0 => Nat.le_refl _
  | j + 1 => by
    have := selD_len q n j
    rw [selD_succ, List.length_append]; split <;> simp <;> omega
theorem selD_rev (q : Nat → Bool) (n : Nat) : ∀ j, j ≤ n → selN q n = selN q (n - j) ++ (selD q n j).reverse
  | 0, _ => by simp [selD]
  | j + 1, h => by
    rw [selD_rev q n j (by omega), show n - j = (n - 1 - j) + 1 by omega, selN_succ, selD_succ, show n - (j + 1) = n - 1 - j by omega, List.reverse_append, List.append_assoc]
    congr 2
    split <;> rfl
theorem selD_all (q : Nat → Bool) (n : Nat) : (selD q n n).reverse = selN q n := by
  rw [selD_rev q n n (Nat.le_refl _), Nat.sub_self]; rfl
/-- the cells of all prints together -/
def latN : List (List Int) → Nat
  | [] => 0
  | x :: l => pSet x ||| latN l
theorem latN_lt : ∀ {xs : List (List Int)}, (∀ x ∈ xs, x.length = 9) → xs.all pOk = true → latN xs < 2 ^ 36
  | [], _, _ => by decide
  | x :: l, hx, h => by
    simp only [List.all_cons, Bool.and_eq_true] at h
    exact Nat.or_lt_two_pow (pSet_lt (hx x List.mem_cons_self) h.1) (latN_lt (fun y hy => hx y (List.mem_cons_of_mem _ hy)) h.2)
theorem latN_drop {xs : List (List Int)} {i : Nat} {x : List Int} (h : xs[i]? = some x) : latN (xs.drop i) = pSet x ||| latN (xs.drop (i + 1)) := by
  have hlt := getElem?_lt h
  rw [List.drop_eq_getElem_cons hlt, (List.getElem?_eq_some_iff.1 h).2]; rfl
theorem all_drop {xs : List (List Int)} (h : xs.all pOk = true) (i : Nat) : (xs.drop i).all pOk = true :=
  List.all_eq_true.2 fun x hx => List.all_eq_true.1 h x (List.mem_of_mem_drop hx)
theorem lay_set {xs : List (List Int)} {i off : Nat} {x : List Int} (h : xs[i]? = some x) (ho : off = i * 2) : mkAV false (((lyC xs).drop off).take 1) = U (pSet x : Nat) := by
  subst ho
  have := (lyC_get h).1
  rw [List.drop_eq_getElem_cons (getElem?_lt this), (List.getElem?_eq_some_iff.1 this).2]; rfl
theorem lay_le {xs : List (List Int)} {i off s : Nat} (h : i < xs.length) (ho : off + s ≤ i * 2 + 2) : off + s ≤ (lyC xs).length := by rw [lyC_len]; omega
/-- a property of a print's cells and of the later ones' -/
def thatQ (p : Nat → Nat → Bool) (xs : List (List Int)) (i : Nat) : Bool := p (pSet (xs.getD i [])) (latN (xs.drop (i + 1)))
theorem thatQ_at {p : Nat → Nat → Bool} {xs : List (List Int)} {i : Nat} {x : List Int} (h : xs[i]? = some x) : thatQ p xs i = p (pSet x) (latN (xs.drop (i + 1))) := by
  rw [thatQ, List.getD_eq_getElem?_getD, h]; rfl
def FnP (g : FuncId) (p : Nat → Nat → Bool) : Prop := ∀ {W : World} {σ : List Blk} (n m : Nat), n < 2 ^ 36 → m < 2 ^ 36 → ∀ K : Cont, K (Bo (p n m)) σ → ACall Try.prog W g [U n, U m] σ K
theorem listB_iff {xs : List (List Int)} : listB xs = true ↔ xs.length ≤ 6 ∧ xs.all pOk = true := by simp [listB]
theorem c_thatT (a : AV) (xs : List (List Int)) (ha : Sli W0 [] 9 enI a xs) (hx : ∀ x ∈ xs, x.length = 9) (hb : listB xs = true) (g : FuncId) (p : Nat → Nat → Bool) (hg : FnP g p) (K : Cont)
    (h0 : ∀ cap, K (.tup [.sl 1 (selN (thatQ p xs) xs.length).length 0 (selN (thatQ p xs) xs.length).length cap, Bo true]) [lyB xs, ⟨(selN (thatQ p xs) xs.length).map I, (selN (thatQ p xs) xs.length).length, 3, 1, true, true⟩]) : ACall Try.prog W0 60 [a, .lit (.func (.func g) #[] #[])] [] K := by
  obtain ⟨hl, hall⟩ := listB_iff.1 hb
  obtain ⟨va, rfl⟩ := sli_lit ha
  refine by60 (Nat.le_of_ble_eq_true rfl) ?_
  have h6 : decide (xs.length ≤ 6) = true := by simpa using hl
  repeat' ((conv => whnf); first
    | (refine And.intro rfl ?_)
    | (refine And.intro (by decide +kernel) ?_)
    | (refine And.intro trivial ?_)
    | (refine c_layersOf (ha := ha) (hx := hx) (hl := by omega) (h1 := fun _ cp => ?_) (h2 := fun hf => by rw [hall] at hf; cases hf) ..; rw [h6])
    | (refine Exists.intro _ (And.intro rfl (And.intro rfl (And.intro (Nat.le_of_ble_eq_true rfl) ?_))))
    | (refine Exists.intro _ (And.intro rfl (And.intro rfl (And.intro rfl (And.intro (Nat.le_of_ble_eq_true rfl) ?_)))))
    | (refine And.intro (Exists.intro _ (And.intro rfl rfl)) ?_)
    | (exact fun hW => absurd hW (by decide +kernel))
    | (intro hW; (try simp only [Bool.not_true, Bool.not_false, Bool.not_eq_true', Bool.not_eq_false', decide_eq_true_eq, decide_eq_false_iff_not, reduceCtorEq, Bool.true_eq_false, Bool.false_eq_true, mk_size, List.size_toArray, ByteArray.size_append, ByteArray.size_extract, List.length_cons, List.length_nil, ba_get, ba_empty, Int.toNat_natCast] at hW))
    | (refine And.intro (?_ : _ → _) (?_ : _ → _))
    | (refine FinR.drop 0 (Nat.zero_le _) (Closed.zero _) rfl ?_)
    | (refine FinR.keep ?_)
    | (refine And.intro (det3_agg rfl) ?_)
    | (refine fL_mk ?_)
    | (refine And.intro (by (try simp only [mk_size, List.size_toArray, ByteArray.size_append, ByteArray.size_extract, List.length_cons, List.length_nil]); omega) ?_)
    | (refine And.intro (by (try simp only [mk_size, List.size_toArray, ByteArray.size_append, ByteArray.size_extract, List.length_cons, List.length_nil, wrap64_eq]); omega) ?_)
    | fail)
  all_goals first | (exfalso; omega) | (exfalso; simp_all; done) | skip
  have e0 : I (IntKind.i64.wrap ((xs.length : Int) - 1)) = I ((xs.length : Int) - 1 - (0 : Nat)) := slI' (by rw [wrap_i64 _ (by omega) (by omega)]; omega)
  refine LoopR.live (fun y : Nat × Nat => [(1, .lit (.func (.func g) #[] #[])), (6, .sl 0 xs.length 0 xs.length cp), (8, .sl 1 (selD (thatQ p xs) xs.length y.1).length 0 (selD (thatQ p xs) xs.length y.1).length y.2), (9, U (latN (xs.drop (xs.length - y.1)) : Nat)), (10, I ((xs.length : Int) - 1 - (y.1 : Nat)))])
    (fun y => [lyB xs, ⟨(selD (thatQ p xs) xs.length y.1).map I, (selD (thatQ p xs) xs.length y.1).length, 3, 1, true, true⟩]) (fun y => y.1 ≤ xs.length) (fun y => xs.length - y.1) (0, 0) ⟨rfl, rfl, rfl, slU (by show (0 : Int) = ((latN (xs.drop (xs.length - 0)) : Nat) : Int); rw [Nat.sub_zero, List.drop_length]; rfl), e0, trivial⟩ (.keep rfl) (Nat.zero_le _) ?_
  rintro ⟨j, cp2⟩ hj
  dsimp only at hj
  by_cases hlt : j < xs.length
  · have hi : xs.length - 1 - j < xs.length := by omega
    have hxi : xs[xs.length - 1 - j]? = some xs[xs.length - 1 - j] := List.getElem?_eq_getElem hi
    generalize hx9 : xs[xs.length - 1 - j] = x at hxi
    have hx9' : x.length = 9 := hx _ (List.mem_of_getElem? hxi)
    have hpx : pOk x = true := List.all_eq_true.1 hall _ (List.mem_of_getElem? hxi)
    have hs1 := pSet_lt hx9' hpx
    have hs2 : latN (xs.drop (xs.length - j)) < 2 ^ 36 := latN_lt (fun y hy => hx y (List.mem_of_mem_drop hy)) (all_drop hall _)
    have hgc : ∀ {W : World} {σ : List Blk} (K : Cont), K (Bo (thatQ p xs (xs.length - 1 - j))) σ → ACall Try.prog W g [U (pSet x : Nat), U (latN (xs.drop (xs.length - j)) : Nat)] σ K := by
      intro W σ K hK
      refine hg _ _ hs1 hs2 K ?_
      rw [thatQ_at hxi, show xs.length - 1 - j + 1 = xs.length - j by omega] at hK; exact hK
    have hoff : ∀ z : Int, z = (xs.length : Int) - 1 - (j : Nat) → z.toNat = xs.length - 1 - j := by intro z hz; omega
    have hor : bOr .u64 (latN (xs.drop (xs.length - j)) : Nat) (pSet x : Nat) = (latN (xs.drop (xs.length - (j + 1))) : Nat) := by
      rw [bOrU hs2 hs1, show xs.length - (j + 1) = xs.length - 1 - j by omega, latN_drop hxi, show xs.length - 1 - j + 1 = xs.length - j by omega, Nat.or_comm]
    have hw : IntKind.i64.wrap ((xs.length : Int) - 1 - (j : Nat) - 1) = (xs.length : Int) - 1 - ((j + 1 : Nat) : Int) := by rw [wrap_i64 _ (by omega) (by omega)]; omega
    have hle : ∀ (off : Nat), off = (xs.length - 1 - j) * 2 → off + 1 ≤ (lyC xs).length := fun off ho => lay_le hi (by omega)
    have hq := selD_succ (thatQ p xs) xs.length j
    have hcast : ((xs.length - 1 - j : Nat) : Int) = (xs.length : Int) - 1 - (j : Nat) := by omega
    rw [hcast] at hq
    have hsl := selD_len (thatQ p xs) xs.length j
    cases hqv : thatQ p xs (xs.length - 1 - j) with
    | true =>
      rw [hqv] at hgc
      rw [hqv, if_pos rfl] at hq
      repeat' ((conv => whnf); first
        | (refine Exists.intro (lyB xs) (And.intro rfl (And.intro rfl (And.intro (hle _ (by rw [hoff _ rfl]; omega)) ?_))); rw [lay_set hxi (by rw [hoff _ rfl]; omega)])
        | (refine And.intro rfl ?_)
        | (refine And.intro (by decide +kernel) ?_)
        | (refine And.intro trivial ?_)
        | (refine hgc _ ?_)
        | (refine Exists.intro _ (And.intro rfl (And.intro rfl (And.intro rfl (And.intro rfl (And.intro rfl (And.intro rfl (And.intro (by decide) (And.intro (by simp [List.length_map]) (And.intro rfl (And.intro (by (try dsimp only); unfold maxLen; omega) (And.intro (by (try dsimp only); omega) (fun cap' hcap1 hcap2 => ?_)))))))))))))
        | (refine Exists.intro _ (And.intro rfl (And.intro rfl (And.intro (Nat.le_of_ble_eq_true rfl) ?_))))
        | (refine Exists.intro _ (And.intro rfl (And.intro rfl (And.intro rfl (And.intro (Nat.le_of_ble_eq_true rfl) ?_)))))
        | (refine And.intro (Exists.intro _ (And.intro rfl rfl)) ?_)
        | (exact fun hW => absurd hW (by decide +kernel))
        | (intro hW; (try simp only [Bool.not_true, Bool.not_false, Bool.not_eq_true', Bool.not_eq_false', decide_eq_true_eq, decide_eq_false_iff_not, reduceCtorEq, Bool.true_eq_false, Bool.false_eq_true, mk_size, List.size_toArray, ByteArray.size_append, ByteArray.size_extract, List.length_cons, List.length_nil, ba_get, ba_empty, Int.toNat_natCast] at hW))
        | (refine And.intro (?_ : _ → _) (?_ : _ → _))
        | (refine FinR.drop 0 (Nat.zero_le _) (Closed.zero _) rfl ?_)
        | (refine FinR.keep ?_)
        | (refine And.intro (det3_agg rfl) ?_)
        | (refine fL_mk ?_)
        | (refine And.intro (by (try simp only [mk_size, List.size_toArray, ByteArray.size_append, ByteArray.size_extract, List.length_cons, List.length_nil]); omega) ?_)
        | (refine And.intro (by (try simp only [mk_size, List.size_toArray, ByteArray.size_append, ByteArray.size_extract, List.length_cons, List.length_nil, wrap64_eq]); omega) ?_)
        | fail)
      all_goals first | (exfalso; omega) | (exfalso; simp_all; done) | skip
      refine Again.go (j + 1, _) ⟨rfl, rfl, (by show AV.sl _ _ _ _ _ = AV.sl _ _ _ _ _; rw [hq, List.length_append]; rfl), slU hor, slI' hw, trivial⟩ (.keep ?_) (by dsimp only; omega) (by dsimp only; omega)
      dsimp only
      rw [hq, List.length_append, List.map_append]; rfl
    | false =>
      rw [hqv] at hgc
      rw [hqv, if_neg (by decide), List.append_nil] at hq
      repeat' ((conv => whnf); first
        | (refine Exists.intro (lyB xs) (And.intro rfl (And.intro rfl (And.intro (hle _ (by rw [hoff _ rfl]; omega)) ?_))); rw [lay_set hxi (by rw [hoff _ rfl]; omega)])
        | (refine And.intro rfl ?_)
        | (refine And.intro (by decide +kernel) ?_)
        | (refine And.intro trivial ?_)
        | (refine hgc _ ?_)
        | (refine Exists.intro _ (And.intro rfl (And.intro rfl (And.intro rfl (And.intro rfl (And.intro rfl (And.intro rfl (And.intro (by decide) (And.intro (by simp [List.length_map]) (And.intro rfl (And.intro (by (try dsimp only); unfold maxLen; omega) (And.intro (by (try dsimp only); omega) (fun cap' hcap1 hcap2 => ?_)))))))))))))
        | (refine Exists.intro _ (And.intro rfl (And.intro rfl (And.intro (Nat.le_of_ble_eq_true rfl) ?_))))
        | (refine Exists.intro _ (And.intro rfl (And.intro rfl (And.intro rfl (And.intro (Nat.le_of_ble_eq_true rfl) ?_)))))
        | (refine And.intro (Exists.intro _ (And.intro rfl rfl)) ?_)
        | (exact fun hW => absurd hW (by decide +kernel))
        | (intro hW; (try simp only [Bool.not_true, Bool.not_false, Bool.not_eq_true', Bool.not_eq_false', decide_eq_true_eq, decide_eq_false_iff_not, reduceCtorEq, Bool.true_eq_false, Bool.false_eq_true, mk_size, List.size_toArray, ByteArray.size_append, ByteArray.size_extract, List.length_cons, List.length_nil, ba_get, ba_empty, Int.toNat_natCast] at hW))
        | (refine And.intro (?_ : _ → _) (?_ : _ → _))
        | (refine FinR.drop 0 (Nat.zero_le _) (Closed.zero _) rfl ?_)
        | (refine FinR.keep ?_)
        | (refine And.intro (det3_agg rfl) ?_)
        | (refine fL_mk ?_)
        | (refine And.intro (by (try simp only [mk_size, List.size_toArray, ByteArray.size_append, ByteArray.size_extract, List.length_cons, List.length_nil]); omega) ?_)
        | (refine And.intro (by (try simp only [mk_size, List.size_toArray, ByteArray.size_append, ByteArray.size_extract, List.length_cons, List.length_nil, wrap64_eq]); omega) ?_)
        | fail)
      all_goals first | (exfalso; omega) | (exfalso; simp_all; done) | skip
      refine Again.go (j + 1, cp2) ⟨rfl, rfl, (by show AV.sl _ _ _ _ _ = AV.sl _ _ _ _ _; rw [hq]), slU hor, slI' hw, trivial⟩ (.keep ?_) (by dsimp only; omega) (by dsimp only; omega)
      dsimp only
      rw [hq]
  · obtain rfl : j = xs.length := by omega
    have hsl := selD_len (thatQ p xs) xs.length xs.length
    have h00 := h0 cp2
    have hll : (selN (thatQ p xs) xs.length).length = (selD (thatQ p xs) xs.length xs.length).length := by rw [← selD_all, List.length_reverse]
    rw [hll, ← selD_all] at h00
    repeat' ((conv => whnf); first
      | (refine And.intro rfl ?_)
      | (refine And.intro (by decide +kernel) ?_)
      | (refine And.intro trivial ?_)
      | (refine c_rev (l := selD (thatQ p xs) xs.length xs.length) (hl := by omega) (h0 := ?_) ..)
      | (refine Exists.intro _ (And.intro rfl (And.intro rfl (And.intro (Nat.le_of_ble_eq_true rfl) ?_))))
      | (refine Exists.intro _ (And.intro rfl (And.intro rfl (And.intro rfl (And.intro (Nat.le_of_ble_eq_true rfl) ?_)))))
      | (refine And.intro (Exists.intro _ (And.intro rfl rfl)) ?_)
      | (exact fun hW => absurd hW (by decide +kernel))
      | (intro hW; (try simp only [Bool.not_true, Bool.not_false, Bool.not_eq_true', Bool.not_eq_false', decide_eq_true_eq, decide_eq_false_iff_not, reduceCtorEq, Bool.true_eq_false, Bool.false_eq_true, mk_size, List.size_toArray, ByteArray.size_append, ByteArray.size_extract, List.length_cons, List.length_nil, ba_get, ba_empty, Int.toNat_natCast] at hW))
      | (refine And.intro (?_ : _ → _) (?_ : _ → _))
      | (refine FinR.drop 0 (Nat.zero_le _) (Closed.zero _) rfl ?_)
      | (refine FinR.keep ?_)
      | (refine And.intro (det3_agg rfl) ?_)
      | (refine fL_mk ?_)
      | (refine And.intro (by (try simp only [mk_size, List.size_toArray, ByteArray.size_append, ByteArray.size_extract, List.length_cons, List.length_nil]); omega) ?_)
      | (refine And.intro (by (try simp only [mk_size, List.size_toArray, ByteArray.size_append, ByteArray.size_extract, List.length_cons, List.length_nil, wrap64_eq]); omega) ?_)
      | fail)
    all_goals first | (exfalso; omega) | (exfalso; simp_all; done) | exact h00
theorem c_thatF (a : AV) (xs : List (List Int)) (ha : Sli W0 [] 9 enI a xs) (hx : ∀ x ∈ xs, x.length = 9) (hl : xs.length ≤ 1048576) (hb : listB xs = false) (f : AV) (hf : ∃ v, f = .lit v) (K : Cont)
    (h0 : K (.tup [.lit (.slice none 0 0), Bo false]) []) : ACall Try.prog W0 60 [a, f] [] K := by
  obtain ⟨va, rfl⟩ := sli_lit ha
  obtain ⟨vf, rfl⟩ := hf
  refine by60 (Nat.le_of_ble_eq_true rfl) ?_
  have h6 : xs.all pOk = true → decide (xs.length ≤ 6) = false := by
    intro h; simp only [listB, h, Bool.and_true] at hb; exact hb
  repeat' ((conv => whnf); first
    | (refine And.intro rfl ?_)
    | (refine And.intro (by decide +kernel) ?_)
    | (refine And.intro trivial ?_)
    | (refine c_layersOf (ha := ha) (hx := hx) (hl := by omega) (h1 := fun hall cp => ?_) (h2 := fun hf => ?_) .. <;> try rw [h6 hall])
    | (refine Exists.intro _ (And.intro rfl (And.intro rfl (And.intro (Nat.le_of_ble_eq_true rfl) ?_))))
    | (refine Exists.intro _ (And.intro rfl (And.intro rfl (And.intro rfl (And.intro (Nat.le_of_ble_eq_true rfl) ?_)))))
    | (refine And.intro (Exists.intro _ (And.intro rfl rfl)) ?_)
    | (exact fun hW => absurd hW (by decide +kernel))
    | (intro hW; (try simp only [Bool.not_true, Bool.not_false, Bool.not_eq_true', Bool.not_eq_false', decide_eq_true_eq, decide_eq_false_iff_not, reduceCtorEq, Bool.true_eq_false, Bool.false_eq_true, mk_size, List.size_toArray, ByteArray.size_append, ByteArray.size_extract, List.length_cons, List.length_nil, ba_get, ba_empty, Int.toNat_natCast] at hW))
    | (refine And.intro (?_ : _ → _) (?_ : _ → _))
    | (refine FinR.drop 0 (Nat.zero_le _) (Closed.zero _) rfl ?_)
    | (refine FinR.keep ?_)
    | (refine And.intro (det3_agg rfl) ?_)
    | (refine fL_mk ?_)
    | (refine And.intro (by (try simp only [mk_size, List.size_toArray, ByteArray.size_append, ByteArray.size_extract, List.length_cons, List.length_nil]); omega) ?_)
    | (refine And.intro (by (try simp only [mk_size, List.size_toArray, ByteArray.size_append, ByteArray.size_extract, List.length_cons, List.length_nil, wrap64_eq]); omega) ?_)
    | fail)
  all_goals first | (exfalso; omega) | (exfalso; simp_all; done) | exact h0
end Go.Proofs.Ythncpkdhcfaflaa
end

section
/- Contracts: hidden and whole prints. -/
set_option linter.unusedVariables false
set_option linter.unusedSimpArgs false
set_option maxRecDepth 100000
set_option maxHeartbeats 4000000
namespace Go.Proofs.Ythncpkdhcfaflaa
open Go Go.RowKit Go.Proofs.Ythncpkdhcfaflaa.Abs
variable {W0 : World} {σ : List Blk}
theorem sh_I (k : Nat) (l : List Int) : (l.map I).map (sh1 k) = l.map I := by rw [List.map_map]; rfl
/-- a contract of a slice, its results told one by one -/
theorem lift_S1 {α : Type} {enc : α → List Value} {g : FuncId} {a : AV} {xs : List α} {s : Nat} {ι : Type} (r : ι → AV) (β : ι → List Blk) (hok : callOK Try.prog g = true) (hs : Sli W0 σ s enc a xs)
    (h : ∀ (W1 : World) (a' : AV), Sli W1 [] s enc a' xs → ∀ K : Cont, (∀ i, K (r i) (β i)) → ACall Try.prog W1 g [a'] [] K) (K : Cont) (h0 : ∀ i, K (sh3 σ.length (r i)) (σ ++ shB σ.length (β i))) : ACall Try.prog W0 g [a] σ K := by
  refine ACall.frameA (K0 := fun v σ' => ∃ i, v = r i ∧ σ' = β i) hok (fun W1 ι vs hh hrr => ?_) ?_
  · obtain ⟨v1, vs', rfl, hr1, hr2⟩ := Rels.uncons hrr
    obtain ⟨a', ha, hs'⟩ := hs.conc hh ⟨v1, hr1⟩
    obtain rfl := hr2.nil_inv
    exact ⟨[a'], Rels.cons (ha _ hr1) Rels.nil, h W1 a' hs' _ (fun i => ⟨i, rfl, rfl⟩)⟩
  · rintro v σ' ⟨i, rfl, rfl⟩; exact h0 i
def hidP (n m : Nat) : Bool := decide (n &&& (fullN ^^^ m) = 0)
theorem decN (n : Nat) : decide ((n : Int) = 0) = decide (n = 0) := decide_eq_decide.2 (by omega)
theorem fn_hid : FnP 62 hidP := by
  intro W σ n m hn hm K h0
  refine by62 (Nat.le_of_ble_eq_true rfl) ?_
  repeat' ((conv => whnf); first
    | (refine And.intro rfl ?_)
    | (refine And.intro (by decide +kernel) ?_)
    | (refine And.intro trivial ?_)
    | (refine Exists.intro _ (And.intro rfl (And.intro rfl (And.intro (Nat.le_of_ble_eq_true rfl) ?_))))
    | (refine Exists.intro _ (And.intro rfl (And.intro rfl (And.intro rfl (And.intro (Nat.le_of_ble_eq_true rfl) ?_)))))
    | (refine And.intro (Exists.intro _ (And.intro rfl rfl)) ?_)
    | (exact fun hW => absurd hW (by decide +kernel))
    | (intro hW; (try simp only [Bool.not_true, Bool.not_false, Bool.not_eq_true', Bool.not_eq_false', decide_eq_true_eq, decide_eq_false_iff_not, reduceCtorEq, Bool.true_eq_false, Bool.false_eq_true, mk_size, List.size_toArray, ByteArray.size_append, ByteArray.size_extract, List.length_cons, List.length_nil, ba_get, ba_empty, Int.toNat_natCast] at hW))
    | (refine And.intro (?_ : _ → _) (?_ : _ → _))
    | (refine FinR.drop 0 (Nat.zero_le _) (Closed.zero _) rfl ?_)
    | (refine FinR.keep ?_)
    | (refine And.intro (det3_agg rfl) ?_)
    | (refine fL_mk ?_)
    | (refine And.intro (by (try simp only [mk_size, List.size_toArray, ByteArray.size_append, ByteArray.size_extract, List.length_cons, List.length_nil]); omega) ?_)
    | (refine And.intro (by (try simp only [mk_size, List.size_toArray, ByteArray.size_append, ByteArray.size_extract, List.length_cons, List.length_nil, wrap64_eq]); omega) ?_)
    | fail)
  all_goals (refine kB' h0 ?_; rw [bAndNotU hn hm]; exact decN _)
abbrev outB (l : List Int) : Blk := ⟨l.map I, l.length, 3, 1, true, true⟩
abbrev nilA : AV := .lit (.slice none 0 0)
theorem c_HidT (a : AV) (xs : List (List Int)) (ha : Sli W0 [] 9 enI a xs) (hx : ∀ x ∈ xs, x.length = 9) (hb : listB xs = true) (K : Cont)
    (h0 : ∀ cap, K (.tup [.sl 1 (selN (thatQ hidP xs) xs.length).length 0 (selN (thatQ hidP xs) xs.length).length cap, Bo true]) [lyB xs, outB (selN (thatQ hidP xs) xs.length)]) : ACall Try.prog W0 28 [a] [] K := by
  obtain ⟨va, rfl⟩ := sli_lit ha
  refine by28 (Nat.le_of_ble_eq_true rfl) ?_
  repeat' ((conv => whnf); first
    | (refine And.intro rfl ?_)
    | (refine And.intro (by decide +kernel) ?_)
    | (refine And.intro trivial ?_)
    | (refine c_thatT (ha := ha) (hx := hx) (hb := hb) (hg := fn_hid) (h0 := fun cap => ?_) ..)
    | (refine Exists.intro _ (And.intro rfl (And.intro rfl (And.intro (Nat.le_of_ble_eq_true rfl) ?_))))
    | (refine Exists.intro _ (And.intro rfl (And.intro rfl (And.intro rfl (And.intro (Nat.le_of_ble_eq_true rfl) ?_)))))
    | (refine And.intro (Exists.intro _ (And.intro rfl rfl)) ?_)
    | (exact fun hW => absurd hW (by decide +kernel))
    | (intro hW; (try simp only [Bool.not_true, Bool.not_false, Bool.not_eq_true', Bool.not_eq_false', decide_eq_true_eq, decide_eq_false_iff_not, reduceCtorEq, Bool.true_eq_false, Bool.false_eq_true, mk_size, List.size_toArray, ByteArray.size_append, ByteArray.size_extract, List.length_cons, List.length_nil, ba_get, ba_empty, Int.toNat_natCast] at hW))
    | (refine And.intro (?_ : _ → _) (?_ : _ → _))
    | (refine FinR.drop 0 (Nat.zero_le _) (Closed.zero _) rfl ?_)
    | (refine FinR.keep ?_)
    | (refine And.intro (det3_agg rfl) ?_)
    | (refine fL_mk ?_)
    | (refine And.intro (by (try simp only [mk_size, List.size_toArray, ByteArray.size_append, ByteArray.size_extract, List.length_cons, List.length_nil]); omega) ?_)
    | (refine And.intro (by (try simp only [mk_size, List.size_toArray, ByteArray.size_append, ByteArray.size_extract, List.length_cons, List.length_nil, wrap64_eq]); omega) ?_)
    | fail)
  all_goals exact h0 _
theorem c_HidF (a : AV) (xs : List (List Int)) (ha : Sli W0 [] 9 enI a xs) (hx : ∀ x ∈ xs, x.length = 9) (hl : xs.length ≤ 1048576) (hb : listB xs = false) (K : Cont) (h0 : K (.tup [nilA, Bo false]) []) : ACall Try.prog W0 28 [a] [] K := by
  obtain ⟨va, rfl⟩ := sli_lit ha
  refine by28 (Nat.le_of_ble_eq_true rfl) ?_
  repeat' ((conv => whnf); first
    | (refine And.intro rfl ?_)
    | (refine And.intro (by decide +kernel) ?_)
    | (refine And.intro trivial ?_)
    | (refine c_thatF (ha := ha) (hx := hx) (hl := hl) (hb := hb) (hf := ⟨_, rfl⟩) (h0 := ?_) ..)
    | (refine Exists.intro _ (And.intro rfl (And.intro rfl (And.intro (Nat.le_of_ble_eq_true rfl) ?_))))
    | (refine Exists.intro _ (And.intro rfl (And.intro rfl (And.intro rfl (And.intro (Nat.le_of_ble_eq_true rfl) ?_)))))
    | (refine And.intro (Exists.intro _ (And.intro rfl rfl)) ?_)
    | (exact fun hW => absurd hW (by decide +kernel))
    | (intro hW; (try simp only [Bool.not_true, Bool.not_false, Bool.not_eq_true', Bool.not_eq_false', decide_eq_true_eq, decide_eq_false_iff_not, reduceCtorEq, Bool.true_eq_false, Bool.false_eq_true, mk_size, List.size_toArray, ByteArray.size_append, ByteArray.size_extract, List.length_cons, List.length_nil, ba_get, ba_empty, Int.toNat_natCast] at hW))
    | (refine And.intro (?_ : _ → _) (?_ : _ → _))
    | (refine FinR.drop 0 (Nat.zero_le _) (Closed.zero _) rfl ?_)
    | (refine FinR.keep ?_)
    | (refine And.intro (det3_agg rfl) ?_)
    | (refine fL_mk ?_)
    | (refine And.intro (by (try simp only [mk_size, List.size_toArray, ByteArray.size_append, ByteArray.size_extract, List.length_cons, List.length_nil]); omega) ?_)
    | (refine And.intro (by (try simp only [mk_size, List.size_toArray, ByteArray.size_append, ByteArray.size_extract, List.length_cons, List.length_nil, wrap64_eq]); omega) ?_)
    | fail)
  all_goals exact h0
theorem sh_ly (k : Nat) (xs : List (List Int)) (l : List Int) : shB k [lyB xs, outB l] = [lyB xs, outB l] := by simp only [shB, List.map_cons, List.map_nil, lyB, outB, sh_lyC, sh_I]
theorem d_HidT (a : AV) (xs : List (List Int)) (ha : Sli W0 σ 9 enI a xs) (hx : ∀ x ∈ xs, x.length = 9) (hb : listB xs = true) (K : Cont)
    (h0 : ∀ cap, K (.tup [.sl (σ.length + 1) (selN (thatQ hidP xs) xs.length).length 0 (selN (thatQ hidP xs) xs.length).length cap, Bo true]) (σ ++ [lyB xs, outB (selN (thatQ hidP xs) xs.length)])) : ACall Try.prog W0 28 [a] σ K :=
  lift_S1 (ι := Nat) (fun cap => .tup [.sl 1 (selN (thatQ hidP xs) xs.length).length 0 (selN (thatQ hidP xs) xs.length).length cap, Bo true]) (fun _ => [lyB xs, outB (selN (thatQ hidP xs) xs.length)]) (by kernel_rfl) ha
    (fun W1 a' h K hK => c_HidT a' xs h hx hb K hK) K (fun cap => by rw [sh_ly]; exact h0 cap)
theorem d_HidF (a : AV) (xs : List (List Int)) (ha : Sli W0 σ 9 enI a xs) (hx : ∀ x ∈ xs, x.length = 9) (hl : xs.length ≤ 1048576) (hb : listB xs = false) (K : Cont) (h0 : K (.tup [nilA, Bo false]) σ) : ACall Try.prog W0 28 [a] σ K :=
  lift_S (by kernel_rfl) (fun _ => rfl) ha (fun W1 a' h K hK => c_HidF a' xs h hx hl hb K hK) K h0
/-! the reference: what is seen of prints -/
def shR (n : Nat) : List Int := [(rowN n 0 : Nat), (rowN n 1 : Nat), (rowN n 2 : Nat), (rowN n 3 : Nat), (rowN n 4 : Nat), (rowN n 5 : Nat)]
def seenN : List (List Int) → List Nat
  | [] => []
  | x :: l => (pSet x &&& (fullN ^^^ latN l)) :: seenN l
theorem seenN_len : ∀ xs, (seenN xs).length = xs.length
  | [] => rfl
  | x :: l => by rw [seenN, List.length_cons, seenN_len l, List.length_cons]
theorem seenN_get : ∀ {xs : List (List Int)} {i : Nat} {x : List Int}, xs[i]? = some x → (seenN xs)[i]? = some (pSet x &&& (fullN ^^^ latN (xs.drop (i + 1))))
  | [], i, x, h => by simp at h
  | y :: l, 0, x, h => by simp at h; subst h; rfl
  | y :: l, i + 1, x, h => by
    have := seenN_get (xs := l) (i := i) (x := x) (by simpa using h)
    simpa [seenN] using this
def seenR (xs : List (List Int)) : List (List Int) := (seenN xs).map shR
theorem seenR_len (xs : List (List Int)) : (seenR xs).length = xs.length := by rw [seenR, List.length_map, seenN_len]
theorem seenR_row (xs : List (List Int)) : ∀ x ∈ seenR xs, x.length = 6 := fun x hx => by
  obtain ⟨n, _, rfl⟩ := List.mem_map.1 hx; rfl
theorem jc_append (a b : List (List Int)) : jc (a ++ b) = jc a ++ jc b := by simp [jc]
theorem jc_set {rows : List (List Int)} {s i : Nat} {x : List Int} (hr : ∀ r ∈ rows, r.length = s) (hi : i < rows.length) : (jc rows).take (i * s) ++ x.map I ++ (jc rows).drop (i * s + s) = jc (rows.set i x) := by
  have e : rows = rows.take i ++ rows[i] :: rows.drop (i + 1) := by
    rw [← List.drop_eq_getElem_cons hi, List.take_append_drop]
  have hl : (jc (rows.take i)).length = i * s := by rw [jc_len (s := s) fun r h => hr r (List.mem_of_mem_take h), List.length_take, Nat.min_eq_left (by omega)]
  have hl2 : (rows[i].map I).length = s := by rw [List.length_map]; exact hr _ (List.getElem_mem hi)
  have e1 : jc rows = jc (rows.take i) ++ (rows[i].map I ++ jc (rows.drop (i + 1))) :=
    (congrArg jc e).trans (jc_append _ _)
  have e2 : jc (rows.set i x) = jc (rows.take i) ++ (x.map I ++ jc (rows.drop (i + 1))) := by
    rw [List.set_eq_take_append_cons_drop, if_pos hi]
    exact jc_append _ _
  rw [e1, e2, List.take_left' hl, ← List.drop_drop, List.drop_left' hl, List.drop_left' hl2, List.append_assoc]
abbrev z6 : List Int := [0, 0, 0, 0, 0, 0]
/-- rows of which the last ones are filled -/
def suf (S : List (List Int)) (k : Nat) : List (List Int) := List.replicate k z6 ++ S.drop k
theorem suf_row {S : List (List Int)} (h : ∀ x ∈ S, x.length = 6) (k : Nat) : ∀ x ∈ suf S k, x.length = 6 := fun x hx => by
  rcases List.mem_append.1 hx with h1 | h1
  · rw [(List.mem_replicate.1 h1).2]; rfl
  · exact h x (List.mem_of_mem_drop h1)
theorem suf_len {S : List (List Int)} {k : Nat} (h : k ≤ S.length) : (suf S k).length = S.length := by
  rw [suf, List.length_append, List.length_replicate, List.length_drop]; omega
theorem suf_step {S : List (List Int)} {k : Nat} {x : List Int} (h : S[k]? = some x) : (suf S (k + 1)).set k x = suf S k := by
  have hlt := getElem?_lt h
  have e : S.drop k = x :: S.drop (k + 1) := by rw [List.drop_eq_getElem_cons hlt, (List.getElem?_eq_some_iff.1 h).2]
  rw [suf, suf, e, List.replicate_succ', List.append_assoc]
  have hl : (List.replicate k z6).length = k := List.length_replicate
  conv => lhs; rw [List.set_append_right _ _ (by omega)]
  rw [hl, Nat.sub_self]; rfl
theorem rep_jc (n : Nat) : rep n [I 0, I 0, I 0, I 0, I 0, I 0] = jc (List.replicate n z6) := by
  unfold rep jc
  rw [List.map_replicate]; rfl
theorem c_l8Seen (a : AV) (xs : List (List Int)) (ha : Sli W0 [] 9 enI a xs) (hx : ∀ x ∈ xs, x.length = 9) (hb' : listB xs = true) (K : Cont) (h0 : K (.sl 0 0 0 xs.length xs.length) [⟨jc (seenR xs), 0, 59, 6, true, true⟩]) : ACall Try.prog W0 59 [a] [] K := by
  obtain ⟨hl, hall⟩ := listB_iff.1 hb'
  refine by59 (Nat.le_of_ble_eq_true rfl) ?_
  cases ha with
  | nil =>
    repeat' ((conv => whnf); first
      | (refine And.intro rfl ?_)
      | (refine And.intro (by decide +kernel) ?_)
      | (refine And.intro trivial ?_)
      | (refine Exists.intro _ (And.intro rfl (And.intro rfl (And.intro (Nat.le_of_ble_eq_true rfl) ?_))))
      | (refine Exists.intro _ (And.intro rfl (And.intro rfl (And.intro rfl (And.intro (Nat.le_of_ble_eq_true rfl) ?_)))))
      | (refine And.intro (Exists.intro _ (And.intro rfl rfl)) ?_)
      | (exact fun hW => absurd hW (by decide +kernel))
      | (intro hW; (try simp only [Bool.not_true, Bool.not_false, Bool.not_eq_true', Bool.not_eq_false', decide_eq_true_eq, decide_eq_false_iff_not, reduceCtorEq, Bool.true_eq_false, Bool.false_eq_true, mk_size, List.size_toArray, ByteArray.size_append, ByteArray.size_extract, List.length_cons, List.length_nil, ba_get, ba_empty, Int.toNat_natCast] at hW))
      | (refine And.intro (?_ : _ → _) (?_ : _ → _))
      | (refine FinR.drop 0 (Nat.zero_le _) (Closed.zero _) rfl ?_)
      | (refine FinR.keep ?_)
      | (refine And.intro (det3_agg rfl) ?_)
      | (refine fL_mk ?_)
      | (refine And.intro (by (try simp only [mk_size, List.size_toArray, ByteArray.size_append, ByteArray.size_extract, List.length_cons, List.length_nil]); omega) ?_)
      | (refine And.intro (by (try simp only [mk_size, List.size_toArray, ByteArray.size_append, ByteArray.size_extract, List.length_cons, List.length_nil, wrap64_eq]); omega) ?_)
      | fail)
    refine LoopR.unroll 1 ?_
    repeat' ((conv => whnf); first
      | (refine FinR.drop 1 (Nat.zero_le _) (closCons rfl (closNil 1)) rfl ?_)
      | (refine And.intro rfl ?_)
      | (refine And.intro (by decide +kernel) ?_)
      | (refine And.intro trivial ?_)
      | (refine Exists.intro _ (And.intro rfl (And.intro rfl (And.intro (Nat.le_of_ble_eq_true rfl) ?_))))
      | (refine Exists.intro _ (And.intro rfl (And.intro rfl (And.intro rfl (And.intro (Nat.le_of_ble_eq_true rfl) ?_)))))
      | (refine And.intro (Exists.intro _ (And.intro rfl rfl)) ?_)
      | (exact fun hW => absurd hW (by decide +kernel))
      | (intro hW; (try simp only [Bool.not_true, Bool.not_false, Bool.not_eq_true', Bool.not_eq_false', decide_eq_true_eq, decide_eq_false_iff_not, reduceCtorEq, Bool.true_eq_false, Bool.false_eq_true, mk_size, List.size_toArray, ByteArray.size_append, ByteArray.size_extract, List.length_cons, List.length_nil, ba_get, ba_empty, Int.toNat_natCast] at hW))
      | (refine And.intro (?_ : _ → _) (?_ : _ → _))
      | (refine FinR.drop 0 (Nat.zero_le _) (Closed.zero _) rfl ?_)
      | (refine FinR.keep ?_)
      | (refine And.intro (det3_agg rfl) ?_)
      | (refine fL_mk ?_)
      | (refine And.intro (by (try simp only [mk_size, List.size_toArray, ByteArray.size_append, ByteArray.size_extract, List.length_cons, List.length_nil]); omega) ?_)
      | (refine And.intro (by (try simp only [mk_size, List.size_toArray, ByteArray.size_append, ByteArray.size_extract, List.length_cons, List.length_nil, wrap64_eq]); omega) ?_)
      | fail)
    all_goals first | (exfalso; omega) | exact h0
  | inn ad n cap xs hn hc hcm hb hxx =>
    subst hn
    have hmk : (48 : Int) * (xs.length : Int) ≤ 281474976710656 := by omega
    have hmk2 : ((xs.length : Nat) : Int).toNat ≤ maxLen := by unfold maxLen; omega
    have e0 : I (IntKind.i64.wrap ((xs.length : Int) - 1)) = I ((xs.length : Int) - 1 - (0 : Nat)) := slI' (by rw [wrap_i64 _ (by omega) (by omega)]; omega)
    repeat' ((conv => whnf); first
      | (refine And.intro (Int.natCast_nonneg xs.length) (And.intro (Int.le_refl _) (And.intro hmk (And.intro (by omega) (And.intro hmk2 ?_)))))
      | (refine And.intro rfl ?_)
      | (refine And.intro (by decide +kernel) ?_)
      | (refine And.intro trivial ?_)
      | (refine Exists.intro _ (And.intro rfl (And.intro rfl (And.intro (Nat.le_of_ble_eq_true rfl) ?_))))
      | (refine Exists.intro _ (And.intro rfl (And.intro rfl (And.intro rfl (And.intro (Nat.le_of_ble_eq_true rfl) ?_)))))
      | (refine And.intro (Exists.intro _ (And.intro rfl rfl)) ?_)
      | (exact fun hW => absurd hW (by decide +kernel))
      | (intro hW; (try simp only [Bool.not_true, Bool.not_false, Bool.not_eq_true', Bool.not_eq_false', decide_eq_true_eq, decide_eq_false_iff_not, reduceCtorEq, Bool.true_eq_false, Bool.false_eq_true, mk_size, List.size_toArray, ByteArray.size_append, ByteArray.size_extract, List.length_cons, List.length_nil, ba_get, ba_empty, Int.toNat_natCast] at hW))
      | (refine And.intro (?_ : _ → _) (?_ : _ → _))
      | (refine FinR.drop 0 (Nat.zero_le _) (Closed.zero _) rfl ?_)
      | (refine FinR.keep ?_)
      | (refine And.intro (det3_agg rfl) ?_)
      | (refine fL_mk ?_)
      | (refine And.intro (by (try simp only [mk_size, List.size_toArray, ByteArray.size_append, ByteArray.size_extract, List.length_cons, List.length_nil]); omega) ?_)
      | (refine And.intro (by (try simp only [mk_size, List.size_toArray, ByteArray.size_append, ByteArray.size_extract, List.length_cons, List.length_nil, wrap64_eq]); omega) ?_)
      | fail)
    refine LoopR.live (fun j : Nat => [(0, .lit (.slice (some ad) xs.length cap)), (3, .sl 0 0 0 xs.length xs.length), (4, .ptr 1 0 0), (5, I ((xs.length : Int) - 1 - (j : Nat)))]) (fun j => [⟨jc (suf (seenR xs) (xs.length - j)), 0, 59, 6, true, true⟩, bl (latN (xs.drop (xs.length - j)))]) (fun j => j ≤ xs.length) (fun j => xs.length - j) 0 ⟨rfl, rfl, rfl, e0, trivial⟩ (.keep ?_) (Nat.zero_le _) ?_
    · have e1 : xs.length - 0 = xs.length := rfl
      rw [e1, suf, List.drop_eq_nil_of_le (by rw [seenR_len]; exact Nat.le_refl _), List.append_nil, ← rep_jc, List.drop_length]
      rfl
    intro j hj
    by_cases hlt : j < xs.length
    · have hi : xs.length - 1 - j < xs.length := by omega
      obtain ⟨c0, c1, c2, c3, c4, c5, c6, c7, c8, hxi⟩ := row9 hx hi
      have hp : pOk [c0, c1, c2, c3, c4, c5, c6, c7, c8] = true := List.all_eq_true.1 hall _ (List.mem_of_getElem? hxi)
      have hoff : ∀ z : Int, z = (xs.length : Int) - 1 - (j : Nat) → z.toNat = xs.length - 1 - j := by intro z hz; omega
      have hadd : ad.add (((xs.length : Int) - 1 - (j : Nat)).toNat * 9) = ad.add ((xs.length - 1 - j) * 9) := by rw [hoff _ rfl]
      have hld := ld9 hb hxx hxi rfl
      rw [← hadd] at hld
      have hw : IntKind.i64.wrap ((xs.length : Int) - 1 - (j : Nat) - 1) = (xs.length : Int) - 1 - ((j + 1 : Nat) : Int) := by rw [wrap_i64 _ (by omega) (by omega)]; omega
      have hsr : (seenR xs)[xs.length - 1 - j]? = some (shR (pSet [c0, c1, c2, c3, c4, c5, c6, c7, c8] &&& (fullN ^^^ latN (xs.drop (xs.length - 1 - j + 1))))) := by
        rw [seenR, List.getElem?_map, seenN_get hxi]; rfl
      have hst := suf_step hsr
      rw [show xs.length - 1 - j + 1 = xs.length - j by omega] at hst
      have hlat := latN_drop hxi
      rw [show xs.length - 1 - j + 1 = xs.length - j by omega] at hlat
      have hlen : 0 + (((xs.length : Int) - 1 - (j : Nat)).toNat) * 6 + 6 ≤ (jc (suf (seenR xs) (xs.length - j))).length := by
        rw [hoff _ rfl, jc_len (s := 6) (suf_row (seenR_row xs) _), suf_len (by rw [seenR_len]; omega), seenR_len]; omega
      have hset := jc_set (s := 6) (i := xs.length - 1 - j) (x := shR (pSet [c0, c1, c2, c3, c4, c5, c6, c7, c8] &&& (fullN ^^^ latN (xs.drop (xs.length - j))))) (suf_row (seenR_row xs) (xs.length - j)) (by rw [suf_len (by rw [seenR_len]; omega), seenR_len]; omega)
      repeat' ((conv => whnf); first
        | (refine Exists.intro _ (And.intro rfl (And.intro rfl (And.intro rfl (And.intro hlen ?_)))))
        | (refine And.intro rfl ?_)
        | (refine And.intro (by decide +kernel) ?_)
        | (refine And.intro trivial ?_)
        | (refine hld _ ?_)
        | (refine d_l8Cells (h := hp) (h0 := ?_) ..)
        | (refine Exists.intro _ (And.intro (fun τ => callW_fn (d_l8Cells (h := hp) (h0 := And.intro rfl rfl) ..)) ?_))
        | (refine Exists.intro _ (And.intro (callW_fn (d_l8Cells (h := hp) (h0 := And.intro rfl rfl) ..)) (And.intro trivial ?_)))
        | (refine Exists.intro _ (And.intro (callW_fn (d_l8Cells (h := hp) (h0 := And.intro rfl rfl) ..)) ?_))
        | (refine Exists.intro _ (And.intro (fun τ _ => callW_fn (d_l8Cells (h := hp) (h0 := And.intro rfl rfl) ..)) ?_))
        | (refine d_l2NotN (n := latN (xs.drop (xs.length - j))) (h0 := ?_) ..)
        | (refine Exists.intro _ (And.intro (fun τ => callW_fn (d_l2NotN (n := latN (xs.drop (xs.length - j))) (h0 := And.intro rfl rfl) ..)) ?_))
        | (refine Exists.intro _ (And.intro (callW_fn (d_l2NotN (n := latN (xs.drop (xs.length - j))) (h0 := And.intro rfl rfl) ..)) (And.intro trivial ?_)))
        | (refine Exists.intro _ (And.intro (callW_fn (d_l2NotN (n := latN (xs.drop (xs.length - j))) (h0 := And.intro rfl rfl) ..)) ?_))
        | (refine Exists.intro _ (And.intro (fun τ _ => callW_fn (d_l2NotN (n := latN (xs.drop (xs.length - j))) (h0 := And.intro rfl rfl) ..)) ?_))
        | (refine d_l2AndM (h0 := ?_) ..)
        | (refine Exists.intro _ (And.intro (fun τ => callW_fn (d_l2AndM (h0 := And.intro rfl rfl) ..)) ?_))
        | (refine Exists.intro _ (And.intro (callW_fn (d_l2AndM (h0 := And.intro rfl rfl) ..)) (And.intro trivial ?_)))
        | (refine Exists.intro _ (And.intro (callW_fn (d_l2AndM (h0 := And.intro rfl rfl) ..)) ?_))
        | (refine Exists.intro _ (And.intro (fun τ _ => callW_fn (d_l2AndM (h0 := And.intro rfl rfl) ..)) ?_))
        | (refine d_l2OrN (h0 := ?_) ..)
        | (refine Exists.intro _ (And.intro (fun τ => callW_fn (d_l2OrN (h0 := And.intro rfl rfl) ..)) ?_))
        | (refine Exists.intro _ (And.intro (callW_fn (d_l2OrN (h0 := And.intro rfl rfl) ..)) (And.intro trivial ?_)))
        | (refine Exists.intro _ (And.intro (callW_fn (d_l2OrN (h0 := And.intro rfl rfl) ..)) ?_))
        | (refine Exists.intro _ (And.intro (fun τ _ => callW_fn (d_l2OrN (h0 := And.intro rfl rfl) ..)) ?_))
        | (refine Exists.intro _ (And.intro rfl (And.intro rfl (And.intro (Nat.le_of_ble_eq_true rfl) ?_))))
        | (refine Exists.intro _ (And.intro rfl (And.intro rfl (And.intro rfl (And.intro (Nat.le_of_ble_eq_true rfl) ?_)))))
        | (refine And.intro (Exists.intro _ (And.intro rfl rfl)) ?_)
        | (exact fun hW => absurd hW (by decide +kernel))
        | (intro hW; (try simp only [Bool.not_true, Bool.not_false, Bool.not_eq_true', Bool.not_eq_false', decide_eq_true_eq, decide_eq_false_iff_not, reduceCtorEq, Bool.true_eq_false, Bool.false_eq_true, mk_size, List.size_toArray, ByteArray.size_append, ByteArray.size_extract, List.length_cons, List.length_nil, ba_get, ba_empty, Int.toNat_natCast] at hW))
        | (refine And.intro (?_ : _ → _) (?_ : _ → _))
        | (refine FinR.drop 0 (Nat.zero_le _) (Closed.zero _) rfl ?_)
        | (refine FinR.keep ?_)
        | (refine And.intro (det3_agg rfl) ?_)
        | (refine fL_mk ?_)
        | (refine And.intro (by (try simp only [mk_size, List.size_toArray, ByteArray.size_append, ByteArray.size_extract, List.length_cons, List.length_nil]); omega) ?_)
        | (refine And.intro (by (try simp only [mk_size, List.size_toArray, ByteArray.size_append, ByteArray.size_extract, List.length_cons, List.length_nil, wrap64_eq]); omega) ?_)
        | fail)
      all_goals first | (exfalso; omega) | (exfalso; simp_all; done) | skip
      refine Again.go (j + 1) ⟨rfl, rfl, rfl, slI' hw, trivial⟩ (.drop 2 (Nat.zero_le _) ?_ (closCons (belJ 2 _) (closCons (belI 2 (shR _)) (closNil 2))) rfl) (by omega) (by omega)
      dsimp only
      rw [show xs.length - (j + 1) = xs.length - 1 - j by omega, hlat, Nat.or_comm, ← hst, ← hset]
      simp only [hoff _ rfl, Nat.zero_add]
      rfl
    · obtain rfl : j = xs.length := by omega
      rw [Nat.sub_self, show suf (seenR xs) 0 = seenR xs from rfl]
      repeat' ((conv => whnf); first
        | (refine FinR.drop 1 (Nat.zero_le _) (closCons (belJ 1 _) (closNil 1)) rfl ?_)
        | (refine And.intro rfl ?_)
        | (refine And.intro (by decide +kernel) ?_)
        | (refine And.intro trivial ?_)
        | (refine Exists.intro _ (And.intro rfl (And.intro rfl (And.intro (Nat.le_of_ble_eq_true rfl) ?_))))
        | (refine Exists.intro _ (And.intro rfl (And.intro rfl (And.intro rfl (And.intro (Nat.le_of_ble_eq_true rfl) ?_)))))
        | (refine And.intro (Exists.intro _ (And.intro rfl rfl)) ?_)
        | (exact fun hW => absurd hW (by decide +kernel))
        | (intro hW; (try simp only [Bool.not_true, Bool.not_false, Bool.not_eq_true', Bool.not_eq_false', decide_eq_true_eq, decide_eq_false_iff_not, reduceCtorEq, Bool.true_eq_false, Bool.false_eq_true, mk_size, List.size_toArray, ByteArray.size_append, ByteArray.size_extract, List.length_cons, List.length_nil, ba_get, ba_empty, Int.toNat_natCast] at hW))
        | (refine And.intro (?_ : _ → _) (?_ : _ → _))
        | (refine FinR.drop 0 (Nat.zero_le _) (Closed.zero _) rfl ?_)
        | (refine FinR.keep ?_)
        | (refine And.intro (det3_agg rfl) ?_)
        | (refine fL_mk ?_)
        | (refine And.intro (by (try simp only [mk_size, List.size_toArray, ByteArray.size_append, ByteArray.size_extract, List.length_cons, List.length_nil]); omega) ?_)
        | (refine And.intro (by (try simp only [mk_size, List.size_toArray, ByteArray.size_append, ByteArray.size_extract, List.length_cons, List.length_nil, wrap64_eq]); omega) ?_)
        | fail)
      all_goals first | (exfalso; omega) | exact h0
  | own b ver off n cap B xs hB => simp at hB
end Go.Proofs.Ythncpkdhcfaflaa
end

section
/- Contracts: hidden and whole prints of the reference. -/
set_option linter.unusedVariables false
set_option linter.unusedSimpArgs false
set_option maxRecDepth 100000
set_option maxHeartbeats 4000000
namespace Go.Proofs.Ythncpkdhcfaflaa
open Go Go.RowKit Go.Proofs.Ythncpkdhcfaflaa.Abs
variable {W0 : World} {σ : List Blk}
theorem d_l8Seen (a : AV) (xs : List (List Int)) (ha : Sli W0 σ 9 enI a xs) (hx : ∀ x ∈ xs, x.length = 9) (hb : listB xs = true) (K : Cont) (h0 : K (.sl σ.length 0 0 xs.length xs.length) (σ ++ [⟨jc (seenR xs), 0, 59, 6, true, true⟩])) : ACall Try.prog W0 59 [a] σ K :=
  lift_S1 (ι := Unit) (fun _ => .sl 0 0 0 xs.length xs.length) (fun _ => [⟨jc (seenR xs), 0, 59, 6, true, true⟩]) (by kernel_rfl) ha
    (fun W1 a' h K hK => c_l8Seen a' xs h hx hb K (hK ())) K (fun _ => by
      rw [show shB σ.length [(⟨jc (seenR xs), 0, 59, 6, true, true⟩ : Blk)] = [⟨jc (seenR xs), 0, 59, 6, true, true⟩] by simp [shB, jc_sh]]; exact h0)
theorem ones_pos : ∀ (k x : Nat), x < 2 ^ k → ones k x = 0 → x = 0
  | 0, x, h, _ => by omega
  | k + 1, x, h, e => by
    have e' : x % 2 + ones k (x / 2) = 0 := e
    have := ones_pos k (x / 2) (by rw [Nat.pow_succ] at h; omega) (by omega)
    omega
theorem ones_dec (n : Nat) (h : n < 2 ^ 36) : decide (((ones 64 n : Nat) : Int) = 0) = decide (n = 0) := by
  refine decide_eq_decide.2 ⟨fun e => ones_pos 64 n (by omega) (by omega), fun e => ?_⟩
  subst e; rw [ones_zero]; rfl
theorem jc_row {rows : List (List Int)} {s i off : Nat} {x : List Int} (hr : ∀ r ∈ rows, r.length = s) (h : rows[i]? = some x) (ho : off = i * s) : mkAV true (((jc rows).drop off).take s) = .agg (x.map I) := by
  subst ho
  have hi := getElem?_lt h
  have e : rows = rows.take i ++ x :: rows.drop (i + 1) := by
    have := List.drop_eq_getElem_cons hi
    rw [(List.getElem?_eq_some_iff.1 h).2] at this
    rw [← this, List.take_append_drop]
  have hl : (jc (rows.take i)).length = i * s := by rw [jc_len (s := s) fun r h => hr r (List.mem_of_mem_take h), List.length_take, Nat.min_eq_left (by omega)]
  have hl2 : (x.map I).length = s := by rw [List.length_map]; exact hr _ (List.mem_of_getElem? h)
  have e1 : jc rows = jc (rows.take i) ++ (x.map I ++ jc (rows.drop (i + 1))) := (congrArg jc e).trans (jc_append _ _)
  rw [e1, List.drop_left' hl, List.take_left' hl2]; rfl
theorem seen_lt {xs : List (List Int)} {i : Nat} {x : List Int} (h9 : x.length = 9) (hp : pOk x = true) (m : Nat) : pSet x &&& m < 2 ^ 36 := Nat.lt_of_le_of_lt Nat.and_le_left (pSet_lt h9 hp)
theorem sh_out (k : Nat) (l : List Int) : shB k [outB l] = [outB l] := by simp only [shB, List.map_cons, List.map_nil, outB, sh_I]
theorem c_sHidT (a : AV) (xs : List (List Int)) (ha : Sli W0 [] 9 enI a xs) (hx : ∀ x ∈ xs, x.length = 9) (hb' : listB xs = true) (K : Cont)
    (h0 : ∀ cap, K (.tup [.sl 0 (selN (thatQ hidP xs) xs.length).length 0 (selN (thatQ hidP xs) xs.length).length cap, Bo true]) [outB (selN (thatQ hidP xs) xs.length)]) : ACall Try.prog W0 27 [a] [] K := by
  obtain ⟨hl, hall⟩ := listB_iff.1 hb'
  refine by27 (Nat.le_of_ble_eq_true rfl) ?_
  have ha0 := ha
  cases ha with
  | nil =>
    have h0 := h0 0
    repeat' ((conv => whnf); first
      | (refine And.intro rfl ?_)
      | (refine And.intro (by decide +kernel) ?_)
      | (refine And.intro trivial ?_)
      | (refine d_l8List (ha := sli_up ha0) (hx := hx) (hl := by omega) (h0 := ?_) ..; rw [hb'])
      | (refine d_l8Seen (ha := sli_up ha0) (hx := hx) (hb := hb') (h0 := ?_) ..)
      | (refine Exists.intro _ (And.intro rfl (And.intro rfl (And.intro (Nat.le_of_ble_eq_true rfl) ?_))))
      | (refine Exists.intro _ (And.intro rfl (And.intro rfl (And.intro rfl (And.intro (Nat.le_of_ble_eq_true rfl) ?_)))))
      | (refine And.intro (Exists.intro _ (And.intro rfl rfl)) ?_)
      | (exact fun hW => absurd hW (by decide +kernel))
      | (intro hW; (try simp only [Bool.not_true, Bool.not_false, Bool.not_eq_true', Bool.not_eq_false', decide_eq_true_eq, decide_eq_false_iff_not, reduceCtorEq, Bool.true_eq_false, Bool.false_eq_true, mk_size, List.size_toArray, ByteArray.size_append, ByteArray.size_extract, List.length_cons, List.length_nil, ba_get, ba_empty, Int.toNat_natCast] at hW))
      | (refine And.intro (?_ : _ → _) (?_ : _ → _))
      | (refine FinR.drop 0 (Nat.zero_le _) (Closed.zero _) rfl ?_)
      | (refine FinR.keep ?_)
      | (refine And.intro (det3_agg rfl) ?_)
      | (refine fL_mk ?_)
      | (refine And.intro (by (try simp only [mk_size, List.size_toArray, ByteArray.size_append, ByteArray.size_extract, List.length_cons, List.length_nil]); omega) ?_)
      | (refine And.intro (by (try simp only [mk_size, List.size_toArray, ByteArray.size_append, ByteArray.size_extract, List.length_cons, List.length_nil, wrap64_eq]); omega) ?_)
      | fail)
    all_goals first | (exfalso; omega) | (exfalso; simp_all; done) | skip
    refine LoopR.unroll 1 ?_
    repeat' ((conv => whnf); first
      | (refine FinR.drop 1 (Nat.zero_le _) (closCons rfl (closNil 1)) rfl ?_)
      | (refine And.intro rfl ?_)
      | (refine And.intro (by decide +kernel) ?_)
      | (refine And.intro trivial ?_)
      | (refine Exists.intro _ (And.intro rfl (And.intro rfl (And.intro (Nat.le_of_ble_eq_true rfl) ?_))))
      | (refine Exists.intro _ (And.intro rfl (And.intro rfl (And.intro rfl (And.intro (Nat.le_of_ble_eq_true rfl) ?_)))))
      | (refine And.intro (Exists.intro _ (And.intro rfl rfl)) ?_)
      | (exact fun hW => absurd hW (by decide +kernel))
      | (intro hW; (try simp only [Bool.not_true, Bool.not_false, Bool.not_eq_true', Bool.not_eq_false', decide_eq_true_eq, decide_eq_false_iff_not, reduceCtorEq, Bool.true_eq_false, Bool.false_eq_true, mk_size, List.size_toArray, ByteArray.size_append, ByteArray.size_extract, List.length_cons, List.length_nil, ba_get, ba_empty, Int.toNat_natCast] at hW))
      | (refine And.intro (?_ : _ → _) (?_ : _ → _))
      | (refine FinR.drop 0 (Nat.zero_le _) (Closed.zero _) rfl ?_)
      | (refine FinR.keep ?_)
      | (refine And.intro (det3_agg rfl) ?_)
      | (refine fL_mk ?_)
      | (refine And.intro (by (try simp only [mk_size, List.size_toArray, ByteArray.size_append, ByteArray.size_extract, List.length_cons, List.length_nil]); omega) ?_)
      | (refine And.intro (by (try simp only [mk_size, List.size_toArray, ByteArray.size_append, ByteArray.size_extract, List.length_cons, List.length_nil, wrap64_eq]); omega) ?_)
      | fail)
    all_goals first | (exfalso; omega) | exact h0
  | inn ad n cap xs hn hc hcm hb hxx =>
    subst hn
    repeat' ((conv => whnf); first
      | (refine And.intro rfl ?_)
      | (refine And.intro (by decide +kernel) ?_)
      | (refine And.intro trivial ?_)
      | (refine d_l8List (ha := sli_up ha0) (hx := hx) (hl := by omega) (h0 := ?_) ..; rw [hb'])
      | (refine d_l8Seen (ha := sli_up ha0) (hx := hx) (hb := hb') (h0 := ?_) ..)
      | (refine Exists.intro _ (And.intro rfl (And.intro rfl (And.intro (Nat.le_of_ble_eq_true rfl) ?_))))
      | (refine Exists.intro _ (And.intro rfl (And.intro rfl (And.intro rfl (And.intro (Nat.le_of_ble_eq_true rfl) ?_)))))
      | (refine And.intro (Exists.intro _ (And.intro rfl rfl)) ?_)
      | (exact fun hW => absurd hW (by decide +kernel))
      | (intro hW; (try simp only [Bool.not_true, Bool.not_false, Bool.not_eq_true', Bool.not_eq_false', decide_eq_true_eq, decide_eq_false_iff_not, reduceCtorEq, Bool.true_eq_false, Bool.false_eq_true, mk_size, List.size_toArray, ByteArray.size_append, ByteArray.size_extract, List.length_cons, List.length_nil, ba_get, ba_empty, Int.toNat_natCast] at hW))
      | (refine And.intro (?_ : _ → _) (?_ : _ → _))
      | (refine FinR.drop 0 (Nat.zero_le _) (Closed.zero _) rfl ?_)
      | (refine FinR.keep ?_)
      | (refine And.intro (det3_agg rfl) ?_)
      | (refine fL_mk ?_)
      | (refine And.intro (by (try simp only [mk_size, List.size_toArray, ByteArray.size_append, ByteArray.size_extract, List.length_cons, List.length_nil]); omega) ?_)
      | (refine And.intro (by (try simp only [mk_size, List.size_toArray, ByteArray.size_append, ByteArray.size_extract, List.length_cons, List.length_nil, wrap64_eq]); omega) ?_)
      | fail)
    all_goals first | (exfalso; omega) | (exfalso; simp_all; done) | skip
    refine LoopR.live (fun y : Nat × Nat => [(0, .lit (.slice (some ad) xs.length cap)), (4, .sl 0 (selN (thatQ hidP xs) y.1).length 0 (selN (thatQ hidP xs) y.1).length y.2), (5, .sl 1 0 0 xs.length xs.length), (6, I y.1)]) (fun y => [outB (selN (thatQ hidP xs) y.1), ⟨jc (seenR xs), 0, 59, 6, true, true⟩]) (fun y => y.1 ≤ xs.length) (fun y => xs.length - y.1) (0, 0) ⟨rfl, rfl, rfl, rfl, trivial⟩ (.keep rfl) (Nat.zero_le _) ?_
    rintro ⟨i, cp⟩ hi
    dsimp only at hi
    have hsl := selN_len (thatQ hidP xs) i
    by_cases hlt : i < xs.length
    · obtain ⟨c0, c1, c2, c3, c4, c5, c6, c7, c8, hxi⟩ := row9 hx hlt
      have hp : pOk [c0, c1, c2, c3, c4, c5, c6, c7, c8] = true := List.all_eq_true.1 hall _ (List.mem_of_getElem? hxi)
      have hld := ld9 hb hxx hxi rfl
      have hlat := latN_lt (fun y hy => hx y (List.mem_of_mem_drop hy)) (all_drop hall (i + 1))
      have hsr : (seenR xs)[i]? = some (shR (pSet [c0, c1, c2, c3, c4, c5, c6, c7, c8] &&& (fullN ^^^ latN (xs.drop (i + 1))))) := by
        rw [seenR, List.getElem?_map, seenN_get hxi]; rfl
      have hrow := fun (off : Nat) (ho : off = i * 6) => jc_row (seenR_row xs) hsr ho
      have hlen : 0 + ((i : Nat) : Int).toNat * 6 + 6 ≤ (jc (seenR xs)).length := by rw [jc_len (s := 6) (seenR_row xs), seenR_len, Int.toNat_natCast]; omega
      have hs := pSet_lt rfl hp
      have hso := seen_lt (xs := xs) (i := i) rfl hp (fullN ^^^ latN (xs.drop (i + 1)))
      have hdec := (ones_dec _ hso).trans (thatQ_at (p := hidP) hxi).symm
      have hq := selN_succ (thatQ hidP xs) i
      repeat' ((conv => whnf); first
        | (refine Exists.intro _ (And.intro rfl (And.intro rfl (And.intro hlen ?_))); rw [hrow _ (by rw [Int.toNat_natCast]; omega)])
        | (refine And.intro rfl ?_)
        | (refine And.intro (by decide +kernel) ?_)
        | (refine And.intro trivial ?_)
        | (refine hld _ ?_)
        | (refine d_l2CountM (hn := hso) (h0 := ?_) ..)
        | (refine Exists.intro _ (And.intro (fun τ => callW_fn (d_l2CountM (hn := hso) (h0 := And.intro rfl rfl) ..)) ?_))
        | (refine Exists.intro _ (And.intro (callW_fn (d_l2CountM (hn := hso) (h0 := And.intro rfl rfl) ..)) (And.intro trivial ?_)))
        | (refine Exists.intro _ (And.intro (callW_fn (d_l2CountM (hn := hso) (h0 := And.intro rfl rfl) ..)) ?_))
        | (refine Exists.intro _ (And.intro (fun τ _ => callW_fn (d_l2CountM (hn := hso) (h0 := And.intro rfl rfl) ..)) ?_))
        | (refine Exists.intro _ (And.intro rfl (And.intro rfl (And.intro rfl (And.intro rfl (And.intro rfl (And.intro rfl (And.intro (by decide) (And.intro (by simp [List.length_map]) (And.intro rfl (And.intro (by (try dsimp only); unfold maxLen; omega) (And.intro (by (try dsimp only); omega) (fun cap' hcap1 hcap2 => ?_)))))))))))))
        | (refine Exists.intro _ (And.intro rfl (And.intro rfl (And.intro (Nat.le_of_ble_eq_true rfl) ?_))))
        | (refine Exists.intro _ (And.intro rfl (And.intro rfl (And.intro rfl (And.intro (Nat.le_of_ble_eq_true rfl) ?_)))))
        | (refine And.intro (Exists.intro _ (And.intro rfl rfl)) ?_)
        | (exact fun hW => absurd hW (by decide +kernel))
        | (intro hW; (try simp only [Bool.not_true, Bool.not_false, Bool.not_eq_true', Bool.not_eq_false', decide_eq_true_eq, decide_eq_false_iff_not, reduceCtorEq, Bool.true_eq_false, Bool.false_eq_true, mk_size, List.size_toArray, ByteArray.size_append, ByteArray.size_extract, List.length_cons, List.length_nil, ba_get, ba_empty, Int.toNat_natCast] at hW))
        | (refine And.intro (?_ : _ → _) (?_ : _ → _))
        | (refine FinR.drop 0 (Nat.zero_le _) (Closed.zero _) rfl ?_)
        | (refine FinR.keep ?_)
        | (refine And.intro (det3_agg rfl) ?_)
        | (refine fL_mk ?_)
        | (refine And.intro (by (try simp only [mk_size, List.size_toArray, ByteArray.size_append, ByteArray.size_extract, List.length_cons, List.length_nil]); omega) ?_)
        | (refine And.intro (by (try simp only [mk_size, List.size_toArray, ByteArray.size_append, ByteArray.size_extract, List.length_cons, List.length_nil, wrap64_eq]); omega) ?_)
        | fail)
      all_goals first | (exfalso; omega) | (exfalso; simp_all; done) | skip
      · have hW := decide_eq_true hW
        rw [hdec] at hW
        rw [hW, if_pos rfl] at hq
        refine Again.go (i + 1, _) ⟨rfl, (by show AV.sl _ _ _ _ _ = AV.sl _ _ _ _ _; rw [hq, List.length_append]; rfl), rfl, slI' (wsucc' i (by omega)), trivial⟩ (.keep ?_) (by dsimp only; omega) (by dsimp only; omega)
        dsimp only [outB]
        rw [hq, List.length_append, List.map_append]; rfl
      · have hW := decide_eq_false hW
        rw [hdec] at hW
        rw [hW, if_neg (by decide), List.append_nil] at hq
        refine Again.go (i + 1, cp) ⟨rfl, (by show AV.sl _ _ _ _ _ = AV.sl _ _ _ _ _; rw [hq]), rfl, slI' (wsucc' i (by omega)), trivial⟩ (.keep ?_) (by dsimp only; omega) (by dsimp only; omega)
        dsimp only [outB]
        rw [hq]
    · obtain rfl : i = xs.length := by omega
      have h0 := h0 cp
      repeat' ((conv => whnf); first
        | (refine FinR.drop 1 (Nat.zero_le _) (closCons (belI 1 _) (closNil 1)) rfl ?_)
        | (refine And.intro rfl ?_)
        | (refine And.intro (by decide +kernel) ?_)
        | (refine And.intro trivial ?_)
        | (refine Exists.intro _ (And.intro rfl (And.intro rfl (And.intro (Nat.le_of_ble_eq_true rfl) ?_))))
        | (refine Exists.intro _ (And.intro rfl (And.intro rfl (And.intro rfl (And.intro (Nat.le_of_ble_eq_true rfl) ?_)))))
        | (refine And.intro (Exists.intro _ (And.intro rfl rfl)) ?_)
        | (exact fun hW => absurd hW (by decide +kernel))
        | (intro hW; (try simp only [Bool.not_true, Bool.not_false, Bool.not_eq_true', Bool.not_eq_false', decide_eq_true_eq, decide_eq_false_iff_not, reduceCtorEq, Bool.true_eq_false, Bool.false_eq_true, mk_size, List.size_toArray, ByteArray.size_append, ByteArray.size_extract, List.length_cons, List.length_nil, ba_get, ba_empty, Int.toNat_natCast] at hW))
        | (refine And.intro (?_ : _ → _) (?_ : _ → _))
        | (refine FinR.drop 0 (Nat.zero_le _) (Closed.zero _) rfl ?_)
        | (refine FinR.keep ?_)
        | (refine And.intro (det3_agg rfl) ?_)
        | (refine fL_mk ?_)
        | (refine And.intro (by (try simp only [mk_size, List.size_toArray, ByteArray.size_append, ByteArray.size_extract, List.length_cons, List.length_nil]); omega) ?_)
        | (refine And.intro (by (try simp only [mk_size, List.size_toArray, ByteArray.size_append, ByteArray.size_extract, List.length_cons, List.length_nil, wrap64_eq]); omega) ?_)
        | fail)
      all_goals first | (exfalso; omega) | exact h0
  | own b ver off n cap B xs hB => simp at hB
theorem c_sHidF (a : AV) (xs : List (List Int)) (ha : Sli W0 [] 9 enI a xs) (hx : ∀ x ∈ xs, x.length = 9) (hl : xs.length ≤ 1048576) (hb : listB xs = false) (K : Cont) (h0 : K (.tup [.sl 0 0 0 0 0, Bo false]) [outB []]) : ACall Try.prog W0 27 [a] [] K := by
  obtain ⟨va, rfl⟩ := sli_lit ha
  refine by27 (Nat.le_of_ble_eq_true rfl) ?_
  repeat' ((conv => whnf); first
    | (refine And.intro rfl ?_)
    | (refine And.intro (by decide +kernel) ?_)
    | (refine And.intro trivial ?_)
    | (refine d_l8List (ha := sli_up ha) (hx := hx) (hl := hl) (h0 := ?_) ..; rw [hb])
    | (refine Exists.intro _ (And.intro rfl (And.intro rfl (And.intro (Nat.le_of_ble_eq_true rfl) ?_))))
    | (refine Exists.intro _ (And.intro rfl (And.intro rfl (And.intro rfl (And.intro (Nat.le_of_ble_eq_true rfl) ?_)))))
    | (refine And.intro (Exists.intro _ (And.intro rfl rfl)) ?_)
    | (exact fun hW => absurd hW (by decide +kernel))
    | (intro hW; (try simp only [Bool.not_true, Bool.not_false, Bool.not_eq_true', Bool.not_eq_false', decide_eq_true_eq, decide_eq_false_iff_not, reduceCtorEq, Bool.true_eq_false, Bool.false_eq_true, mk_size, List.size_toArray, ByteArray.size_append, ByteArray.size_extract, List.length_cons, List.length_nil, ba_get, ba_empty, Int.toNat_natCast] at hW))
    | (refine And.intro (?_ : _ → _) (?_ : _ → _))
    | (refine FinR.drop 0 (Nat.zero_le _) (Closed.zero _) rfl ?_)
    | (refine FinR.keep ?_)
    | (refine And.intro (det3_agg rfl) ?_)
    | (refine fL_mk ?_)
    | (refine And.intro (by (try simp only [mk_size, List.size_toArray, ByteArray.size_append, ByteArray.size_extract, List.length_cons, List.length_nil]); omega) ?_)
    | (refine And.intro (by (try simp only [mk_size, List.size_toArray, ByteArray.size_append, ByteArray.size_extract, List.length_cons, List.length_nil, wrap64_eq]); omega) ?_)
    | fail)
  all_goals first | (exfalso; omega) | (exfalso; simp_all; done) | exact h0
theorem d_sHidF (a : AV) (xs : List (List Int)) (ha : Sli W0 σ 9 enI a xs) (hx : ∀ x ∈ xs, x.length = 9) (hl : xs.length ≤ 1048576) (hb : listB xs = false) (K : Cont) (h0 : K (.tup [.sl (σ.length + 0) 0 0 0 0, Bo false]) (σ ++ [outB []])) : ACall Try.prog W0 27 [a] σ K :=
  lift_S1 (ι := Unit) (fun _ => .tup [.sl 0 0 0 0 0, Bo false]) (fun _ => [outB []]) (by kernel_rfl) ha (fun W1 a' h K hK => c_sHidF a' xs h hx hl hb K (hK ())) K (fun _ => h0)
theorem d_sHidT (a : AV) (xs : List (List Int)) (ha : Sli W0 σ 9 enI a xs) (hx : ∀ x ∈ xs, x.length = 9) (hb : listB xs = true) (K : Cont)
    (h0 : ∀ cap, K (.tup [.sl (σ.length + 0) (selN (thatQ hidP xs) xs.length).length 0 (selN (thatQ hidP xs) xs.length).length cap, Bo true]) (σ ++ [outB (selN (thatQ hidP xs) xs.length)])) : ACall Try.prog W0 27 [a] σ K :=
  lift_S1 (ι := Nat) (fun cap => .tup [.sl 0 (selN (thatQ hidP xs) xs.length).length 0 (selN (thatQ hidP xs) xs.length).length cap, Bo true]) (fun _ => [outB (selN (thatQ hidP xs) xs.length)]) (by kernel_rfl) ha
    (fun W1 a' h K hK => c_sHidT a' xs h hx hb K hK) K (fun cap => by rw [sh_out]; exact h0 cap)
end Go.Proofs.Ythncpkdhcfaflaa
end

section
/- Contracts: the laws of hidden and whole prints. -/
set_option linter.unusedVariables false
set_option linter.unusedSimpArgs false
set_option maxRecDepth 100000
set_option maxHeartbeats 4000000
namespace Go.Proofs.Ythncpkdhcfaflaa
open Go Go.RowKit Go.Proofs.Ythncpkdhcfaflaa.Abs
variable {W0 : World} {σ : List Blk}
theorem sli_marks2 {b ver n cap : Nat} {B : Blk} {k : Int} (hB : σ[b]? = some (mB B k n)) (hv : B.ver = ver) : Sli W0 σ 1 en1 (.sl b ver 0 n cap) (marks k n) := by
  have h := sli_marks (W0 := W0) (σ := σ) (n := n) (cap := cap) (B := mB B k n) (k := k) hB hv
  refine .own b ver 0 _ cap _ _ hB hv (marks_len k n).symm fun i x hi j v hj => ?_
  have hlt : i < n := by have := getElem?_lt hi; rwa [marks_len] at this
  cases j with
  | zero =>
    simp only [List.getElem?_cons_zero, Option.some.injEq] at hj
    subst hj
    show ((marks k n).map I ++ B.cells.drop n)[0 + i * 1 + 0]? = _
    rw [show 0 + i * 1 + 0 = i by omega, List.getElem?_append_left (by rw [List.length_map, marks_len]; exact hlt), List.getElem?_map, hi]; rfl
  | succ j => simp at hj
abbrev prB (xs : List (List Int)) : Blk := ⟨jc xs, 0, 83, 9, true, true⟩
theorem jc_len9 {xs : List (List Int)} (hx : ∀ x ∈ xs, x.length = 9) : xs.length * 9 ≤ (prB xs).cells.length := by rw [jc_len (s := 9) hx]; exact Nat.le_refl _
theorem c_law_HiddenPrintsT (v : Value) (xs : List (List Int)) (ha : Sli W0 [] 9 enI (.lit v) xs) (hx : ∀ x ∈ xs, x.length = 9) (hb : listB xs = true) (K : Cont) (h0 : K (Bo true) []) : ACall Try.prog W0 5 [.lit v] [] K := by
  refine by5 (Nat.le_of_ble_eq_true rfl) ?_
  obtain ⟨hl, hall⟩ := listB_iff.1 hb
  have hz : ¬ ((1048576 : Int) - (xs.length : Nat) < 0) := by omega
  have hsl := selN_len (thatQ hidP xs) xs.length
  have h9 := jc_len9 hx
  repeat' ((conv => whnf); first
    | (refine And.intro rfl ?_)
    | (refine And.intro (by decide +kernel) ?_)
    | (refine And.intro trivial ?_)
    | (refine d_szPrintS (ha := sli_up ha) (hl := by omega) (hm := by decide) (h0 := ?_) .. <;> try rw [if_neg hz])
    | (refine d_toPrintS (hs := sli_up ha) (hx := hx) (hl := by omega) (h0 := ?_) ..)
    | (refine d_sHidT (ha := sli_rows hx rfl) (hx := hx) (hb := hb) (h0 := fun cap => ?_) ..)
    | (refine d_HidT (ha := sli_rows hx rfl) (hx := hx) (hb := hb) (h0 := fun cap => ?_) ..)
    | (refine d_eqIntS (ha := sli_ints rfl) (hb' := sli_ints rfl) (hl := by omega) (h0 := ?_) ..)
    | (refine d_eqPrintS (ha := sli_rows hx rfl) (hb' := sli_rows hx rfl) (hx := hx) (hl := by omega) (h0 := ?_) ..)
    | (refine d_markPrintS (B := prB xs) (hB := rfl) (hv := rfl) (hn := h9) (hn2 := by omega) (hk := by omega) (h0 := ?_) ..)
    | (refine d_markIntS (B := outB (selN (thatQ hidP xs) xs.length)) (hB := rfl) (hv := rfl) (hn := by rw [List.length_map]; exact Nat.le_refl _) (hn2 := by omega) (hk := by omega) (h0 := ?_) ..)
    | (refine d_heldIntS (ha := sli_marks2 (B := outB (selN (thatQ hidP xs) xs.length)) rfl rfl) (hn2 := by omega) (hk := by omega) (h0 := ?_) ..)
    | (refine Exists.intro _ (And.intro rfl (And.intro rfl (And.intro (Nat.le_of_ble_eq_true rfl) ?_))))
    | (refine Exists.intro _ (And.intro rfl (And.intro rfl (And.intro rfl (And.intro (Nat.le_of_ble_eq_true rfl) ?_)))))
    | (refine And.intro (Exists.intro _ (And.intro rfl rfl)) ?_)
    | (exact fun hW => absurd hW (by decide +kernel))
    | (intro hW; (try simp only [Bool.not_true, Bool.not_false, Bool.not_eq_true', Bool.not_eq_false', decide_eq_true_eq, decide_eq_false_iff_not, reduceCtorEq, Bool.true_eq_false, Bool.false_eq_true, mk_size, List.size_toArray, ByteArray.size_append, ByteArray.size_extract, List.length_cons, List.length_nil, ba_get, ba_empty, Int.toNat_natCast] at hW))
    | (refine And.intro (?_ : _ → _) (?_ : _ → _))
    | (refine FinR.drop 0 (Nat.zero_le _) (Closed.zero _) rfl ?_)
    | (refine FinR.keep ?_)
    | (refine And.intro (det3_agg rfl) ?_)
    | (refine fL_mk ?_)
    | (refine And.intro (by (try simp only [mk_size, List.size_toArray, ByteArray.size_append, ByteArray.size_extract, List.length_cons, List.length_nil]); omega) ?_)
    | (refine And.intro (by (try simp only [mk_size, List.size_toArray, ByteArray.size_append, ByteArray.size_extract, List.length_cons, List.length_nil, wrap64_eq]); omega) ?_)
    | fail)
  all_goals first | exact h0 | (exfalso; omega) | (exfalso; simp_all; done) | skip
theorem c_law_HiddenPrintsF (v : Value) (xs : List (List Int)) (ha : Sli W0 [] 9 enI (.lit v) xs) (hx : ∀ x ∈ xs, x.length = 9) (hl : xs.length ≤ 1048576) (hb : listB xs = false) (K : Cont) (h0 : K (Bo true) []) : ACall Try.prog W0 5 [.lit v] [] K := by
  refine by5 (Nat.le_of_ble_eq_true rfl) ?_
  have hz : ¬ ((1048576 : Int) - (xs.length : Nat) < 0) := by omega
  have h9 := jc_len9 hx
  repeat' ((conv => whnf); first
    | (refine And.intro rfl ?_)
    | (refine And.intro (by decide +kernel) ?_)
    | (refine And.intro trivial ?_)
    | (refine d_szPrintS (ha := sli_up ha) (hl := by omega) (hm := by decide) (h0 := ?_) .. <;> try rw [if_neg hz])
    | (refine d_toPrintS (hs := sli_up ha) (hx := hx) (hl := by omega) (h0 := ?_) ..)
    | (refine d_sHidF (ha := sli_rows hx rfl) (hx := hx) (hl := hl) (hb := hb) (h0 := ?_) ..)
    | (refine d_HidF (ha := sli_rows hx rfl) (hx := hx) (hl := hl) (hb := hb) (h0 := ?_) ..)
    | (refine d_eqIntS (xs := []) (ha := .nil) (hb' := sli_ints rfl) (hl := by decide) (h0 := ?_) ..)
    | (refine d_eqPrintS (ha := sli_rows hx rfl) (hb' := sli_rows hx rfl) (hx := hx) (hl := by omega) (h0 := ?_) ..)
    | (refine d_markPrintS (B := prB xs) (hB := rfl) (hv := rfl) (hn := h9) (hn2 := by omega) (hk := by omega) (h0 := ?_) ..)
    | (refine d_markIntS0 (h0 := ?_) ..)
    | (refine d_heldIntS (n := 0) (ha := .nil) (hn2 := by omega) (hk := by omega) (h0 := ?_) ..)
    | (refine Exists.intro _ (And.intro rfl (And.intro rfl (And.intro (Nat.le_of_ble_eq_true rfl) ?_))))
    | (refine Exists.intro _ (And.intro rfl (And.intro rfl (And.intro rfl (And.intro (Nat.le_of_ble_eq_true rfl) ?_)))))
    | (refine And.intro (Exists.intro _ (And.intro rfl rfl)) ?_)
    | (exact fun hW => absurd hW (by decide +kernel))
    | (intro hW; (try simp only [Bool.not_true, Bool.not_false, Bool.not_eq_true', Bool.not_eq_false', decide_eq_true_eq, decide_eq_false_iff_not, reduceCtorEq, Bool.true_eq_false, Bool.false_eq_true, mk_size, List.size_toArray, ByteArray.size_append, ByteArray.size_extract, List.length_cons, List.length_nil, ba_get, ba_empty, Int.toNat_natCast] at hW))
    | (refine And.intro (?_ : _ → _) (?_ : _ → _))
    | (refine FinR.drop 0 (Nat.zero_le _) (Closed.zero _) rfl ?_)
    | (refine FinR.keep ?_)
    | (refine And.intro (det3_agg rfl) ?_)
    | (refine fL_mk ?_)
    | (refine And.intro (by (try simp only [mk_size, List.size_toArray, ByteArray.size_append, ByteArray.size_extract, List.length_cons, List.length_nil]); omega) ?_)
    | (refine And.intro (by (try simp only [mk_size, List.size_toArray, ByteArray.size_append, ByteArray.size_extract, List.length_cons, List.length_nil, wrap64_eq]); omega) ?_)
    | fail)
  all_goals first | exact h0 | (exfalso; omega) | (exfalso; simp_all; done) | skip
theorem c_law_HiddenPrints (v : Value) (xs : List (List Int)) (ha : Sli W0 [] 9 enI (.lit v) xs) (hxx : ∀ x ∈ xs, x.length = 9 ∧ ∀ n ∈ x, IntKind.i64.has n) (hm : xs.length ≤ maxLen) (K : Cont) (h0 : K (Bo true) []) : ACall Try.prog W0 5 [.lit v] [] K := by
  have hm' : xs.length ≤ 9223372036854775807 := hm
  have hx : ∀ x ∈ xs, x.length = 9 := fun x h => (hxx x h).1
  by_cases hl : xs.length ≤ 1048576
  · cases hb : listB xs with
    | true => exact c_law_HiddenPrintsT v xs ha hx hb K h0
    | false => exact c_law_HiddenPrintsF v xs ha hx hl hb K h0
  · refine by5 (Nat.le_of_ble_eq_true rfl) ?_
    have hz : ((1048576 : Int) - (xs.length : Nat) < 0) := by omega
    repeat' ((conv => whnf); first
      | (refine And.intro rfl ?_)
      | (refine And.intro (by decide +kernel) ?_)
      | (refine And.intro trivial ?_)
      | (refine d_szPrintS (ha := sli_up ha) (hl := hm') (hm := by decide) (h0 := ?_) .. <;> try rw [if_pos hz])
      | (refine Exists.intro _ (And.intro rfl (And.intro rfl (And.intro (Nat.le_of_ble_eq_true rfl) ?_))))
      | (refine Exists.intro _ (And.intro rfl (And.intro rfl (And.intro rfl (And.intro (Nat.le_of_ble_eq_true rfl) ?_)))))
      | (refine And.intro (Exists.intro _ (And.intro rfl rfl)) ?_)
      | (exact fun hW => absurd hW (by decide +kernel))
      | (intro hW; (try simp only [Bool.not_true, Bool.not_false, Bool.not_eq_true', Bool.not_eq_false', decide_eq_true_eq, decide_eq_false_iff_not, reduceCtorEq, Bool.true_eq_false, Bool.false_eq_true, mk_size, List.size_toArray, ByteArray.size_append, ByteArray.size_extract, List.length_cons, List.length_nil, ba_get, ba_empty, Int.toNat_natCast] at hW))
      | (refine And.intro (?_ : _ → _) (?_ : _ → _))
      | (refine FinR.drop 0 (Nat.zero_le _) (Closed.zero _) rfl ?_)
      | (refine FinR.keep ?_)
      | (refine And.intro (det3_agg rfl) ?_)
      | (refine fL_mk ?_)
      | (refine And.intro (by (try simp only [mk_size, List.size_toArray, ByteArray.size_append, ByteArray.size_extract, List.length_cons, List.length_nil]); omega) ?_)
      | (refine And.intro (by (try simp only [mk_size, List.size_toArray, ByteArray.size_append, ByteArray.size_extract, List.length_cons, List.length_nil, wrap64_eq]); omega) ?_)
      | fail)
    all_goals first | exact h0 | (exfalso; omega) | (exfalso; simp_all; done)
end Go.Proofs.Ythncpkdhcfaflaa
end
