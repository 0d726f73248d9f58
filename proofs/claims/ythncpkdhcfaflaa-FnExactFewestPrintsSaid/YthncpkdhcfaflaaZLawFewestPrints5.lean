import Derived.Test.YthncpkdhcfaflaaZLawFewestPrints4
section
/- Contracts: hidden and whole prints. -/
set_option linter.unusedVariables false
set_option linter.unusedSimpArgs false
set_option maxRecDepth 100000
set_option maxHeartbeats 4000000
namespace Go.Proofs.Ythncpkdhcfaflaa
open Go Go.RowKit Go.Proofs.Ythncpkdhcfaflaa.Abs
variable {W0 : World} {σ : List Blk}
theorem sh_I (k : Nat) (l : List Int) : (l.map I).map (sh1 k) = l.map I := by rw [List.map_map]; rfl
/-- a contract of a slice, its results told one by one -/
theorem lift_S1 {α : Type} {enc : α → List Value} {g : FuncId} {a : AV} {xs : List α} {s : Nat} {ι : Type} (r : ι → AV) (β : ι → List Blk) (hok : callOK Try.prog g = true) (hs : Sli W0 σ s enc a xs)
    (h : ∀ (W1 : World) (a' : AV), Sli W1 [] s enc a' xs → ∀ K : Cont, (∀ i, K (r i) (β i)) → ACall Try.prog W1 g [a'] [] K) (K : Cont) (h0 : ∀ i, K (sh3 σ.length (r i)) (σ ++ shB σ.length (β i))) : ACall Try.prog W0 g [a] σ K := by
  refine ACall.frameA (K0 := fun v σ' => ∃ i, v = r i ∧ σ' = β i) hok (fun W1 ι vs hh hrr => ?_) ?_
  · obtain ⟨v1, vs', rfl, hr1, hr2⟩ := Rels.uncons hrr
    obtain ⟨a', ha, hs'⟩ := hs.conc hh ⟨v1, hr1⟩
    obtain rfl := hr2.nil_inv
    exact ⟨[a'], Rels.cons (ha _ hr1) Rels.nil, h W1 a' hs' _ (fun i => ⟨i, rfl, rfl⟩)⟩
  · rintro v σ' ⟨i, rfl, rfl⟩; exact h0 i
abbrev outB (l : List Int) : Blk := ⟨l.map I, l.length, 3, 1, true, true⟩
abbrev nilA : AV := .lit (.slice none 0 0)
/-! the reference: what is seen of prints -/
def shR (n : Nat) : List Int := [(rowN n 0 : Nat), (rowN n 1 : Nat), (rowN n 2 : Nat), (rowN n 3 : Nat), (rowN n 4 : Nat), (rowN n 5 : Nat)]
abbrev z6 : List Int := [0, 0, 0, 0, 0, 0]
end Go.Proofs.Ythncpkdhcfaflaa
end

section
/- Contracts: the laws of hidden and whole prints. -/
set_option linter.unusedVariables false
set_option linter.unusedSimpArgs false
set_option maxRecDepth 100000
set_option maxHeartbeats 4000000
namespace Go.Proofs.Ythncpkdhcfaflaa
open Go Go.RowKit Go.Proofs.Ythncpkdhcfaflaa.Abs
variable {W0 : World} {σ : List Blk}
theorem sli_marks2 {b ver n cap : Nat} {B : Blk} {k : Int} (hB : σ[b]? = some (mB B k n)) (hv : B.ver = ver) : Sli W0 σ 1 en1 (.sl b ver 0 n cap) (marks k n) := by
  have h := sli_marks (W0 := W0) (σ := σ) (n := n) (cap := cap) (B := mB B k n) (k := k) hB hv
  refine .own b ver 0 _ cap _ _ hB hv (marks_len k n).symm fun i x hi j v hj => ?_
  have hlt : i < n := by have := getElem?_lt hi; rwa [marks_len] at this
  cases j with
  | zero =>
    simp only [List.getElem?_cons_zero, Option.some.injEq] at hj
    subst hj
    show ((marks k n).map I ++ B.cells.drop n)[0 + i * 1 + 0]? = _
    rw [show 0 + i * 1 + 0 = i by omega, List.getElem?_append_left (by rw [List.length_map, marks_len]; exact hlt), List.getElem?_map, hi]; rfl
  | succ j => simp at hj
abbrev prB (xs : List (List Int)) : Blk := ⟨jc xs, 0, 83, 9, true, true⟩
theorem jc_len9 {xs : List (List Int)} (hx : ∀ x ∈ xs, x.length = 9) : xs.length * 9 ≤ (prB xs).cells.length := by rw [jc_len (s := 9) hx]; exact Nat.le_refl _
end Go.Proofs.Ythncpkdhcfaflaa
end

section
/- Contracts: prints that overlap. -/
set_option linter.unusedVariables false
set_option linter.unusedSimpArgs false
set_option maxRecDepth 100000
set_option maxHeartbeats 4000000
namespace Go.Proofs.Ythncpkdhcfaflaa
open Go Go.RowKit Go.Proofs.Ythncpkdhcfaflaa.Abs
variable {W0 : World} {σ : List Blk}
/-- pairs of places -/
def inn (q : Nat → Nat → Bool) (i : Nat) : Nat → List (List Int)
  | 0 => []
  | m + 1 => inn q i m ++ if q i (i + 1 + m) then [[(i : Int), ((i + 1 + m : Nat) : Int)]] else []
abbrev prsB (l : List (List Int)) : Blk := ⟨jc l, l.length, 81, 2, true, true⟩
end Go.Proofs.Ythncpkdhcfaflaa
end

section
/- Contracts: pictures. -/
set_option linter.unusedVariables false
set_option linter.unusedSimpArgs false
set_option maxRecDepth 100000
set_option maxHeartbeats 4000000
namespace Go.Proofs.Ythncpkdhcfaflaa
open Go Go.RowKit Go.Proofs.Ythncpkdhcfaflaa.Abs
variable {W0 : World} {σ : List Blk}
abbrev Pi (q : List Int) : AV := .agg (q.map I)
theorem pureI (q : List Int) : pure3 (Pi q) = true := by
  show (q.map I).all _ = true
  rw [List.all_map]; exact List.all_eq_true.2 fun _ _ => rfl
theorem sh_Pi (k : Nat) (q : List Int) : sh3 k (Pi q) = Pi q := by show AV.agg ((q.map I).map (sh1 k)) = _; rw [sh_I]
theorem pic_le {q : List Int} (hq : q.length = 36) {off : Nat} (ho : off = 0) : off + 36 ≤ (q.map I).length := by rw [List.length_map]; omega
theorem pic_len {q : List Int} (hq : q.length = 36) : (q.map I).length = 36 := by rw [List.length_map]; exact hq
theorem pic_ld {q : List Int} (hq : q.length = 36) (off : Nat) (ho : off = 0) : mkAV true (((q.map I).drop off).take 36) = Pi q := by
  subst ho
  show AV.agg (((q.map I).drop 0).take 36) = _
  rw [List.drop_zero, List.take_of_length_le (by rw [pic_len hq]; exact Nat.le_refl _)]
theorem pic_res {q : List Int} (hq : q.length = 36) (Z : List AV) : mkAV true (((Z.take 0 ++ q.map I ++ Z.drop (0 + 36)).drop 0).take 36) = Pi q := by
  show AV.agg _ = _
  rw [List.take_zero, List.nil_append, List.drop_zero, List.take_left' (pic_len hq)]
theorem pic_rle {q : List Int} (hq : q.length = 36) (Z : List AV) : 0 + 36 ≤ (Z.take 0 ++ q.map I ++ Z.drop (0 + 36)).length := by
  rw [List.length_append, List.length_append, pic_len hq]; omega
theorem cell_le {q : List Int} {off : Nat} (h : off < q.length) : off + 1 ≤ (q.map I).length := by rw [List.length_map]; omega
theorem cell_ld {q : List Int} {off : Nat} (h : off < q.length) : mkAV false (((q.map I).drop off).take 1) = I (q.getD off 0) := by
  rw [← List.map_drop, ← List.map_take, List.drop_eq_getElem_cons h, List.getD_eq_getElem?_getD, List.getElem?_eq_getElem h]; rfl
theorem cell_st {q : List Int} {off : Nat} (v : Int) (h : off < q.length) : (q.map I).take off ++ [I v] ++ (q.map I).drop (off + 1) = (q.set off v).map I := by
  rw [List.set_eq_take_append_cons_drop, if_pos h, List.map_append, List.map_cons, List.map_take, List.map_drop, List.append_assoc]; rfl
def bQ (q : List Int) (e : TypeId) : Blk := ⟨q.map I, 0, e, 0, false, false⟩
abbrev z36 : List Int := List.replicate 36 0
theorem belPi (k : Nat) (q : List Int) : bel3 k (Pi q) = true := belI k q
theorem getD_at {q : List Int} {k : Nat} {x : Int} (h : q[k]? = some x) : q.getD k 0 = x := by rw [List.getD_eq_getElem?_getD, h]; rfl
/-! prints made -/
def madeK (q : List Int) (n : Nat) (ink : Int) : Nat → List Int
  | 0 => q
  | k + 1 => if n.testBit k then (madeK q n ink k).set k ink else madeK q n ink k
theorem madeK_succ (q : List Int) (n : Nat) (ink : Int) (k : Nat) : madeK q n ink (k + 1) = if n.testBit k then (madeK q n ink k).set k ink else madeK q n ink k := rfl
theorem madeK_len (q : List Int) (n : Nat) (ink : Int) : ∀ k, (madeK q n ink k).length = q.length
  | 0 => rfl
  | k + 1 => by rw [madeK_succ]; split <;> simp [madeK_len q n ink k]
theorem c_l8Made (q : List Int) (hq : q.length = 36) (c0 c1 c2 c3 c4 c5 c6 c7 c8 : Int) (hp : pOk [c0, c1, c2, c3, c4, c5, c6, c7, c8] = true) (K : Cont) (h0 : K (Pi (madeK q (pSet [c0, c1, c2, c3, c4, c5, c6, c7, c8]) c0 36)) []) : ACall Try.prog W0 64 [Pi q, Pr c0 c1 c2 c3 c4 c5 c6 c7 c8] [] K := by
  refine by64 (Nat.le_of_ble_eq_true rfl) ?_
  repeat' ((conv => whnf); first
    | (refine And.intro rfl ?_)
    | (refine And.intro (by decide +kernel) ?_)
    | (refine And.intro trivial ?_)
    | (refine d_l8Cells (h := hp) (h0 := ?_) ..)
    | (refine Exists.intro _ (And.intro (fun τ => callW_fn (d_l8Cells (h := hp) (h0 := And.intro rfl rfl) ..)) ?_))
    | (refine Exists.intro _ (And.intro (callW_fn (d_l8Cells (h := hp) (h0 := And.intro rfl rfl) ..)) (And.intro trivial ?_)))
    | (refine Exists.intro _ (And.intro (callW_fn (d_l8Cells (h := hp) (h0 := And.intro rfl rfl) ..)) ?_))
    | (refine Exists.intro _ (And.intro (fun τ _ => callW_fn (d_l8Cells (h := hp) (h0 := And.intro rfl rfl) ..)) ?_))
    | (refine Exists.intro _ (And.intro rfl (And.intro rfl (And.intro (Nat.le_of_ble_eq_true rfl) ?_))))
    | (refine Exists.intro _ (And.intro rfl (And.intro rfl (And.intro rfl (And.intro (Nat.le_of_ble_eq_true rfl) ?_)))))
    | (refine And.intro (Exists.intro _ (And.intro rfl rfl)) ?_)
    | (exact fun hW => absurd hW (by decide +kernel))
    | (intro hW; (try simp only [Bool.not_true, Bool.not_false, Bool.not_eq_true', Bool.not_eq_false', decide_eq_true_eq, decide_eq_false_iff_not, reduceCtorEq, Bool.true_eq_false, Bool.false_eq_true, mk_size, List.size_toArray, ByteArray.size_append, ByteArray.size_extract, List.length_cons, List.length_nil, ba_get, ba_empty, Int.toNat_natCast] at hW))
    | (refine And.intro (?_ : _ → _) (?_ : _ → _))
    | (refine FinR.drop 0 (Nat.zero_le _) (Closed.zero _) rfl ?_)
    | (refine FinR.keep ?_)
    | (refine And.intro (det3_agg rfl) ?_)
    | (refine fL_mk ?_)
    | (refine And.intro (by (try simp only [mk_size, List.size_toArray, ByteArray.size_append, ByteArray.size_extract, List.length_cons, List.length_nil]); omega) ?_)
    | (refine And.intro (by (try simp only [mk_size, List.size_toArray, ByteArray.size_append, ByteArray.size_extract, List.length_cons, List.length_nil, wrap64_eq]); omega) ?_)
    | fail)
  generalize pSet [c0, c1, c2, c3, c4, c5, c6, c7, c8] = n at h0 ⊢
  refine LoopR.live (fun y : Nat => [(2, .ptr 0 0 0), (3, .ptr 1 0 0), (4, .ptr 2 0 0), (5, .ptr 3 0 0), (6, I y)]) (fun y => [bQ (madeK q n c0 (6 * y)) 44, bQ [c0, c1, c2, c3, c4, c5, c6, c7, c8] 83, bQ z36 44, bl n]) (fun y => y ≤ 6) (fun y => 6 - y) 0 ⟨rfl, rfl, rfl, rfl, rfl, trivial⟩ (.keep rfl) (Nat.zero_le _) ?_
  intro y hy
  by_cases hlt : y < 6
  · skip
    repeat' ((conv => whnf); first
      | (refine And.intro rfl ?_)
      | (refine And.intro (by decide +kernel) ?_)
      | (refine And.intro trivial ?_)
      | (refine Exists.intro _ (And.intro rfl (And.intro rfl (And.intro (Nat.le_of_ble_eq_true rfl) ?_))))
      | (refine Exists.intro _ (And.intro rfl (And.intro rfl (And.intro rfl (And.intro (Nat.le_of_ble_eq_true rfl) ?_)))))
      | (refine And.intro (Exists.intro _ (And.intro rfl rfl)) ?_)
      | (exact fun hW => absurd hW (by decide +kernel))
      | (intro hW; (try simp only [Bool.not_true, Bool.not_false, Bool.not_eq_true', Bool.not_eq_false', decide_eq_true_eq, decide_eq_false_iff_not, reduceCtorEq, Bool.true_eq_false, Bool.false_eq_true, mk_size, List.size_toArray, ByteArray.size_append, ByteArray.size_extract, List.length_cons, List.length_nil, ba_get, ba_empty, Int.toNat_natCast] at hW))
      | (refine And.intro (?_ : _ → _) (?_ : _ → _))
      | (refine FinR.drop 0 (Nat.zero_le _) (Closed.zero _) rfl ?_)
      | (refine FinR.keep ?_)
      | (refine And.intro (det3_agg rfl) ?_)
      | (refine fL_mk ?_)
      | (refine And.intro (by (try simp only [mk_size, List.size_toArray, ByteArray.size_append, ByteArray.size_extract, List.length_cons, List.length_nil]); omega) ?_)
      | (refine And.intro (by (try simp only [mk_size, List.size_toArray, ByteArray.size_append, ByteArray.size_extract, List.length_cons, List.length_nil, wrap64_eq]); omega) ?_)
      | fail)
    all_goals first | (exfalso; omega) | skip
    refine LoopR.live (fun x : Nat => [(2, .ptr 0 0 0), (3, .ptr 1 0 0), (4, .ptr 2 0 0), (5, .ptr 3 0 0), (6, I y), (7, I x)]) (fun x => [bQ (madeK q n c0 (6 * y + x)) 44, bQ [c0, c1, c2, c3, c4, c5, c6, c7, c8] 83, bQ z36 44, bl n]) (fun x => x ≤ 6) (fun x => 6 - x) 0 ⟨rfl, rfl, rfl, rfl, rfl, rfl, trivial⟩ (.keep rfl) (Nat.zero_le _) ?_
    intro x hx
    by_cases hlt2 : x < 6
    · have hml : (madeK q n c0 (6 * y + x)).length = 36 := by rw [madeK_len, hq]
      have hle : ∀ off, off = 6 * y + x → off + 1 ≤ ((madeK q n c0 (6 * y + x)).map I).length := fun off ho => cell_le (by omega)
      have hoff : 0 + 0 + ((y : Nat) : Int).toNat * 6 + ((x : Nat) : Int).toNat * 1 = 6 * y + x := by simp only [Int.toNat_natCast]; omega
      have hst : ((madeK q n c0 (6 * y + x)).map I).take (0 + 0 + ((y : Nat) : Int).toNat * 6 + ((x : Nat) : Int).toNat * 1) ++ [I c0] ++ ((madeK q n c0 (6 * y + x)).map I).drop (0 + 0 + ((y : Nat) : Int).toNat * 6 + ((x : Nat) : Int).toNat * 1 + 1) = ((madeK q n c0 (6 * y + x)).set (6 * y + x) c0).map I := by
        rw [hoff]; exact cell_st c0 (by omega)
      have hm := madeK_succ q n c0 (6 * y + x)
      repeat' ((conv => whnf); first
        | (refine Exists.intro (bQ (madeK q n c0 (6 * y + x)) 44) (And.intro rfl (And.intro rfl (And.intro rfl (And.intro (hle _ hoff) ?_)))))
        | (refine And.intro rfl ?_)
        | (refine And.intro (by decide +kernel) ?_)
        | (refine And.intro trivial ?_)
        | (refine d_l2GetN (hx := hlt2) (hy := hlt) (h0 := ?_) ..)
        | (refine Exists.intro _ (And.intro (fun τ => callW_fn (d_l2GetN (hx := hlt2) (hy := hlt) (h0 := And.intro rfl rfl) ..)) ?_))
        | (refine Exists.intro _ (And.intro (callW_fn (d_l2GetN (hx := hlt2) (hy := hlt) (h0 := And.intro rfl rfl) ..)) (And.intro trivial ?_)))
        | (refine Exists.intro _ (And.intro (callW_fn (d_l2GetN (hx := hlt2) (hy := hlt) (h0 := And.intro rfl rfl) ..)) ?_))
        | (refine Exists.intro _ (And.intro (fun τ _ => callW_fn (d_l2GetN (hx := hlt2) (hy := hlt) (h0 := And.intro rfl rfl) ..)) ?_))
        | (refine Exists.intro _ (And.intro rfl (And.intro rfl (And.intro (Nat.le_of_ble_eq_true rfl) ?_))))
        | (refine Exists.intro _ (And.intro rfl (And.intro rfl (And.intro rfl (And.intro (Nat.le_of_ble_eq_true rfl) ?_)))))
        | (refine And.intro (Exists.intro _ (And.intro rfl rfl)) ?_)
        | (exact fun hW => absurd hW (by decide +kernel))
        | (intro hW; (try simp only [Bool.not_true, Bool.not_false, Bool.not_eq_true', Bool.not_eq_false', decide_eq_true_eq, decide_eq_false_iff_not, reduceCtorEq, Bool.true_eq_false, Bool.false_eq_true, mk_size, List.size_toArray, ByteArray.size_append, ByteArray.size_extract, List.length_cons, List.length_nil, ba_get, ba_empty, Int.toNat_natCast] at hW))
        | (refine And.intro (?_ : _ → _) (?_ : _ → _))
        | (refine FinR.drop 0 (Nat.zero_le _) (Closed.zero _) rfl ?_)
        | (refine FinR.keep ?_)
        | (refine And.intro (det3_agg rfl) ?_)
        | (refine fL_mk ?_)
        | (refine And.intro (by (try simp only [mk_size, List.size_toArray, ByteArray.size_append, ByteArray.size_extract, List.length_cons, List.length_nil]); omega) ?_)
        | (refine And.intro (by (try simp only [mk_size, List.size_toArray, ByteArray.size_append, ByteArray.size_extract, List.length_cons, List.length_nil, wrap64_eq]); omega) ?_)
        | fail)
      all_goals first | (exfalso; omega) | skip
      · rw [hW, if_pos rfl] at hm
        refine Again.go (x + 1) ⟨rfl, rfl, rfl, rfl, rfl, slI' (wsucc' x (by omega)), trivial⟩ (.keep ?_) (by omega) (by omega)
        rw [← Nat.add_assoc, hm]
        dsimp only [bQ]
        rw [← hst]
        rfl
      · rw [hW, if_neg (by decide)] at hm
        refine Again.go (x + 1) ⟨rfl, rfl, rfl, rfl, rfl, slI' (wsucc' x (by omega)), trivial⟩ (.keep ?_) (by omega) (by omega)
        rw [← Nat.add_assoc, hm]
    · obtain rfl : x = 6 := by omega
      repeat' ((conv => whnf); first
        | (refine And.intro rfl ?_)
        | (refine And.intro (by decide +kernel) ?_)
        | (refine And.intro trivial ?_)
        | (refine Exists.intro _ (And.intro rfl (And.intro rfl (And.intro (Nat.le_of_ble_eq_true rfl) ?_))))
        | (refine Exists.intro _ (And.intro rfl (And.intro rfl (And.intro rfl (And.intro (Nat.le_of_ble_eq_true rfl) ?_)))))
        | (refine And.intro (Exists.intro _ (And.intro rfl rfl)) ?_)
        | (exact fun hW => absurd hW (by decide +kernel))
        | (intro hW; (try simp only [Bool.not_true, Bool.not_false, Bool.not_eq_true', Bool.not_eq_false', decide_eq_true_eq, decide_eq_false_iff_not, reduceCtorEq, Bool.true_eq_false, Bool.false_eq_true, mk_size, List.size_toArray, ByteArray.size_append, ByteArray.size_extract, List.length_cons, List.length_nil, ba_get, ba_empty, Int.toNat_natCast] at hW))
        | (refine And.intro (?_ : _ → _) (?_ : _ → _))
        | (refine FinR.drop 0 (Nat.zero_le _) (Closed.zero _) rfl ?_)
        | (refine FinR.keep ?_)
        | (refine And.intro (det3_agg rfl) ?_)
        | (refine fL_mk ?_)
        | (refine And.intro (by (try simp only [mk_size, List.size_toArray, ByteArray.size_append, ByteArray.size_extract, List.length_cons, List.length_nil]); omega) ?_)
        | (refine And.intro (by (try simp only [mk_size, List.size_toArray, ByteArray.size_append, ByteArray.size_extract, List.length_cons, List.length_nil, wrap64_eq]); omega) ?_)
        | fail)
      all_goals first | (exfalso; omega) | skip
      exact Again.go (y + 1) ⟨rfl, rfl, rfl, rfl, slI' (wsucc' y (by omega)), trivial⟩ (.keep (by rw [Nat.mul_add])) (by omega) (by omega)
  · obtain rfl : y = 6 := by omega
    have hml : (madeK q n c0 (6 * 6)).length = 36 := by rw [madeK_len, hq]
    repeat' ((conv => whnf); first
      | (refine Exists.intro (bQ (madeK q n c0 (6 * 6)) 44) (And.intro rfl (And.intro rfl (And.intro (pic_le hml rfl) ?_))); rw [show (bQ (madeK q n c0 (6 * 6)) 44).cells = (madeK q n c0 (6 * 6)).map I from rfl, pic_ld hml _ rfl])
      | (refine Exists.intro _ (And.intro rfl (And.intro rfl (And.intro (pic_len hml) (And.intro (Nat.le_of_ble_eq_true rfl) ?_)))))
      | (refine Exists.intro _ (And.intro rfl (And.intro rfl (And.intro (pic_rle hml _) ?_))); rw [pic_res hml _])
      | (refine FinR.drop 0 (Nat.zero_le _) (Closed.zero _) (belPi 0 _) ?_)
      | (refine And.intro rfl ?_)
      | (refine And.intro (by decide +kernel) ?_)
      | (refine And.intro trivial ?_)
      | (refine Exists.intro _ (And.intro rfl (And.intro rfl (And.intro (Nat.le_of_ble_eq_true rfl) ?_))))
      | (refine Exists.intro _ (And.intro rfl (And.intro rfl (And.intro rfl (And.intro (Nat.le_of_ble_eq_true rfl) ?_)))))
      | (refine And.intro (Exists.intro _ (And.intro rfl rfl)) ?_)
      | (exact fun hW => absurd hW (by decide +kernel))
      | (intro hW; (try simp only [Bool.not_true, Bool.not_false, Bool.not_eq_true', Bool.not_eq_false', decide_eq_true_eq, decide_eq_false_iff_not, reduceCtorEq, Bool.true_eq_false, Bool.false_eq_true, mk_size, List.size_toArray, ByteArray.size_append, ByteArray.size_extract, List.length_cons, List.length_nil, ba_get, ba_empty, Int.toNat_natCast] at hW))
      | (refine And.intro (?_ : _ → _) (?_ : _ → _))
      | (refine FinR.drop 0 (Nat.zero_le _) (Closed.zero _) rfl ?_)
      | (refine FinR.keep ?_)
      | (refine And.intro (det3_agg rfl) ?_)
      | (refine fL_mk ?_)
      | (refine And.intro (by (try simp only [mk_size, List.size_toArray, ByteArray.size_append, ByteArray.size_extract, List.length_cons, List.length_nil]); omega) ?_)
      | (refine And.intro (by (try simp only [mk_size, List.size_toArray, ByteArray.size_append, ByteArray.size_extract, List.length_cons, List.length_nil, wrap64_eq]); omega) ?_)
      | fail)
    all_goals first | (exfalso; omega) | exact h0
theorem d_l8Made (q : List Int) (hq : q.length = 36) (c0 c1 c2 c3 c4 c5 c6 c7 c8 : Int) (hp : pOk [c0, c1, c2, c3, c4, c5, c6, c7, c8] = true) (K : Cont) (h0 : K (Pi (madeK q (pSet [c0, c1, c2, c3, c4, c5, c6, c7, c8]) c0 36)) σ) : ACall Try.prog W0 64 [Pi q, Pr c0 c1 c2 c3 c4 c5 c6 c7 c8] σ K :=
  ACall.lift (by rw [List.all_cons, pureI]; rfl) (fun k => sh_Pi k _) (fun W1 K _ hK => c_l8Made q hq c0 c1 c2 c3 c4 c5 c6 c7 c8 hp K hK) h0
end Go.Proofs.Ythncpkdhcfaflaa
end

section
/- Contracts: the last prints. -/
set_option linter.unusedVariables false
set_option linter.unusedSimpArgs false
set_option maxRecDepth 100000
set_option maxHeartbeats 4000000
namespace Go.Proofs.Ythncpkdhcfaflaa
open Go Go.RowKit Go.Proofs.Ythncpkdhcfaflaa.Abs
variable {W0 : World} {σ : List Blk}
theorem lits_I : ∀ l : List Int, litsA (l.map I) = some (l.map (Value.int .i64))
  | [] => rfl
  | x :: l => by
    show (litsA (l.map I)).map _ = _
    rw [lits_I l]; rfl
theorem eqC_I : ∀ (n : Nat) (l m : List Int), l.length = n → m.length = n → eqC (List.replicate n .int) (l.map (Value.int .i64)) (m.map (Value.int .i64)) = some (decide (l = m))
  | 0, [], [], _, _ => rfl
  | n + 1, x :: l, y :: m, h1, h2 => by
    have h := eqC_I n l m (by simpa using h1) (by simpa using h2)
    show (if IntKind.i64 = IntKind.i64 then (eqC (List.replicate n .int) (l.map (Value.int .i64)) (m.map (Value.int .i64))).map (decide (x = y) && ·) else none) = _
    rw [if_pos rfl, h]
    show some (decide (x = y) && decide (l = m)) = _
    congr 1
    rw [Bool.eq_iff_iff]; simp
  | 0, _ :: _, _, h, _ => by simp at h
  | n + 1, [], _, h, _ => by simp at h
  | 0, [], _ :: _, _, h => by simp at h
  | n + 1, _ :: _, [], _, h => by simp at h
theorem eqC36 {l m : List Int} (hl : l.length = 36) (hm : m.length = 36) : eqC [.int, .int, .int, .int, .int, .int, .int, .int, .int, .int, .int, .int, .int, .int, .int, .int, .int, .int, .int, .int, .int, .int, .int, .int, .int, .int, .int, .int, .int, .int, .int, .int, .int, .int, .int, .int] (l.map (Value.int .i64)) (m.map (Value.int .i64)) = some (decide (l = m)) := eqC_I 36 l m hl hm
end Go.Proofs.Ythncpkdhcfaflaa
end

section
/- Contracts: the law of the last prints. -/
set_option linter.unusedVariables false
set_option linter.unusedSimpArgs false
set_option maxRecDepth 100000
set_option maxHeartbeats 4000000
namespace Go.Proofs.Ythncpkdhcfaflaa
open Go Go.RowKit Go.Proofs.Ythncpkdhcfaflaa.Abs
variable {W0 : World} {σ : List Blk}
theorem sh_out1 (k : Nat) (l : List Int) : shB k [outB l] = [outB l] := by simp only [shB, List.map_cons, List.map_nil, outB, sh_I]
end Go.Proofs.Ythncpkdhcfaflaa
end

section
/- Contracts: orders of prints: lists of numbers. -/
set_option linter.unusedVariables false
set_option linter.unusedSimpArgs false
set_option maxRecDepth 100000
set_option maxHeartbeats 4000000
namespace Go.Proofs.Ythncpkdhcfaflaa
open Go Go.RowKit Go.Proofs.Ythncpkdhcfaflaa.Abs
variable {W0 : World} {σ : List Blk}
/-- a slice that came in, nil or not -/
theorem sli_form {α : Type} {s : Nat} {enc : α → List Value} {a : AV} {xs : List α} (h : Sli W0 [] s enc a xs) : ∃ o n cap, a = .lit (.slice o n cap) ∧ n = xs.length ∧ n ≤ cap ∧ cap ≤ maxLen ∧ ∀ (i : Nat) (x : α), xs[i]? = some x → ∃ ad, o = some ad ∧ ad.block < W0.heap.size ∧ ∀ i x, xs[i]? = some x → ∀ j v, (enc x)[j]? = some v → W0.cell? ((ad.add (i * s)).add j) = some v ∧ v.oneCell' = true := by
  cases h with
  | nil => exact ⟨none, 0, 0, rfl, rfl, Nat.le_refl _, Nat.zero_le _, fun i x h => by simp at h⟩
  | inn ad n cap xs hn hc hm hb hx => exact ⟨some ad, n, cap, rfl, hn, hc, hm, fun i x h => ⟨ad, rfl, hb, hx⟩⟩
  | own b ver off n cap B xs hB => simp at hB
end Go.Proofs.Ythncpkdhcfaflaa
end

section
/- Contracts: pictures of prints in an order. -/
set_option linter.unusedVariables false
set_option linter.unusedSimpArgs false
set_option maxRecDepth 100000
set_option maxHeartbeats 4000000
namespace Go.Proofs.Ythncpkdhcfaflaa
open Go Go.RowKit Go.Proofs.Ythncpkdhcfaflaa.Abs
variable {W0 : World} {σ : List Blk}
theorem lift_S2 {α β : Type} {enc : α → List Value} {enc' : β → List Value} {g : FuncId} {a b : AV} {xs : List α} {ys : List β} {s s' : Nat} {ι : Type} (r : ι → AV) (τ : ι → List Blk) (hok : callOK Try.prog g = true) (hs : Sli W0 σ s enc a xs) (hs2 : Sli W0 σ s' enc' b ys)
    (h : ∀ (W1 : World) (a' b' : AV), Sli W1 [] s enc a' xs → Sli W1 [] s' enc' b' ys → ∀ K : Cont, (∀ i, K (r i) (τ i)) → ACall Try.prog W1 g [a', b'] [] K) (K : Cont) (h0 : ∀ i, K (sh3 σ.length (r i)) (σ ++ shB σ.length (τ i))) : ACall Try.prog W0 g [a, b] σ K := by
  refine ACall.frameA (K0 := fun v σ' => ∃ i, v = r i ∧ σ' = τ i) hok (fun W1 ι vs hh hrr => ?_) ?_
  · obtain ⟨v1, vs', rfl, hr1, hr2⟩ := Rels.uncons hrr
    obtain ⟨v2, vs'', rfl, hr3, hr4⟩ := Rels.uncons hr2
    obtain ⟨a', ha, hs'⟩ := hs.conc hh ⟨v1, hr1⟩
    obtain ⟨b', hb, hs2'⟩ := hs2.conc hh ⟨v2, hr3⟩
    obtain rfl := hr4.nil_inv
    exact ⟨[a', b'], Rels.cons (ha _ hr1) (Rels.cons (hb _ hr3) Rels.nil), h W1 a' b' hs' hs2' _ (fun i => ⟨i, rfl, rfl⟩)⟩
  · rintro v σ' ⟨i, rfl, rfl⟩; exact h0 i
theorem pic_st {q : List Int} (hq : q.length = 36) {Z : List AV} (hZ : Z.length = 36) : Z.take 0 ++ q.map I ++ Z.drop (0 + 36) = q.map I := by
  rw [List.take_zero, List.nil_append, List.drop_of_length_le (by omega), List.append_nil]
def picY (ys : List (List Int)) : List Int := ys.foldl (fun P x => madeK P (pSet x) (pInk x) 36) z36
def ordL (xs : List (List Int)) (ord : List Int) : List (List Int) := ord.map fun k => xs.getD k.toNat []
theorem picY_len (ys : List (List Int)) : (picY ys).length = 36 := by
  suffices h : ∀ (ys : List (List Int)) (P : List Int), P.length = 36 → (ys.foldl (fun P x => madeK P (pSet x) (pInk x) 36) P).length = 36 from h ys z36 rfl
  intro ys
  induction ys with
  | nil => exact fun P h => h
  | cons x ys ih => exact fun P h => ih _ (by rw [madeK_len, h])
theorem picY_snoc (ys : List (List Int)) (x : List Int) : picY (ys ++ [x]) = madeK (picY ys) (pSet x) (pInk x) 36 := by simp [picY]
theorem ordL_snoc (xs : List (List Int)) (ord : List Int) (k : Int) : ordL xs (ord ++ [k]) = ordL xs ord ++ [xs.getD k.toNat []] := by simp [ordL]
def inR (n : Nat) (ord : List Int) : Prop := ∀ k ∈ ord, 0 ≤ k ∧ k < (n : Int)
theorem xget {xs : List (List Int)} {k : Int} (h : 0 ≤ k ∧ k < (xs.length : Int)) : xs[k.toNat]? = some (xs.getD k.toNat []) := by
  have hlt : k.toNat < xs.length := by omega
  rw [List.getD_eq_getElem?_getD, List.getElem?_eq_getElem hlt]; rfl
theorem row9' {x : List Int} (h : x.length = 9) : ∃ a b c d e f g h' i, x = [a, b, c, d, e, f, g, h', i] := by
  match x, h with
  | [a, b, c, d, e, f, g, h', i], _ => exact ⟨a, b, c, d, e, f, g, h', i, rfl⟩
theorem c_l8All (a b : AV) (xs : List (List Int)) (ord : List Int) (ha : Sli W0 [] 9 enI a xs) (hb' : Sli W0 [] 1 en1 b ord) (hx : ∀ x ∈ xs, x.length = 9) (hall : xs.all pOk = true) (hl : xs.length ≤ 1048576) (ho : inR xs.length ord) (hl2 : ord.length ≤ 1048576) (K : Cont) (h0 : K (Pi (picY (ordL xs ord))) []) : ACall Try.prog W0 69 [a, b] [] K := by
  refine by69 (Nat.le_of_ble_eq_true rfl) ?_
  obtain ⟨o, n, cap, rfl, hn, hc, hm, hf⟩ := sli_form ha
  obtain ⟨o2, n2, cap2, rfl, hn2, hc2, hm2, hf2⟩ := sli_form hb'
  subst hn; subst hn2
  repeat' ((conv => whnf); first
    | (refine And.intro rfl ?_)
    | (refine And.intro (by decide +kernel) ?_)
    | (refine And.intro trivial ?_)
    | (refine Exists.intro _ (And.intro rfl (And.intro rfl (And.intro (Nat.le_of_ble_eq_true rfl) ?_))))
    | (refine Exists.intro _ (And.intro rfl (And.intro rfl (And.intro rfl (And.intro (Nat.le_of_ble_eq_true rfl) ?_)))))
    | (refine And.intro (Exists.intro _ (And.intro rfl rfl)) ?_)
    | (exact fun hW => absurd hW (by decide +kernel))
    | (intro hW; (try simp only [Bool.not_true, Bool.not_false, Bool.not_eq_true', Bool.not_eq_false', decide_eq_true_eq, decide_eq_false_iff_not, reduceCtorEq, Bool.true_eq_false, Bool.false_eq_true, mk_size, List.size_toArray, ByteArray.size_append, ByteArray.size_extract, List.length_cons, List.length_nil, ba_get, ba_empty, Int.toNat_natCast] at hW))
    | (refine And.intro (?_ : _ → _) (?_ : _ → _))
    | (refine FinR.drop 0 (Nat.zero_le _) (Closed.zero _) rfl ?_)
    | (refine FinR.keep ?_)
    | (refine And.intro (det3_agg rfl) ?_)
    | (refine fL_mk ?_)
    | (refine And.intro (by (try simp only [mk_size, List.size_toArray, ByteArray.size_append, ByteArray.size_extract, List.length_cons, List.length_nil]); omega) ?_)
    | (refine And.intro (by (try simp only [mk_size, List.size_toArray, ByteArray.size_append, ByteArray.size_extract, List.length_cons, List.length_nil, wrap64_eq]); omega) ?_)
    | fail)
  refine LoopR.live (fun i : Nat => [(0, .lit (.slice o xs.length cap)), (1, .lit (.slice o2 ord.length cap2)), (4, .ptr 0 0 0), (5, .ptr 1 0 0), (6, I i)]) (fun i => [bQ z36 44, bQ (picY (ordL xs (ord.take i))) 44]) (fun i => i ≤ ord.length) (fun i => ord.length - i) 0 ⟨rfl, rfl, rfl, rfl, rfl, trivial⟩ (.keep rfl) (Nat.zero_le _) ?_
  intro i hi
  have hpl := picY_len (ordL xs (ord.take i))
  by_cases hlt : i < ord.length
  · have hoi : ord[i]? = some ord[i] := List.getElem?_eq_getElem hlt
    obtain ⟨ad2, rfl, hb2, hxx2⟩ := hf2 i _ hoi
    have hk := ho _ (List.getElem_mem hlt)
    have hxi := xget hk
    have hxm := List.mem_of_getElem? hxi
    have hp := List.all_eq_true.1 hall _ hxm
    obtain ⟨ad, rfl, hb, hxx⟩ := hf _ _ hxi
    have hsn : picY (ordL xs (ord.take (i + 1))) = madeK (picY (ordL xs (ord.take i))) (pSet (xs.getD ord[i].toNat [])) (pInk (xs.getD ord[i].toNat [])) 36 := by
      rw [take_snoc hoi, ordL_snoc, picY_snoc]
    obtain ⟨c0, c1, c2, c3, c4, c5, c6, c7, c8, hrow⟩ := row9' (hx _ hxm)
    rw [hrow] at hxi hp hsn
    have hld := ld9 hb hxx hxi rfl
    have hld2 := fun C h => ldIn (W0 := W0) (s := 1) (enc := en1) hb2 hxx2 (k := i) hoi rfl (C := C) h
    repeat' ((conv => whnf); first
      | (refine And.intro rfl (Exists.intro (bQ (picY (ordL xs (ord.take i))) 44) (And.intro rfl (And.intro rfl (And.intro (pic_le hpl rfl) ?_)))); rw [show (bQ (picY (ordL xs (ord.take i))) 44).cells = (picY (ordL xs (ord.take i))).map I from rfl, pic_ld hpl _ rfl])
      | (refine Exists.intro (bQ (picY (ordL xs (ord.take i))) 44) (And.intro rfl (And.intro rfl (And.intro (pic_len (by rw [madeK_len]; exact hpl)) (And.intro (pic_le hpl rfl) ?_)))))
      | (refine And.intro rfl ?_)
      | (refine And.intro (by decide +kernel) ?_)
      | (refine And.intro trivial ?_)
      | (refine hld _ ?_)
      | (refine hld2 _ ?_)
      | (refine Exists.intro _ (And.intro (fun τ => callW_fn (d_l8Made (hq := hpl) (hp := hp) (h0 := And.intro rfl rfl) ..)) ?_))
      | (refine Exists.intro _ (And.intro rfl (And.intro rfl (And.intro (Nat.le_of_ble_eq_true rfl) ?_))))
      | (refine Exists.intro _ (And.intro rfl (And.intro rfl (And.intro rfl (And.intro (Nat.le_of_ble_eq_true rfl) ?_)))))
      | (refine And.intro (Exists.intro _ (And.intro rfl rfl)) ?_)
      | (exact fun hW => absurd hW (by decide +kernel))
      | (intro hW; (try simp only [Bool.not_true, Bool.not_false, Bool.not_eq_true', Bool.not_eq_false', decide_eq_true_eq, decide_eq_false_iff_not, reduceCtorEq, Bool.true_eq_false, Bool.false_eq_true, mk_size, List.size_toArray, ByteArray.size_append, ByteArray.size_extract, List.length_cons, List.length_nil, ba_get, ba_empty, Int.toNat_natCast] at hW))
      | (refine And.intro (?_ : _ → _) (?_ : _ → _))
      | (refine FinR.drop 0 (Nat.zero_le _) (Closed.zero _) rfl ?_)
      | (refine FinR.keep ?_)
      | (refine And.intro (det3_agg rfl) ?_)
      | (refine fL_mk ?_)
      | (refine And.intro (by (try simp only [mk_size, List.size_toArray, ByteArray.size_append, ByteArray.size_extract, List.length_cons, List.length_nil]); omega) ?_)
      | (refine And.intro (by (try simp only [mk_size, List.size_toArray, ByteArray.size_append, ByteArray.size_extract, List.length_cons, List.length_nil, wrap64_eq]); omega) ?_)
      | fail)
    all_goals first | (exfalso; omega) | skip
    refine Again.go (i + 1) ⟨rfl, rfl, rfl, rfl, slI' (wsucc' i (by omega)), trivial⟩ (.keep ?_) (by omega) (by omega)
    rw [hsn]
    have e := pic_st (q := madeK (picY (ordL xs (ord.take i))) (pSet [c0, c1, c2, c3, c4, c5, c6, c7, c8]) c0 36) (by rw [madeK_len]; exact hpl) (Z := (picY (ordL xs (ord.take i))).map I) (by rw [List.length_map]; exact hpl)
    dsimp only [bQ]
    rw [show pInk [c0, c1, c2, c3, c4, c5, c6, c7, c8] = c0 from rfl]
    conv => lhs; rw [← e]
    rfl
  · obtain rfl : i = ord.length := by omega
    rw [List.take_length] at hpl ⊢
    repeat' ((conv => whnf); first
      | (refine Exists.intro (bQ (picY (ordL xs ord)) 44) (And.intro rfl (And.intro rfl (And.intro (pic_le hpl rfl) ?_))); rw [show (bQ (picY (ordL xs ord)) 44).cells = (picY (ordL xs ord)).map I from rfl, pic_ld hpl _ rfl])
      | (refine Exists.intro _ (And.intro rfl (And.intro rfl (And.intro (pic_len hpl) (And.intro (Nat.le_of_ble_eq_true rfl) ?_)))))
      | (refine Exists.intro _ (And.intro rfl (And.intro rfl (And.intro (pic_rle hpl _) ?_))); rw [pic_res hpl _])
      | (refine FinR.drop 0 (Nat.zero_le _) (Closed.zero _) (belPi 0 _) ?_)
      | (refine And.intro rfl ?_)
      | (refine And.intro (by decide +kernel) ?_)
      | (refine And.intro trivial ?_)
      | (refine Exists.intro _ (And.intro rfl (And.intro rfl (And.intro (Nat.le_of_ble_eq_true rfl) ?_))))
      | (refine Exists.intro _ (And.intro rfl (And.intro rfl (And.intro rfl (And.intro (Nat.le_of_ble_eq_true rfl) ?_)))))
      | (refine And.intro (Exists.intro _ (And.intro rfl rfl)) ?_)
      | (exact fun hW => absurd hW (by decide +kernel))
      | (intro hW; (try simp only [Bool.not_true, Bool.not_false, Bool.not_eq_true', Bool.not_eq_false', decide_eq_true_eq, decide_eq_false_iff_not, reduceCtorEq, Bool.true_eq_false, Bool.false_eq_true, mk_size, List.size_toArray, ByteArray.size_append, ByteArray.size_extract, List.length_cons, List.length_nil, ba_get, ba_empty, Int.toNat_natCast] at hW))
      | (refine And.intro (?_ : _ → _) (?_ : _ → _))
      | (refine FinR.drop 0 (Nat.zero_le _) (Closed.zero _) rfl ?_)
      | (refine FinR.keep ?_)
      | (refine And.intro (det3_agg rfl) ?_)
      | (refine fL_mk ?_)
      | (refine And.intro (by (try simp only [mk_size, List.size_toArray, ByteArray.size_append, ByteArray.size_extract, List.length_cons, List.length_nil]); omega) ?_)
      | (refine And.intro (by (try simp only [mk_size, List.size_toArray, ByteArray.size_append, ByteArray.size_extract, List.length_cons, List.length_nil, wrap64_eq]); omega) ?_)
      | fail)
    all_goals first | (exfalso; omega) | exact h0
theorem d_l8All (a b : AV) (xs : List (List Int)) (ord : List Int) (ha : Sli W0 σ 9 enI a xs) (hb : Sli W0 σ 1 en1 b ord) (hx : ∀ x ∈ xs, x.length = 9) (hall : xs.all pOk = true) (hl : xs.length ≤ 1048576) (ho : inR xs.length ord) (hl2 : ord.length ≤ 1048576) (K : Cont) (h0 : K (Pi (picY (ordL xs ord))) σ) : ACall Try.prog W0 69 [a, b] σ K :=
  lift_S2 (ι := Unit) (fun _ => Pi (picY (ordL xs ord))) (fun _ => []) (by kernel_rfl) ha hb (fun W1 a' b' h h' K hK => c_l8All a' b' xs ord h h' hx hall hl ho hl2 K (hK ())) K (fun _ => by
    rw [sh_Pi, show shB σ.length [] = [] from rfl, List.append_nil]; exact h0)
/-! the program -/
theorem c_list (n : Nat) (hn : n < 2 ^ 36) (K : Cont) (h0 : ∀ cap, K (.sl 0 (selN n.testBit 36).length 0 (selN n.testBit 36).length cap) [outB (selN n.testBit 36)]) : ACall Try.prog W0 102 [U n] [] K := by
  refine by102 (Nat.le_of_ble_eq_true rfl) ?_
  repeat' ((conv => whnf); first
    | (refine And.intro rfl ?_)
    | (refine And.intro (by decide +kernel) ?_)
    | (refine And.intro trivial ?_)
    | (refine Exists.intro _ (And.intro rfl (And.intro rfl (And.intro (Nat.le_of_ble_eq_true rfl) ?_))))
    | (refine Exists.intro _ (And.intro rfl (And.intro rfl (And.intro rfl (And.intro (Nat.le_of_ble_eq_true rfl) ?_)))))
    | (refine And.intro (Exists.intro _ (And.intro rfl rfl)) ?_)
    | (exact fun hW => absurd hW (by decide +kernel))
    | (intro hW; (try simp only [Bool.not_true, Bool.not_false, Bool.not_eq_true', Bool.not_eq_false', decide_eq_true_eq, decide_eq_false_iff_not, reduceCtorEq, Bool.true_eq_false, Bool.false_eq_true, mk_size, List.size_toArray, ByteArray.size_append, ByteArray.size_extract, List.length_cons, List.length_nil, ba_get, ba_empty, Int.toNat_natCast] at hW))
    | (refine And.intro (?_ : _ → _) (?_ : _ → _))
    | (refine FinR.drop 0 (Nat.zero_le _) (Closed.zero _) rfl ?_)
    | (refine FinR.keep ?_)
    | (refine And.intro (det3_agg rfl) ?_)
    | (refine fL_mk ?_)
    | (refine And.intro (by (try simp only [mk_size, List.size_toArray, ByteArray.size_append, ByteArray.size_extract, List.length_cons, List.length_nil]); omega) ?_)
    | (refine And.intro (by (try simp only [mk_size, List.size_toArray, ByteArray.size_append, ByteArray.size_extract, List.length_cons, List.length_nil, wrap64_eq]); omega) ?_)
    | fail)
  refine LoopR.live (fun y : Nat × Nat => [(0, U n), (3, .sl 0 (selN n.testBit y.1).length 0 (selN n.testBit y.1).length y.2), (6, I y.1)]) (fun y => [outB (selN n.testBit y.1)]) (fun y => y.1 ≤ 36) (fun y => 36 - y.1) (0, 0) ⟨rfl, rfl, rfl, trivial⟩ (.keep rfl) (Nat.zero_le _) ?_
  rintro ⟨i, cp⟩ hi
  dsimp only at hi
  have hsl := selN_len n.testBit i
  have hq := selN_succ n.testBit i
  by_cases hlt : i < 36
  · skip
    repeat' ((conv => whnf); first
      | (refine And.intro rfl ?_)
      | (refine And.intro (by decide +kernel) ?_)
      | (refine And.intro trivial ?_)
      | (refine d_has (hn := Nat.lt_trans hn (by decide)) (hk := by omega) (h0 := ?_) ..)
      | (refine Exists.intro _ (And.intro rfl (And.intro rfl (And.intro rfl (And.intro rfl (And.intro rfl (And.intro rfl (And.intro (by decide) (And.intro (by simp [List.length_map]) (And.intro rfl (And.intro (by (try dsimp only); unfold maxLen; omega) (And.intro (by (try dsimp only); omega) (fun cap' hcap1 hcap2 => ?_)))))))))))))
      | (refine Exists.intro _ (And.intro rfl (And.intro rfl (And.intro (Nat.le_of_ble_eq_true rfl) ?_))))
      | (refine Exists.intro _ (And.intro rfl (And.intro rfl (And.intro rfl (And.intro (Nat.le_of_ble_eq_true rfl) ?_)))))
      | (refine And.intro (Exists.intro _ (And.intro rfl rfl)) ?_)
      | (exact fun hW => absurd hW (by decide +kernel))
      | (intro hW; (try simp only [Bool.not_true, Bool.not_false, Bool.not_eq_true', Bool.not_eq_false', decide_eq_true_eq, decide_eq_false_iff_not, reduceCtorEq, Bool.true_eq_false, Bool.false_eq_true, mk_size, List.size_toArray, ByteArray.size_append, ByteArray.size_extract, List.length_cons, List.length_nil, ba_get, ba_empty, Int.toNat_natCast] at hW))
      | (refine And.intro (?_ : _ → _) (?_ : _ → _))
      | (refine FinR.drop 0 (Nat.zero_le _) (Closed.zero _) rfl ?_)
      | (refine FinR.keep ?_)
      | (refine And.intro (det3_agg rfl) ?_)
      | (refine fL_mk ?_)
      | (refine And.intro (by (try simp only [mk_size, List.size_toArray, ByteArray.size_append, ByteArray.size_extract, List.length_cons, List.length_nil]); omega) ?_)
      | (refine And.intro (by (try simp only [mk_size, List.size_toArray, ByteArray.size_append, ByteArray.size_extract, List.length_cons, List.length_nil, wrap64_eq]); omega) ?_)
      | fail)
    all_goals first | (exfalso; omega) | skip
    · rw [hW, if_pos rfl] at hq
      refine Again.go (i + 1, _) ⟨rfl, (by show AV.sl _ _ _ _ _ = AV.sl _ _ _ _ _; rw [hq, List.length_append]; rfl), slI' (wsucc' i (by omega)), trivial⟩ (.keep ?_) (by dsimp only; omega) (by dsimp only; omega)
      dsimp only [outB]
      rw [hq, List.length_append, List.map_append]; rfl
    · rw [hW, if_neg (by decide), List.append_nil] at hq
      refine Again.go (i + 1, cp) ⟨rfl, (by show AV.sl _ _ _ _ _ = AV.sl _ _ _ _ _; rw [hq]), slI' (wsucc' i (by omega)), trivial⟩ (.keep ?_) (by dsimp only; omega) (by dsimp only; omega)
      dsimp only [outB]
      rw [hq]
  · obtain rfl : i = 36 := by omega
    have h0 := h0 cp
    repeat' ((conv => whnf); first
      | (refine And.intro rfl ?_)
      | (refine And.intro (by decide +kernel) ?_)
      | (refine And.intro trivial ?_)
      | (refine Exists.intro _ (And.intro rfl (And.intro rfl (And.intro (Nat.le_of_ble_eq_true rfl) ?_))))
      | (refine Exists.intro _ (And.intro rfl (And.intro rfl (And.intro rfl (And.intro (Nat.le_of_ble_eq_true rfl) ?_)))))
      | (refine And.intro (Exists.intro _ (And.intro rfl rfl)) ?_)
      | (exact fun hW => absurd hW (by decide +kernel))
      | (intro hW; (try simp only [Bool.not_true, Bool.not_false, Bool.not_eq_true', Bool.not_eq_false', decide_eq_true_eq, decide_eq_false_iff_not, reduceCtorEq, Bool.true_eq_false, Bool.false_eq_true, mk_size, List.size_toArray, ByteArray.size_append, ByteArray.size_extract, List.length_cons, List.length_nil, ba_get, ba_empty, Int.toNat_natCast] at hW))
      | (refine And.intro (?_ : _ → _) (?_ : _ → _))
      | (refine FinR.drop 0 (Nat.zero_le _) (Closed.zero _) rfl ?_)
      | (refine FinR.keep ?_)
      | (refine And.intro (det3_agg rfl) ?_)
      | (refine fL_mk ?_)
      | (refine And.intro (by (try simp only [mk_size, List.size_toArray, ByteArray.size_append, ByteArray.size_extract, List.length_cons, List.length_nil]); omega) ?_)
      | (refine And.intro (by (try simp only [mk_size, List.size_toArray, ByteArray.size_append, ByteArray.size_extract, List.length_cons, List.length_nil, wrap64_eq]); omega) ?_)
      | fail)
    all_goals first | (exfalso; omega) | exact h0
theorem d_list (n : Nat) (hn : n < 2 ^ 36) (K : Cont) (h0 : ∀ cap, K (.sl (σ.length + 0) (selN n.testBit 36).length 0 (selN n.testBit 36).length cap) (σ ++ [outB (selN n.testBit 36)])) : ACall Try.prog W0 102 [U n] σ K := by
  refine ACall.frame (K0 := fun v σ' => ∃ cap, v = .sl 0 (selN n.testBit 36).length 0 (selN n.testBit 36).length cap ∧ σ' = [outB (selN n.testBit 36)]) rfl (fun W1 _ => c_list n hn _ fun cap => ⟨cap, rfl, rfl⟩) ?_
  rintro v σ' ⟨cap, rfl, rfl⟩
  rw [sh_out1]; exact h0 cap
theorem selN_mem (f : Nat → Bool) : ∀ n, ∀ k ∈ selN f n, ∃ m : Nat, k = m ∧ m < n
  | 0, k, h => by cases h
  | n + 1, k, h => by
    rw [selN_succ] at h
    rcases List.mem_append.1 h with h | h
    · obtain ⟨m, e, hm⟩ := selN_mem f n k h
      exact ⟨m, e, by omega⟩
    · split at h
      · exact ⟨n, List.mem_singleton.1 h, by omega⟩
      · cases h
def setL (P : List Int) (l : List Int) (ink : Int) : List Int := l.foldl (fun P k => P.set k.toNat ink) P
theorem setL_len (ink : Int) : ∀ (l P : List Int), (setL P l ink).length = P.length
  | [], P => rfl
  | k :: l, P => by
    show (setL (P.set k.toNat ink) l ink).length = _
    rw [setL_len ink l, List.length_set]
theorem setL_snoc (P l : List Int) (k ink : Int) : setL P (l ++ [k]) ink = (setL P l ink).set k.toNat ink := by simp [setL]
theorem setL_made (P : List Int) (n : Nat) (ink : Int) : ∀ k, setL P (selN n.testBit k) ink = madeK P n ink k
  | 0 => rfl
  | k + 1 => by
    rw [selN_succ, madeK_succ]
    split
    · rw [setL_snoc, setL_made P n ink k, Int.toNat_natCast]
    · rw [List.append_nil, setL_made P n ink k]
def enY (x : List Int) : List Value := [.int .u64 (pSet x : Nat), .int .i64 (pInk x)]
theorem sli_ly {xs : List (List Int)} {b ver : Nat} {e : TypeId} {z : Nat} {r m : Bool} {cap : Nat} (hb : σ[b]? = some ⟨lyC xs, ver, e, z, r, m⟩) : Sli W0 σ 2 enY (.sl b ver 0 xs.length cap) xs :=
  .own b ver 0 _ cap _ _ hb rfl rfl fun i x hi j v hj => by
    obtain ⟨h1, h2⟩ := lyC_get hi
    rw [Nat.zero_add]
    match j, hj with
    | 0, hj => cases hj; exact h1
    | 1, hj => cases hj; exact h2
    | j + 2, hj => simp [enY] at hj
theorem c_picture (a : AV) (xs : List (List Int)) (ha : Sli W0 [] 2 enY a xs) (hx : ∀ x ∈ xs, x.length = 9) (hall : xs.all pOk = true) (hl : xs.length ≤ 1048576) (K : Cont) (h0 : K (Pi (picY xs)) []) : ACall Try.prog W0 71 [a] [] K := by
  refine by71 (Nat.le_of_ble_eq_true rfl) ?_
  obtain ⟨o, n, cap, rfl, hn, hc, hm, hf⟩ := sli_form ha
  subst hn
  repeat' ((conv => whnf); first
    | (refine And.intro rfl ?_)
    | (refine And.intro (by decide +kernel) ?_)
    | (refine And.intro trivial ?_)
    | (refine Exists.intro _ (And.intro rfl (And.intro rfl (And.intro (Nat.le_of_ble_eq_true rfl) ?_))))
    | (refine Exists.intro _ (And.intro rfl (And.intro rfl (And.intro rfl (And.intro (Nat.le_of_ble_eq_true rfl) ?_)))))
    | (refine And.intro (Exists.intro _ (And.intro rfl rfl)) ?_)
    | (exact fun hW => absurd hW (by decide +kernel))
    | (intro hW; (try simp only [Bool.not_true, Bool.not_false, Bool.not_eq_true', Bool.not_eq_false', decide_eq_true_eq, decide_eq_false_iff_not, reduceCtorEq, Bool.true_eq_false, Bool.false_eq_true, mk_size, List.size_toArray, ByteArray.size_append, ByteArray.size_extract, List.length_cons, List.length_nil, ba_get, ba_empty, Int.toNat_natCast] at hW))
    | (refine And.intro (?_ : _ → _) (?_ : _ → _))
    | (refine FinR.drop 0 (Nat.zero_le _) (Closed.zero _) rfl ?_)
    | (refine FinR.keep ?_)
    | (refine And.intro (det3_agg rfl) ?_)
    | (refine fL_mk ?_)
    | (refine And.intro (by (try simp only [mk_size, List.size_toArray, ByteArray.size_append, ByteArray.size_extract, List.length_cons, List.length_nil]); omega) ?_)
    | (refine And.intro (by (try simp only [mk_size, List.size_toArray, ByteArray.size_append, ByteArray.size_extract, List.length_cons, List.length_nil, wrap64_eq]); omega) ?_)
    | fail)
  refine LoopR.live (fun i : Nat => [(2, .ptr 0 0 0), (3, .ptr 1 0 0), (9, .lit (.slice o xs.length cap)), (10, I xs.length), (11, I i)]) (fun i => [bQ z36 44, bQ (picY (xs.take i)) 44]) (fun i => i ≤ xs.length) (fun i => xs.length - i) 0 ⟨rfl, rfl, rfl, rfl, rfl, trivial⟩ (.keep rfl) (Nat.zero_le _) ?_
  intro i hi
  have hpl := picY_len (xs.take i)
  by_cases hlt : i < xs.length
  · obtain ⟨x, hxi⟩ : ∃ x, xs[i]? = some x := ⟨_, List.getElem?_eq_getElem hlt⟩
    obtain ⟨ad, rfl, hb, hxx⟩ := hf i _ hxi
    have hp : pOk x = true := List.all_eq_true.1 hall _ (List.mem_of_getElem? hxi)
    have hs := pSet_lt (hx _ (List.mem_of_getElem? hxi)) hp
    have hld := fun C h => ldIn (W0 := W0) (s := 2) (enc := enY) hb hxx (k := i) hxi rfl (C := C) h
    have hsn : picY (xs.take (i + 1)) = madeK (picY (xs.take i)) (pSet x) (pInk x) 36 := by rw [take_snoc hxi, picY_snoc]
    have hsm := setL_made (picY (xs.take i)) (pSet x) (pInk x) 36
    have hlist : ∀ {W : World} {σ : List Blk} (K : Cont), (∀ L cap, L = selN (pSet x).testBit 36 → K (.sl (σ.length + 0) L.length 0 L.length cap) (σ ++ [outB L])) → ACall Try.prog W 102 [U (pSet x : Nat)] σ K :=
      fun K hK => d_list (pSet x) hs K fun cap => hK _ cap rfl
    repeat' ((conv => whnf); first
      | (refine And.intro rfl ?_)
      | (refine And.intro (by decide +kernel) ?_)
      | (refine And.intro trivial ?_)
      | (refine hld _ ?_)
      | (refine hlist _ (fun L cp hL => ?_))
      | (refine Exists.intro _ (And.intro rfl (And.intro rfl (And.intro (Nat.le_of_ble_eq_true rfl) ?_))))
      | (refine Exists.intro _ (And.intro rfl (And.intro rfl (And.intro rfl (And.intro (Nat.le_of_ble_eq_true rfl) ?_)))))
      | (refine And.intro (Exists.intro _ (And.intro rfl rfl)) ?_)
      | (exact fun hW => absurd hW (by decide +kernel))
      | (intro hW; (try simp only [Bool.not_true, Bool.not_false, Bool.not_eq_true', Bool.not_eq_false', decide_eq_true_eq, decide_eq_false_iff_not, reduceCtorEq, Bool.true_eq_false, Bool.false_eq_true, mk_size, List.size_toArray, ByteArray.size_append, ByteArray.size_extract, List.length_cons, List.length_nil, ba_get, ba_empty, Int.toNat_natCast] at hW))
      | (refine And.intro (?_ : _ → _) (?_ : _ → _))
      | (refine FinR.drop 0 (Nat.zero_le _) (Closed.zero _) rfl ?_)
      | (refine FinR.keep ?_)
      | (refine And.intro (det3_agg rfl) ?_)
      | (refine fL_mk ?_)
      | (refine And.intro (by (try simp only [mk_size, List.size_toArray, ByteArray.size_append, ByteArray.size_extract, List.length_cons, List.length_nil]); omega) ?_)
      | (refine And.intro (by (try simp only [mk_size, List.size_toArray, ByteArray.size_append, ByteArray.size_extract, List.length_cons, List.length_nil, wrap64_eq]); omega) ?_)
      | fail)
    all_goals first | (exfalso; omega) | skip
    have hLl : L.length ≤ 36 := by rw [hL]; exact selN_len _ _
    rw [← hL] at hsm
    refine LoopR.live (fun j : Nat => [(2, .ptr 0 0 0), (3, .ptr 1 0 0), (5, .ptr 2 0 0), (9, .lit (.slice (some ad) xs.length cap)), (10, I xs.length), (11, I i), (17, .sl 3 L.length 0 L.length cp), (18, I L.length), (19, I j)]) (fun j => [bQ z36 44, bQ (setL (picY (xs.take i)) (L.take j) (pInk x)) 44, ⟨[U (pSet x : Nat), I (pInk x)], 0, 93, 0, false, false⟩, outB L]) (fun j => j ≤ L.length) (fun j => L.length - j) 0 ⟨rfl, rfl, rfl, rfl, rfl, rfl, rfl, rfl, rfl, trivial⟩ (.keep rfl) (Nat.zero_le _) ?_
    intro j hj
    have hsl := setL_len (pInk x) (L.take j) (picY (xs.take i))
    rw [hpl] at hsl
    by_cases hlt2 : j < L.length
    · have hLj : L[j]? = some L[j] := List.getElem?_eq_getElem hlt2
      obtain ⟨m, hm, hm36⟩ := selN_mem (pSet x).testBit 36 L[j] (by rw [← hL]; exact List.getElem_mem hlt2)
      have e1 : (L[j]).tmod 6 = ((m % 6 : Nat) : Int) := by rw [hm, Int.tmod_eq_emod_of_nonneg (by omega)]; rfl
      have e2 : IntKind.i64.wrap ((L[j]).tdiv 6) = ((m / 6 : Nat) : Int) := by rw [hm, Int.tdiv_eq_ediv_of_nonneg (by omega), wrap_i64 _ (by omega) (by omega)]; rfl
      have hoff : 0 + 0 + (IntKind.i64.wrap ((L[j]).tdiv 6)).toNat * 6 + ((L[j]).tmod 6).toNat * 1 = m := by rw [e1, e2]; simp only [Int.toNat_natCast]; omega
      have hle : ∀ off, off = m → off + 1 ≤ ((setL (picY (xs.take i)) (L.take j) (pInk x)).map I).length := fun off ho => cell_le (by omega)
      have hle3 : ∀ off, off = j → off + 1 ≤ (L.map I).length := fun off ho => cell_le (by omega)
      have hce : ∀ off, off = j → mkAV false (((L.map I).drop off).take 1) = I L[j] := fun off ho => by subst ho; rw [cell_ld hlt2, getD_at hLj]
      have hst : ((setL (picY (xs.take i)) (L.take j) (pInk x)).map I).take (0 + 0 + (IntKind.i64.wrap ((L[j]).tdiv 6)).toNat * 6 + ((L[j]).tmod 6).toNat * 1) ++ [I (pInk x)] ++ ((setL (picY (xs.take i)) (L.take j) (pInk x)).map I).drop (0 + 0 + (IntKind.i64.wrap ((L[j]).tdiv 6)).toNat * 6 + ((L[j]).tmod 6).toNat * 1 + 1) = (setL (picY (xs.take i)) (L.take (j + 1)) (pInk x)).map I := by
        rw [hoff, cell_st (pInk x) (by omega), take_snoc hLj, setL_snoc, hm, Int.toNat_natCast]
      repeat' ((conv => whnf); first
        | (refine Exists.intro (outB L) (And.intro rfl (And.intro rfl (And.intro (hle3 _ (by rw [Int.toNat_natCast]; omega)) ?_))); rw [show (outB L).cells = L.map I from rfl, hce _ (by rw [Int.toNat_natCast]; omega)])
        | (refine Exists.intro (bQ (setL (picY (xs.take i)) (L.take j) (pInk x)) 44) (And.intro rfl (And.intro rfl (And.intro rfl (And.intro (hle _ hoff) ?_)))))
        | (refine And.intro rfl ?_)
        | (refine And.intro (by decide +kernel) ?_)
        | (refine And.intro trivial ?_)
        | (refine Exists.intro _ (And.intro rfl (And.intro rfl (And.intro (Nat.le_of_ble_eq_true rfl) ?_))))
        | (refine Exists.intro _ (And.intro rfl (And.intro rfl (And.intro rfl (And.intro (Nat.le_of_ble_eq_true rfl) ?_)))))
        | (refine And.intro (Exists.intro _ (And.intro rfl rfl)) ?_)
        | (exact fun hW => absurd hW (by decide +kernel))
        | (intro hW; (try simp only [Bool.not_true, Bool.not_false, Bool.not_eq_true', Bool.not_eq_false', decide_eq_true_eq, decide_eq_false_iff_not, reduceCtorEq, Bool.true_eq_false, Bool.false_eq_true, mk_size, List.size_toArray, ByteArray.size_append, ByteArray.size_extract, List.length_cons, List.length_nil, ba_get, ba_empty, Int.toNat_natCast] at hW))
        | (refine And.intro (?_ : _ → _) (?_ : _ → _))
        | (refine FinR.drop 0 (Nat.zero_le _) (Closed.zero _) rfl ?_)
        | (refine FinR.keep ?_)
        | (refine And.intro (det3_agg rfl) ?_)
        | (refine fL_mk ?_)
        | (refine And.intro (by (try simp only [mk_size, List.size_toArray, ByteArray.size_append, ByteArray.size_extract, List.length_cons, List.length_nil]); omega) ?_)
        | (refine And.intro (by (try simp only [mk_size, List.size_toArray, ByteArray.size_append, ByteArray.size_extract, List.length_cons, List.length_nil, wrap64_eq]); omega) ?_)
        | fail)
      all_goals first | (exfalso; omega) | skip
      refine Again.go (j + 1) ⟨rfl, rfl, rfl, rfl, rfl, rfl, rfl, rfl, slI' (wsucc' j (by omega)), trivial⟩ (.keep ?_) (by omega) (by omega)
      dsimp only [bQ]
      rw [← hst]
      rfl
    · obtain rfl : j = L.length := by omega
      rw [List.take_length, hsm, ← hsn]
      repeat' ((conv => whnf); first
        | (refine And.intro rfl ?_)
        | (refine And.intro (by decide +kernel) ?_)
        | (refine And.intro trivial ?_)
        | (refine Exists.intro _ (And.intro rfl (And.intro rfl (And.intro (Nat.le_of_ble_eq_true rfl) ?_))))
        | (refine Exists.intro _ (And.intro rfl (And.intro rfl (And.intro rfl (And.intro (Nat.le_of_ble_eq_true rfl) ?_)))))
        | (refine And.intro (Exists.intro _ (And.intro rfl rfl)) ?_)
        | (exact fun hW => absurd hW (by decide +kernel))
        | (intro hW; (try simp only [Bool.not_true, Bool.not_false, Bool.not_eq_true', Bool.not_eq_false', decide_eq_true_eq, decide_eq_false_iff_not, reduceCtorEq, Bool.true_eq_false, Bool.false_eq_true, mk_size, List.size_toArray, ByteArray.size_append, ByteArray.size_extract, List.length_cons, List.length_nil, ba_get, ba_empty, Int.toNat_natCast] at hW))
        | (refine And.intro (?_ : _ → _) (?_ : _ → _))
        | (refine FinR.drop 0 (Nat.zero_le _) (Closed.zero _) rfl ?_)
        | (refine FinR.keep ?_)
        | (refine And.intro (det3_agg rfl) ?_)
        | (refine fL_mk ?_)
        | (refine And.intro (by (try simp only [mk_size, List.size_toArray, ByteArray.size_append, ByteArray.size_extract, List.length_cons, List.length_nil]); omega) ?_)
        | (refine And.intro (by (try simp only [mk_size, List.size_toArray, ByteArray.size_append, ByteArray.size_extract, List.length_cons, List.length_nil, wrap64_eq]); omega) ?_)
        | fail)
      all_goals first | (exfalso; omega) | skip
      exact Again.go (i + 1) ⟨rfl, rfl, rfl, rfl, slI' (wsucc' i (by omega)), trivial⟩ (.drop 2 (Nat.zero_le _) rfl (closCons (belI 2 _) (closCons (belI 2 _) (closNil 2))) rfl) (by omega) (by omega)
  · obtain rfl : i = xs.length := by omega
    rw [List.take_length] at hpl ⊢
    repeat' ((conv => whnf); first
      | (refine Exists.intro (bQ (picY xs) 44) (And.intro rfl (And.intro rfl (And.intro (pic_le hpl rfl) ?_))); rw [show (bQ (picY xs) 44).cells = (picY xs).map I from rfl, pic_ld hpl _ rfl])
      | (refine Exists.intro _ (And.intro rfl (And.intro rfl (And.intro (pic_len hpl) (And.intro (Nat.le_of_ble_eq_true rfl) ?_)))))
      | (refine Exists.intro _ (And.intro rfl (And.intro rfl (And.intro (pic_rle hpl _) ?_))); rw [pic_res hpl _])
      | (refine FinR.drop 0 (Nat.zero_le _) (Closed.zero _) (belPi 0 _) ?_)
      | (refine And.intro rfl ?_)
      | (refine And.intro (by decide +kernel) ?_)
      | (refine And.intro trivial ?_)
      | (refine Exists.intro _ (And.intro rfl (And.intro rfl (And.intro (Nat.le_of_ble_eq_true rfl) ?_))))
      | (refine Exists.intro _ (And.intro rfl (And.intro rfl (And.intro rfl (And.intro (Nat.le_of_ble_eq_true rfl) ?_)))))
      | (refine And.intro (Exists.intro _ (And.intro rfl rfl)) ?_)
      | (exact fun hW => absurd hW (by decide +kernel))
      | (intro hW; (try simp only [Bool.not_true, Bool.not_false, Bool.not_eq_true', Bool.not_eq_false', decide_eq_true_eq, decide_eq_false_iff_not, reduceCtorEq, Bool.true_eq_false, Bool.false_eq_true, mk_size, List.size_toArray, ByteArray.size_append, ByteArray.size_extract, List.length_cons, List.length_nil, ba_get, ba_empty, Int.toNat_natCast] at hW))
      | (refine And.intro (?_ : _ → _) (?_ : _ → _))
      | (refine FinR.drop 0 (Nat.zero_le _) (Closed.zero _) rfl ?_)
      | (refine FinR.keep ?_)
      | (refine And.intro (det3_agg rfl) ?_)
      | (refine fL_mk ?_)
      | (refine And.intro (by (try simp only [mk_size, List.size_toArray, ByteArray.size_append, ByteArray.size_extract, List.length_cons, List.length_nil]); omega) ?_)
      | (refine And.intro (by (try simp only [mk_size, List.size_toArray, ByteArray.size_append, ByteArray.size_extract, List.length_cons, List.length_nil, wrap64_eq]); omega) ?_)
      | fail)
    all_goals first | (exfalso; omega) | exact h0
end Go.Proofs.Ythncpkdhcfaflaa
end

section
/- Contracts: right orders; the law. -/
set_option linter.unusedVariables false
set_option linter.unusedSimpArgs false
set_option maxRecDepth 100000
set_option maxHeartbeats 4000000
namespace Go.Proofs.Ythncpkdhcfaflaa
open Go Go.RowKit Go.Proofs.Ythncpkdhcfaflaa.Abs
variable {W0 : World} {σ : List Blk}
theorem ordL_len (xs : List (List Int)) (ord : List Int) : (ordL xs ord).length = ord.length := by rw [ordL, List.length_map]
theorem c_ordered (a b : AV) (xs : List (List Int)) (ord : List Int) (ha : Sli W0 [] 2 enY a xs) (hb' : Sli W0 [] 1 en1 b ord) (hl : xs.length ≤ 1048576) (ho : inR xs.length ord) (hl2 : ord.length ≤ 1048576) (K : Cont) (h0 : ∀ cap, K (.sl 0 (ordL xs ord).length 0 (ordL xs ord).length cap) [lyB (ordL xs ord)]) : ACall Try.prog W0 72 [a, b] [] K := by
  refine by72 (Nat.le_of_ble_eq_true rfl) ?_
  obtain ⟨o, n, cap, rfl, hn, hc, hm, hf⟩ := sli_form ha
  obtain ⟨o2, n2, cap2, rfl, hn2, hc2, hm2, hf2⟩ := sli_form hb'
  subst hn; subst hn2
  repeat' ((conv => whnf); first
    | (refine And.intro rfl ?_)
    | (refine And.intro (by decide +kernel) ?_)
    | (refine And.intro trivial ?_)
    | (refine Exists.intro _ (And.intro rfl (And.intro rfl (And.intro (Nat.le_of_ble_eq_true rfl) ?_))))
    | (refine Exists.intro _ (And.intro rfl (And.intro rfl (And.intro rfl (And.intro (Nat.le_of_ble_eq_true rfl) ?_)))))
    | (refine And.intro (Exists.intro _ (And.intro rfl rfl)) ?_)
    | (exact fun hW => absurd hW (by decide +kernel))
    | (intro hW; (try simp only [Bool.not_true, Bool.not_false, Bool.not_eq_true', Bool.not_eq_false', decide_eq_true_eq, decide_eq_false_iff_not, reduceCtorEq, Bool.true_eq_false, Bool.false_eq_true, mk_size, List.size_toArray, ByteArray.size_append, ByteArray.size_extract, List.length_cons, List.length_nil, ba_get, ba_empty, Int.toNat_natCast] at hW))
    | (refine And.intro (?_ : _ → _) (?_ : _ → _))
    | (refine FinR.drop 0 (Nat.zero_le _) (Closed.zero _) rfl ?_)
    | (refine FinR.keep ?_)
    | (refine And.intro (det3_agg rfl) ?_)
    | (refine fL_mk ?_)
    | (refine And.intro (by (try simp only [mk_size, List.size_toArray, ByteArray.size_append, ByteArray.size_extract, List.length_cons, List.length_nil]); omega) ?_)
    | (refine And.intro (by (try simp only [mk_size, List.size_toArray, ByteArray.size_append, ByteArray.size_extract, List.length_cons, List.length_nil, wrap64_eq]); omega) ?_)
    | fail)
  refine LoopR.live (fun y : Nat × Nat => [(0, .lit (.slice o xs.length cap)), (5, .sl 0 (ordL xs (ord.take y.1)).length 0 (ordL xs (ord.take y.1)).length y.2), (9, .lit (.slice o2 ord.length cap2)), (10, I ord.length), (11, I y.1)]) (fun y => [lyB (ordL xs (ord.take y.1))]) (fun y => y.1 ≤ ord.length) (fun y => ord.length - y.1) (0, 0) ⟨rfl, rfl, rfl, rfl, rfl, trivial⟩ (.keep rfl) (Nat.zero_le _) ?_
  rintro ⟨i, cp⟩ hi
  dsimp only at hi
  have hsl : (ordL xs (ord.take i)).length = i := by rw [ordL_len, List.length_take, Nat.min_eq_left hi]
  by_cases hlt : i < ord.length
  · have hoi : ord[i]? = some ord[i] := List.getElem?_eq_getElem hlt
    obtain ⟨ad2, rfl, hb2, hxx2⟩ := hf2 i _ hoi
    have hk := ho _ (List.getElem_mem hlt)
    have hxi := xget hk
    obtain ⟨ad, rfl, hb, hxx⟩ := hf _ _ hxi
    have hsn : ordL xs (ord.take (i + 1)) = ordL xs (ord.take i) ++ [xs.getD ord[i].toNat []] := by rw [take_snoc hoi, ordL_snoc]
    have hld := fun C h => ldIn (W0 := W0) (s := 2) (enc := enY) hb hxx hxi rfl (C := C) h
    have hld2 := fun C h => ldIn (W0 := W0) (s := 1) (enc := en1) hb2 hxx2 (k := i) hoi rfl (C := C) h
    have hly := lyC_len (ordL xs (ord.take i))
    repeat' ((conv => whnf); first
      | (refine And.intro rfl ?_)
      | (refine And.intro (by decide +kernel) ?_)
      | (refine And.intro trivial ?_)
      | (refine hld _ ?_)
      | (refine hld2 _ ?_)
      | (refine Exists.intro _ (And.intro rfl (And.intro rfl (And.intro rfl (And.intro rfl (And.intro rfl (And.intro rfl (And.intro (by decide) (And.intro (by simp [hly]) (And.intro rfl (And.intro (by (try dsimp only); unfold maxLen; omega) (And.intro (by (try dsimp only); omega) (fun cap' hcap1 hcap2 => ?_)))))))))))))
      | (refine Exists.intro _ (And.intro rfl (And.intro rfl (And.intro (Nat.le_of_ble_eq_true rfl) ?_))))
      | (refine Exists.intro _ (And.intro rfl (And.intro rfl (And.intro rfl (And.intro (Nat.le_of_ble_eq_true rfl) ?_)))))
      | (refine And.intro (Exists.intro _ (And.intro rfl rfl)) ?_)
      | (exact fun hW => absurd hW (by decide +kernel))
      | (intro hW; (try simp only [Bool.not_true, Bool.not_false, Bool.not_eq_true', Bool.not_eq_false', decide_eq_true_eq, decide_eq_false_iff_not, reduceCtorEq, Bool.true_eq_false, Bool.false_eq_true, mk_size, List.size_toArray, ByteArray.size_append, ByteArray.size_extract, List.length_cons, List.length_nil, ba_get, ba_empty, Int.toNat_natCast] at hW))
      | (refine And.intro (?_ : _ → _) (?_ : _ → _))
      | (refine FinR.drop 0 (Nat.zero_le _) (Closed.zero _) rfl ?_)
      | (refine FinR.keep ?_)
      | (refine And.intro (det3_agg rfl) ?_)
      | (refine fL_mk ?_)
      | (refine And.intro (by (try simp only [mk_size, List.size_toArray, ByteArray.size_append, ByteArray.size_extract, List.length_cons, List.length_nil]); omega) ?_)
      | (refine And.intro (by (try simp only [mk_size, List.size_toArray, ByteArray.size_append, ByteArray.size_extract, List.length_cons, List.length_nil, wrap64_eq]); omega) ?_)
      | fail)
    all_goals first | (exfalso; omega) | skip
    refine Again.go (i + 1, _) ⟨rfl, (by show AV.sl _ _ _ _ _ = AV.sl _ _ _ _ _; rw [hsn, List.length_append]; rfl), rfl, rfl, slI' (wsucc' i (by omega)), trivial⟩ (.keep ?_) (by dsimp only; omega) (by dsimp only; omega)
    dsimp only [lyB]
    rw [hsn, List.length_append, lyC_snoc]; rfl
  · obtain rfl : i = ord.length := by omega
    rw [List.take_length]
    have h0 := h0 cp
    repeat' ((conv => whnf); first
      | (refine And.intro rfl ?_)
      | (refine And.intro (by decide +kernel) ?_)
      | (refine And.intro trivial ?_)
      | (refine Exists.intro _ (And.intro rfl (And.intro rfl (And.intro (Nat.le_of_ble_eq_true rfl) ?_))))
      | (refine Exists.intro _ (And.intro rfl (And.intro rfl (And.intro rfl (And.intro (Nat.le_of_ble_eq_true rfl) ?_)))))
      | (refine And.intro (Exists.intro _ (And.intro rfl rfl)) ?_)
      | (exact fun hW => absurd hW (by decide +kernel))
      | (intro hW; (try simp only [Bool.not_true, Bool.not_false, Bool.not_eq_true', Bool.not_eq_false', decide_eq_true_eq, decide_eq_false_iff_not, reduceCtorEq, Bool.true_eq_false, Bool.false_eq_true, mk_size, List.size_toArray, ByteArray.size_append, ByteArray.size_extract, List.length_cons, List.length_nil, ba_get, ba_empty, Int.toNat_natCast] at hW))
      | (refine And.intro (?_ : _ → _) (?_ : _ → _))
      | (refine FinR.drop 0 (Nat.zero_le _) (Closed.zero _) rfl ?_)
      | (refine FinR.keep ?_)
      | (refine And.intro (det3_agg rfl) ?_)
      | (refine fL_mk ?_)
      | (refine And.intro (by (try simp only [mk_size, List.size_toArray, ByteArray.size_append, ByteArray.size_extract, List.length_cons, List.length_nil]); omega) ?_)
      | (refine And.intro (by (try simp only [mk_size, List.size_toArray, ByteArray.size_append, ByteArray.size_extract, List.length_cons, List.length_nil, wrap64_eq]); omega) ?_)
      | fail)
    all_goals first | (exfalso; omega) | exact h0
theorem sh_lyB (k : Nat) (xs : List (List Int)) : shB k [lyB xs] = [lyB xs] := by simp only [shB, List.map_cons, List.map_nil, lyB, sh_lyC]
theorem d_ordered (a b : AV) (xs : List (List Int)) (ord : List Int) (ha : Sli W0 σ 2 enY a xs) (hb : Sli W0 σ 1 en1 b ord) (hl : xs.length ≤ 1048576) (ho : inR xs.length ord) (hl2 : ord.length ≤ 1048576) (K : Cont) (h0 : ∀ cap, K (.sl (σ.length + 0) (ordL xs ord).length 0 (ordL xs ord).length cap) (σ ++ [lyB (ordL xs ord)])) : ACall Try.prog W0 72 [a, b] σ K :=
  lift_S2 (ι := Nat) (fun cap => .sl 0 (ordL xs ord).length 0 (ordL xs ord).length cap) (fun _ => [lyB (ordL xs ord)]) (by kernel_rfl) ha hb (fun W1 a' b' h h' K hK => c_ordered a' b' xs ord h h' hl ho hl2 K hK) K (fun cap => by rw [sh_lyB]; exact h0 cap)
theorem d_picture (a : AV) (xs : List (List Int)) (ha : Sli W0 σ 2 enY a xs) (hx : ∀ x ∈ xs, x.length = 9) (hall : xs.all pOk = true) (hl : xs.length ≤ 1048576) (K : Cont) (h0 : K (Pi (picY xs)) σ) : ACall Try.prog W0 71 [a] σ K :=
  lift_S (by kernel_rfl) (fun k => sh_Pi k _) ha (fun W1 a' h K hK => c_picture a' xs h hx hall hl K hK) K h0
theorem ordL_ok {xs : List (List Int)} {ord : List Int} (hx : ∀ x ∈ xs, x.length = 9) (hall : xs.all pOk = true) (ho : inR xs.length ord) : (∀ x ∈ ordL xs ord, x.length = 9) ∧ (ordL xs ord).all pOk = true := by
  have h : ∀ x ∈ ordL xs ord, x ∈ xs := by
    intro x hxm
    obtain ⟨k, hk, rfl⟩ := List.mem_map.1 hxm
    exact List.mem_of_getElem? (xget (ho k hk))
  exact ⟨fun x hm => hx x (h x hm), List.all_eq_true.2 fun x hm => List.all_eq_true.1 hall x (h x hm)⟩
end Go.Proofs.Ythncpkdhcfaflaa
end

section
/- Contracts: lists in order; blocks that grow. -/
set_option linter.unusedVariables false
set_option linter.unusedSimpArgs false
set_option maxRecDepth 100000
set_option maxHeartbeats 4000000
namespace Go.Proofs.Ythncpkdhcfaflaa
open Go Go.RowKit Go.Proofs.Ythncpkdhcfaflaa.Abs
variable {W0 : World} {σ : List Blk}
theorem getl {σ : List Blk} {B : Blk} : (σ ++ [B])[σ.length]? = some B := by simp
theorem set_last {σ : List Blk} {B B' : Blk} : (σ ++ [B]).set σ.length B' = σ ++ [B'] := by
  rw [List.set_append_right _ _ (Nat.le_refl _), Nat.sub_self]; rfl
theorem getx1 {σ τ : List Blk} {b : Nat} {B : Blk} (h : σ[b]? = some B) : (σ ++ τ)[b]? = some B := by
  rw [List.getElem?_append_left (getElem?_lt h)]; exact h
/-! lists before others -/
def lexLt : List Int → List Int → Bool
  | [], [] => false
  | [], _ :: _ => true
  | _ :: _, [] => false
  | x :: a, y :: b => if x = y then lexLt a b else decide (x < y)
theorem lex_irr : ∀ a, lexLt a a = false
  | [] => rfl
  | x :: a => by rw [lexLt, if_pos rfl]; exact lex_irr a
theorem lex_tot : ∀ {a b : List Int}, lexLt a b = false → lexLt b a = false → a = b
  | [], [], _, _ => rfl
  | [], _ :: _, h, _ => by cases h
  | _ :: _, [], _, h => by cases h
  | x :: a, y :: b, h1, h2 => by
    rw [lexLt] at h1 h2
    by_cases e : x = y
    · subst e
      rw [if_pos rfl] at h1 h2
      rw [lex_tot h1 h2]
    · rw [if_neg e] at h1
      rw [if_neg (fun h => e h.symm)] at h2
      simp at h1 h2; omega
theorem lex_trans : ∀ {a b c : List Int}, lexLt a b = true → lexLt b c = true → lexLt a c = true
  | [], [], _, h, _ => by cases h
  | [], _ :: _, [], _, h => by cases h
  | [], _ :: _, _ :: _, _, _ => rfl
  | _ :: _, [], _, h, _ => by cases h
  | _ :: _, _ :: _, [], _, h => by cases h
  | x :: a, y :: b, z :: c, h1, h2 => by
    rw [lexLt] at h1 h2 ⊢
    by_cases e : x = y
    · subst e
      rw [if_pos rfl] at h1
      by_cases e2 : x = z
      · subst e2
        rw [if_pos rfl] at h2 ⊢
        exact lex_trans h1 h2
      · rw [if_neg e2] at h2 ⊢; exact h2
    · rw [if_neg e] at h1
      by_cases e2 : y = z
      · subst e2; rw [if_neg e]; exact h1
      · rw [if_neg e2] at h2
        simp at h1 h2
        rw [if_neg (by omega)]; simp; omega
def sooner (a b : List Int) : Bool := if a.length = b.length then lexLt a b else decide (a.length < b.length)
theorem so_irr (a : List Int) : sooner a a = false := by rw [sooner, if_pos rfl]; exact lex_irr a
theorem so_tot {a b : List Int} (h1 : sooner a b = false) (h2 : sooner b a = false) : a = b := by
  unfold sooner at h1 h2
  by_cases e : a.length = b.length
  · rw [if_pos e] at h1
    rw [if_pos e.symm] at h2
    exact lex_tot h1 h2
  · rw [if_neg e] at h1
    rw [if_neg (fun h => e h.symm)] at h2
    simp at h1 h2; omega
theorem so_trans {a b c : List Int} (h1 : sooner a b = true) (h2 : sooner b c = true) : sooner a c = true := by
  unfold sooner at h1 h2 ⊢
  by_cases e : a.length = b.length
  · rw [if_pos e] at h1
    by_cases e2 : b.length = c.length
    · rw [if_pos e2] at h2
      rw [if_pos (by omega)]; exact lex_trans h1 h2
    · rw [if_neg e2] at h2
      rw [if_neg (by omega)]; simp at h2 ⊢; omega
  · rw [if_neg e] at h1
    by_cases e2 : b.length = c.length
    · rw [if_neg (by omega)]; simp at h1 ⊢; omega
    · rw [if_neg e2] at h2
      simp at h1 h2
      rw [if_neg (by omega)]; simp; omega
theorem so_neg {a b c : List Int} (h1 : sooner a b = false) (h2 : sooner b c = false) : sooner a c = false := by
  cases h : sooner a c with
  | false => rfl
  | true =>
    cases h3 : sooner b a with
    | true => rw [so_trans h3 h] at h2; cases h2
    | false =>
      have e := so_tot h1 h3
      subst e; rw [h] at h2; cases h2
theorem so_asym {a b : List Int} (h : sooner a b = true) : sooner b a = false := by
  cases h2 : sooner b a with
  | false => rfl
  | true => have := so_trans h h2; rw [so_irr] at this; cases this
/-! the first one of the shortest -/
section
variable (M : Nat → Bool) (s : Nat → List Int) (pl : List Int)
def bestS : Nat → List Int
  | 0 => pl
  | c + 1 => if M c && sooner (s c) (bestS c) then s c else bestS c
def takeI (o : Option (List Int)) (x : List Int) : Bool := match o with
  | none => true
  | some b => sooner x b
def bestI : Nat → Option (List Int)
  | 0 => none
  | c + 1 => if M c && takeI (bestI c) (s c) then some (s c) else bestI c
theorem best_inv : ∀ c, bestS M s pl c = match bestI M s c with
    | none => pl
    | some b => if sooner b pl then b else pl
  | 0 => rfl
  | c + 1 => by
    have ih := best_inv c
    rw [bestS, bestI, ih]
    cases hM : M c with
    | false => simp
    | true =>
      simp only [Bool.true_and]
      cases hb : bestI M s c with
      | none => simp [takeI]
      | some b =>
        simp only [takeI]
        by_cases h1 : sooner (s c) b = true
        · by_cases h2 : sooner b pl = true
          · simp [h1, h2, so_trans h1 h2]
          · simp [h1, h2]
        · by_cases h2 : sooner b pl = true
          · simp [h1, h2]
          · simp [h1, h2, so_neg (Bool.not_eq_true _ ▸ h1 : sooner (s c) b = false) (Bool.not_eq_true _ ▸ h2 : sooner b pl = false)]
theorem best_end {n : Nat} (hM : M n = true) (hs : s n = pl) : bestI M s (n + 1) = some (bestS M s pl (n + 1)) := by
  have h0 := best_inv M s pl n
  rw [bestS, bestI, hM, hs, h0, Bool.true_and, Bool.true_and]
  cases hb : bestI M s n with
  | none => simp [takeI, so_irr]
  | some b =>
    simp only [takeI]
    by_cases h1 : sooner pl b = true
    · simp [h1, so_asym h1, so_irr]
    · by_cases h2 : sooner b pl = true
      · simp [h1, h2]
      · rw [so_tot (Bool.not_eq_true _ ▸ h1 : sooner pl b = false) (Bool.not_eq_true _ ▸ h2 : sooner b pl = false)]; simp [so_irr]
end
/-! the lists -/
theorem selN_true : ∀ n, selN (fun _ => true) n = (List.range n).map (fun i : Nat => (i : Int))
  | 0 => rfl
  | n + 1 => by rw [selN_succ, selN_true n, if_pos rfl, List.range_succ, List.map_append]; rfl
abbrev plainL (n : Nat) : List Int := selN (fun _ => true) n
theorem plain_ordL (xs : List (List Int)) : ordL xs (plainL xs.length) = xs := by
  refine List.ext_getElem? fun i => ?_
  rw [plainL, selN_true, ordL, List.map_map, List.getElem?_map]
  by_cases h : i < xs.length
  · rw [List.getElem?_range h, Option.map_some]
    show some (xs.getD ((i : Nat) : Int).toNat []) = _
    rw [Int.toNat_natCast, List.getD_eq_getElem?_getD, List.getElem?_eq_getElem h]; rfl
  · rw [List.getElem?_eq_none (by rw [List.length_range]; omega), List.getElem?_eq_none (by omega)]; rfl
theorem selN_inR (f : Nat → Bool) (n : Nat) : inR n (selN f n) := fun k hk => by
  obtain ⟨m, rfl, hm⟩ := selN_mem f n k hk
  omega
theorem c_l8Plain (n : Nat) (hn : n ≤ 1048576) (K : Cont) (h0 : ∀ cap, K (.sl 0 (plainL n).length 0 (plainL n).length cap) [outB (plainL n)]) : ACall Try.prog W0 75 [I n] [] K := by
  refine by75 (Nat.le_of_ble_eq_true rfl) ?_
  repeat' ((conv => whnf); first
    | (refine And.intro rfl ?_)
    | (refine And.intro (by decide +kernel) ?_)
    | (refine And.intro trivial ?_)
    | (refine Exists.intro _ (And.intro rfl (And.intro rfl (And.intro (Nat.le_of_ble_eq_true rfl) ?_))))
    | (refine Exists.intro _ (And.intro rfl (And.intro rfl (And.intro rfl (And.intro (Nat.le_of_ble_eq_true rfl) ?_)))))
    | (refine And.intro (Exists.intro _ (And.intro rfl rfl)) ?_)
    | (exact fun hW => absurd hW (by decide +kernel))
    | (intro hW; (try simp only [Bool.not_true, Bool.not_false, Bool.not_eq_true', Bool.not_eq_false', decide_eq_true_eq, decide_eq_false_iff_not, reduceCtorEq, Bool.true_eq_false, Bool.false_eq_true, mk_size, List.size_toArray, ByteArray.size_append, ByteArray.size_extract, List.length_cons, List.length_nil, ba_get, ba_empty, Int.toNat_natCast] at hW))
    | (refine And.intro (?_ : _ → _) (?_ : _ → _))
    | (refine FinR.drop 0 (Nat.zero_le _) (Closed.zero _) rfl ?_)
    | (refine FinR.keep ?_)
    | (refine And.intro (det3_agg rfl) ?_)
    | (refine fL_mk ?_)
    | (refine And.intro (by (try simp only [mk_size, List.size_toArray, ByteArray.size_append, ByteArray.size_extract, List.length_cons, List.length_nil]); omega) ?_)
    | (refine And.intro (by (try simp only [mk_size, List.size_toArray, ByteArray.size_append, ByteArray.size_extract, List.length_cons, List.length_nil, wrap64_eq]); omega) ?_)
    | fail)
  refine LoopR.live (fun y : Nat × Nat => [(0, I n), (3, .sl 0 (plainL y.1).length 0 (plainL y.1).length y.2), (4, I y.1)]) (fun y => [outB (plainL y.1)]) (fun y => y.1 ≤ n) (fun y => n - y.1) (0, 0) ⟨rfl, rfl, rfl, trivial⟩ (.keep rfl) (Nat.zero_le _) ?_
  rintro ⟨i, cp⟩ hi
  dsimp only at hi
  have hsl : (plainL i).length ≤ i := selN_len _ i
  have hq : plainL (i + 1) = plainL i ++ [(i : Int)] := selN_succ (fun _ => true) i
  by_cases hlt : i < n
  · skip
    repeat' ((conv => whnf); first
      | (refine And.intro rfl ?_)
      | (refine And.intro (by decide +kernel) ?_)
      | (refine And.intro trivial ?_)
      | (refine Exists.intro _ (And.intro rfl (And.intro rfl (And.intro rfl (And.intro rfl (And.intro rfl (And.intro rfl (And.intro (by decide) (And.intro (by simp [List.length_map]) (And.intro rfl (And.intro (by (try dsimp only); unfold maxLen; omega) (And.intro (by (try dsimp only); omega) (fun cap' hcap1 hcap2 => ?_)))))))))))))
      | (refine Exists.intro _ (And.intro rfl (And.intro rfl (And.intro (Nat.le_of_ble_eq_true rfl) ?_))))
      | (refine Exists.intro _ (And.intro rfl (And.intro rfl (And.intro rfl (And.intro (Nat.le_of_ble_eq_true rfl) ?_)))))
      | (refine And.intro (Exists.intro _ (And.intro rfl rfl)) ?_)
      | (exact fun hW => absurd hW (by decide +kernel))
      | (intro hW; (try simp only [Bool.not_true, Bool.not_false, Bool.not_eq_true', Bool.not_eq_false', decide_eq_true_eq, decide_eq_false_iff_not, reduceCtorEq, Bool.true_eq_false, Bool.false_eq_true, mk_size, List.size_toArray, ByteArray.size_append, ByteArray.size_extract, List.length_cons, List.length_nil, ba_get, ba_empty, Int.toNat_natCast] at hW))
      | (refine And.intro (?_ : _ → _) (?_ : _ → _))
      | (refine FinR.drop 0 (Nat.zero_le _) (Closed.zero _) rfl ?_)
      | (refine FinR.keep ?_)
      | (refine And.intro (det3_agg rfl) ?_)
      | (refine fL_mk ?_)
      | (refine And.intro (by (try simp only [mk_size, List.size_toArray, ByteArray.size_append, ByteArray.size_extract, List.length_cons, List.length_nil]); omega) ?_)
      | (refine And.intro (by (try simp only [mk_size, List.size_toArray, ByteArray.size_append, ByteArray.size_extract, List.length_cons, List.length_nil, wrap64_eq]); omega) ?_)
      | fail)
    all_goals first | (exfalso; omega) | skip
    refine Again.go (i + 1, _) ⟨rfl, (by show AV.sl _ _ _ _ _ = AV.sl _ _ _ _ _; rw [hq, List.length_append]; rfl), slI' (wsucc' i (by omega)), trivial⟩ (.keep ?_) (by dsimp only; omega) (by dsimp only; omega)
    dsimp only [outB]
    rw [hq, List.length_append, List.map_append]; rfl
  · obtain rfl : i = n := by omega
    have h0 := h0 cp
    repeat' ((conv => whnf); first
      | (refine And.intro rfl ?_)
      | (refine And.intro (by decide +kernel) ?_)
      | (refine And.intro trivial ?_)
      | (refine Exists.intro _ (And.intro rfl (And.intro rfl (And.intro (Nat.le_of_ble_eq_true rfl) ?_))))
      | (refine Exists.intro _ (And.intro rfl (And.intro rfl (And.intro rfl (And.intro (Nat.le_of_ble_eq_true rfl) ?_)))))
      | (refine And.intro (Exists.intro _ (And.intro rfl rfl)) ?_)
      | (exact fun hW => absurd hW (by decide +kernel))
      | (intro hW; (try simp only [Bool.not_true, Bool.not_false, Bool.not_eq_true', Bool.not_eq_false', decide_eq_true_eq, decide_eq_false_iff_not, reduceCtorEq, Bool.true_eq_false, Bool.false_eq_true, mk_size, List.size_toArray, ByteArray.size_append, ByteArray.size_extract, List.length_cons, List.length_nil, ba_get, ba_empty, Int.toNat_natCast] at hW))
      | (refine And.intro (?_ : _ → _) (?_ : _ → _))
      | (refine FinR.drop 0 (Nat.zero_le _) (Closed.zero _) rfl ?_)
      | (refine FinR.keep ?_)
      | (refine And.intro (det3_agg rfl) ?_)
      | (refine fL_mk ?_)
      | (refine And.intro (by (try simp only [mk_size, List.size_toArray, ByteArray.size_append, ByteArray.size_extract, List.length_cons, List.length_nil]); omega) ?_)
      | (refine And.intro (by (try simp only [mk_size, List.size_toArray, ByteArray.size_append, ByteArray.size_extract, List.length_cons, List.length_nil, wrap64_eq]); omega) ?_)
      | fail)
    all_goals first | (exfalso; omega) | exact h0
theorem lex_drop {a b : List Int} : ∀ {i : Nat} (hi : i ≤ a.length) (hj : i ≤ b.length), a.take i = b.take i → lexLt a b = lexLt (a.drop i) (b.drop i)
  | 0, _, _, _ => rfl
  | i + 1, h1, h2, h => by
    match a, b, h1, h2 with
    | x :: a, y :: b, h1, h2 =>
      rw [List.take_succ_cons, List.take_succ_cons] at h
      injection h with e1 e2
      subst e1
      rw [lexLt, if_pos rfl]
      exact lex_drop (by simpa using h1) (by simpa using h2) e2
theorem c_l8Sooner (a b : AV) (l m : List Int) (ha : Sli W0 [] 1 en1 a l) (hb' : Sli W0 [] 1 en1 b m) (hl : l.length ≤ 1048576) (hm' : m.length ≤ 1048576) (K : Cont) (h0 : K (Bo (sooner l m)) []) : ACall Try.prog W0 76 [a, b] [] K := by
  refine by76 (Nat.le_of_ble_eq_true rfl) ?_
  obtain ⟨o, n, cap, rfl, hn, hc, hm, hf⟩ := sli_form ha
  obtain ⟨o2, n2, cap2, rfl, hn2, hc2, hm2, hf2⟩ := sli_form hb'
  subst hn; subst hn2
  by_cases hlen : l.length = m.length
  · rw [sooner, if_pos hlen] at h0
    repeat' ((conv => whnf); first
      | (refine And.intro rfl ?_)
      | (refine And.intro (by decide +kernel) ?_)
      | (refine And.intro trivial ?_)
      | (refine Exists.intro _ (And.intro rfl (And.intro rfl (And.intro (Nat.le_of_ble_eq_true rfl) ?_))))
      | (refine Exists.intro _ (And.intro rfl (And.intro rfl (And.intro rfl (And.intro (Nat.le_of_ble_eq_true rfl) ?_)))))
      | (refine And.intro (Exists.intro _ (And.intro rfl rfl)) ?_)
      | (exact fun hW => absurd hW (by decide +kernel))
      | (intro hW; (try simp only [Bool.not_true, Bool.not_false, Bool.not_eq_true', Bool.not_eq_false', decide_eq_true_eq, decide_eq_false_iff_not, reduceCtorEq, Bool.true_eq_false, Bool.false_eq_true, mk_size, List.size_toArray, ByteArray.size_append, ByteArray.size_extract, List.length_cons, List.length_nil, ba_get, ba_empty, Int.toNat_natCast] at hW))
      | (refine And.intro (?_ : _ → _) (?_ : _ → _))
      | (refine FinR.drop 0 (Nat.zero_le _) (Closed.zero _) rfl ?_)
      | (refine FinR.keep ?_)
      | (refine And.intro (det3_agg rfl) ?_)
      | (refine fL_mk ?_)
      | (refine And.intro (by (try simp only [mk_size, List.size_toArray, ByteArray.size_append, ByteArray.size_extract, List.length_cons, List.length_nil]); omega) ?_)
      | (refine And.intro (by (try simp only [mk_size, List.size_toArray, ByteArray.size_append, ByteArray.size_extract, List.length_cons, List.length_nil, wrap64_eq]); omega) ?_)
      | fail)
    all_goals first | (exfalso; omega) | (exfalso; simp_all; done) | skip
    refine LoopR.live (fun i : Nat => [(0, .lit (.slice o l.length cap)), (1, .lit (.slice o2 m.length cap2)), (5, I i)]) (fun i => []) (fun i => i ≤ l.length ∧ l.take i = m.take i) (fun i => l.length - i) 0 ⟨rfl, rfl, rfl, trivial⟩ (.keep rfl) ⟨Nat.zero_le _, rfl⟩ ?_
    rintro i ⟨hi, ht⟩
    have hld0 := lex_drop hi (by omega) ht
    by_cases hlt : i < l.length
    · have hxi : l[i]? = some l[i] := List.getElem?_eq_getElem hlt
      have hyi : m[i]? = some m[i] := List.getElem?_eq_getElem (by omega)
      obtain ⟨ad, rfl, hb, hxx⟩ := hf i _ hxi
      obtain ⟨ad2, rfl, hb2, hxx2⟩ := hf2 i _ hyi
      have hld := fun C h => ldIn (W0 := W0) (s := 1) (enc := en1) hb hxx (k := i) hxi rfl (C := C) h
      have hld2 := fun C h => ldIn (W0 := W0) (s := 1) (enc := en1) hb2 hxx2 (k := i) hyi rfl (C := C) h
      rw [List.drop_eq_getElem_cons hlt, List.drop_eq_getElem_cons (show i < m.length by omega), lexLt] at hld0
      by_cases he : l[i] = m[i]
      · skip
        repeat' ((conv => whnf); first
          | (refine And.intro rfl ?_)
          | (refine And.intro (by decide +kernel) ?_)
          | (refine And.intro trivial ?_)
          | (refine And.intro rfl (hld _ ?_))
          | (refine And.intro rfl (hld2 _ ?_))
          | (refine hld _ ?_)
          | (refine hld2 _ ?_)
          | (refine Exists.intro _ (And.intro rfl (And.intro rfl (And.intro (Nat.le_of_ble_eq_true rfl) ?_))))
          | (refine Exists.intro _ (And.intro rfl (And.intro rfl (And.intro rfl (And.intro (Nat.le_of_ble_eq_true rfl) ?_)))))
          | (refine And.intro (Exists.intro _ (And.intro rfl rfl)) ?_)
          | (exact fun hW => absurd hW (by decide +kernel))
          | (intro hW; (try simp only [Bool.not_true, Bool.not_false, Bool.not_eq_true', Bool.not_eq_false', decide_eq_true_eq, decide_eq_false_iff_not, reduceCtorEq, Bool.true_eq_false, Bool.false_eq_true, mk_size, List.size_toArray, ByteArray.size_append, ByteArray.size_extract, List.length_cons, List.length_nil, ba_get, ba_empty, Int.toNat_natCast] at hW))
          | (refine And.intro (?_ : _ → _) (?_ : _ → _))
          | (refine FinR.drop 0 (Nat.zero_le _) (Closed.zero _) rfl ?_)
          | (refine FinR.keep ?_)
          | (refine And.intro (det3_agg rfl) ?_)
          | (refine fL_mk ?_)
          | (refine And.intro (by (try simp only [mk_size, List.size_toArray, ByteArray.size_append, ByteArray.size_extract, List.length_cons, List.length_nil]); omega) ?_)
          | (refine And.intro (by (try simp only [mk_size, List.size_toArray, ByteArray.size_append, ByteArray.size_extract, List.length_cons, List.length_nil, wrap64_eq]); omega) ?_)
          | fail)
        all_goals first | (exfalso; omega) | (exfalso; simp_all; done) | skip
        exact Again.go (i + 1) ⟨rfl, rfl, slI' (wsucc' i (by omega)), trivial⟩ (.keep rfl) ⟨by omega, by rw [take_snoc hxi, take_snoc hyi, ht, he]⟩ (by omega)
      · rw [if_neg he] at hld0
        rw [hld0] at h0
        repeat' ((conv => whnf); first
          | (refine And.intro rfl ?_)
          | (refine And.intro (by decide +kernel) ?_)
          | (refine And.intro trivial ?_)
          | (refine And.intro rfl (hld _ ?_))
          | (refine And.intro rfl (hld2 _ ?_))
          | (refine hld _ ?_)
          | (refine hld2 _ ?_)
          | (refine Exists.intro _ (And.intro rfl (And.intro rfl (And.intro (Nat.le_of_ble_eq_true rfl) ?_))))
          | (refine Exists.intro _ (And.intro rfl (And.intro rfl (And.intro rfl (And.intro (Nat.le_of_ble_eq_true rfl) ?_)))))
          | (refine And.intro (Exists.intro _ (And.intro rfl rfl)) ?_)
          | (exact fun hW => absurd hW (by decide +kernel))
          | (intro hW; (try simp only [Bool.not_true, Bool.not_false, Bool.not_eq_true', Bool.not_eq_false', decide_eq_true_eq, decide_eq_false_iff_not, reduceCtorEq, Bool.true_eq_false, Bool.false_eq_true, mk_size, List.size_toArray, ByteArray.size_append, ByteArray.size_extract, List.length_cons, List.length_nil, ba_get, ba_empty, Int.toNat_natCast] at hW))
          | (refine And.intro (?_ : _ → _) (?_ : _ → _))
          | (refine FinR.drop 0 (Nat.zero_le _) (Closed.zero _) rfl ?_)
          | (refine FinR.keep ?_)
          | (refine And.intro (det3_agg rfl) ?_)
          | (refine fL_mk ?_)
          | (refine And.intro (by (try simp only [mk_size, List.size_toArray, ByteArray.size_append, ByteArray.size_extract, List.length_cons, List.length_nil]); omega) ?_)
          | (refine And.intro (by (try simp only [mk_size, List.size_toArray, ByteArray.size_append, ByteArray.size_extract, List.length_cons, List.length_nil, wrap64_eq]); omega) ?_)
          | fail)
        all_goals first | (exfalso; omega) | (exfalso; simp_all; done) | exact h0
    · obtain rfl : i = l.length := by omega
      rw [List.drop_eq_nil_of_le (Nat.le_refl _), List.drop_eq_nil_of_le (by omega)] at hld0
      rw [hld0] at h0
      repeat' ((conv => whnf); first
        | (refine And.intro rfl ?_)
        | (refine And.intro (by decide +kernel) ?_)
        | (refine And.intro trivial ?_)
        | (refine Exists.intro _ (And.intro rfl (And.intro rfl (And.intro (Nat.le_of_ble_eq_true rfl) ?_))))
        | (refine Exists.intro _ (And.intro rfl (And.intro rfl (And.intro rfl (And.intro (Nat.le_of_ble_eq_true rfl) ?_)))))
        | (refine And.intro (Exists.intro _ (And.intro rfl rfl)) ?_)
        | (exact fun hW => absurd hW (by decide +kernel))
        | (intro hW; (try simp only [Bool.not_true, Bool.not_false, Bool.not_eq_true', Bool.not_eq_false', decide_eq_true_eq, decide_eq_false_iff_not, reduceCtorEq, Bool.true_eq_false, Bool.false_eq_true, mk_size, List.size_toArray, ByteArray.size_append, ByteArray.size_extract, List.length_cons, List.length_nil, ba_get, ba_empty, Int.toNat_natCast] at hW))
        | (refine And.intro (?_ : _ → _) (?_ : _ → _))
        | (refine FinR.drop 0 (Nat.zero_le _) (Closed.zero _) rfl ?_)
        | (refine FinR.keep ?_)
        | (refine And.intro (det3_agg rfl) ?_)
        | (refine fL_mk ?_)
        | (refine And.intro (by (try simp only [mk_size, List.size_toArray, ByteArray.size_append, ByteArray.size_extract, List.length_cons, List.length_nil]); omega) ?_)
        | (refine And.intro (by (try simp only [mk_size, List.size_toArray, ByteArray.size_append, ByteArray.size_extract, List.length_cons, List.length_nil, wrap64_eq]); omega) ?_)
        | fail)
      all_goals first | (exfalso; omega) | exact h0
  · rw [sooner, if_neg hlen, show decide (l.length < m.length) = decide ((l.length : Int) < m.length) from decide_eq_decide.2 (by omega)] at h0
    repeat' ((conv => whnf); first
      | (refine And.intro rfl ?_)
      | (refine And.intro (by decide +kernel) ?_)
      | (refine And.intro trivial ?_)
      | (refine Exists.intro _ (And.intro rfl (And.intro rfl (And.intro (Nat.le_of_ble_eq_true rfl) ?_))))
      | (refine Exists.intro _ (And.intro rfl (And.intro rfl (And.intro rfl (And.intro (Nat.le_of_ble_eq_true rfl) ?_)))))
      | (refine And.intro (Exists.intro _ (And.intro rfl rfl)) ?_)
      | (exact fun hW => absurd hW (by decide +kernel))
      | (intro hW; (try simp only [Bool.not_true, Bool.not_false, Bool.not_eq_true', Bool.not_eq_false', decide_eq_true_eq, decide_eq_false_iff_not, reduceCtorEq, Bool.true_eq_false, Bool.false_eq_true, mk_size, List.size_toArray, ByteArray.size_append, ByteArray.size_extract, List.length_cons, List.length_nil, ba_get, ba_empty, Int.toNat_natCast] at hW))
      | (refine And.intro (?_ : _ → _) (?_ : _ → _))
      | (refine FinR.drop 0 (Nat.zero_le _) (Closed.zero _) rfl ?_)
      | (refine FinR.keep ?_)
      | (refine And.intro (det3_agg rfl) ?_)
      | (refine fL_mk ?_)
      | (refine And.intro (by (try simp only [mk_size, List.size_toArray, ByteArray.size_append, ByteArray.size_extract, List.length_cons, List.length_nil]); omega) ?_)
      | (refine And.intro (by (try simp only [mk_size, List.size_toArray, ByteArray.size_append, ByteArray.size_extract, List.length_cons, List.length_nil, wrap64_eq]); omega) ?_)
      | fail)
    all_goals first | (exfalso; omega) | exact h0
theorem d_l8Sooner (a b : AV) (l m : List Int) (ha : Sli W0 σ 1 en1 a l) (hb : Sli W0 σ 1 en1 b m) (hl : l.length ≤ 1048576) (hm : m.length ≤ 1048576) (K : Cont) (h0 : K (Bo (sooner l m)) σ) : ACall Try.prog W0 76 [a, b] σ K :=
  lift_Ss (by kernel_rfl) (fun _ => rfl) ha hb (fun W1 a' b' h h' K hK => c_l8Sooner a' b' l m h h' hl hm K hK) K h0
theorem c_isNaN (x : Int) (K : Cont) (h0 : K (Bo false) []) : ACall Try.prog W0 124 [I x] [] K := by
  refine by124 (Nat.le_of_ble_eq_true rfl) ?_
  repeat' ((conv => whnf); first
    | (refine And.intro rfl ?_)
    | (refine And.intro (by decide +kernel) ?_)
    | (refine And.intro trivial ?_)
    | (refine Exists.intro _ (And.intro rfl (And.intro rfl (And.intro (Nat.le_of_ble_eq_true rfl) ?_))))
    | (refine Exists.intro _ (And.intro rfl (And.intro rfl (And.intro rfl (And.intro (Nat.le_of_ble_eq_true rfl) ?_)))))
    | (refine And.intro (Exists.intro _ (And.intro rfl rfl)) ?_)
    | (exact fun hW => absurd hW (by decide +kernel))
    | (intro hW; (try simp only [Bool.not_true, Bool.not_false, Bool.not_eq_true', Bool.not_eq_false', decide_eq_true_eq, decide_eq_false_iff_not, reduceCtorEq, Bool.true_eq_false, Bool.false_eq_true, mk_size, List.size_toArray, ByteArray.size_append, ByteArray.size_extract, List.length_cons, List.length_nil, ba_get, ba_empty, Int.toNat_natCast] at hW))
    | (refine And.intro (?_ : _ → _) (?_ : _ → _))
    | (refine FinR.drop 0 (Nat.zero_le _) (Closed.zero _) rfl ?_)
    | (refine FinR.keep ?_)
    | (refine And.intro (det3_agg rfl) ?_)
    | (refine fL_mk ?_)
    | (refine And.intro (by (try simp only [mk_size, List.size_toArray, ByteArray.size_append, ByteArray.size_extract, List.length_cons, List.length_nil]); omega) ?_)
    | (refine And.intro (by (try simp only [mk_size, List.size_toArray, ByteArray.size_append, ByteArray.size_extract, List.length_cons, List.length_nil, wrap64_eq]); omega) ?_)
    | fail)
  all_goals (refine kB' h0 ?_; simp)
theorem d_isNaN (x : Int) (K : Cont) (h0 : K (Bo false) σ) : ACall Try.prog W0 124 [I x] σ K :=
  ACall.lift rfl (fun _ => rfl) (fun W1 K _ hK => c_isNaN x K hK) h0
theorem c_cmp (x y : Int) (K : Cont) (h0 : K (I (if x < y then -1 else if x = y then 0 else 1)) []) : ACall Try.prog W0 106 [I x, I y] [] K := by
  refine by106 (Nat.le_of_ble_eq_true rfl) ?_
  repeat' ((conv => whnf); first
    | (refine And.intro rfl ?_)
    | (refine And.intro (by decide +kernel) ?_)
    | (refine And.intro trivial ?_)
    | (refine d_isNaN (h0 := ?_) ..)
    | (refine Exists.intro _ (And.intro (fun τ => callW_fn (d_isNaN (h0 := And.intro rfl rfl) ..)) ?_))
    | (refine Exists.intro _ (And.intro (callW_fn (d_isNaN (h0 := And.intro rfl rfl) ..)) (And.intro trivial ?_)))
    | (refine Exists.intro _ (And.intro (callW_fn (d_isNaN (h0 := And.intro rfl rfl) ..)) ?_))
    | (refine Exists.intro _ (And.intro (fun τ _ => callW_fn (d_isNaN (h0 := And.intro rfl rfl) ..)) ?_))
    | (refine Exists.intro _ (And.intro rfl (And.intro rfl (And.intro (Nat.le_of_ble_eq_true rfl) ?_))))
    | (refine Exists.intro _ (And.intro rfl (And.intro rfl (And.intro rfl (And.intro (Nat.le_of_ble_eq_true rfl) ?_)))))
    | (refine And.intro (Exists.intro _ (And.intro rfl rfl)) ?_)
    | (exact fun hW => absurd hW (by decide +kernel))
    | (intro hW; (try simp only [Bool.not_true, Bool.not_false, Bool.not_eq_true', Bool.not_eq_false', decide_eq_true_eq, decide_eq_false_iff_not, reduceCtorEq, Bool.true_eq_false, Bool.false_eq_true, mk_size, List.size_toArray, ByteArray.size_append, ByteArray.size_extract, List.length_cons, List.length_nil, ba_get, ba_empty, Int.toNat_natCast] at hW))
    | (refine And.intro (?_ : _ → _) (?_ : _ → _))
    | (refine FinR.drop 0 (Nat.zero_le _) (Closed.zero _) rfl ?_)
    | (refine FinR.keep ?_)
    | (refine And.intro (det3_agg rfl) ?_)
    | (refine fL_mk ?_)
    | (refine And.intro (by (try simp only [mk_size, List.size_toArray, ByteArray.size_append, ByteArray.size_extract, List.length_cons, List.length_nil]); omega) ?_)
    | (refine And.intro (by (try simp only [mk_size, List.size_toArray, ByteArray.size_append, ByteArray.size_extract, List.length_cons, List.length_nil, wrap64_eq]); omega) ?_)
    | fail)
  all_goals first | (exfalso; simp_all; done) | skip
  all_goals (refine kI' h0 ?_; first | rw [if_pos (by omega)] | rw [if_neg (by omega), if_pos (by omega)] | rw [if_neg (by omega), if_neg (by omega)])
theorem d_cmp (x y : Int) (K : Cont) (h0 : K (I (if x < y then -1 else if x = y then 0 else 1)) σ) : ACall Try.prog W0 106 [I x, I y] σ K :=
  ACall.lift rfl (fun _ => rfl) (fun W1 K _ hK => c_cmp x y K hK) h0
theorem c_Compare (a b : AV) (l m : List Int) (ha : Sli W0 [] 1 en1 a l) (hb' : Sli W0 [] 1 en1 b m) (hl : l.length ≤ 1048576) (hlen : l.length = m.length) (K : Cont) (h0 : ∀ r : Int, decide (r < 0) = lexLt l m → K (I r) []) : ACall Try.prog W0 77 [a, b] [] K := by
  refine by77 (Nat.le_of_ble_eq_true rfl) ?_
  obtain ⟨o, n, cap, rfl, hn, hc, hm, hf⟩ := sli_form ha
  obtain ⟨o2, n2, cap2, rfl, hn2, hc2, hm2, hf2⟩ := sli_form hb'
  subst hn; subst hn2
  repeat' ((conv => whnf); first
    | (refine And.intro rfl ?_)
    | (refine And.intro (by decide +kernel) ?_)
    | (refine And.intro trivial ?_)
    | (refine Exists.intro _ (And.intro rfl (And.intro rfl (And.intro (Nat.le_of_ble_eq_true rfl) ?_))))
    | (refine Exists.intro _ (And.intro rfl (And.intro rfl (And.intro rfl (And.intro (Nat.le_of_ble_eq_true rfl) ?_)))))
    | (refine And.intro (Exists.intro _ (And.intro rfl rfl)) ?_)
    | (exact fun hW => absurd hW (by decide +kernel))
    | (intro hW; (try simp only [Bool.not_true, Bool.not_false, Bool.not_eq_true', Bool.not_eq_false', decide_eq_true_eq, decide_eq_false_iff_not, reduceCtorEq, Bool.true_eq_false, Bool.false_eq_true, mk_size, List.size_toArray, ByteArray.size_append, ByteArray.size_extract, List.length_cons, List.length_nil, ba_get, ba_empty, Int.toNat_natCast] at hW))
    | (refine And.intro (?_ : _ → _) (?_ : _ → _))
    | (refine FinR.drop 0 (Nat.zero_le _) (Closed.zero _) rfl ?_)
    | (refine FinR.keep ?_)
    | (refine And.intro (det3_agg rfl) ?_)
    | (refine fL_mk ?_)
    | (refine And.intro (by (try simp only [mk_size, List.size_toArray, ByteArray.size_append, ByteArray.size_extract, List.length_cons, List.length_nil]); omega) ?_)
    | (refine And.intro (by (try simp only [mk_size, List.size_toArray, ByteArray.size_append, ByteArray.size_extract, List.length_cons, List.length_nil, wrap64_eq]); omega) ?_)
    | fail)
  refine LoopR.live (fun i : Nat => [(0, .lit (.slice o l.length cap)), (1, .lit (.slice o2 m.length cap2)), (9, .lit (.slice o l.length cap)), (10, I l.length), (11, I i)]) (fun i => []) (fun i => i ≤ l.length ∧ l.take i = m.take i) (fun i => l.length - i) 0 ⟨rfl, rfl, rfl, rfl, rfl, trivial⟩ (.keep rfl) ⟨Nat.zero_le _, rfl⟩ ?_
  rintro i ⟨hi, ht⟩
  have hld0 := lex_drop hi (by omega) ht
  by_cases hlt : i < l.length
  · have hxi : l[i]? = some l[i] := List.getElem?_eq_getElem hlt
    have hyi : m[i]? = some m[i] := List.getElem?_eq_getElem (by omega)
    obtain ⟨ad, rfl, hb, hxx⟩ := hf i _ hxi
    obtain ⟨ad2, rfl, hb2, hxx2⟩ := hf2 i _ hyi
    have hld := fun C h => ldIn (W0 := W0) (s := 1) (enc := en1) hb hxx (k := i) hxi rfl (C := C) h
    have hld2 := fun C h => ldIn (W0 := W0) (s := 1) (enc := en1) hb2 hxx2 (k := i) hyi rfl (C := C) h
    rw [List.drop_eq_getElem_cons hlt, List.drop_eq_getElem_cons (show i < m.length by omega), lexLt] at hld0
    by_cases he : l[i] = m[i]
    · have hz : (if l[i] < m[i] then (-1 : Int) else if l[i] = m[i] then 0 else 1) = 0 := by rw [if_neg (by omega), if_pos he]
      repeat' ((conv => whnf); first
        | (refine And.intro rfl ?_)
        | (refine And.intro (by decide +kernel) ?_)
        | (refine And.intro trivial ?_)
        | (refine hld _ ?_)
        | (refine hld2 _ ?_)
        | (refine d_cmp (h0 := ?_) ..; rw [hz])
        | (refine Exists.intro _ (And.intro rfl (And.intro rfl (And.intro (Nat.le_of_ble_eq_true rfl) ?_))))
        | (refine Exists.intro _ (And.intro rfl (And.intro rfl (And.intro rfl (And.intro (Nat.le_of_ble_eq_true rfl) ?_)))))
        | (refine And.intro (Exists.intro _ (And.intro rfl rfl)) ?_)
        | (exact fun hW => absurd hW (by decide +kernel))
        | (intro hW; (try simp only [Bool.not_true, Bool.not_false, Bool.not_eq_true', Bool.not_eq_false', decide_eq_true_eq, decide_eq_false_iff_not, reduceCtorEq, Bool.true_eq_false, Bool.false_eq_true, mk_size, List.size_toArray, ByteArray.size_append, ByteArray.size_extract, List.length_cons, List.length_nil, ba_get, ba_empty, Int.toNat_natCast] at hW))
        | (refine And.intro (?_ : _ → _) (?_ : _ → _))
        | (refine FinR.drop 0 (Nat.zero_le _) (Closed.zero _) rfl ?_)
        | (refine FinR.keep ?_)
        | (refine And.intro (det3_agg rfl) ?_)
        | (refine fL_mk ?_)
        | (refine And.intro (by (try simp only [mk_size, List.size_toArray, ByteArray.size_append, ByteArray.size_extract, List.length_cons, List.length_nil]); omega) ?_)
        | (refine And.intro (by (try simp only [mk_size, List.size_toArray, ByteArray.size_append, ByteArray.size_extract, List.length_cons, List.length_nil, wrap64_eq]); omega) ?_)
        | fail)
      all_goals first | (exfalso; omega) | (exfalso; simp_all; done) | skip
      exact Again.go (i + 1) ⟨rfl, rfl, rfl, rfl, slI' (wsucc' i (by omega)), trivial⟩ (.keep rfl) ⟨by omega, by rw [take_snoc hxi, take_snoc hyi, ht, he]⟩ (by omega)
    · rw [if_neg he] at hld0
      by_cases hlt3 : l[i] < m[i]
      · have hz : (if l[i] < m[i] then (-1 : Int) else if l[i] = m[i] then 0 else 1) = -1 := if_pos hlt3
        have h0 := h0 (-1) (by rw [hld0]; simp [hlt3])
        repeat' ((conv => whnf); first
          | (refine And.intro rfl ?_)
          | (refine And.intro (by decide +kernel) ?_)
          | (refine And.intro trivial ?_)
          | (refine hld _ ?_)
          | (refine hld2 _ ?_)
          | (refine d_cmp (h0 := ?_) ..; rw [hz])
          | (refine Exists.intro _ (And.intro rfl (And.intro rfl (And.intro (Nat.le_of_ble_eq_true rfl) ?_))))
          | (refine Exists.intro _ (And.intro rfl (And.intro rfl (And.intro rfl (And.intro (Nat.le_of_ble_eq_true rfl) ?_)))))
          | (refine And.intro (Exists.intro _ (And.intro rfl rfl)) ?_)
          | (exact fun hW => absurd hW (by decide +kernel))
          | (intro hW; (try simp only [Bool.not_true, Bool.not_false, Bool.not_eq_true', Bool.not_eq_false', decide_eq_true_eq, decide_eq_false_iff_not, reduceCtorEq, Bool.true_eq_false, Bool.false_eq_true, mk_size, List.size_toArray, ByteArray.size_append, ByteArray.size_extract, List.length_cons, List.length_nil, ba_get, ba_empty, Int.toNat_natCast] at hW))
          | (refine And.intro (?_ : _ → _) (?_ : _ → _))
          | (refine FinR.drop 0 (Nat.zero_le _) (Closed.zero _) rfl ?_)
          | (refine FinR.keep ?_)
          | (refine And.intro (det3_agg rfl) ?_)
          | (refine fL_mk ?_)
          | (refine And.intro (by (try simp only [mk_size, List.size_toArray, ByteArray.size_append, ByteArray.size_extract, List.length_cons, List.length_nil]); omega) ?_)
          | (refine And.intro (by (try simp only [mk_size, List.size_toArray, ByteArray.size_append, ByteArray.size_extract, List.length_cons, List.length_nil, wrap64_eq]); omega) ?_)
          | fail)
        all_goals first | (exfalso; omega) | (exfalso; simp_all; done) | exact h0
      · have hz : (if l[i] < m[i] then (-1 : Int) else if l[i] = m[i] then 0 else 1) = 1 := by rw [if_neg hlt3, if_neg he]
        have h0 := h0 1 (by rw [hld0]; simp; omega)
        repeat' ((conv => whnf); first
          | (refine And.intro rfl ?_)
          | (refine And.intro (by decide +kernel) ?_)
          | (refine And.intro trivial ?_)
          | (refine hld _ ?_)
          | (refine hld2 _ ?_)
          | (refine d_cmp (h0 := ?_) ..; rw [hz])
          | (refine Exists.intro _ (And.intro rfl (And.intro rfl (And.intro (Nat.le_of_ble_eq_true rfl) ?_))))
          | (refine Exists.intro _ (And.intro rfl (And.intro rfl (And.intro rfl (And.intro (Nat.le_of_ble_eq_true rfl) ?_)))))
          | (refine And.intro (Exists.intro _ (And.intro rfl rfl)) ?_)
          | (exact fun hW => absurd hW (by decide +kernel))
          | (intro hW; (try simp only [Bool.not_true, Bool.not_false, Bool.not_eq_true', Bool.not_eq_false', decide_eq_true_eq, decide_eq_false_iff_not, reduceCtorEq, Bool.true_eq_false, Bool.false_eq_true, mk_size, List.size_toArray, ByteArray.size_append, ByteArray.size_extract, List.length_cons, List.length_nil, ba_get, ba_empty, Int.toNat_natCast] at hW))
          | (refine And.intro (?_ : _ → _) (?_ : _ → _))
          | (refine FinR.drop 0 (Nat.zero_le _) (Closed.zero _) rfl ?_)
          | (refine FinR.keep ?_)
          | (refine And.intro (det3_agg rfl) ?_)
          | (refine fL_mk ?_)
          | (refine And.intro (by (try simp only [mk_size, List.size_toArray, ByteArray.size_append, ByteArray.size_extract, List.length_cons, List.length_nil]); omega) ?_)
          | (refine And.intro (by (try simp only [mk_size, List.size_toArray, ByteArray.size_append, ByteArray.size_extract, List.length_cons, List.length_nil, wrap64_eq]); omega) ?_)
          | fail)
        all_goals first | (exfalso; omega) | (exfalso; simp_all; done) | exact h0
  · obtain rfl : i = l.length := by omega
    rw [List.drop_eq_nil_of_le (Nat.le_refl _), List.drop_eq_nil_of_le (by omega)] at hld0
    have h0 := h0 0 (by rw [hld0]; rfl)
    repeat' ((conv => whnf); first
      | (refine And.intro rfl ?_)
      | (refine And.intro (by decide +kernel) ?_)
      | (refine And.intro trivial ?_)
      | (refine Exists.intro _ (And.intro rfl (And.intro rfl (And.intro (Nat.le_of_ble_eq_true rfl) ?_))))
      | (refine Exists.intro _ (And.intro rfl (And.intro rfl (And.intro rfl (And.intro (Nat.le_of_ble_eq_true rfl) ?_)))))
      | (refine And.intro (Exists.intro _ (And.intro rfl rfl)) ?_)
      | (exact fun hW => absurd hW (by decide +kernel))
      | (intro hW; (try simp only [Bool.not_true, Bool.not_false, Bool.not_eq_true', Bool.not_eq_false', decide_eq_true_eq, decide_eq_false_iff_not, reduceCtorEq, Bool.true_eq_false, Bool.false_eq_true, mk_size, List.size_toArray, ByteArray.size_append, ByteArray.size_extract, List.length_cons, List.length_nil, ba_get, ba_empty, Int.toNat_natCast] at hW))
      | (refine And.intro (?_ : _ → _) (?_ : _ → _))
      | (refine FinR.drop 0 (Nat.zero_le _) (Closed.zero _) rfl ?_)
      | (refine FinR.keep ?_)
      | (refine And.intro (det3_agg rfl) ?_)
      | (refine fL_mk ?_)
      | (refine And.intro (by (try simp only [mk_size, List.size_toArray, ByteArray.size_append, ByteArray.size_extract, List.length_cons, List.length_nil]); omega) ?_)
      | (refine And.intro (by (try simp only [mk_size, List.size_toArray, ByteArray.size_append, ByteArray.size_extract, List.length_cons, List.length_nil, wrap64_eq]); omega) ?_)
      | fail)
    all_goals first | (exfalso; omega) | exact h0
theorem d_Compare (a b : AV) (l m : List Int) (ha : Sli W0 σ 1 en1 a l) (hb : Sli W0 σ 1 en1 b m) (hl : l.length ≤ 1048576) (hlen : l.length = m.length) (K : Cont) (h0 : ∀ r : Int, decide (r < 0) = lexLt l m → K (I r) σ) : ACall Try.prog W0 77 [a, b] σ K :=
  lift_S2 (ι := { r : Int // decide (r < 0) = lexLt l m }) (fun r => I r.1) (fun _ => []) (by kernel_rfl) ha hb (fun W1 a' b' h h' K hK => c_Compare a' b' l m h h' hl hlen K (fun r hr => hK ⟨r, hr⟩)) K (fun r => by
    rw [show shB σ.length [] = [] from rfl, List.append_nil]; exact h0 r.1 r.2)
end Go.Proofs.Ythncpkdhcfaflaa
end

section
/- Contracts: the fewest prints, by the reference. -/
set_option linter.unusedVariables false
set_option linter.unusedSimpArgs false
set_option maxRecDepth 100000
set_option maxHeartbeats 4000000
namespace Go.Proofs.Ythncpkdhcfaflaa
open Go Go.RowKit Go.Proofs.Ythncpkdhcfaflaa.Abs
variable {W0 : World} {σ : List Blk}
theorem det3_Pi (σ : List Blk) (q : List Int) : det3 σ (Pi q) := by
  refine det3_agg ?_
  induction q with
  | nil => rfl
  | cons x q ih => exact ih
theorem det3_sl {σ : List Blk} {b ver off n c : Nat} {B : Blk} (h : σ[b]? = some B) (hv : B.ver = ver) : det3 σ (.sl b ver off n c) := ⟨B, h, hv⟩
theorem pow_n : ∀ n, n < 7 → shL .i64 1 (n : Nat) = ((2 ^ n : Nat) : Int) := by decide +kernel
theorem bit_c : ∀ c, c < 64 → ∀ j, j < 6 → decide (bAnd IntKind.i64 (Abs.shR IntKind.i64 (c : Nat) (j : Nat)) 1 = 1) = Nat.testBit c j := by decide +kernel
/-- which lists give the same picture -/
def fewM (xs : List (List Int)) (c : Nat) : Bool := decide (picY (ordL xs (selN (Nat.testBit c) xs.length)) = picY xs)
abbrev fewS (xs : List (List Int)) (c : Nat) : List Int := bestS (fewM xs) (fun c => selN (Nat.testBit c) xs.length) (plainL xs.length) c
theorem few_succ (xs : List (List Int)) (c : Nat) : fewS xs (c + 1) = if fewM xs c && sooner (selN (Nat.testBit c) xs.length) (fewS xs c) then selN (Nat.testBit c) xs.length else fewS xs c := rfl
theorem few_len (xs : List (List Int)) : ∀ c, (fewS xs c).length ≤ xs.length
  | 0 => selN_len _ _
  | c + 1 => by
    rw [few_succ]; split
    · exact selN_len _ _
    · exact few_len xs c
structure FX where
  c : Nat
  L : List Int
  b : Nat
  cp : Nat
  σ : List Blk
theorem c_sFewT (a : AV) (xs : List (List Int)) (ha : Sli W0 [] 9 enI a xs) (hx : ∀ x ∈ xs, x.length = 9) (hlb : listB xs = true) (K : Cont)
    (h0 : ∀ b cap σ', σ'[b]? = some (outB (fewS xs (2 ^ xs.length))) → K (.tup [.sl b (fewS xs (2 ^ xs.length)).length 0 (fewS xs (2 ^ xs.length)).length cap, Bo true]) σ') : ACall Try.prog W0 39 [a] [] K := by
  obtain ⟨hl, hall⟩ := listB_iff.1 hlb
  obtain ⟨o, n, cap, rfl, hn, hc, hm, _⟩ := sli_form ha
  subst hn
  have hpo := plain_ordL xs
  have hpl := picY_len xs
  have hle := selN_len (fun _ => true) xs.length
  refine by39 (Nat.le_of_ble_eq_true rfl) ?_
  repeat' ((conv => whnf); first
    | (refine Exists.intro _ (And.intro rfl (And.intro rfl (And.intro (pic_len hpl) (And.intro (Nat.le_of_ble_eq_true rfl) ?_)))))
    | (refine And.intro rfl ?_)
    | (refine And.intro (by decide +kernel) ?_)
    | (refine And.intro trivial ?_)
    | (refine d_l8List (ha := sli_up ha) (hx := hx) (hl := by omega) (h0 := ?_) ..; rw [hlb])
    | (refine c_l8Plain (hn := by omega) (h0 := fun cp => ?_) ..)
    | (refine d_l8All (ha := sli_up ha) (hb := sli_ints rfl) (hx := hx) (hall := hall) (hl := by omega) (ho := selN_inR _ _) (hl2 := by omega) (h0 := ?_) ..; rw [hpo])
    | (refine Exists.intro _ (And.intro rfl (And.intro rfl (And.intro (Nat.le_of_ble_eq_true rfl) ?_))))
    | (refine Exists.intro _ (And.intro rfl (And.intro rfl (And.intro rfl (And.intro (Nat.le_of_ble_eq_true rfl) ?_)))))
    | (refine And.intro (Exists.intro _ (And.intro rfl rfl)) ?_)
    | (exact fun hW => absurd hW (by decide +kernel))
    | (intro hW; (try simp only [Bool.not_true, Bool.not_false, Bool.not_eq_true', Bool.not_eq_false', decide_eq_true_eq, decide_eq_false_iff_not, reduceCtorEq, Bool.true_eq_false, Bool.false_eq_true, mk_size, List.size_toArray, ByteArray.size_append, ByteArray.size_extract, List.length_cons, List.length_nil, ba_get, ba_empty, Int.toNat_natCast] at hW))
    | (refine And.intro (?_ : _ → _) (?_ : _ → _))
    | (refine FinR.drop 0 (Nat.zero_le _) (Closed.zero _) rfl ?_)
    | (refine FinR.keep ?_)
    | (refine And.intro (det3_agg rfl) ?_)
    | (refine fL_mk ?_)
    | (refine And.intro (by (try simp only [mk_size, List.size_toArray, ByteArray.size_append, ByteArray.size_extract, List.length_cons, List.length_nil]); omega) ?_)
    | (refine And.intro (by (try simp only [mk_size, List.size_toArray, ByteArray.size_append, ByteArray.size_extract, List.length_cons, List.length_nil, wrap64_eq]); omega) ?_)
    | fail)
  all_goals first | (exfalso; omega) | (exfalso; simp_all; done) | skip
  have hsh := pow_n xs.length (by omega)
  have hN64 : 2 ^ xs.length ≤ 64 := by
    have : 2 ^ xs.length ≤ 2 ^ 6 := Nat.pow_le_pow_right (by decide) hl
    exact this
  generalize hN : 2 ^ xs.length = N at h0 hsh hN64
  refine LoopR.live (fun y : FX => [(0, .lit (.slice o xs.length cap)), (4, .sl y.b y.L.length 0 y.L.length y.cp), (5, .ptr 1 0 0), (6, I y.c)]) (fun y => y.σ) (fun y => y.c ≤ N ∧ y.L = fewS xs y.c ∧ y.σ[1]? = some (bQ (picY xs) 44) ∧ y.σ[y.b]? = some (outB y.L)) (fun y => N - y.c) ⟨0, plainL xs.length, 0, cp, [outB (plainL xs.length), bQ (picY xs) 44]⟩ ⟨rfl, rfl, rfl, rfl, trivial⟩ (.keep ?_) ⟨Nat.zero_le _, rfl, rfl, rfl⟩ ?_
  · have e := pic_st hpl (Z := z36.map I) (by rfl)
    dsimp only [bQ]
    conv => lhs; rw [← e]
    rfl
  rintro ⟨c, L, b, cp1, σ⟩ ⟨hcN, hL, h1, h2⟩
  dsimp only at hcN hL h1 h2
  have hfl := few_len xs c
  rw [← hL] at hfl
  by_cases hlt : c < N
  · have hst := few_succ xs c
    rw [← hL] at hst
    repeat' ((conv => whnf); first
      | (refine And.intro rfl ?_)
      | (refine And.intro (by decide +kernel) ?_)
      | (refine And.intro trivial ?_)
      | (refine fS_mk ?_)
      | (refine Exists.intro _ (And.intro rfl (And.intro rfl (And.intro (Nat.le_of_ble_eq_true rfl) ?_))))
      | (refine Exists.intro _ (And.intro rfl (And.intro rfl (And.intro rfl (And.intro (Nat.le_of_ble_eq_true rfl) ?_)))))
      | (refine And.intro (Exists.intro _ (And.intro rfl rfl)) ?_)
      | (exact fun hW => absurd hW (by decide +kernel))
      | (intro hW; (try simp only [Bool.not_true, Bool.not_false, Bool.not_eq_true', Bool.not_eq_false', decide_eq_true_eq, decide_eq_false_iff_not, reduceCtorEq, Bool.true_eq_false, Bool.false_eq_true, mk_size, List.size_toArray, ByteArray.size_append, ByteArray.size_extract, List.length_cons, List.length_nil, ba_get, ba_empty, Int.toNat_natCast] at hW))
      | (refine And.intro (?_ : _ → _) (?_ : _ → _))
      | (refine FinR.drop 0 (Nat.zero_le _) (Closed.zero _) rfl ?_)
      | (refine FinR.keep ?_)
      | (refine And.intro (det3_agg rfl) ?_)
      | (refine fL_mk ?_)
      | (refine And.intro (by (try simp only [mk_size, List.size_toArray, ByteArray.size_append, ByteArray.size_extract, List.length_cons, List.length_nil]); omega) ?_)
      | (refine And.intro (by (try simp only [mk_size, List.size_toArray, ByteArray.size_append, ByteArray.size_extract, List.length_cons, List.length_nil, wrap64_eq]); omega) ?_)
      | fail)
    all_goals first | (exfalso; rw [hsh] at hW; omega) | skip
    refine LoopR.live (fun y : Nat × Nat => [(0, .lit (.slice o xs.length cap)), (4, .sl b L.length 0 L.length cp1), (5, .ptr 1 0 0), (6, I c), (7, .sl σ.length (selN (Nat.testBit c) y.1).length 0 (selN (Nat.testBit c) y.1).length y.2), (8, I y.1)]) (fun y => σ ++ [outB (selN (Nat.testBit c) y.1)]) (fun y => y.1 ≤ xs.length) (fun y => xs.length - y.1) (0, 0) ⟨rfl, rfl, rfl, rfl, rfl, rfl, trivial⟩ (.keep rfl) (Nat.zero_le _) ?_
    rintro ⟨j, cp2⟩ hj
    dsimp only at hj
    have hsl := selN_len (Nat.testBit c) j
    have hq := selN_succ (Nat.testBit c) j
    by_cases hlt2 : j < xs.length
    · have hbit := bit_c c (by omega) j (by omega)
      repeat' ((conv => whnf); first
        | (refine Exists.intro _ (And.intro getl (And.intro rfl (And.intro rfl (And.intro rfl (And.intro rfl (And.intro rfl (And.intro (by decide) (And.intro (by simp) (And.intro rfl (And.intro (by (try dsimp only); unfold maxLen; omega) (And.intro (by (try dsimp only); omega) (fun cap' hcap1 hcap2 => ?_)))))))))))); rw [set_last])
        | (refine And.intro rfl ?_)
        | (refine And.intro (by decide +kernel) ?_)
        | (refine And.intro trivial ?_)
        | (refine Exists.intro _ (And.intro rfl (And.intro rfl (And.intro (Nat.le_of_ble_eq_true rfl) ?_))))
        | (refine Exists.intro _ (And.intro rfl (And.intro rfl (And.intro rfl (And.intro (Nat.le_of_ble_eq_true rfl) ?_)))))
        | (refine And.intro (Exists.intro _ (And.intro rfl rfl)) ?_)
        | (exact fun hW => absurd hW (by decide +kernel))
        | (intro hW; (try simp only [Bool.not_true, Bool.not_false, Bool.not_eq_true', Bool.not_eq_false', decide_eq_true_eq, decide_eq_false_iff_not, reduceCtorEq, Bool.true_eq_false, Bool.false_eq_true, mk_size, List.size_toArray, ByteArray.size_append, ByteArray.size_extract, List.length_cons, List.length_nil, ba_get, ba_empty, Int.toNat_natCast] at hW))
        | (refine And.intro (?_ : _ → _) (?_ : _ → _))
        | (refine FinR.drop 0 (Nat.zero_le _) (Closed.zero _) rfl ?_)
        | (refine FinR.keep ?_)
        | (refine And.intro (det3_agg rfl) ?_)
        | (refine fL_mk ?_)
        | (refine And.intro (by (try simp only [mk_size, List.size_toArray, ByteArray.size_append, ByteArray.size_extract, List.length_cons, List.length_nil]); omega) ?_)
        | (refine And.intro (by (try simp only [mk_size, List.size_toArray, ByteArray.size_append, ByteArray.size_extract, List.length_cons, List.length_nil, wrap64_eq]); omega) ?_)
        | fail)
      all_goals first | (exfalso; omega) | skip
      · have hW' := decide_eq_true hW
        rw [hbit] at hW'
        rw [hW', if_pos rfl] at hq
        refine Again.go (j + 1, _) ⟨rfl, rfl, rfl, rfl, (by show AV.sl _ _ _ _ _ = AV.sl _ _ _ _ _; rw [hq, List.length_append]; rfl), slI' (wsucc' j (by omega)), trivial⟩ (.keep ?_) (by dsimp only; omega) (by dsimp only; omega)
        dsimp only [outB]
        rw [hq, List.length_append, List.map_append]; rfl
      · have hW' := decide_eq_false hW
        rw [hbit] at hW'
        rw [hW', if_neg (by decide), List.append_nil] at hq
        refine Again.go (j + 1, cp2) ⟨rfl, rfl, rfl, rfl, (by show AV.sl _ _ _ _ _ = AV.sl _ _ _ _ _; rw [hq]), slI' (wsucc' j (by omega)), trivial⟩ (.keep ?_) (by dsimp only; omega) (by dsimp only; omega)
        dsimp only [outB]
        rw [hq]
    · obtain rfl : j = xs.length := by omega
      have hpl2 := picY_len (ordL xs (selN (Nat.testBit c) xs.length))
      have hin := selN_inR (Nat.testBit c) xs.length
      generalize hS : selN (Nat.testBit c) xs.length = S at *
      have hfm : fewM xs c = decide (picY (ordL xs S) = picY xs) := by rw [fewM, hS]
      repeat' ((conv => whnf); first
        | (refine Exists.intro _ (And.intro (getx1 h1) (And.intro rfl (And.intro (pic_le hpl rfl) ?_))); rw [show (bQ (picY xs) 44).cells = (picY xs).map I from rfl, pic_ld hpl _ rfl])
        | (rw [lits_I, lits_I])
        | (rw [eqC36 hpl2 hpl])
        | (refine And.intro rfl ?_)
        | (refine And.intro (by decide +kernel) ?_)
        | (refine And.intro trivial ?_)
        | (refine Exists.intro _ (And.intro (callW_fn (d_l8All (ha := sli_up ha) (hb := sli_ints getl) (hx := hx) (hall := hall) (hl := by omega) (ho := hin) (hl2 := by omega) (h0 := And.intro rfl rfl) ..)) (And.intro (det3_Pi _ _) ?_)))
        | (refine And.intro (det3_Pi _ _) ?_)
        | (refine And.intro (det3_sl getl rfl) ?_)
        | (refine And.intro (det3_sl (getx1 h2) rfl) ?_)
        | (refine Exists.intro _ (And.intro (callW_fn (d_l8Sooner (ha := sli_ints getl) (hb := sli_ints (getx1 h2)) (hl := by omega) (hm := by omega) (h0 := And.intro rfl rfl) ..)) (And.intro trivial ?_)))
        | (refine Exists.intro _ (And.intro rfl (And.intro rfl (And.intro (Nat.le_of_ble_eq_true rfl) ?_))))
        | (refine Exists.intro _ (And.intro rfl (And.intro rfl (And.intro rfl (And.intro (Nat.le_of_ble_eq_true rfl) ?_)))))
        | (refine And.intro (Exists.intro _ (And.intro rfl rfl)) ?_)
        | (exact fun hW => absurd hW (by decide +kernel))
        | (intro hW; (try simp only [Bool.not_true, Bool.not_false, Bool.not_eq_true', Bool.not_eq_false', decide_eq_true_eq, decide_eq_false_iff_not, reduceCtorEq, Bool.true_eq_false, Bool.false_eq_true, mk_size, List.size_toArray, ByteArray.size_append, ByteArray.size_extract, List.length_cons, List.length_nil, ba_get, ba_empty, Int.toNat_natCast] at hW))
        | (refine And.intro (?_ : _ → _) (?_ : _ → _))
        | (refine FinR.drop 0 (Nat.zero_le _) (Closed.zero _) rfl ?_)
        | (refine FinR.keep ?_)
        | (refine And.intro (det3_agg rfl) ?_)
        | (refine fL_mk ?_)
        | (refine And.intro (by (try simp only [mk_size, List.size_toArray, ByteArray.size_append, ByteArray.size_extract, List.length_cons, List.length_nil]); omega) ?_)
        | (refine And.intro (by (try simp only [mk_size, List.size_toArray, ByteArray.size_append, ByteArray.size_extract, List.length_cons, List.length_nil, wrap64_eq]); omega) ?_)
        | fail)
      all_goals first | (exfalso; omega) | skip
      all_goals first
        | (have hW' : fewM xs c = true ∧ sooner S L = true := by
            clear hst hq
            rw [hfm]; simp_all
           rw [hW'.1, hW'.2, Bool.true_and, if_pos rfl] at hst
           exact Again.go ⟨c + 1, S, σ.length, cp2, σ ++ [outB S]⟩ ⟨rfl, rfl, rfl, slI' (wsucc' c (by omega)), trivial⟩ (.keep rfl) ⟨by dsimp only; omega, hst.symm, getx1 h1, getl⟩ (by dsimp only; omega))
        | (have hW' : (fewM xs c && sooner S L) = false := by
            clear hst hq
            rw [hfm]; simp_all
           rw [hW', if_neg (by decide)] at hst
           exact Again.go ⟨c + 1, L, b, cp1, σ ++ [outB S]⟩ ⟨rfl, rfl, rfl, slI' (wsucc' c (by omega)), trivial⟩ (.keep rfl) ⟨by dsimp only; omega, hst.symm, getx1 h1, getx1 h2⟩ (by dsimp only; omega))
  · obtain rfl : c = N := by omega
    have h00 := h0 b cp1 σ (by rw [← hL]; exact h2)
    rw [← hL] at h00
    repeat' ((conv => whnf); first
      | (refine And.intro rfl ?_)
      | (refine And.intro (by decide +kernel) ?_)
      | (refine And.intro trivial ?_)
      | (refine Exists.intro _ (And.intro rfl (And.intro rfl (And.intro (Nat.le_of_ble_eq_true rfl) ?_))))
      | (refine Exists.intro _ (And.intro rfl (And.intro rfl (And.intro rfl (And.intro (Nat.le_of_ble_eq_true rfl) ?_)))))
      | (refine And.intro (Exists.intro _ (And.intro rfl rfl)) ?_)
      | (exact fun hW => absurd hW (by decide +kernel))
      | (intro hW; (try simp only [Bool.not_true, Bool.not_false, Bool.not_eq_true', Bool.not_eq_false', decide_eq_true_eq, decide_eq_false_iff_not, reduceCtorEq, Bool.true_eq_false, Bool.false_eq_true, mk_size, List.size_toArray, ByteArray.size_append, ByteArray.size_extract, List.length_cons, List.length_nil, ba_get, ba_empty, Int.toNat_natCast] at hW))
      | (refine And.intro (?_ : _ → _) (?_ : _ → _))
      | (refine FinR.drop 0 (Nat.zero_le _) (Closed.zero _) rfl ?_)
      | (refine FinR.keep ?_)
      | (refine And.intro (det3_agg rfl) ?_)
      | (refine fL_mk ?_)
      | (refine And.intro (by (try simp only [mk_size, List.size_toArray, ByteArray.size_append, ByteArray.size_extract, List.length_cons, List.length_nil]); omega) ?_)
      | (refine And.intro (by (try simp only [mk_size, List.size_toArray, ByteArray.size_append, ByteArray.size_extract, List.length_cons, List.length_nil, wrap64_eq]); omega) ?_)
      | fail)
    all_goals first | (exfalso; rw [hsh] at hW; omega) | exact h00
end Go.Proofs.Ythncpkdhcfaflaa
end

section
/- Contracts: the fewest prints, by the program. -/
set_option linter.unusedVariables false
set_option linter.unusedSimpArgs false
set_option maxRecDepth 100000
set_option maxHeartbeats 4000000
namespace Go.Proofs.Ythncpkdhcfaflaa
open Go Go.RowKit Go.Proofs.Ythncpkdhcfaflaa.Abs
variable {W0 : World} {σ : List Blk}
structure FY where
  c : Nat
  o : Option (List Int × Nat × Nat)
  σ : List Blk
def bestA : Option (List Int × Nat × Nat) → AV
  | none => nilA
  | some x => .sl x.2.1 x.1.length 0 x.1.length x.2.2
abbrev fewI (xs : List (List Int)) (c : Nat) : Option (List Int) := bestI (fewM xs) (fun c => selN (Nat.testBit c) xs.length) c
theorem fewI_succ (xs : List (List Int)) (c : Nat) : fewI xs (c + 1) = if fewM xs c && takeI (fewI xs c) (selN (Nat.testBit c) xs.length) then some (selN (Nat.testBit c) xs.length) else fewI xs c := rfl
theorem few_end (xs : List (List Int)) : fewI xs (2 ^ xs.length) = some (fewS xs (2 ^ xs.length)) := by
  have hp := Nat.two_pow_pos xs.length
  have hs : selN (Nat.testBit (2 ^ xs.length - 1)) xs.length = plainL xs.length := selN_congr fun i hi => by
    rw [Nat.testBit_two_pow_sub_one]; simpa using hi
  have hM : fewM xs (2 ^ xs.length - 1) = true := by
    rw [fewM, hs, plain_ordL]; simp
  have h := best_end (fewM xs) (fun c => selN (Nat.testBit c) xs.length) (plainL xs.length) hM hs
  rw [show 2 ^ xs.length - 1 + 1 = 2 ^ xs.length by omega] at h
  exact h
theorem c_FewT (a : AV) (xs : List (List Int)) (ha : Sli W0 [] 9 enI a xs) (hx : ∀ x ∈ xs, x.length = 9) (hlb : listB xs = true) (K : Cont)
    (h0 : ∀ b cap σ', σ'[b]? = some (outB (fewS xs (2 ^ xs.length))) → K (.tup [.sl b (fewS xs (2 ^ xs.length)).length 0 (fewS xs (2 ^ xs.length)).length cap, Bo true]) σ') : ACall Try.prog W0 40 [a] [] K := by
  obtain ⟨hl, hall⟩ := listB_iff.1 hlb
  obtain ⟨va, rfl⟩ := sli_lit ha
  have hpl := picY_len xs
  have hend := few_end xs
  have h6 : decide (xs.length ≤ 6) = true := by simpa using hl
  refine by40 (Nat.le_of_ble_eq_true rfl) ?_
  repeat' ((conv => whnf); first
    | (refine And.intro rfl ?_)
    | (refine And.intro (by decide +kernel) ?_)
    | (refine And.intro trivial ?_)
    | (refine c_layersOf (ha := ha) (hx := hx) (hl := by omega) (h1 := fun _ cp => ?_) (h2 := fun hf => by rw [hall] at hf; cases hf) ..; rw [h6])
    | (refine Exists.intro _ (And.intro rfl (And.intro rfl (And.intro (Nat.le_of_ble_eq_true rfl) ?_))))
    | (refine Exists.intro _ (And.intro rfl (And.intro rfl (And.intro rfl (And.intro (Nat.le_of_ble_eq_true rfl) ?_)))))
    | (refine And.intro (Exists.intro _ (And.intro rfl rfl)) ?_)
    | (exact fun hW => absurd hW (by decide +kernel))
    | (intro hW; (try simp only [Bool.not_true, Bool.not_false, Bool.not_eq_true', Bool.not_eq_false', decide_eq_true_eq, decide_eq_false_iff_not, reduceCtorEq, Bool.true_eq_false, Bool.false_eq_true, mk_size, List.size_toArray, ByteArray.size_append, ByteArray.size_extract, List.length_cons, List.length_nil, ba_get, ba_empty, Int.toNat_natCast] at hW))
    | (refine And.intro (?_ : _ → _) (?_ : _ → _))
    | (refine FinR.drop 0 (Nat.zero_le _) (Closed.zero _) rfl ?_)
    | (refine FinR.keep ?_)
    | (refine And.intro (det3_agg rfl) ?_)
    | (refine fL_mk ?_)
    | (refine And.intro (by (try simp only [mk_size, List.size_toArray, ByteArray.size_append, ByteArray.size_extract, List.length_cons, List.length_nil]); omega) ?_)
    | (refine And.intro (by (try simp only [mk_size, List.size_toArray, ByteArray.size_append, ByteArray.size_extract, List.length_cons, List.length_nil, wrap64_eq]); omega) ?_)
    | fail)
  all_goals first | (exfalso; omega) | (exfalso; simp_all; done) | skip
  have hsh := pow_n xs.length (by omega)
  have hN64 : 2 ^ xs.length ≤ 64 := by
    have : 2 ^ xs.length ≤ 2 ^ 6 := Nat.pow_le_pow_right (by decide) hl
    exact this
  generalize hN : 2 ^ xs.length = N at h0 hsh hN64 hend
  refine LoopR.live (fun y : FY => [(4, .sl 0 xs.length 0 xs.length cp), (6, bestA y.o), (19, I N), (20, I y.c)]) (fun y => y.σ) (fun y => y.c ≤ N ∧ y.o.map (·.1) = fewI xs y.c ∧ y.σ[0]? = some (lyB xs) ∧ ∀ L b cp, y.o = some (L, b, cp) → y.σ[b]? = some (outB L)) (fun y => N - y.c) ⟨0, none, [lyB xs]⟩ ⟨rfl, rfl, slI' hsh, rfl, trivial⟩ (.keep rfl) ⟨Nat.zero_le _, rfl, rfl, fun L b cp h => by cases h⟩ ?_
  rintro ⟨c, o, σ⟩ ⟨hcN, ho, h1, h2⟩
  dsimp only at hcN ho h1 h2
  by_cases hlt : c < N
  · have hst := fewI_succ xs c
    rw [← ho] at hst
    repeat' ((conv => whnf); first
      | (refine And.intro rfl ?_)
      | (refine And.intro (by decide +kernel) ?_)
      | (refine And.intro trivial ?_)
      | (refine fS_mk ?_)
      | (refine And.intro ⟨_, getx1 h1, rfl⟩ ?_)
      | (refine Exists.intro _ (And.intro rfl (And.intro rfl (And.intro (Nat.le_of_ble_eq_true rfl) ?_))))
      | (refine Exists.intro _ (And.intro rfl (And.intro rfl (And.intro rfl (And.intro (Nat.le_of_ble_eq_true rfl) ?_)))))
      | (refine And.intro (Exists.intro _ (And.intro rfl rfl)) ?_)
      | (exact fun hW => absurd hW (by decide +kernel))
      | (intro hW; (try simp only [Bool.not_true, Bool.not_false, Bool.not_eq_true', Bool.not_eq_false', decide_eq_true_eq, decide_eq_false_iff_not, reduceCtorEq, Bool.true_eq_false, Bool.false_eq_true, mk_size, List.size_toArray, ByteArray.size_append, ByteArray.size_extract, List.length_cons, List.length_nil, ba_get, ba_empty, Int.toNat_natCast] at hW))
      | (refine And.intro (?_ : _ → _) (?_ : _ → _))
      | (refine FinR.drop 0 (Nat.zero_le _) (Closed.zero _) rfl ?_)
      | (refine FinR.keep ?_)
      | (refine And.intro (det3_agg rfl) ?_)
      | (refine fL_mk ?_)
      | (refine And.intro (by (try simp only [mk_size, List.size_toArray, ByteArray.size_append, ByteArray.size_extract, List.length_cons, List.length_nil]); omega) ?_)
      | (refine And.intro (by (try simp only [mk_size, List.size_toArray, ByteArray.size_append, ByteArray.size_extract, List.length_cons, List.length_nil, wrap64_eq]); omega) ?_)
      | fail)
    all_goals first | (exfalso; omega) | skip
    refine LoopR.live (fun y : Nat × Nat => [(4, .sl 0 xs.length 0 xs.length cp), (6, bestA o), (7, I c), (8, .sl σ.length (selN (Nat.testBit c) y.1).length 0 (selN (Nat.testBit c) y.1).length y.2), (19, I N), (20, I c), (25, I xs.length), (26, I y.1)]) (fun y => σ ++ [outB (selN (Nat.testBit c) y.1)]) (fun y => y.1 ≤ xs.length) (fun y => xs.length - y.1) (0, 0) ⟨rfl, rfl, rfl, rfl, rfl, rfl, rfl, rfl, trivial⟩ (.keep rfl) (Nat.zero_le _) ?_
    rintro ⟨j, cp2⟩ hj
    dsimp only at hj
    have hsl := selN_len (Nat.testBit c) j
    have hq := selN_succ (Nat.testBit c) j
    by_cases hlt2 : j < xs.length
    · have hbit := bit_c c (by omega) j (by omega)
      repeat' ((conv => whnf); first
        | (refine Exists.intro _ (And.intro getl (And.intro rfl (And.intro rfl (And.intro rfl (And.intro rfl (And.intro rfl (And.intro (by decide) (And.intro (by simp) (And.intro rfl (And.intro (by (try dsimp only); unfold maxLen; omega) (And.intro (by (try dsimp only); omega) (fun cap' hcap1 hcap2 => ?_)))))))))))); rw [set_last])
        | (refine And.intro rfl ?_)
        | (refine And.intro (by decide +kernel) ?_)
        | (refine And.intro trivial ?_)
        | (refine Exists.intro _ (And.intro rfl (And.intro rfl (And.intro (Nat.le_of_ble_eq_true rfl) ?_))))
        | (refine Exists.intro _ (And.intro rfl (And.intro rfl (And.intro rfl (And.intro (Nat.le_of_ble_eq_true rfl) ?_)))))
        | (refine And.intro (Exists.intro _ (And.intro rfl rfl)) ?_)
        | (exact fun hW => absurd hW (by decide +kernel))
        | (intro hW; (try simp only [Bool.not_true, Bool.not_false, Bool.not_eq_true', Bool.not_eq_false', decide_eq_true_eq, decide_eq_false_iff_not, reduceCtorEq, Bool.true_eq_false, Bool.false_eq_true, mk_size, List.size_toArray, ByteArray.size_append, ByteArray.size_extract, List.length_cons, List.length_nil, ba_get, ba_empty, Int.toNat_natCast] at hW))
        | (refine And.intro (?_ : _ → _) (?_ : _ → _))
        | (refine FinR.drop 0 (Nat.zero_le _) (Closed.zero _) rfl ?_)
        | (refine FinR.keep ?_)
        | (refine And.intro (det3_agg rfl) ?_)
        | (refine fL_mk ?_)
        | (refine And.intro (by (try simp only [mk_size, List.size_toArray, ByteArray.size_append, ByteArray.size_extract, List.length_cons, List.length_nil]); omega) ?_)
        | (refine And.intro (by (try simp only [mk_size, List.size_toArray, ByteArray.size_append, ByteArray.size_extract, List.length_cons, List.length_nil, wrap64_eq]); omega) ?_)
        | fail)
      all_goals first | (exfalso; omega) | skip
      · have hW' := decide_eq_true hW
        rw [hbit] at hW'
        rw [hW', if_pos rfl] at hq
        refine Again.go (j + 1, _) ⟨rfl, rfl, rfl, (by show AV.sl _ _ _ _ _ = AV.sl _ _ _ _ _; rw [hq, List.length_append]; rfl), rfl, rfl, rfl, slI' (wsucc' j (by omega)), trivial⟩ (.keep ?_) (by dsimp only; omega) (by dsimp only; omega)
        dsimp only [outB]
        rw [hq, List.length_append, List.map_append]; rfl
      · have hW' := decide_eq_false hW
        rw [hbit] at hW'
        rw [hW', if_neg (by decide), List.append_nil] at hq
        refine Again.go (j + 1, cp2) ⟨rfl, rfl, rfl, (by show AV.sl _ _ _ _ _ = AV.sl _ _ _ _ _; rw [hq]), rfl, rfl, rfl, slI' (wsucc' j (by omega)), trivial⟩ (.keep ?_) (by dsimp only; omega) (by dsimp only; omega)
        dsimp only [outB]
        rw [hq]
    · obtain rfl : j = xs.length := by omega
      have hpl2 := picY_len (ordL xs (selN (Nat.testBit c) xs.length))
      have hin := selN_inR (Nat.testBit c) xs.length
      generalize hS : selN (Nat.testBit c) xs.length = S at *
      obtain ⟨hk1, hk2⟩ := ordL_ok hx hall hin
      have hk3 := ordL_len xs S
      have hfm : fewM xs c = decide (picY (ordL xs S) = picY xs) := by rw [fewM, hS]
      cases o with
      | none =>
        repeat' ((conv => whnf); first
          | (rw [lits_I, lits_I])
          | (rw [eqC36 hpl2 hpl])
          | (refine And.intro rfl ?_)
          | (refine And.intro (by decide +kernel) ?_)
          | (refine And.intro trivial ?_)
          | (refine d_ordered (ha := sli_ly (getx1 h1)) (hb := sli_ints getl) (hl := by omega) (ho := hin) (hl2 := by omega) (h0 := fun cap => ?_) ..)
          | (refine d_picture (ha := sli_ly getl) (hx := hk1) (hall := hk2) (hl := by omega) (h0 := ?_) ..)
          | (refine d_picture (ha := sli_ly (getx1 (getx1 h1))) (hx := hx) (hall := hall) (hl := by omega) (h0 := ?_) ..)
          | (refine Exists.intro _ (And.intro rfl (And.intro rfl (And.intro (Nat.le_of_ble_eq_true rfl) ?_))))
          | (refine Exists.intro _ (And.intro rfl (And.intro rfl (And.intro rfl (And.intro (Nat.le_of_ble_eq_true rfl) ?_)))))
          | (refine And.intro (Exists.intro _ (And.intro rfl rfl)) ?_)
          | (exact fun hW => absurd hW (by decide +kernel))
          | (intro hW; (try simp only [Bool.not_true, Bool.not_false, Bool.not_eq_true', Bool.not_eq_false', decide_eq_true_eq, decide_eq_false_iff_not, reduceCtorEq, Bool.true_eq_false, Bool.false_eq_true, mk_size, List.size_toArray, ByteArray.size_append, ByteArray.size_extract, List.length_cons, List.length_nil, ba_get, ba_empty, Int.toNat_natCast] at hW))
          | (refine And.intro (?_ : _ → _) (?_ : _ → _))
          | (refine FinR.drop 0 (Nat.zero_le _) (Closed.zero _) rfl ?_)
          | (refine FinR.keep ?_)
          | (refine And.intro (det3_agg rfl) ?_)
          | (refine fL_mk ?_)
          | (refine And.intro (by (try simp only [mk_size, List.size_toArray, ByteArray.size_append, ByteArray.size_extract, List.length_cons, List.length_nil]); omega) ?_)
          | (refine And.intro (by (try simp only [mk_size, List.size_toArray, ByteArray.size_append, ByteArray.size_extract, List.length_cons, List.length_nil, wrap64_eq]); omega) ?_)
          | fail)
        all_goals first | (exfalso; omega) | skip
        all_goals first
          | (have hW' : fewM xs c = true := by rw [hfm]; simp_all
             rw [hW', show (none : Option (List Int × Nat × Nat)).map (·.1) = none from rfl, show takeI none S = true from rfl, Bool.true_and, if_pos rfl] at hst
             exact Again.go ⟨c + 1, some (S, σ.length, cp2), σ ++ [outB S] ++ [lyB (ordL xs S)]⟩ ⟨rfl, rfl, rfl, slI' (wsucc' c (by omega)), trivial⟩ (.keep rfl) ⟨by dsimp only; omega, hst.symm, getx1 (getx1 h1), fun L' b' cp' e => by cases e; exact getx1 getl⟩ (by dsimp only; omega))
          | (have hW' : fewM xs c = false := by rw [hfm]; simp_all
             rw [hW', Bool.false_and, if_neg (by decide)] at hst
             exact Again.go ⟨c + 1, none, σ ++ [outB S] ++ [lyB (ordL xs S)]⟩ ⟨rfl, rfl, rfl, slI' (wsucc' c (by omega)), trivial⟩ (.keep rfl) ⟨by dsimp only; omega, hst.symm, getx1 (getx1 h1), fun L' b' cp' e => by cases e⟩ (by dsimp only; omega))
      | some r =>
        obtain ⟨L, b, cp1⟩ := r
        have h2 := h2 L b cp1 rfl
        have hLl : L.length ≤ xs.length := by
          have e : fewI xs c = some L := ho.symm
          have : ∀ c, ∀ L, fewI xs c = some L → L.length ≤ xs.length := by
            intro c
            induction c with
            | zero => intro L h; cases h
            | succ c ih =>
              intro L h
              rw [fewI_succ] at h
              split at h
              · cases h; exact selN_len _ _
              · exact ih L h
          exact this c L e
        repeat' ((conv => whnf); first
          | (rw [lits_I, lits_I])
          | (rw [eqC36 hpl2 hpl])
          | (refine And.intro rfl ?_)
          | (refine And.intro (by decide +kernel) ?_)
          | (refine And.intro trivial ?_)
          | (refine d_ordered (ha := sli_ly (getx1 h1)) (hb := sli_ints getl) (hl := by omega) (ho := hin) (hl2 := by omega) (h0 := fun cap => ?_) ..)
          | (refine d_picture (ha := sli_ly getl) (hx := hk1) (hall := hk2) (hl := by omega) (h0 := ?_) ..)
          | (refine d_picture (ha := sli_ly (getx1 (getx1 h1))) (hx := hx) (hall := hall) (hl := by omega) (h0 := ?_) ..)
          | (refine And.intro ⟨_, getx1 (getx1 h2), rfl⟩ ?_)
          | (refine And.intro ⟨_, getx1 getl, rfl⟩ ?_)
          | (refine d_Compare (ha := sli_ints (getx1 getl)) (hb := sli_ints (getx1 (getx1 h2))) (hl := by omega) (hlen := by omega) (h0 := fun r hr => ?_) ..)
          | (refine Exists.intro _ (And.intro rfl (And.intro rfl (And.intro (Nat.le_of_ble_eq_true rfl) ?_))))
          | (refine Exists.intro _ (And.intro rfl (And.intro rfl (And.intro rfl (And.intro (Nat.le_of_ble_eq_true rfl) ?_)))))
          | (refine And.intro (Exists.intro _ (And.intro rfl rfl)) ?_)
          | (exact fun hW => absurd hW (by decide +kernel))
          | (intro hW; (try simp only [Bool.not_true, Bool.not_false, Bool.not_eq_true', Bool.not_eq_false', decide_eq_true_eq, decide_eq_false_iff_not, reduceCtorEq, Bool.true_eq_false, Bool.false_eq_true, mk_size, List.size_toArray, ByteArray.size_append, ByteArray.size_extract, List.length_cons, List.length_nil, ba_get, ba_empty, Int.toNat_natCast] at hW))
          | (refine And.intro (?_ : _ → _) (?_ : _ → _))
          | (refine FinR.drop 0 (Nat.zero_le _) (Closed.zero _) rfl ?_)
          | (refine FinR.keep ?_)
          | (refine And.intro (det3_agg rfl) ?_)
          | (refine fL_mk ?_)
          | (refine And.intro (by (try simp only [mk_size, List.size_toArray, ByteArray.size_append, ByteArray.size_extract, List.length_cons, List.length_nil]); omega) ?_)
          | (refine And.intro (by (try simp only [mk_size, List.size_toArray, ByteArray.size_append, ByteArray.size_extract, List.length_cons, List.length_nil, wrap64_eq]); omega) ?_)
          | fail)
        all_goals first | (exfalso; omega) | skip
        all_goals first
          | (have hW' : fewM xs c = true := by rw [hfm]; simp_all
             have hs : sooner S L = true := by
              rw [sooner]
              by_cases e : S.length = L.length
              · rw [if_pos e]; first | (rw [← hr]; simp; omega) | (exfalso; omega)
              · rw [if_neg e]; simp; omega
             rw [hW', show (some (L, b, cp1) : Option (List Int × Nat × Nat)).map (·.1) = some L from rfl, show takeI (some L) S = sooner S L from rfl, hs, Bool.true_and, if_pos rfl] at hst
             exact Again.go ⟨c + 1, some (S, σ.length, cp2), σ ++ [outB S] ++ [lyB (ordL xs S)]⟩ ⟨rfl, rfl, rfl, slI' (wsucc' c (by omega)), trivial⟩ (.keep rfl) ⟨by dsimp only; omega, hst.symm, getx1 (getx1 h1), fun L' b' cp' e => by cases e; exact getx1 getl⟩ (by dsimp only; omega))
          | (have hW' : fewM xs c = true := by rw [hfm]; simp_all
             have hs : sooner S L = false := by
              rw [sooner]
              by_cases e : S.length = L.length
              · rw [if_pos e]; first | (rw [← hr]; simp; omega) | (exfalso; omega)
              · rw [if_neg e]; simp; omega
             rw [hW', show (some (L, b, cp1) : Option (List Int × Nat × Nat)).map (·.1) = some L from rfl, show takeI (some L) S = sooner S L from rfl, hs, Bool.true_and, if_neg (by decide)] at hst
             exact Again.go ⟨c + 1, some (L, b, cp1), σ ++ [outB S] ++ [lyB (ordL xs S)]⟩ ⟨rfl, rfl, rfl, slI' (wsucc' c (by omega)), trivial⟩ (.keep rfl) ⟨by dsimp only; omega, hst.symm, getx1 (getx1 h1), fun L' b' cp' e => by cases e; exact getx1 (getx1 h2)⟩ (by dsimp only; omega))
          | (have hW' : fewM xs c = false := by rw [hfm]; simp_all
             rw [hW', Bool.false_and, if_neg (by decide)] at hst
             exact Again.go ⟨c + 1, some (L, b, cp1), σ ++ [outB S] ++ [lyB (ordL xs S)]⟩ ⟨rfl, rfl, rfl, slI' (wsucc' c (by omega)), trivial⟩ (.keep rfl) ⟨by dsimp only; omega, hst.symm, getx1 (getx1 h1), fun L' b' cp' e => by cases e; exact getx1 (getx1 h2)⟩ (by dsimp only; omega))
  · obtain rfl : c = N := by omega
    rw [hend] at ho
    obtain ⟨⟨L, b, cp1⟩, rfl, hL⟩ := Option.map_eq_some_iff.1 ho
    dsimp only at hL
    have h00 := h0 b cp1 σ (by rw [← hL]; exact h2 _ _ _ rfl)
    rw [← hL] at h00
    repeat' ((conv => whnf); first
      | (refine And.intro rfl ?_)
      | (refine And.intro (by decide +kernel) ?_)
      | (refine And.intro trivial ?_)
      | (refine Exists.intro _ (And.intro rfl (And.intro rfl (And.intro (Nat.le_of_ble_eq_true rfl) ?_))))
      | (refine Exists.intro _ (And.intro rfl (And.intro rfl (And.intro rfl (And.intro (Nat.le_of_ble_eq_true rfl) ?_)))))
      | (refine And.intro (Exists.intro _ (And.intro rfl rfl)) ?_)
      | (exact fun hW => absurd hW (by decide +kernel))
      | (intro hW; (try simp only [Bool.not_true, Bool.not_false, Bool.not_eq_true', Bool.not_eq_false', decide_eq_true_eq, decide_eq_false_iff_not, reduceCtorEq, Bool.true_eq_false, Bool.false_eq_true, mk_size, List.size_toArray, ByteArray.size_append, ByteArray.size_extract, List.length_cons, List.length_nil, ba_get, ba_empty, Int.toNat_natCast] at hW))
      | (refine And.intro (?_ : _ → _) (?_ : _ → _))
      | (refine FinR.drop 0 (Nat.zero_le _) (Closed.zero _) rfl ?_)
      | (refine FinR.keep ?_)
      | (refine And.intro (det3_agg rfl) ?_)
      | (refine fL_mk ?_)
      | (refine And.intro (by (try simp only [mk_size, List.size_toArray, ByteArray.size_append, ByteArray.size_extract, List.length_cons, List.length_nil]); omega) ?_)
      | (refine And.intro (by (try simp only [mk_size, List.size_toArray, ByteArray.size_append, ByteArray.size_extract, List.length_cons, List.length_nil, wrap64_eq]); omega) ?_)
      | fail)
    all_goals first | (exfalso; omega) | exact h00
end Go.Proofs.Ythncpkdhcfaflaa
end

section
/- Contracts: the law of the fewest prints. -/
set_option linter.unusedVariables false
set_option linter.unusedSimpArgs false
set_option maxRecDepth 100000
set_option maxHeartbeats 4000000
namespace Go.Proofs.Ythncpkdhcfaflaa
open Go Go.RowKit Go.Proofs.Ythncpkdhcfaflaa.Abs
variable {W0 : World} {σ : List Blk}
theorem get_ne {σ : List Blk} {b i : Nat} {B X : Blk} (h : σ[b]? = some B) (hne : i ≠ b) : (σ.set i X)[b]? = some B := by rw [List.getElem?_set_ne hne]; exact h
/-- lists of numbers that lie among new blocks -/
structure NewL (l : List Int) where
  b : Nat
  cap : Nat
  τ : List Blk
  h : τ[b]? = some (outB l)
theorem newL_sh {σ : List Blk} {l : List Int} (x : NewL l) : (σ ++ shB σ.length x.τ)[σ.length + x.b]? = some (outB l) := by
  rw [get_sh x.h]
  show some (⟨(l.map I).map (sh1 σ.length), _, _, _, _, _⟩ : Blk) = _
  rw [sh_I]
theorem d_sFewT (a : AV) (xs : List (List Int)) (ha : Sli W0 σ 9 enI a xs) (hx : ∀ x ∈ xs, x.length = 9) (hlb : listB xs = true) (L : List Int) (hL : L = fewS xs (2 ^ xs.length)) (K : Cont)
    (h0 : ∀ b cap τ, (σ ++ τ)[b]? = some (outB L) → σ.length ≤ b → K (.tup [.sl b L.length 0 L.length cap, Bo true]) (σ ++ τ)) : ACall Try.prog W0 39 [a] σ K :=
  lift_S1 (ι := NewL L) (fun x => .tup [.sl x.b L.length 0 L.length x.cap, Bo true]) (fun x => x.τ) (by kernel_rfl) ha
    (fun W1 a' h K hK => c_sFewT a' xs h hx hlb K (by rw [← hL]; exact fun b cap σ' h => hK ⟨b, cap, σ', h⟩)) K (fun x => h0 _ _ _ (newL_sh x) (Nat.le_add_right _ _))
theorem d_FewT (a : AV) (xs : List (List Int)) (ha : Sli W0 σ 9 enI a xs) (hx : ∀ x ∈ xs, x.length = 9) (hlb : listB xs = true) (L : List Int) (hL : L = fewS xs (2 ^ xs.length)) (K : Cont)
    (h0 : ∀ b cap τ, (σ ++ τ)[b]? = some (outB L) → σ.length ≤ b → K (.tup [.sl b L.length 0 L.length cap, Bo true]) (σ ++ τ)) : ACall Try.prog W0 40 [a] σ K :=
  lift_S1 (ι := NewL L) (fun x => .tup [.sl x.b L.length 0 L.length x.cap, Bo true]) (fun x => x.τ) (by kernel_rfl) ha
    (fun W1 a' h K hK => c_FewT a' xs h hx hlb K (by rw [← hL]; exact fun b cap σ' h => hK ⟨b, cap, σ', h⟩)) K (fun x => h0 _ _ _ (newL_sh x) (Nat.le_add_right _ _))
theorem c_sFewF (a : AV) (xs : List (List Int)) (ha : Sli W0 [] 9 enI a xs) (hx : ∀ x ∈ xs, x.length = 9) (hl : xs.length ≤ 1048576) (hb : listB xs = false) (K : Cont) (h0 : K (.tup [.sl 0 0 0 0 0, Bo false]) [outB []]) : ACall Try.prog W0 39 [a] [] K := by
  obtain ⟨va, rfl⟩ := sli_lit ha
  refine by39 (Nat.le_of_ble_eq_true rfl) ?_
  repeat' ((conv => whnf); first
    | (refine And.intro rfl ?_)
    | (refine And.intro (by decide +kernel) ?_)
    | (refine And.intro trivial ?_)
    | (refine d_l8List (ha := sli_up ha) (hx := hx) (hl := hl) (h0 := ?_) ..; rw [hb])
    | (refine Exists.intro _ (And.intro rfl (And.intro rfl (And.intro (Nat.le_of_ble_eq_true rfl) ?_))))
    | (refine Exists.intro _ (And.intro rfl (And.intro rfl (And.intro rfl (And.intro (Nat.le_of_ble_eq_true rfl) ?_)))))
    | (refine And.intro (Exists.intro _ (And.intro rfl rfl)) ?_)
    | (exact fun hW => absurd hW (by decide +kernel))
    | (intro hW; (try simp only [Bool.not_true, Bool.not_false, Bool.not_eq_true', Bool.not_eq_false', decide_eq_true_eq, decide_eq_false_iff_not, reduceCtorEq, Bool.true_eq_false, Bool.false_eq_true, mk_size, List.size_toArray, ByteArray.size_append, ByteArray.size_extract, List.length_cons, List.length_nil, ba_get, ba_empty, Int.toNat_natCast] at hW))
    | (refine And.intro (?_ : _ → _) (?_ : _ → _))
    | (refine FinR.drop 0 (Nat.zero_le _) (Closed.zero _) rfl ?_)
    | (refine FinR.keep ?_)
    | (refine And.intro (det3_agg rfl) ?_)
    | (refine fL_mk ?_)
    | (refine And.intro (by (try simp only [mk_size, List.size_toArray, ByteArray.size_append, ByteArray.size_extract, List.length_cons, List.length_nil]); omega) ?_)
    | (refine And.intro (by (try simp only [mk_size, List.size_toArray, ByteArray.size_append, ByteArray.size_extract, List.length_cons, List.length_nil, wrap64_eq]); omega) ?_)
    | fail)
  all_goals first | (exfalso; omega) | (exfalso; simp_all; done) | exact h0
theorem d_sFewF (a : AV) (xs : List (List Int)) (ha : Sli W0 σ 9 enI a xs) (hx : ∀ x ∈ xs, x.length = 9) (hl : xs.length ≤ 1048576) (hb : listB xs = false) (K : Cont) (h0 : K (.tup [.sl (σ.length + 0) 0 0 0 0, Bo false]) (σ ++ [outB []])) : ACall Try.prog W0 39 [a] σ K :=
  lift_S1 (ι := Unit) (fun _ => .tup [.sl 0 0 0 0 0, Bo false]) (fun _ => [outB []]) (by kernel_rfl) ha (fun W1 a' h K hK => c_sFewF a' xs h hx hl hb K (hK ())) K (fun _ => h0)
theorem c_FewF (a : AV) (xs : List (List Int)) (ha : Sli W0 [] 9 enI a xs) (hx : ∀ x ∈ xs, x.length = 9) (hl : xs.length ≤ 1048576) (hb : listB xs = false) (K : Cont) (h0 : K (.tup [nilA, Bo false]) []) : ACall Try.prog W0 40 [a] [] K := by
  obtain ⟨va, rfl⟩ := sli_lit ha
  refine by40 (Nat.le_of_ble_eq_true rfl) ?_
  have h6 : xs.all pOk = true → decide (xs.length ≤ 6) = false := by
    intro h; simp only [listB, h, Bool.and_true] at hb; exact hb
  repeat' ((conv => whnf); first
    | (refine And.intro rfl ?_)
    | (refine And.intro (by decide +kernel) ?_)
    | (refine And.intro trivial ?_)
    | (refine c_layersOf (ha := ha) (hx := hx) (hl := by omega) (h1 := fun hall cp => ?_) (h2 := fun hf => ?_) .. <;> try rw [h6 hall])
    | (refine Exists.intro _ (And.intro rfl (And.intro rfl (And.intro (Nat.le_of_ble_eq_true rfl) ?_))))
    | (refine Exists.intro _ (And.intro rfl (And.intro rfl (And.intro rfl (And.intro (Nat.le_of_ble_eq_true rfl) ?_)))))
    | (refine And.intro (Exists.intro _ (And.intro rfl rfl)) ?_)
    | (exact fun hW => absurd hW (by decide +kernel))
    | (intro hW; (try simp only [Bool.not_true, Bool.not_false, Bool.not_eq_true', Bool.not_eq_false', decide_eq_true_eq, decide_eq_false_iff_not, reduceCtorEq, Bool.true_eq_false, Bool.false_eq_true, mk_size, List.size_toArray, ByteArray.size_append, ByteArray.size_extract, List.length_cons, List.length_nil, ba_get, ba_empty, Int.toNat_natCast] at hW))
    | (refine And.intro (?_ : _ → _) (?_ : _ → _))
    | (refine FinR.drop 0 (Nat.zero_le _) (Closed.zero _) rfl ?_)
    | (refine FinR.keep ?_)
    | (refine And.intro (det3_agg rfl) ?_)
    | (refine fL_mk ?_)
    | (refine And.intro (by (try simp only [mk_size, List.size_toArray, ByteArray.size_append, ByteArray.size_extract, List.length_cons, List.length_nil]); omega) ?_)
    | (refine And.intro (by (try simp only [mk_size, List.size_toArray, ByteArray.size_append, ByteArray.size_extract, List.length_cons, List.length_nil, wrap64_eq]); omega) ?_)
    | fail)
  all_goals first | (exfalso; omega) | (exfalso; simp_all; done) | exact h0
theorem d_FewF (a : AV) (xs : List (List Int)) (ha : Sli W0 σ 9 enI a xs) (hx : ∀ x ∈ xs, x.length = 9) (hl : xs.length ≤ 1048576) (hb : listB xs = false) (K : Cont) (h0 : K (.tup [nilA, Bo false]) σ) : ACall Try.prog W0 40 [a] σ K :=
  lift_S (by kernel_rfl) (fun _ => rfl) ha (fun W1 a' h K hK => c_FewF a' xs h hx hl hb K hK) K h0
theorem c_law_FewestPrintsT (v : Value) (xs : List (List Int)) (ha : Sli W0 [] 9 enI (.lit v) xs) (hx : ∀ x ∈ xs, x.length = 9) (hb : listB xs = true) (K : Cont) (h0 : K (Bo true) []) : ACall Try.prog W0 10 [.lit v] [] K := by
  refine by10 (Nat.le_of_ble_eq_true rfl) ?_
  obtain ⟨hl, hall⟩ := listB_iff.1 hb
  have hz : ¬ ((1048576 : Int) - (xs.length : Nat) < 0) := by omega
  have hsl := few_len xs (2 ^ xs.length)
  have h9 := jc_len9 hx
  generalize hL : fewS xs (2 ^ xs.length) = L at hsl
  have hlm : L.length ≤ (L.map I).length := by rw [List.length_map]; exact Nat.le_refl _
  repeat' ((conv => whnf); first
    | (refine And.intro rfl ?_)
    | (refine And.intro (by decide +kernel) ?_)
    | (refine And.intro trivial ?_)
    | (have hz2 := e2; refine d_FewT (ha := sli_rows hx getl) (hx := hx) (hlb := hb) (hL := hL.symm) (h0 := fun b3 cap3 τ3 e3 l3 => ?_) ..)
    | (refine d_szPrintS (ha := sli_up ha) (hl := by omega) (hm := by decide) (h0 := ?_) .. <;> try rw [if_neg hz])
    | (refine d_toPrintS (hs := sli_up ha) (hx := hx) (hl := by omega) (h0 := ?_) ..)
    | (refine d_sFewT (ha := sli_rows hx getl) (hx := hx) (hlb := hb) (hL := hL.symm) (h0 := fun b1 cap1 τ1 e1 l1 => ?_) ..)
    | (refine d_FewT (ha := sli_rows hx getl) (hx := hx) (hlb := hb) (hL := hL.symm) (h0 := fun b2 cap2 τ2 e2 l2 => ?_) ..)
    | (refine d_eqIntS (ha := sli_ints e2) (hb' := sli_ints (getx1 (getx1 e1))) (hl := by omega) (h0 := ?_) ..)
    | (refine d_eqPrintS (ha := sli_rows hx (getx1 (getx1 getl))) (hb' := sli_rows hx getl) (hx := hx) (hl := by omega) (h0 := ?_) ..)
    | (refine d_markPrintS (B := prB xs) (hB := getx1 (getx1 getl)) (hv := rfl) (hn := h9) (hn2 := by omega) (hk := by omega) (h0 := ?_) ..)
    | (refine d_eqIntS (ha := sli_ints (get_ne (getx1 e2) (by simp only [List.length_append, List.length_cons, List.length_nil] at *; omega))) (hb' := sli_ints (get_ne (getx1 (getx1 (getx1 e1))) (by have q1 := getElem?_lt e1; simp only [List.length_append, List.length_cons, List.length_nil] at *; omega))) (hl := by omega) (h0 := ?_) ..)
    | (refine d_markIntS (B := outB L) (hB := get_ne (getx1 e2) (by simp only [List.length_append, List.length_cons, List.length_nil] at *; omega)) (hv := rfl) (hn := hlm) (hn2 := by omega) (hk := by omega) (h0 := ?_) ..)
    | (refine d_heldIntS (ha := sli_marks2 (B := outB L) (get_set (get_ne (getx1 e2) (by simp only [List.length_append, List.length_cons, List.length_nil] at *; omega))) rfl) (hn2 := by omega) (hk := by omega) (h0 := ?_) ..)
    | (refine d_eqIntS (ha := sli_ints e3) (hb' := sli_ints (getx1 (getx1 (get_ne (get_ne (getx1 (getx1 (getx1 e1))) (by have q1 := getElem?_lt e1; simp only [List.length_append, List.length_cons, List.length_nil] at *; omega)) (by have q1 := getElem?_lt e1; simp only [List.length_append, List.length_cons, List.length_nil] at *; omega))))) (hl := by omega) (h0 := ?_) ..)
    | (refine d_heldIntS (ha := sli_marks2 (B := outB L) (getx1 (getx1 (get_set (get_ne (getx1 e2) (by simp only [List.length_append, List.length_cons, List.length_nil] at *; omega))))) rfl) (hn2 := by omega) (hk := by omega) (h0 := ?_) ..)
    | (refine Exists.intro _ (And.intro rfl (And.intro rfl (And.intro (Nat.le_of_ble_eq_true rfl) ?_))))
    | (refine Exists.intro _ (And.intro rfl (And.intro rfl (And.intro rfl (And.intro (Nat.le_of_ble_eq_true rfl) ?_)))))
    | (refine And.intro (Exists.intro _ (And.intro rfl rfl)) ?_)
    | (exact fun hW => absurd hW (by decide +kernel))
    | (intro hW; (try simp only [Bool.not_true, Bool.not_false, Bool.not_eq_true', Bool.not_eq_false', decide_eq_true_eq, decide_eq_false_iff_not, reduceCtorEq, Bool.true_eq_false, Bool.false_eq_true, mk_size, List.size_toArray, ByteArray.size_append, ByteArray.size_extract, List.length_cons, List.length_nil, ba_get, ba_empty, Int.toNat_natCast] at hW))
    | (refine And.intro (?_ : _ → _) (?_ : _ → _))
    | (refine FinR.drop 0 (Nat.zero_le _) (Closed.zero _) rfl ?_)
    | (refine FinR.keep ?_)
    | (refine And.intro (det3_agg rfl) ?_)
    | (refine fL_mk ?_)
    | (refine And.intro (by (try simp only [mk_size, List.size_toArray, ByteArray.size_append, ByteArray.size_extract, List.length_cons, List.length_nil]); omega) ?_)
    | (refine And.intro (by (try simp only [mk_size, List.size_toArray, ByteArray.size_append, ByteArray.size_extract, List.length_cons, List.length_nil, wrap64_eq]); omega) ?_)
    | fail)
  all_goals first | exact h0 | (exfalso; omega) | (exfalso; simp_all; done) | skip
theorem c_law_FewestPrintsF (v : Value) (xs : List (List Int)) (ha : Sli W0 [] 9 enI (.lit v) xs) (hx : ∀ x ∈ xs, x.length = 9) (hl : xs.length ≤ 1048576) (hb : listB xs = false) (K : Cont) (h0 : K (Bo true) []) : ACall Try.prog W0 10 [.lit v] [] K := by
  refine by10 (Nat.le_of_ble_eq_true rfl) ?_
  have hz : ¬ ((1048576 : Int) - (xs.length : Nat) < 0) := by omega
  have h9 := jc_len9 hx
  repeat' ((conv => whnf); first
    | (refine And.intro rfl ?_)
    | (refine And.intro (by decide +kernel) ?_)
    | (refine And.intro trivial ?_)
    | (refine d_szPrintS (ha := sli_up ha) (hl := by omega) (hm := by decide) (h0 := ?_) .. <;> try rw [if_neg hz])
    | (refine d_toPrintS (hs := sli_up ha) (hx := hx) (hl := by omega) (h0 := ?_) ..)
    | (refine d_sFewF (ha := sli_rows hx rfl) (hx := hx) (hl := hl) (hb := hb) (h0 := ?_) ..)
    | (refine d_FewF (ha := sli_rows hx rfl) (hx := hx) (hl := hl) (hb := hb) (h0 := ?_) ..)
    | (refine d_eqIntS (xs := []) (ha := .nil) (hb' := sli_ints rfl) (hl := by decide) (h0 := ?_) ..)
    | (refine d_eqPrintS (ha := sli_rows hx rfl) (hb' := sli_rows hx rfl) (hx := hx) (hl := by omega) (h0 := ?_) ..)
    | (refine d_markPrintS (B := prB xs) (hB := rfl) (hv := rfl) (hn := h9) (hn2 := by omega) (hk := by omega) (h0 := ?_) ..)
    | (refine d_markIntS0 (h0 := ?_) ..)
    | (refine d_heldIntS (n := 0) (ha := .nil) (hn2 := by omega) (hk := by omega) (h0 := ?_) ..)
    | (refine Exists.intro _ (And.intro rfl (And.intro rfl (And.intro (Nat.le_of_ble_eq_true rfl) ?_))))
    | (refine Exists.intro _ (And.intro rfl (And.intro rfl (And.intro rfl (And.intro (Nat.le_of_ble_eq_true rfl) ?_)))))
    | (refine And.intro (Exists.intro _ (And.intro rfl rfl)) ?_)
    | (exact fun hW => absurd hW (by decide +kernel))
    | (intro hW; (try simp only [Bool.not_true, Bool.not_false, Bool.not_eq_true', Bool.not_eq_false', decide_eq_true_eq, decide_eq_false_iff_not, reduceCtorEq, Bool.true_eq_false, Bool.false_eq_true, mk_size, List.size_toArray, ByteArray.size_append, ByteArray.size_extract, List.length_cons, List.length_nil, ba_get, ba_empty, Int.toNat_natCast] at hW))
    | (refine And.intro (?_ : _ → _) (?_ : _ → _))
    | (refine FinR.drop 0 (Nat.zero_le _) (Closed.zero _) rfl ?_)
    | (refine FinR.keep ?_)
    | (refine And.intro (det3_agg rfl) ?_)
    | (refine fL_mk ?_)
    | (refine And.intro (by (try simp only [mk_size, List.size_toArray, ByteArray.size_append, ByteArray.size_extract, List.length_cons, List.length_nil]); omega) ?_)
    | (refine And.intro (by (try simp only [mk_size, List.size_toArray, ByteArray.size_append, ByteArray.size_extract, List.length_cons, List.length_nil, wrap64_eq]); omega) ?_)
    | fail)
  all_goals first | exact h0 | (exfalso; omega) | (exfalso; simp_all; done) | skip
theorem c_law_FewestPrints (v : Value) (xs : List (List Int)) (ha : Sli W0 [] 9 enI (.lit v) xs) (hxx : ∀ x ∈ xs, x.length = 9 ∧ ∀ n ∈ x, IntKind.i64.has n) (hm : xs.length ≤ maxLen) (K : Cont) (h0 : K (Bo true) []) : ACall Try.prog W0 10 [.lit v] [] K := by
  have hm' : xs.length ≤ 9223372036854775807 := hm
  have hx : ∀ x ∈ xs, x.length = 9 := fun x h => (hxx x h).1
  by_cases hl : xs.length ≤ 1048576
  · cases hb : listB xs with
    | true => exact c_law_FewestPrintsT v xs ha hx hb K h0
    | false => exact c_law_FewestPrintsF v xs ha hx hl hb K h0
  · refine by10 (Nat.le_of_ble_eq_true rfl) ?_
    have hz : ((1048576 : Int) - (xs.length : Nat) < 0) := by omega
    repeat' ((conv => whnf); first
      | (refine And.intro rfl ?_)
      | (refine And.intro (by decide +kernel) ?_)
      | (refine And.intro trivial ?_)
      | (refine d_szPrintS (ha := sli_up ha) (hl := hm') (hm := by decide) (h0 := ?_) .. <;> try rw [if_pos hz])
      | (refine Exists.intro _ (And.intro rfl (And.intro rfl (And.intro (Nat.le_of_ble_eq_true rfl) ?_))))
      | (refine Exists.intro _ (And.intro rfl (And.intro rfl (And.intro rfl (And.intro (Nat.le_of_ble_eq_true rfl) ?_)))))
      | (refine And.intro (Exists.intro _ (And.intro rfl rfl)) ?_)
      | (exact fun hW => absurd hW (by decide +kernel))
      | (intro hW; (try simp only [Bool.not_true, Bool.not_false, Bool.not_eq_true', Bool.not_eq_false', decide_eq_true_eq, decide_eq_false_iff_not, reduceCtorEq, Bool.true_eq_false, Bool.false_eq_true, mk_size, List.size_toArray, ByteArray.size_append, ByteArray.size_extract, List.length_cons, List.length_nil, ba_get, ba_empty, Int.toNat_natCast] at hW))
      | (refine And.intro (?_ : _ → _) (?_ : _ → _))
      | (refine FinR.drop 0 (Nat.zero_le _) (Closed.zero _) rfl ?_)
      | (refine FinR.keep ?_)
      | (refine And.intro (det3_agg rfl) ?_)
      | (refine fL_mk ?_)
      | (refine And.intro (by (try simp only [mk_size, List.size_toArray, ByteArray.size_append, ByteArray.size_extract, List.length_cons, List.length_nil]); omega) ?_)
      | (refine And.intro (by (try simp only [mk_size, List.size_toArray, ByteArray.size_append, ByteArray.size_extract, List.length_cons, List.length_nil, wrap64_eq]); omega) ?_)
      | fail)
    all_goals first | exact h0 | (exfalso; omega) | (exfalso; simp_all; done)
end Go.Proofs.Ythncpkdhcfaflaa
end
