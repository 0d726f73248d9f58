import Derived.Test.YthncpkdhcfaflaaZLawIsRightOrder4
section
/- Contracts: pictures. -/
set_option linter.unusedVariables false
set_option linter.unusedSimpArgs false
set_option maxRecDepth 100000
set_option maxHeartbeats 4000000
namespace Go.Proofs.Ythncpkdhcfaflaa
open Go Go.RowKit Go.Proofs.Ythncpkdhcfaflaa.Abs
variable {W0 : World} {σ : List Blk}
abbrev Pi (q : List Int) : AV := .agg (q.map I)
theorem pureI (q : List Int) : pure3 (Pi q) = true := by
  show (q.map I).all _ = true
  rw [List.all_map]; exact List.all_eq_true.2 fun _ _ => rfl
theorem sh_Pi (k : Nat) (q : List Int) : sh3 k (Pi q) = Pi q := by show AV.agg ((q.map I).map (sh1 k)) = _; rw [sh_I]
theorem pic_le {q : List Int} (hq : q.length = 36) {off : Nat} (ho : off = 0) : off + 36 ≤ (q.map I).length := by rw [List.length_map]; omega
theorem pic_len {q : List Int} (hq : q.length = 36) : (q.map I).length = 36 := by rw [List.length_map]; exact hq
theorem pic_ld {q : List Int} (hq : q.length = 36) (off : Nat) (ho : off = 0) : mkAV true (((q.map I).drop off).take 36) = Pi q := by
  subst ho
  show AV.agg (((q.map I).drop 0).take 36) = _
  rw [List.drop_zero, List.take_of_length_le (by rw [pic_len hq]; exact Nat.le_refl _)]
theorem pic_res {q : List Int} (hq : q.length = 36) (Z : List AV) : mkAV true (((Z.take 0 ++ q.map I ++ Z.drop (0 + 36)).drop 0).take 36) = Pi q := by
  show AV.agg _ = _
  rw [List.take_zero, List.nil_append, List.drop_zero, List.take_left' (pic_len hq)]
theorem pic_rle {q : List Int} (hq : q.length = 36) (Z : List AV) : 0 + 36 ≤ (Z.take 0 ++ q.map I ++ Z.drop (0 + 36)).length := by
  rw [List.length_append, List.length_append, pic_len hq]; omega
theorem cell_le {q : List Int} {off : Nat} (h : off < q.length) : off + 1 ≤ (q.map I).length := by rw [List.length_map]; omega
theorem cell_ld {q : List Int} {off : Nat} (h : off < q.length) : mkAV false (((q.map I).drop off).take 1) = I (q.getD off 0) := by
  rw [← List.map_drop, ← List.map_take, List.drop_eq_getElem_cons h, List.getD_eq_getElem?_getD, List.getElem?_eq_getElem h]; rfl
theorem cell_st {q : List Int} {off : Nat} (v : Int) (h : off < q.length) : (q.map I).take off ++ [I v] ++ (q.map I).drop (off + 1) = (q.set off v).map I := by
  rw [List.set_eq_take_append_cons_drop, if_pos h, List.map_append, List.map_cons, List.map_take, List.map_drop, List.append_assoc]; rfl
theorem row_ld {q : List Int} {i : Nat} (h : i * 6 + 6 ≤ q.length) : ∃ a b c d e f, (q.drop (i * 6)).take 6 = [a, b, c, d, e, f] := by
  have : ((q.drop (i * 6)).take 6).length = 6 := by rw [List.length_take, List.length_drop]; omega
  match hh : (q.drop (i * 6)).take 6, this with
  | [a, b, c, d, e, f], _ => exact ⟨a, b, c, d, e, f, rfl⟩
theorem row_mk {q : List Int} {i off : Nat} {a b c d e f : Int} (h : (q.drop (i * 6)).take 6 = [a, b, c, d, e, f]) (ho : off = i * 6) : mkAV true (((q.map I).drop off).take 6) = Sh a b c d e f := by
  subst ho
  rw [← List.map_drop, ← List.map_take, h]; rfl
/-- a picture of which the first rows are there -/
def cpy (q : List Int) (i : Nat) : List Int := q.take (i * 6) ++ List.replicate (36 - i * 6) 0
theorem cpy_len {q : List Int} (hq : q.length = 36) {i : Nat} (hi : i ≤ 6) : (cpy q i).length = 36 := by
  rw [cpy, List.length_append, List.length_take, List.length_replicate]; omega
theorem cpy_end {q : List Int} (hq : q.length = 36) : cpy q 6 = q := by
  simp [cpy, List.take_of_length_le (Nat.le_of_eq hq)]
theorem cpy_step {q : List Int} (hq : q.length = 36) {i : Nat} (hi : i < 6) {a b c d e f : Int} (h : (q.drop (i * 6)).take 6 = [a, b, c, d, e, f]) (off : Nat) (ho : off = i * 6) :
    ((cpy q i).map I).take off ++ [I a, I b, I c, I d, I e, I f] ++ ((cpy q i).map I).drop (off + 6) = (cpy q (i + 1)).map I := by
  subst ho
  have hl : (q.take (i * 6)).length = i * 6 := by rw [List.length_take]; omega
  have e1 : (cpy q i).take (i * 6) = q.take (i * 6) := by rw [cpy, List.take_left' hl]
  have e2 : (cpy q i).drop (i * 6 + 6) = List.replicate (36 - (i + 1) * 6) 0 := by
    rw [cpy, ← List.drop_drop, List.drop_left' hl, List.drop_replicate]; congr 1; omega
  have e3 : q.take ((i + 1) * 6) = q.take (i * 6) ++ [a, b, c, d, e, f] := by
    rw [Nat.add_mul, List.take_add, h]
  rw [← List.map_take, ← List.map_drop, e1, e2, cpy, e3]
  simp
def bQ (q : List Int) (e : TypeId) : Blk := ⟨q.map I, 0, e, 0, false, false⟩
abbrev z36 : List Int := List.replicate 36 0
theorem belPi (k : Nat) (q : List Int) : bel3 k (Pi q) = true := belI k q
theorem c_toIntA6A6 (q : List Int) (hq : q.length = 36) (K : Cont) (h0 : K (Pi q) []) : ACall Try.prog W0 65 [Pi q] [] K := by
  refine by65 (Nat.le_of_ble_eq_true rfl) ?_
  repeat' ((conv => whnf); first
    | (refine And.intro rfl ?_)
    | (refine And.intro (by decide +kernel) ?_)
    | (refine And.intro trivial ?_)
    | (refine Exists.intro _ (And.intro rfl (And.intro rfl (And.intro (Nat.le_of_ble_eq_true rfl) ?_))))
    | (refine Exists.intro _ (And.intro rfl (And.intro rfl (And.intro rfl (And.intro (Nat.le_of_ble_eq_true rfl) ?_)))))
    | (refine And.intro (Exists.intro _ (And.intro rfl rfl)) ?_)
    | (exact fun hW => absurd hW (by decide +kernel))
    | (intro hW; (try simp only [Bool.not_true, Bool.not_false, Bool.not_eq_true', Bool.not_eq_false', decide_eq_true_eq, decide_eq_false_iff_not, reduceCtorEq, Bool.true_eq_false, Bool.false_eq_true, mk_size, List.size_toArray, ByteArray.size_append, ByteArray.size_extract, List.length_cons, List.length_nil, ba_get, ba_empty, Int.toNat_natCast] at hW))
    | (refine And.intro (?_ : _ → _) (?_ : _ → _))
    | (refine FinR.drop 0 (Nat.zero_le _) (Closed.zero _) rfl ?_)
    | (refine FinR.keep ?_)
    | (refine And.intro (det3_agg rfl) ?_)
    | (refine fL_mk ?_)
    | (refine And.intro (by (try simp only [mk_size, List.size_toArray, ByteArray.size_append, ByteArray.size_extract, List.length_cons, List.length_nil]); omega) ?_)
    | (refine And.intro (by (try simp only [mk_size, List.size_toArray, ByteArray.size_append, ByteArray.size_extract, List.length_cons, List.length_nil, wrap64_eq]); omega) ?_)
    | fail)
  refine LoopR.live (fun i : Nat => [(1, .ptr 0 0 0), (2, .ptr 1 0 0), (3, .ptr 2 0 0), (4, I i)]) (fun i => [bQ q 40, bQ z36 40, bQ (cpy q i) 40]) (fun i => i ≤ 6) (fun i => 6 - i) 0 ⟨rfl, rfl, rfl, rfl, trivial⟩ (.keep rfl) (Nat.zero_le _) ?_
  intro i hi
  by_cases hlt : i < 6
  · obtain ⟨a, b, c, d, e, f, hr⟩ := row_ld (q := q) (i := i) (by omega)
    have hle : ∀ off, off = i * 6 → off + 6 ≤ (q.map I).length := fun off ho => by rw [pic_len hq]; omega
    have hle2 : ∀ off, off = i * 6 → off + 6 ≤ ((cpy q i).map I).length := fun off ho => by rw [pic_len (cpy_len hq hi)]; omega
    have hst := cpy_step hq hlt hr (0 + ((i : Nat) : Int).toNat * 6) (by rw [Int.toNat_natCast]; omega)
    repeat' ((conv => whnf); first
      | (refine Exists.intro (bQ q 40) (And.intro rfl (And.intro rfl (And.intro (hle _ (by rw [Int.toNat_natCast]; omega)) ?_))); show _; rw [show (bQ q 40).cells = q.map I from rfl, row_mk hr (by rw [Int.toNat_natCast]; omega)])
      | (refine Exists.intro (bQ (cpy q i) 40) (And.intro rfl (And.intro rfl (And.intro rfl (And.intro (hle2 _ (by rw [Int.toNat_natCast]; omega)) ?_)))))
      | (refine And.intro rfl ?_)
      | (refine And.intro (by decide +kernel) ?_)
      | (refine And.intro trivial ?_)
      | (refine d_toIntA6 (h0 := ?_) ..)
      | (refine Exists.intro _ (And.intro (fun τ => callW_fn (d_toIntA6 (h0 := And.intro rfl rfl) ..)) ?_))
      | (refine Exists.intro _ (And.intro (callW_fn (d_toIntA6 (h0 := And.intro rfl rfl) ..)) (And.intro trivial ?_)))
      | (refine Exists.intro _ (And.intro (callW_fn (d_toIntA6 (h0 := And.intro rfl rfl) ..)) ?_))
      | (refine Exists.intro _ (And.intro (fun τ _ => callW_fn (d_toIntA6 (h0 := And.intro rfl rfl) ..)) ?_))
      | (refine Exists.intro _ (And.intro rfl (And.intro rfl (And.intro (Nat.le_of_ble_eq_true rfl) ?_))))
      | (refine Exists.intro _ (And.intro rfl (And.intro rfl (And.intro rfl (And.intro (Nat.le_of_ble_eq_true rfl) ?_)))))
      | (refine And.intro (Exists.intro _ (And.intro rfl rfl)) ?_)
      | (exact fun hW => absurd hW (by decide +kernel))
      | (intro hW; (try simp only [Bool.not_true, Bool.not_false, Bool.not_eq_true', Bool.not_eq_false', decide_eq_true_eq, decide_eq_false_iff_not, reduceCtorEq, Bool.true_eq_false, Bool.false_eq_true, mk_size, List.size_toArray, ByteArray.size_append, ByteArray.size_extract, List.length_cons, List.length_nil, ba_get, ba_empty, Int.toNat_natCast] at hW))
      | (refine And.intro (?_ : _ → _) (?_ : _ → _))
      | (refine FinR.drop 0 (Nat.zero_le _) (Closed.zero _) rfl ?_)
      | (refine FinR.keep ?_)
      | (refine And.intro (det3_agg rfl) ?_)
      | (refine fL_mk ?_)
      | (refine And.intro (by (try simp only [mk_size, List.size_toArray, ByteArray.size_append, ByteArray.size_extract, List.length_cons, List.length_nil]); omega) ?_)
      | (refine And.intro (by (try simp only [mk_size, List.size_toArray, ByteArray.size_append, ByteArray.size_extract, List.length_cons, List.length_nil, wrap64_eq]); omega) ?_)
      | fail)
    all_goals first | (exfalso; omega) | skip
    refine Again.go (i + 1) ⟨rfl, rfl, rfl, slI' (wsucc' i (by omega)), trivial⟩ (.keep ?_) (by omega) (by omega)
    dsimp only [bQ]
    rw [← hst]
    rfl
  · obtain rfl : i = 6 := by omega
    rw [cpy_end hq]
    repeat' ((conv => whnf); first
      | (refine Exists.intro (bQ q 40) (And.intro rfl (And.intro rfl (And.intro (pic_le hq rfl) ?_))); rw [show (bQ q 40).cells = q.map I from rfl, pic_ld hq _ rfl])
      | (refine Exists.intro _ (And.intro rfl (And.intro rfl (And.intro (pic_len hq) (And.intro (Nat.le_of_ble_eq_true rfl) ?_)))))
      | (refine Exists.intro _ (And.intro rfl (And.intro rfl (And.intro (pic_rle hq _) ?_))); rw [pic_res hq _])
      | (refine FinR.drop 0 (Nat.zero_le _) (Closed.zero _) (belPi 0 _) ?_)
      | (refine And.intro rfl ?_)
      | (refine And.intro (by decide +kernel) ?_)
      | (refine And.intro trivial ?_)
      | (refine Exists.intro _ (And.intro rfl (And.intro rfl (And.intro (Nat.le_of_ble_eq_true rfl) ?_))))
      | (refine Exists.intro _ (And.intro rfl (And.intro rfl (And.intro rfl (And.intro (Nat.le_of_ble_eq_true rfl) ?_)))))
      | (refine And.intro (Exists.intro _ (And.intro rfl rfl)) ?_)
      | (exact fun hW => absurd hW (by decide +kernel))
      | (intro hW; (try simp only [Bool.not_true, Bool.not_false, Bool.not_eq_true', Bool.not_eq_false', decide_eq_true_eq, decide_eq_false_iff_not, reduceCtorEq, Bool.true_eq_false, Bool.false_eq_true, mk_size, List.size_toArray, ByteArray.size_append, ByteArray.size_extract, List.length_cons, List.length_nil, ba_get, ba_empty, Int.toNat_natCast] at hW))
      | (refine And.intro (?_ : _ → _) (?_ : _ → _))
      | (refine FinR.drop 0 (Nat.zero_le _) (Closed.zero _) rfl ?_)
      | (refine FinR.keep ?_)
      | (refine And.intro (det3_agg rfl) ?_)
      | (refine fL_mk ?_)
      | (refine And.intro (by (try simp only [mk_size, List.size_toArray, ByteArray.size_append, ByteArray.size_extract, List.length_cons, List.length_nil]); omega) ?_)
      | (refine And.intro (by (try simp only [mk_size, List.size_toArray, ByteArray.size_append, ByteArray.size_extract, List.length_cons, List.length_nil, wrap64_eq]); omega) ?_)
      | fail)
    all_goals first | (exfalso; omega) | exact h0
theorem d_toIntA6A6 (q : List Int) (hq : q.length = 36) (K : Cont) (h0 : K (Pi q) σ) : ACall Try.prog W0 65 [Pi q] σ K :=
  ACall.lift (by rw [List.all_cons, pureI]; rfl) (fun k => sh_Pi k q) (fun W1 K _ hK => c_toIntA6A6 q hq K hK) h0
theorem c_toPicture (q : List Int) (hq : q.length = 36) (K : Cont) (h0 : K (Pi q) []) : ACall Try.prog W0 30 [Pi q] [] K := by
  refine by30 (Nat.le_of_ble_eq_true rfl) ?_
  repeat' ((conv => whnf); first
    | (refine Exists.intro _ (And.intro rfl (And.intro rfl (And.intro (pic_le hq rfl) ?_))); rw [pic_ld hq _ rfl])
    | (refine Exists.intro _ (And.intro rfl (And.intro rfl (And.intro (pic_len hq) (And.intro (Nat.le_of_ble_eq_true rfl) ?_)))))
    | (refine Exists.intro _ (And.intro rfl (And.intro rfl (And.intro (pic_rle hq _) ?_))); rw [pic_res hq _])
    | (refine FinR.drop 0 (Nat.zero_le _) (Closed.zero _) (belPi 0 _) ?_)
    | (refine And.intro rfl ?_)
    | (refine And.intro (by decide +kernel) ?_)
    | (refine And.intro trivial ?_)
    | (refine d_toIntA6A6 (hq := hq) (h0 := ?_) ..)
    | (refine Exists.intro _ (And.intro rfl (And.intro rfl (And.intro (Nat.le_of_ble_eq_true rfl) ?_))))
    | (refine Exists.intro _ (And.intro rfl (And.intro rfl (And.intro rfl (And.intro (Nat.le_of_ble_eq_true rfl) ?_)))))
    | (refine And.intro (Exists.intro _ (And.intro rfl rfl)) ?_)
    | (exact fun hW => absurd hW (by decide +kernel))
    | (intro hW; (try simp only [Bool.not_true, Bool.not_false, Bool.not_eq_true', Bool.not_eq_false', decide_eq_true_eq, decide_eq_false_iff_not, reduceCtorEq, Bool.true_eq_false, Bool.false_eq_true, mk_size, List.size_toArray, ByteArray.size_append, ByteArray.size_extract, List.length_cons, List.length_nil, ba_get, ba_empty, Int.toNat_natCast] at hW))
    | (refine And.intro (?_ : _ → _) (?_ : _ → _))
    | (refine FinR.drop 0 (Nat.zero_le _) (Closed.zero _) rfl ?_)
    | (refine FinR.keep ?_)
    | (refine And.intro (det3_agg rfl) ?_)
    | (refine fL_mk ?_)
    | (refine And.intro (by (try simp only [mk_size, List.size_toArray, ByteArray.size_append, ByteArray.size_extract, List.length_cons, List.length_nil]); omega) ?_)
    | (refine And.intro (by (try simp only [mk_size, List.size_toArray, ByteArray.size_append, ByteArray.size_extract, List.length_cons, List.length_nil, wrap64_eq]); omega) ?_)
    | fail)
  all_goals exact h0
theorem d_toPicture (q : List Int) (hq : q.length = 36) (K : Cont) (h0 : K (Pi q) σ) : ACall Try.prog W0 30 [Pi q] σ K :=
  ACall.lift (by rw [List.all_cons, pureI]; rfl) (fun k => sh_Pi k q) (fun W1 K _ hK => c_toPicture q hq K hK) h0
/-- a valid picture -/
def picB (q : List Int) : Bool := q.all fun x => inB x 0 4
theorem picB_take {q : List Int} {k : Nat} {x : Int} (h : q[k]? = some x) : picB (q.take (k + 1)) = (picB (q.take k) && inB x 0 4) := by
  rw [picB, take_snoc h, List.all_append]; simp [picB]
theorem picB_bad {q : List Int} {k : Nat} {x : Int} (h : q[k]? = some x) (hx : inB x 0 4 = false) : picB q = false := by
  rw [Bool.eq_false_iff]; intro hc
  rw [List.all_eq_true.1 hc x (List.mem_of_getElem? h)] at hx; cases hx
theorem getD_at {q : List Int} {k : Nat} {x : Int} (h : q[k]? = some x) : q.getD k 0 = x := by rw [List.getD_eq_getElem?_getD, h]; rfl
theorem c_l8Picture (q : List Int) (hq : q.length = 36) (K : Cont) (h0 : K (Bo (picB q)) []) : ACall Try.prog W0 63 [Pi q] [] K := by
  refine by63 (Nat.le_of_ble_eq_true rfl) ?_
  repeat' ((conv => whnf); first
    | (refine And.intro rfl ?_)
    | (refine And.intro (by decide +kernel) ?_)
    | (refine And.intro trivial ?_)
    | (refine Exists.intro _ (And.intro rfl (And.intro rfl (And.intro (Nat.le_of_ble_eq_true rfl) ?_))))
    | (refine Exists.intro _ (And.intro rfl (And.intro rfl (And.intro rfl (And.intro (Nat.le_of_ble_eq_true rfl) ?_)))))
    | (refine And.intro (Exists.intro _ (And.intro rfl rfl)) ?_)
    | (exact fun hW => absurd hW (by decide +kernel))
    | (intro hW; (try simp only [Bool.not_true, Bool.not_false, Bool.not_eq_true', Bool.not_eq_false', decide_eq_true_eq, decide_eq_false_iff_not, reduceCtorEq, Bool.true_eq_false, Bool.false_eq_true, mk_size, List.size_toArray, ByteArray.size_append, ByteArray.size_extract, List.length_cons, List.length_nil, ba_get, ba_empty, Int.toNat_natCast] at hW))
    | (refine And.intro (?_ : _ → _) (?_ : _ → _))
    | (refine FinR.drop 0 (Nat.zero_le _) (Closed.zero _) rfl ?_)
    | (refine FinR.keep ?_)
    | (refine And.intro (det3_agg rfl) ?_)
    | (refine fL_mk ?_)
    | (refine And.intro (by (try simp only [mk_size, List.size_toArray, ByteArray.size_append, ByteArray.size_extract, List.length_cons, List.length_nil]); omega) ?_)
    | (refine And.intro (by (try simp only [mk_size, List.size_toArray, ByteArray.size_append, ByteArray.size_extract, List.length_cons, List.length_nil, wrap64_eq]); omega) ?_)
    | fail)
  refine LoopR.live (fun y : Nat => [(1, .ptr 0 0 0), (3, I y)]) (fun y => [bQ q 44]) (fun y => y ≤ 6 ∧ picB (q.take (y * 6)) = true) (fun y => 6 - y) 0 ⟨rfl, rfl, trivial⟩ (.keep rfl) ⟨Nat.zero_le _, rfl⟩ ?_
  rintro y ⟨hy, hall⟩
  by_cases hlt : y < 6
  · skip
    repeat' ((conv => whnf); first
      | (refine And.intro rfl ?_)
      | (refine And.intro (by decide +kernel) ?_)
      | (refine And.intro trivial ?_)
      | (refine Exists.intro _ (And.intro rfl (And.intro rfl (And.intro (Nat.le_of_ble_eq_true rfl) ?_))))
      | (refine Exists.intro _ (And.intro rfl (And.intro rfl (And.intro rfl (And.intro (Nat.le_of_ble_eq_true rfl) ?_)))))
      | (refine And.intro (Exists.intro _ (And.intro rfl rfl)) ?_)
      | (exact fun hW => absurd hW (by decide +kernel))
      | (intro hW; (try simp only [Bool.not_true, Bool.not_false, Bool.not_eq_true', Bool.not_eq_false', decide_eq_true_eq, decide_eq_false_iff_not, reduceCtorEq, Bool.true_eq_false, Bool.false_eq_true, mk_size, List.size_toArray, ByteArray.size_append, ByteArray.size_extract, List.length_cons, List.length_nil, ba_get, ba_empty, Int.toNat_natCast] at hW))
      | (refine And.intro (?_ : _ → _) (?_ : _ → _))
      | (refine FinR.drop 0 (Nat.zero_le _) (Closed.zero _) rfl ?_)
      | (refine FinR.keep ?_)
      | (refine And.intro (det3_agg rfl) ?_)
      | (refine fL_mk ?_)
      | (refine And.intro (by (try simp only [mk_size, List.size_toArray, ByteArray.size_append, ByteArray.size_extract, List.length_cons, List.length_nil]); omega) ?_)
      | (refine And.intro (by (try simp only [mk_size, List.size_toArray, ByteArray.size_append, ByteArray.size_extract, List.length_cons, List.length_nil, wrap64_eq]); omega) ?_)
      | fail)
    all_goals first | (exfalso; omega) | skip
    refine LoopR.live (fun x : Nat => [(1, .ptr 0 0 0), (3, I y), (4, I x)]) (fun x => [bQ q 44]) (fun x => x ≤ 6 ∧ picB (q.take (y * 6 + x)) = true) (fun x => 6 - x) 0 ⟨rfl, rfl, rfl, trivial⟩ (.keep rfl) ⟨Nat.zero_le _, hall⟩ ?_
    rintro x ⟨hx, hall2⟩
    by_cases hlt2 : x < 6
    · obtain ⟨v, hv⟩ : ∃ v, q[y * 6 + x]? = some v := ⟨_, List.getElem?_eq_getElem (by omega)⟩
      have hle : ∀ off, off = y * 6 + x → off + 1 ≤ (q.map I).length := fun off ho => cell_le (by omega)
      have hce : ∀ off, off = y * 6 + x → mkAV false (((q.map I).drop off).take 1) = I v := fun off ho => by subst ho; rw [cell_ld (by omega), getD_at hv]
      cases hb : inB v 0 4 with
      | true =>
        repeat' ((conv => whnf); first
          | (refine Exists.intro (bQ q 44) (And.intro rfl (And.intro rfl (And.intro (hle _ (by simp only [Int.toNat_natCast]; omega)) ?_))); rw [show (bQ q 44).cells = q.map I from rfl, hce _ (by simp only [Int.toNat_natCast]; omega)])
          | (refine And.intro rfl ?_)
          | (refine And.intro (by decide +kernel) ?_)
          | (refine And.intro trivial ?_)
          | (refine d_l1In (h0 := ?_) ..)
          | (refine Exists.intro _ (And.intro (fun τ => callW_fn (d_l1In (h0 := And.intro rfl rfl) ..)) ?_))
          | (refine Exists.intro _ (And.intro (callW_fn (d_l1In (h0 := And.intro rfl rfl) ..)) (And.intro trivial ?_)))
          | (refine Exists.intro _ (And.intro (callW_fn (d_l1In (h0 := And.intro rfl rfl) ..)) ?_))
          | (refine Exists.intro _ (And.intro (fun τ _ => callW_fn (d_l1In (h0 := And.intro rfl rfl) ..)) ?_))
          | (refine Exists.intro _ (And.intro rfl (And.intro rfl (And.intro (Nat.le_of_ble_eq_true rfl) ?_))))
          | (refine Exists.intro _ (And.intro rfl (And.intro rfl (And.intro rfl (And.intro (Nat.le_of_ble_eq_true rfl) ?_)))))
          | (refine And.intro (Exists.intro _ (And.intro rfl rfl)) ?_)
          | (exact fun hW => absurd hW (by decide +kernel))
          | (intro hW; (try simp only [Bool.not_true, Bool.not_false, Bool.not_eq_true', Bool.not_eq_false', decide_eq_true_eq, decide_eq_false_iff_not, reduceCtorEq, Bool.true_eq_false, Bool.false_eq_true, mk_size, List.size_toArray, ByteArray.size_append, ByteArray.size_extract, List.length_cons, List.length_nil, ba_get, ba_empty, Int.toNat_natCast] at hW))
          | (refine And.intro (?_ : _ → _) (?_ : _ → _))
          | (refine FinR.drop 0 (Nat.zero_le _) (Closed.zero _) rfl ?_)
          | (refine FinR.keep ?_)
          | (refine And.intro (det3_agg rfl) ?_)
          | (refine fL_mk ?_)
          | (refine And.intro (by (try simp only [mk_size, List.size_toArray, ByteArray.size_append, ByteArray.size_extract, List.length_cons, List.length_nil]); omega) ?_)
          | (refine And.intro (by (try simp only [mk_size, List.size_toArray, ByteArray.size_append, ByteArray.size_extract, List.length_cons, List.length_nil, wrap64_eq]); omega) ?_)
          | fail)
        all_goals first | (exfalso; omega) | (exfalso; simp_all; done) | skip
        exact Again.go (x + 1) ⟨rfl, rfl, slI' (wsucc' x (by omega)), trivial⟩ (.keep rfl) ⟨by omega, by rw [← Nat.add_assoc, picB_take hv, hall2, hb]; rfl⟩ (by omega)
      | false =>
        rw [picB_bad hv hb] at h0
        repeat' ((conv => whnf); first
          | (refine Exists.intro (bQ q 44) (And.intro rfl (And.intro rfl (And.intro (hle _ (by simp only [Int.toNat_natCast]; omega)) ?_))); rw [show (bQ q 44).cells = q.map I from rfl, hce _ (by simp only [Int.toNat_natCast]; omega)])
          | (refine And.intro rfl ?_)
          | (refine And.intro (by decide +kernel) ?_)
          | (refine And.intro trivial ?_)
          | (refine d_l1In (h0 := ?_) ..)
          | (refine Exists.intro _ (And.intro (fun τ => callW_fn (d_l1In (h0 := And.intro rfl rfl) ..)) ?_))
          | (refine Exists.intro _ (And.intro (callW_fn (d_l1In (h0 := And.intro rfl rfl) ..)) (And.intro trivial ?_)))
          | (refine Exists.intro _ (And.intro (callW_fn (d_l1In (h0 := And.intro rfl rfl) ..)) ?_))
          | (refine Exists.intro _ (And.intro (fun τ _ => callW_fn (d_l1In (h0 := And.intro rfl rfl) ..)) ?_))
          | (refine Exists.intro _ (And.intro rfl (And.intro rfl (And.intro (Nat.le_of_ble_eq_true rfl) ?_))))
          | (refine Exists.intro _ (And.intro rfl (And.intro rfl (And.intro rfl (And.intro (Nat.le_of_ble_eq_true rfl) ?_)))))
          | (refine And.intro (Exists.intro _ (And.intro rfl rfl)) ?_)
          | (exact fun hW => absurd hW (by decide +kernel))
          | (intro hW; (try simp only [Bool.not_true, Bool.not_false, Bool.not_eq_true', Bool.not_eq_false', decide_eq_true_eq, decide_eq_false_iff_not, reduceCtorEq, Bool.true_eq_false, Bool.false_eq_true, mk_size, List.size_toArray, ByteArray.size_append, ByteArray.size_extract, List.length_cons, List.length_nil, ba_get, ba_empty, Int.toNat_natCast] at hW))
          | (refine And.intro (?_ : _ → _) (?_ : _ → _))
          | (refine FinR.drop 0 (Nat.zero_le _) (Closed.zero _) rfl ?_)
          | (refine FinR.keep ?_)
          | (refine And.intro (det3_agg rfl) ?_)
          | (refine fL_mk ?_)
          | (refine And.intro (by (try simp only [mk_size, List.size_toArray, ByteArray.size_append, ByteArray.size_extract, List.length_cons, List.length_nil]); omega) ?_)
          | (refine And.intro (by (try simp only [mk_size, List.size_toArray, ByteArray.size_append, ByteArray.size_extract, List.length_cons, List.length_nil, wrap64_eq]); omega) ?_)
          | fail)
        all_goals first | (exfalso; omega) | (exfalso; simp_all; done) | exact h0
    · obtain rfl : x = 6 := by omega
      repeat' ((conv => whnf); first
        | (refine And.intro rfl ?_)
        | (refine And.intro (by decide +kernel) ?_)
        | (refine And.intro trivial ?_)
        | (refine Exists.intro _ (And.intro rfl (And.intro rfl (And.intro (Nat.le_of_ble_eq_true rfl) ?_))))
        | (refine Exists.intro _ (And.intro rfl (And.intro rfl (And.intro rfl (And.intro (Nat.le_of_ble_eq_true rfl) ?_)))))
        | (refine And.intro (Exists.intro _ (And.intro rfl rfl)) ?_)
        | (exact fun hW => absurd hW (by decide +kernel))
        | (intro hW; (try simp only [Bool.not_true, Bool.not_false, Bool.not_eq_true', Bool.not_eq_false', decide_eq_true_eq, decide_eq_false_iff_not, reduceCtorEq, Bool.true_eq_false, Bool.false_eq_true, mk_size, List.size_toArray, ByteArray.size_append, ByteArray.size_extract, List.length_cons, List.length_nil, ba_get, ba_empty, Int.toNat_natCast] at hW))
        | (refine And.intro (?_ : _ → _) (?_ : _ → _))
        | (refine FinR.drop 0 (Nat.zero_le _) (Closed.zero _) rfl ?_)
        | (refine FinR.keep ?_)
        | (refine And.intro (det3_agg rfl) ?_)
        | (refine fL_mk ?_)
        | (refine And.intro (by (try simp only [mk_size, List.size_toArray, ByteArray.size_append, ByteArray.size_extract, List.length_cons, List.length_nil]); omega) ?_)
        | (refine And.intro (by (try simp only [mk_size, List.size_toArray, ByteArray.size_append, ByteArray.size_extract, List.length_cons, List.length_nil, wrap64_eq]); omega) ?_)
        | fail)
      all_goals first | (exfalso; omega) | skip
      exact Again.go (y + 1) ⟨rfl, slI' (wsucc' y (by omega)), trivial⟩ (.keep rfl) ⟨by omega, by rw [Nat.add_mul]; exact hall2⟩ (by omega)
  · obtain rfl : y = 6 := by omega
    have e : picB q = true := by rw [List.take_of_length_le (by omega)] at hall; exact hall
    rw [e] at h0
    repeat' ((conv => whnf); first
      | (refine And.intro rfl ?_)
      | (refine And.intro (by decide +kernel) ?_)
      | (refine And.intro trivial ?_)
      | (refine Exists.intro _ (And.intro rfl (And.intro rfl (And.intro (Nat.le_of_ble_eq_true rfl) ?_))))
      | (refine Exists.intro _ (And.intro rfl (And.intro rfl (And.intro rfl (And.intro (Nat.le_of_ble_eq_true rfl) ?_)))))
      | (refine And.intro (Exists.intro _ (And.intro rfl rfl)) ?_)
      | (exact fun hW => absurd hW (by decide +kernel))
      | (intro hW; (try simp only [Bool.not_true, Bool.not_false, Bool.not_eq_true', Bool.not_eq_false', decide_eq_true_eq, decide_eq_false_iff_not, reduceCtorEq, Bool.true_eq_false, Bool.false_eq_true, mk_size, List.size_toArray, ByteArray.size_append, ByteArray.size_extract, List.length_cons, List.length_nil, ba_get, ba_empty, Int.toNat_natCast] at hW))
      | (refine And.intro (?_ : _ → _) (?_ : _ → _))
      | (refine FinR.drop 0 (Nat.zero_le _) (Closed.zero _) rfl ?_)
      | (refine FinR.keep ?_)
      | (refine And.intro (det3_agg rfl) ?_)
      | (refine fL_mk ?_)
      | (refine And.intro (by (try simp only [mk_size, List.size_toArray, ByteArray.size_append, ByteArray.size_extract, List.length_cons, List.length_nil]); omega) ?_)
      | (refine And.intro (by (try simp only [mk_size, List.size_toArray, ByteArray.size_append, ByteArray.size_extract, List.length_cons, List.length_nil, wrap64_eq]); omega) ?_)
      | fail)
    all_goals first | (exfalso; omega) | exact h0
theorem d_l8Picture (q : List Int) (hq : q.length = 36) (K : Cont) (h0 : K (Bo (picB q)) σ) : ACall Try.prog W0 63 [Pi q] σ K :=
  ACall.lift (by rw [List.all_cons, pureI]; rfl) (fun k => rfl) (fun W1 K _ hK => c_l8Picture q hq K hK) h0
theorem c_IsPicture (q : List Int) (hq : q.length = 36) (K : Cont) (h0 : K (Bo (picB q)) []) : ACall Try.prog W0 66 [Pi q] [] K := by
  refine by66 (Nat.le_of_ble_eq_true rfl) ?_
  repeat' ((conv => whnf); first
    | (refine Exists.intro _ (And.intro rfl (And.intro rfl (And.intro (pic_le hq rfl) ?_))); rw [pic_ld hq _ rfl])
    | (refine And.intro rfl ?_)
    | (refine And.intro (by decide +kernel) ?_)
    | (refine And.intro trivial ?_)
    | (refine Exists.intro _ (And.intro rfl (And.intro rfl (And.intro (Nat.le_of_ble_eq_true rfl) ?_))))
    | (refine Exists.intro _ (And.intro rfl (And.intro rfl (And.intro rfl (And.intro (Nat.le_of_ble_eq_true rfl) ?_)))))
    | (refine And.intro (Exists.intro _ (And.intro rfl rfl)) ?_)
    | (exact fun hW => absurd hW (by decide +kernel))
    | (intro hW; (try simp only [Bool.not_true, Bool.not_false, Bool.not_eq_true', Bool.not_eq_false', decide_eq_true_eq, decide_eq_false_iff_not, reduceCtorEq, Bool.true_eq_false, Bool.false_eq_true, mk_size, List.size_toArray, ByteArray.size_append, ByteArray.size_extract, List.length_cons, List.length_nil, ba_get, ba_empty, Int.toNat_natCast] at hW))
    | (refine And.intro (?_ : _ → _) (?_ : _ → _))
    | (refine FinR.drop 0 (Nat.zero_le _) (Closed.zero _) rfl ?_)
    | (refine FinR.keep ?_)
    | (refine And.intro (det3_agg rfl) ?_)
    | (refine fL_mk ?_)
    | (refine And.intro (by (try simp only [mk_size, List.size_toArray, ByteArray.size_append, ByteArray.size_extract, List.length_cons, List.length_nil]); omega) ?_)
    | (refine And.intro (by (try simp only [mk_size, List.size_toArray, ByteArray.size_append, ByteArray.size_extract, List.length_cons, List.length_nil, wrap64_eq]); omega) ?_)
    | fail)
  refine LoopR.live (fun y : Nat => [(8, Pi q), (9, I y)]) (fun y => []) (fun y => y ≤ 6 ∧ picB (q.take (y * 6)) = true) (fun y => 6 - y) 0 ⟨rfl, rfl, trivial⟩ (.drop 0 (Nat.zero_le _) rfl (closNil 0) (by show (bel3 0 (Pi q) && true) = true; rw [belPi]; rfl)) ⟨Nat.zero_le _, rfl⟩ ?_
  rintro y ⟨hy, hall⟩
  by_cases hlt : y < 6
  · obtain ⟨a, b, c, d, e, f, hr⟩ := row_ld (q := q) (i := y) (by omega)
    have hpa : ∀ off, off = y * 6 → partA true 6 off (q.map I) = some (Sh a b c d e f) := fun off ho => by
      rw [partA, if_pos rfl, show AV.agg (((q.map I).drop off).take 6) = mkAV true (((q.map I).drop off).take 6) from rfl, row_mk hr ho]
    have hsn : picB (q.take ((y + 1) * 6)) = (picB (q.take (y * 6)) && [a, b, c, d, e, f].all fun x => inB x 0 4) := by
      rw [Nat.add_mul, List.take_add, hr, picB, List.all_append]; rfl
    have hal : ([a, b, c, d, e, f].all fun x => inB x 0 4) = true ↔ ((0 ≤ a ∧ a ≤ 4) ∧ (0 ≤ b ∧ b ≤ 4) ∧ (0 ≤ c ∧ c ≤ 4) ∧ (0 ≤ d ∧ d ≤ 4) ∧ (0 ≤ e ∧ e ≤ 4) ∧ (0 ≤ f ∧ f ≤ 4)) := by
      simp [inB]
    cases hrow : ([a, b, c, d, e, f].all fun x => inB x 0 4) with
    | true =>
      have hf := hal.1 hrow
      repeat' ((conv => whnf); first
        | (rw [hpa _ (by simp only [Int.toNat_natCast])])
        | (refine And.intro rfl ?_)
        | (refine And.intro (by decide +kernel) ?_)
        | (refine And.intro trivial ?_)
        | (refine LoopR.unroll 7 ?_)
        | (refine Exists.intro _ (And.intro rfl (And.intro rfl (And.intro (Nat.le_of_ble_eq_true rfl) ?_))))
        | (refine Exists.intro _ (And.intro rfl (And.intro rfl (And.intro rfl (And.intro (Nat.le_of_ble_eq_true rfl) ?_)))))
        | (refine And.intro (Exists.intro _ (And.intro rfl rfl)) ?_)
        | (exact fun hW => absurd hW (by decide +kernel))
        | (intro hW; (try simp only [Bool.not_true, Bool.not_false, Bool.not_eq_true', Bool.not_eq_false', decide_eq_true_eq, decide_eq_false_iff_not, reduceCtorEq, Bool.true_eq_false, Bool.false_eq_true, mk_size, List.size_toArray, ByteArray.size_append, ByteArray.size_extract, List.length_cons, List.length_nil, ba_get, ba_empty, Int.toNat_natCast] at hW))
        | (refine And.intro (?_ : _ → _) (?_ : _ → _))
        | (refine FinR.drop 0 (Nat.zero_le _) (Closed.zero _) rfl ?_)
        | (refine FinR.keep ?_)
        | (refine And.intro (det3_agg rfl) ?_)
        | (refine fL_mk ?_)
        | (refine And.intro (by (try simp only [mk_size, List.size_toArray, ByteArray.size_append, ByteArray.size_extract, List.length_cons, List.length_nil]); omega) ?_)
        | (refine And.intro (by (try simp only [mk_size, List.size_toArray, ByteArray.size_append, ByteArray.size_extract, List.length_cons, List.length_nil, wrap64_eq]); omega) ?_)
        | fail)
      all_goals first | (exfalso; omega) | skip
      exact Again.go (y + 1) ⟨rfl, slI' (wsucc' y (by omega)), trivial⟩ (.drop 0 (Nat.zero_le _) rfl (closNil 0) (by show (bel3 0 (Pi q) && true) = true; rw [belPi]; rfl)) ⟨by omega, by rw [hsn, hall, hrow]; rfl⟩ (by omega)
    | false =>
      have hf : ¬ ((0 ≤ a ∧ a ≤ 4) ∧ (0 ≤ b ∧ b ≤ 4) ∧ (0 ≤ c ∧ c ≤ 4) ∧ (0 ≤ d ∧ d ≤ 4) ∧ (0 ≤ e ∧ e ≤ 4) ∧ (0 ≤ f ∧ f ≤ 4)) := fun h => by rw [hal.2 h] at hrow; cases hrow
      have hpf : picB q = false := by
        rw [Bool.eq_false_iff]; intro hc
        have : picB (q.take ((y + 1) * 6)) = true := List.all_eq_true.2 fun x hx => List.all_eq_true.1 hc x (List.mem_of_mem_take hx)
        rw [hsn, hrow, Bool.and_false] at this; cases this
      rw [hpf] at h0
      repeat' ((conv => whnf); first
        | (rw [hpa _ (by simp only [Int.toNat_natCast])])
        | (refine And.intro rfl ?_)
        | (refine And.intro (by decide +kernel) ?_)
        | (refine And.intro trivial ?_)
        | (refine LoopR.unroll 7 ?_)
        | (refine Exists.intro _ (And.intro rfl (And.intro rfl (And.intro (Nat.le_of_ble_eq_true rfl) ?_))))
        | (refine Exists.intro _ (And.intro rfl (And.intro rfl (And.intro rfl (And.intro (Nat.le_of_ble_eq_true rfl) ?_)))))
        | (refine And.intro (Exists.intro _ (And.intro rfl rfl)) ?_)
        | (exact fun hW => absurd hW (by decide +kernel))
        | (intro hW; (try simp only [Bool.not_true, Bool.not_false, Bool.not_eq_true', Bool.not_eq_false', decide_eq_true_eq, decide_eq_false_iff_not, reduceCtorEq, Bool.true_eq_false, Bool.false_eq_true, mk_size, List.size_toArray, ByteArray.size_append, ByteArray.size_extract, List.length_cons, List.length_nil, ba_get, ba_empty, Int.toNat_natCast] at hW))
        | (refine And.intro (?_ : _ → _) (?_ : _ → _))
        | (refine FinR.drop 0 (Nat.zero_le _) (Closed.zero _) rfl ?_)
        | (refine FinR.keep ?_)
        | (refine And.intro (det3_agg rfl) ?_)
        | (refine fL_mk ?_)
        | (refine And.intro (by (try simp only [mk_size, List.size_toArray, ByteArray.size_append, ByteArray.size_extract, List.length_cons, List.length_nil]); omega) ?_)
        | (refine And.intro (by (try simp only [mk_size, List.size_toArray, ByteArray.size_append, ByteArray.size_extract, List.length_cons, List.length_nil, wrap64_eq]); omega) ?_)
        | fail)
      all_goals first | (exfalso; omega) | exact h0
  · obtain rfl : y = 6 := by omega
    have e : picB q = true := by rw [List.take_of_length_le (by omega)] at hall; exact hall
    rw [e] at h0
    repeat' ((conv => whnf); first
      | (refine And.intro rfl ?_)
      | (refine And.intro (by decide +kernel) ?_)
      | (refine And.intro trivial ?_)
      | (refine Exists.intro _ (And.intro rfl (And.intro rfl (And.intro (Nat.le_of_ble_eq_true rfl) ?_))))
      | (refine Exists.intro _ (And.intro rfl (And.intro rfl (And.intro rfl (And.intro (Nat.le_of_ble_eq_true rfl) ?_)))))
      | (refine And.intro (Exists.intro _ (And.intro rfl rfl)) ?_)
      | (exact fun hW => absurd hW (by decide +kernel))
      | (intro hW; (try simp only [Bool.not_true, Bool.not_false, Bool.not_eq_true', Bool.not_eq_false', decide_eq_true_eq, decide_eq_false_iff_not, reduceCtorEq, Bool.true_eq_false, Bool.false_eq_true, mk_size, List.size_toArray, ByteArray.size_append, ByteArray.size_extract, List.length_cons, List.length_nil, ba_get, ba_empty, Int.toNat_natCast] at hW))
      | (refine And.intro (?_ : _ → _) (?_ : _ → _))
      | (refine FinR.drop 0 (Nat.zero_le _) (Closed.zero _) rfl ?_)
      | (refine FinR.keep ?_)
      | (refine And.intro (det3_agg rfl) ?_)
      | (refine fL_mk ?_)
      | (refine And.intro (by (try simp only [mk_size, List.size_toArray, ByteArray.size_append, ByteArray.size_extract, List.length_cons, List.length_nil]); omega) ?_)
      | (refine And.intro (by (try simp only [mk_size, List.size_toArray, ByteArray.size_append, ByteArray.size_extract, List.length_cons, List.length_nil, wrap64_eq]); omega) ?_)
      | fail)
    all_goals first | (exfalso; omega) | exact h0
theorem d_IsPicture (q : List Int) (hq : q.length = 36) (K : Cont) (h0 : K (Bo (picB q)) σ) : ACall Try.prog W0 66 [Pi q] σ K :=
  ACall.lift (by rw [List.all_cons, pureI]; rfl) (fun k => rfl) (fun W1 K _ hK => c_IsPicture q hq K hK) h0
/-! prints made -/
def madeK (q : List Int) (n : Nat) (ink : Int) : Nat → List Int
  | 0 => q
  | k + 1 => if n.testBit k then (madeK q n ink k).set k ink else madeK q n ink k
theorem madeK_succ (q : List Int) (n : Nat) (ink : Int) (k : Nat) : madeK q n ink (k + 1) = if n.testBit k then (madeK q n ink k).set k ink else madeK q n ink k := rfl
theorem madeK_len (q : List Int) (n : Nat) (ink : Int) : ∀ k, (madeK q n ink k).length = q.length
  | 0 => rfl
  | k + 1 => by rw [madeK_succ]; split <;> simp [madeK_len q n ink k]
theorem c_l8Made (q : List Int) (hq : q.length = 36) (c0 c1 c2 c3 c4 c5 c6 c7 c8 : Int) (hp : pOk [c0, c1, c2, c3, c4, c5, c6, c7, c8] = true) (K : Cont) (h0 : K (Pi (madeK q (pSet [c0, c1, c2, c3, c4, c5, c6, c7, c8]) c0 36)) []) : ACall Try.prog W0 64 [Pi q, Pr c0 c1 c2 c3 c4 c5 c6 c7 c8] [] K := by
  refine by64 (Nat.le_of_ble_eq_true rfl) ?_
  repeat' ((conv => whnf); first
    | (refine And.intro rfl ?_)
    | (refine And.intro (by decide +kernel) ?_)
    | (refine And.intro trivial ?_)
    | (refine d_l8Cells (h := hp) (h0 := ?_) ..)
    | (refine Exists.intro _ (And.intro (fun τ => callW_fn (d_l8Cells (h := hp) (h0 := And.intro rfl rfl) ..)) ?_))
    | (refine Exists.intro _ (And.intro (callW_fn (d_l8Cells (h := hp) (h0 := And.intro rfl rfl) ..)) (And.intro trivial ?_)))
    | (refine Exists.intro _ (And.intro (callW_fn (d_l8Cells (h := hp) (h0 := And.intro rfl rfl) ..)) ?_))
    | (refine Exists.intro _ (And.intro (fun τ _ => callW_fn (d_l8Cells (h := hp) (h0 := And.intro rfl rfl) ..)) ?_))
    | (refine Exists.intro _ (And.intro rfl (And.intro rfl (And.intro (Nat.le_of_ble_eq_true rfl) ?_))))
    | (refine Exists.intro _ (And.intro rfl (And.intro rfl (And.intro rfl (And.intro (Nat.le_of_ble_eq_true rfl) ?_)))))
    | (refine And.intro (Exists.intro _ (And.intro rfl rfl)) ?_)
    | (exact fun hW => absurd hW (by decide +kernel))
    | (intro hW; (try simp only [Bool.not_true, Bool.not_false, Bool.not_eq_true', Bool.not_eq_false', decide_eq_true_eq, decide_eq_false_iff_not, reduceCtorEq, Bool.true_eq_false, Bool.false_eq_true, mk_size, List.size_toArray, ByteArray.size_append, ByteArray.size_extract, List.length_cons, List.length_nil, ba_get, ba_empty, Int.toNat_natCast] at hW))
    | (refine And.intro (?_ : _ → _) (?_ : _ → _))
    | (refine FinR.drop 0 (Nat.zero_le _) (Closed.zero _) rfl ?_)
    | (refine FinR.keep ?_)
    | (refine And.intro (det3_agg rfl) ?_)
    | (refine fL_mk ?_)
    | (refine And.intro (by (try simp only [mk_size, List.size_toArray, ByteArray.size_append, ByteArray.size_extract, List.length_cons, List.length_nil]); omega) ?_)
    | (refine And.intro (by (try simp only [mk_size, List.size_toArray, ByteArray.size_append, ByteArray.size_extract, List.length_cons, List.length_nil, wrap64_eq]); omega) ?_)
    | fail)
  generalize pSet [c0, c1, c2, c3, c4, c5, c6, c7, c8] = n at h0 ⊢
  refine LoopR.live (fun y : Nat => [(2, .ptr 0 0 0), (3, .ptr 1 0 0), (4, .ptr 2 0 0), (5, .ptr 3 0 0), (6, I y)]) (fun y => [bQ (madeK q n c0 (6 * y)) 44, bQ [c0, c1, c2, c3, c4, c5, c6, c7, c8] 83, bQ z36 44, bl n]) (fun y => y ≤ 6) (fun y => 6 - y) 0 ⟨rfl, rfl, rfl, rfl, rfl, trivial⟩ (.keep rfl) (Nat.zero_le _) ?_
  intro y hy
  by_cases hlt : y < 6
  · skip
    repeat' ((conv => whnf); first
      | (refine And.intro rfl ?_)
      | (refine And.intro (by decide +kernel) ?_)
      | (refine And.intro trivial ?_)
      | (refine Exists.intro _ (And.intro rfl (And.intro rfl (And.intro (Nat.le_of_ble_eq_true rfl) ?_))))
      | (refine Exists.intro _ (And.intro rfl (And.intro rfl (And.intro rfl (And.intro (Nat.le_of_ble_eq_true rfl) ?_)))))
      | (refine And.intro (Exists.intro _ (And.intro rfl rfl)) ?_)
      | (exact fun hW => absurd hW (by decide +kernel))
      | (intro hW; (try simp only [Bool.not_true, Bool.not_false, Bool.not_eq_true', Bool.not_eq_false', decide_eq_true_eq, decide_eq_false_iff_not, reduceCtorEq, Bool.true_eq_false, Bool.false_eq_true, mk_size, List.size_toArray, ByteArray.size_append, ByteArray.size_extract, List.length_cons, List.length_nil, ba_get, ba_empty, Int.toNat_natCast] at hW))
      | (refine And.intro (?_ : _ → _) (?_ : _ → _))
      | (refine FinR.drop 0 (Nat.zero_le _) (Closed.zero _) rfl ?_)
      | (refine FinR.keep ?_)
      | (refine And.intro (det3_agg rfl) ?_)
      | (refine fL_mk ?_)
      | (refine And.intro (by (try simp only [mk_size, List.size_toArray, ByteArray.size_append, ByteArray.size_extract, List.length_cons, List.length_nil]); omega) ?_)
      | (refine And.intro (by (try simp only [mk_size, List.size_toArray, ByteArray.size_append, ByteArray.size_extract, List.length_cons, List.length_nil, wrap64_eq]); omega) ?_)
      | fail)
    all_goals first | (exfalso; omega) | skip
    refine LoopR.live (fun x : Nat => [(2, .ptr 0 0 0), (3, .ptr 1 0 0), (4, .ptr 2 0 0), (5, .ptr 3 0 0), (6, I y), (7, I x)]) (fun x => [bQ (madeK q n c0 (6 * y + x)) 44, bQ [c0, c1, c2, c3, c4, c5, c6, c7, c8] 83, bQ z36 44, bl n]) (fun x => x ≤ 6) (fun x => 6 - x) 0 ⟨rfl, rfl, rfl, rfl, rfl, rfl, trivial⟩ (.keep rfl) (Nat.zero_le _) ?_
    intro x hx
    by_cases hlt2 : x < 6
    · have hml : (madeK q n c0 (6 * y + x)).length = 36 := by rw [madeK_len, hq]
      have hle : ∀ off, off = 6 * y + x → off + 1 ≤ ((madeK q n c0 (6 * y + x)).map I).length := fun off ho => cell_le (by omega)
      have hoff : 0 + 0 + ((y : Nat) : Int).toNat * 6 + ((x : Nat) : Int).toNat * 1 = 6 * y + x := by simp only [Int.toNat_natCast]; omega
      have hst : ((madeK q n c0 (6 * y + x)).map I).take (0 + 0 + ((y : Nat) : Int).toNat * 6 + ((x : Nat) : Int).toNat * 1) ++ [I c0] ++ ((madeK q n c0 (6 * y + x)).map I).drop (0 + 0 + ((y : Nat) : Int).toNat * 6 + ((x : Nat) : Int).toNat * 1 + 1) = ((madeK q n c0 (6 * y + x)).set (6 * y + x) c0).map I := by
        rw [hoff]; exact cell_st c0 (by omega)
      have hm := madeK_succ q n c0 (6 * y + x)
      repeat' ((conv => whnf); first
        | (refine Exists.intro (bQ (madeK q n c0 (6 * y + x)) 44) (And.intro rfl (And.intro rfl (And.intro rfl (And.intro (hle _ hoff) ?_)))))
        | (refine And.intro rfl ?_)
        | (refine And.intro (by decide +kernel) ?_)
        | (refine And.intro trivial ?_)
        | (refine d_l2GetN (hx := hlt2) (hy := hlt) (h0 := ?_) ..)
        | (refine Exists.intro _ (And.intro (fun τ => callW_fn (d_l2GetN (hx := hlt2) (hy := hlt) (h0 := And.intro rfl rfl) ..)) ?_))
        | (refine Exists.intro _ (And.intro (callW_fn (d_l2GetN (hx := hlt2) (hy := hlt) (h0 := And.intro rfl rfl) ..)) (And.intro trivial ?_)))
        | (refine Exists.intro _ (And.intro (callW_fn (d_l2GetN (hx := hlt2) (hy := hlt) (h0 := And.intro rfl rfl) ..)) ?_))
        | (refine Exists.intro _ (And.intro (fun τ _ => callW_fn (d_l2GetN (hx := hlt2) (hy := hlt) (h0 := And.intro rfl rfl) ..)) ?_))
        | (refine Exists.intro _ (And.intro rfl (And.intro rfl (And.intro (Nat.le_of_ble_eq_true rfl) ?_))))
        | (refine Exists.intro _ (And.intro rfl (And.intro rfl (And.intro rfl (And.intro (Nat.le_of_ble_eq_true rfl) ?_)))))
        | (refine And.intro (Exists.intro _ (And.intro rfl rfl)) ?_)
        | (exact fun hW => absurd hW (by decide +kernel))
        | (intro hW; (try simp only [Bool.not_true, Bool.not_false, Bool.not_eq_true', Bool.not_eq_false', decide_eq_true_eq, decide_eq_false_iff_not, reduceCtorEq, Bool.true_eq_false, Bool.false_eq_true, mk_size, List.size_toArray, ByteArray.size_append, ByteArray.size_extract, List.length_cons, List.length_nil, ba_get, ba_empty, Int.toNat_natCast] at hW))
        | (refine And.intro (?_ : _ → _) (?_ : _ → _))
        | (refine FinR.drop 0 (Nat.zero_le _) (Closed.zero _) rfl ?_)
        | (refine FinR.keep ?_)
        | (refine And.intro (det3_agg rfl) ?_)
        | (refine fL_mk ?_)
        | (refine And.intro (by (try simp only [mk_size, List.size_toArray, ByteArray.size_append, ByteArray.size_extract, List.length_cons, List.length_nil]); omega) ?_)
        | (refine And.intro (by (try simp only [mk_size, List.size_toArray, ByteArray.size_append, ByteArray.size_extract, List.length_cons, List.length_nil, wrap64_eq]); omega) ?_)
        | fail)
      all_goals first | (exfalso; omega) | skip
      · rw [hW, if_pos rfl] at hm
        refine Again.go (x + 1) ⟨rfl, rfl, rfl, rfl, rfl, slI' (wsucc' x (by omega)), trivial⟩ (.keep ?_) (by omega) (by omega)
        rw [← Nat.add_assoc, hm]
        dsimp only [bQ]
        rw [← hst]
        rfl
      · rw [hW, if_neg (by decide)] at hm
        refine Again.go (x + 1) ⟨rfl, rfl, rfl, rfl, rfl, slI' (wsucc' x (by omega)), trivial⟩ (.keep ?_) (by omega) (by omega)
        rw [← Nat.add_assoc, hm]
    · obtain rfl : x = 6 := by omega
      repeat' ((conv => whnf); first
        | (refine And.intro rfl ?_)
        | (refine And.intro (by decide +kernel) ?_)
        | (refine And.intro trivial ?_)
        | (refine Exists.intro _ (And.intro rfl (And.intro rfl (And.intro (Nat.le_of_ble_eq_true rfl) ?_))))
        | (refine Exists.intro _ (And.intro rfl (And.intro rfl (And.intro rfl (And.intro (Nat.le_of_ble_eq_true rfl) ?_)))))
        | (refine And.intro (Exists.intro _ (And.intro rfl rfl)) ?_)
        | (exact fun hW => absurd hW (by decide +kernel))
        | (intro hW; (try simp only [Bool.not_true, Bool.not_false, Bool.not_eq_true', Bool.not_eq_false', decide_eq_true_eq, decide_eq_false_iff_not, reduceCtorEq, Bool.true_eq_false, Bool.false_eq_true, mk_size, List.size_toArray, ByteArray.size_append, ByteArray.size_extract, List.length_cons, List.length_nil, ba_get, ba_empty, Int.toNat_natCast] at hW))
        | (refine And.intro (?_ : _ → _) (?_ : _ → _))
        | (refine FinR.drop 0 (Nat.zero_le _) (Closed.zero _) rfl ?_)
        | (refine FinR.keep ?_)
        | (refine And.intro (det3_agg rfl) ?_)
        | (refine fL_mk ?_)
        | (refine And.intro (by (try simp only [mk_size, List.size_toArray, ByteArray.size_append, ByteArray.size_extract, List.length_cons, List.length_nil]); omega) ?_)
        | (refine And.intro (by (try simp only [mk_size, List.size_toArray, ByteArray.size_append, ByteArray.size_extract, List.length_cons, List.length_nil, wrap64_eq]); omega) ?_)
        | fail)
      all_goals first | (exfalso; omega) | skip
      exact Again.go (y + 1) ⟨rfl, rfl, rfl, rfl, slI' (wsucc' y (by omega)), trivial⟩ (.keep (by rw [Nat.mul_add])) (by omega) (by omega)
  · obtain rfl : y = 6 := by omega
    have hml : (madeK q n c0 (6 * 6)).length = 36 := by rw [madeK_len, hq]
    repeat' ((conv => whnf); first
      | (refine Exists.intro (bQ (madeK q n c0 (6 * 6)) 44) (And.intro rfl (And.intro rfl (And.intro (pic_le hml rfl) ?_))); rw [show (bQ (madeK q n c0 (6 * 6)) 44).cells = (madeK q n c0 (6 * 6)).map I from rfl, pic_ld hml _ rfl])
      | (refine Exists.intro _ (And.intro rfl (And.intro rfl (And.intro (pic_len hml) (And.intro (Nat.le_of_ble_eq_true rfl) ?_)))))
      | (refine Exists.intro _ (And.intro rfl (And.intro rfl (And.intro (pic_rle hml _) ?_))); rw [pic_res hml _])
      | (refine FinR.drop 0 (Nat.zero_le _) (Closed.zero _) (belPi 0 _) ?_)
      | (refine And.intro rfl ?_)
      | (refine And.intro (by decide +kernel) ?_)
      | (refine And.intro trivial ?_)
      | (refine Exists.intro _ (And.intro rfl (And.intro rfl (And.intro (Nat.le_of_ble_eq_true rfl) ?_))))
      | (refine Exists.intro _ (And.intro rfl (And.intro rfl (And.intro rfl (And.intro (Nat.le_of_ble_eq_true rfl) ?_)))))
      | (refine And.intro (Exists.intro _ (And.intro rfl rfl)) ?_)
      | (exact fun hW => absurd hW (by decide +kernel))
      | (intro hW; (try simp only [Bool.not_true, Bool.not_false, Bool.not_eq_true', Bool.not_eq_false', decide_eq_true_eq, decide_eq_false_iff_not, reduceCtorEq, Bool.true_eq_false, Bool.false_eq_true, mk_size, List.size_toArray, ByteArray.size_append, ByteArray.size_extract, List.length_cons, List.length_nil, ba_get, ba_empty, Int.toNat_natCast] at hW))
      | (refine And.intro (?_ : _ → _) (?_ : _ → _))
      | (refine FinR.drop 0 (Nat.zero_le _) (Closed.zero _) rfl ?_)
      | (refine FinR.keep ?_)
      | (refine And.intro (det3_agg rfl) ?_)
      | (refine fL_mk ?_)
      | (refine And.intro (by (try simp only [mk_size, List.size_toArray, ByteArray.size_append, ByteArray.size_extract, List.length_cons, List.length_nil]); omega) ?_)
      | (refine And.intro (by (try simp only [mk_size, List.size_toArray, ByteArray.size_append, ByteArray.size_extract, List.length_cons, List.length_nil, wrap64_eq]); omega) ?_)
      | fail)
    all_goals first | (exfalso; omega) | exact h0
theorem d_l8Made (q : List Int) (hq : q.length = 36) (c0 c1 c2 c3 c4 c5 c6 c7 c8 : Int) (hp : pOk [c0, c1, c2, c3, c4, c5, c6, c7, c8] = true) (K : Cont) (h0 : K (Pi (madeK q (pSet [c0, c1, c2, c3, c4, c5, c6, c7, c8]) c0 36)) σ) : ACall Try.prog W0 64 [Pi q, Pr c0 c1 c2 c3 c4 c5 c6 c7 c8] σ K :=
  ACall.lift (by rw [List.all_cons, pureI]; rfl) (fun k => sh_Pi k _) (fun W1 K _ hK => c_l8Made q hq c0 c1 c2 c3 c4 c5 c6 c7 c8 hp K hK) h0
end Go.Proofs.Ythncpkdhcfaflaa
end

section
/- Contracts: the last prints. -/
set_option linter.unusedVariables false
set_option linter.unusedSimpArgs false
set_option maxRecDepth 100000
set_option maxHeartbeats 4000000
namespace Go.Proofs.Ythncpkdhcfaflaa
open Go Go.RowKit Go.Proofs.Ythncpkdhcfaflaa.Abs
variable {W0 : World} {σ : List Blk}
theorem lits_I : ∀ l : List Int, litsA (l.map I) = some (l.map (Value.int .i64))
  | [] => rfl
  | x :: l => by
    show (litsA (l.map I)).map _ = _
    rw [lits_I l]; rfl
theorem eqC_I : ∀ (n : Nat) (l m : List Int), l.length = n → m.length = n → eqC (List.replicate n .int) (l.map (Value.int .i64)) (m.map (Value.int .i64)) = some (decide (l = m))
  | 0, [], [], _, _ => rfl
  | n + 1, x :: l, y :: m, h1, h2 => by
    have h := eqC_I n l m (by simpa using h1) (by simpa using h2)
    show (if IntKind.i64 = IntKind.i64 then (eqC (List.replicate n .int) (l.map (Value.int .i64)) (m.map (Value.int .i64))).map (decide (x = y) && ·) else none) = _
    rw [if_pos rfl, h]
    show some (decide (x = y) && decide (l = m)) = _
    congr 1
    rw [Bool.eq_iff_iff]; simp
  | 0, _ :: _, _, h, _ => by simp at h
  | n + 1, [], _, h, _ => by simp at h
  | 0, [], _ :: _, _, h => by simp at h
  | n + 1, _ :: _, [], _, h => by simp at h
theorem eqC36 {l m : List Int} (hl : l.length = 36) (hm : m.length = 36) : eqC [.int, .int, .int, .int, .int, .int, .int, .int, .int, .int, .int, .int, .int, .int, .int, .int, .int, .int, .int, .int, .int, .int, .int, .int, .int, .int, .int, .int, .int, .int, .int, .int, .int, .int, .int, .int] (l.map (Value.int .i64)) (m.map (Value.int .i64)) = some (decide (l = m)) := eqC_I 36 l m hl hm
end Go.Proofs.Ythncpkdhcfaflaa
end

section
/- Contracts: the law of the last prints. -/
set_option linter.unusedVariables false
set_option linter.unusedSimpArgs false
set_option maxRecDepth 100000
set_option maxHeartbeats 4000000
namespace Go.Proofs.Ythncpkdhcfaflaa
open Go Go.RowKit Go.Proofs.Ythncpkdhcfaflaa.Abs
variable {W0 : World} {σ : List Blk}
theorem sh_out1 (k : Nat) (l : List Int) : shB k [outB l] = [outB l] := by simp only [shB, List.map_cons, List.map_nil, outB, sh_I]
end Go.Proofs.Ythncpkdhcfaflaa
end

section
/- Contracts: orders of prints: lists of numbers. -/
set_option linter.unusedVariables false
set_option linter.unusedSimpArgs false
set_option maxRecDepth 100000
set_option maxHeartbeats 4000000
namespace Go.Proofs.Ythncpkdhcfaflaa
open Go Go.RowKit Go.Proofs.Ythncpkdhcfaflaa.Abs
variable {W0 : World} {σ : List Blk}
/-- a slice that came in, nil or not -/
theorem sli_form {α : Type} {s : Nat} {enc : α → List Value} {a : AV} {xs : List α} (h : Sli W0 [] s enc a xs) : ∃ o n cap, a = .lit (.slice o n cap) ∧ n = xs.length ∧ n ≤ cap ∧ cap ≤ maxLen ∧ ∀ (i : Nat) (x : α), xs[i]? = some x → ∃ ad, o = some ad ∧ ad.block < W0.heap.size ∧ ∀ i x, xs[i]? = some x → ∀ j v, (enc x)[j]? = some v → W0.cell? ((ad.add (i * s)).add j) = some v ∧ v.oneCell' = true := by
  cases h with
  | nil => exact ⟨none, 0, 0, rfl, rfl, Nat.le_refl _, Nat.zero_le _, fun i x h => by simp at h⟩
  | inn ad n cap xs hn hc hm hb hx => exact ⟨some ad, n, cap, rfl, hn, hc, hm, fun i x h => ⟨ad, rfl, hb, hx⟩⟩
  | own b ver off n cap B xs hB => simp at hB
theorem sli_l1 {a : AV} {xs : List (List Int)} (h : Sli W0 [] 1 enI a xs) (hx : ∀ x ∈ xs, x.length = 1) : Sli W0 [] 1 en1 a (xs.map fun x => x.getD 0 0) := by
  cases h with
  | nil => exact .nil
  | inn ad n cap xs hn hc hm hb hxx =>
    refine .inn ad n cap _ (by rw [List.length_map]; exact hn) hc hm hb fun i x hi j v hj => ?_
    rw [List.getElem?_map, Option.map_eq_some_iff] at hi
    obtain ⟨y, hy, rfl⟩ := hi
    refine hxx i y hy j v ?_
    have := hx y (List.mem_of_getElem? hy)
    match y, this with
    | [z], _ => exact hj
  | own b ver off n cap B xs hB => simp at hB
/-- the first part of a slice that came in -/
theorem sli_pre {ad X : Addr} {l : List Int} {i n' cap' : Nat} (hb : ad.block < W0.heap.size) (hx : ∀ i x, l[i]? = some x → ∀ j v, (en1 x)[j]? = some v → W0.cell? ((ad.add (i * 1)).add j) = some v ∧ v.oneCell' = true) (hi : i ≤ l.length) (hX : X = ad) (hn : n' = i) (hc : i ≤ cap') (hm : cap' ≤ maxLen) : Sli W0 σ 1 en1 (.lit (.slice (some X) n' cap')) (l.take i) := by
  subst hX; subst hn
  refine .inn _ _ _ _ (by rw [List.length_take, Nat.min_eq_left hi]) hc hm hb fun k x hk j v hj => hx k x ?_ j v hj
  rw [List.getElem?_take] at hk
  split at hk
  · exact hk
  · cases hk
theorem addr0 (cap : Nat) (ad : Addr) (s : Nat) : (if cap = (0 : Int).toNat then ad else ad.add ((0 : Int).toNat * s)) = ad := by
  split
  · rfl
  · show ad.add (0 * s) = ad
    rw [Nat.zero_mul]; simp [Addr.add]
theorem c_toIntS (a : AV) (l : List Int) (hs : Sli W0 [] 1 en1 a l) (hl : l.length ≤ 1048576) (K : Cont) (h0 : K (.sl 0 0 0 l.length l.length) [⟨l.map I, 0, 3, 1, true, true⟩]) : ACall Try.prog W0 33 [a] [] K := by
  refine by33 (Nat.le_of_ble_eq_true rfl) ?_
  obtain ⟨o, n, cap, rfl, hn, hc, hm, hf⟩ := sli_form hs
  subst hn
  have hmk : (8 : Int) * (l.length : Int) ≤ 281474976710656 := by omega
  have hmk2 : ((l.length : Nat) : Int).toNat ≤ maxLen := by unfold maxLen; omega
  repeat' ((conv => whnf); first
    | (refine And.intro (Int.natCast_nonneg l.length) (And.intro (Int.le_refl _) (And.intro hmk (And.intro (by omega) (And.intro hmk2 ?_)))))
    | (refine And.intro rfl ?_)
    | (refine And.intro (by decide +kernel) ?_)
    | (refine And.intro trivial ?_)
    | (refine Exists.intro _ (And.intro rfl (And.intro rfl (And.intro (Nat.le_of_ble_eq_true rfl) ?_))))
    | (refine Exists.intro _ (And.intro rfl (And.intro rfl (And.intro rfl (And.intro (Nat.le_of_ble_eq_true rfl) ?_)))))
    | (refine And.intro (Exists.intro _ (And.intro rfl rfl)) ?_)
    | (exact fun hW => absurd hW (by decide +kernel))
    | (intro hW; (try simp only [Bool.not_true, Bool.not_false, Bool.not_eq_true', Bool.not_eq_false', decide_eq_true_eq, decide_eq_false_iff_not, reduceCtorEq, Bool.true_eq_false, Bool.false_eq_true, mk_size, List.size_toArray, ByteArray.size_append, ByteArray.size_extract, List.length_cons, List.length_nil, ba_get, ba_empty, Int.toNat_natCast] at hW))
    | (refine And.intro (?_ : _ → _) (?_ : _ → _))
    | (refine FinR.drop 0 (Nat.zero_le _) (Closed.zero _) rfl ?_)
    | (refine FinR.keep ?_)
    | (refine And.intro (det3_agg rfl) ?_)
    | (refine fL_mk ?_)
    | (refine And.intro (by (try simp only [mk_size, List.size_toArray, ByteArray.size_append, ByteArray.size_extract, List.length_cons, List.length_nil]); omega) ?_)
    | (refine And.intro (by (try simp only [mk_size, List.size_toArray, ByteArray.size_append, ByteArray.size_extract, List.length_cons, List.length_nil, wrap64_eq]); omega) ?_)
    | fail)
  refine LoopR.live (fun i : Nat => [(0, .lit (.slice o l.length cap)), (3, .sl 0 0 0 l.length l.length), (4, I i)]) (fun i => [⟨(l.take i ++ List.replicate (l.length - i) 0).map I, 0, 3, 1, true, true⟩]) (fun i => i ≤ l.length) (fun i => l.length - i) 0 ⟨rfl, rfl, rfl, trivial⟩ (.keep ?_) (Nat.zero_le _) ?_
  · show [_] = [_]
    simp [rep]
  intro i hi
  by_cases hlt : i < l.length
  · have hxi : l[i]? = some l[i] := List.getElem?_eq_getElem hlt
    obtain ⟨ad, rfl, hb, hxx⟩ := hf i _ hxi
    have hld := fun C h => ldIn (W0 := W0) (s := 1) (enc := en1) hb hxx (k := i) hxi rfl (C := C) h
    have hlen : (l.take i ++ List.replicate (l.length - i) 0).length = l.length := by rw [List.length_append, List.length_take, List.length_replicate]; omega
    have hle : 0 + ((i : Nat) : Int).toNat * 1 + 1 ≤ ((l.take i ++ List.replicate (l.length - i) 0).map I).length := by rw [List.length_map, hlen, Int.toNat_natCast]; omega
    have hset : (l.take i ++ List.replicate (l.length - i) 0).set i l[i] = l.take (i + 1) ++ List.replicate (l.length - (i + 1)) 0 := by
      have e : (l.take i).length = i := by rw [List.length_take]; omega
      rw [List.set_append_right _ _ (by omega), e, Nat.sub_self, show l.length - i = (l.length - (i + 1)) + 1 by omega, List.replicate_succ, List.set_cons_zero, take_snoc hxi, List.append_assoc]; rfl
    have e2 : 0 + ((i : Nat) : Int).toNat * 1 = i := by rw [Int.toNat_natCast]; omega
    have hst : ((l.take i ++ List.replicate (l.length - i) 0).map I).take (0 + ((i : Nat) : Int).toNat * 1) ++ [I l[i]] ++ ((l.take i ++ List.replicate (l.length - i) 0).map I).drop (0 + ((i : Nat) : Int).toNat * 1 + 1) = ((l.take i ++ List.replicate (l.length - i) 0).set i l[i]).map I := by
      rw [e2]; exact cell_st l[i] (by rw [hlen]; exact hlt)
    repeat' ((conv => whnf); first
      | (refine Exists.intro _ (And.intro rfl (And.intro rfl (And.intro rfl (And.intro hle ?_)))))
      | (refine And.intro rfl ?_)
      | (refine And.intro (by decide +kernel) ?_)
      | (refine And.intro trivial ?_)
      | (refine hld _ ?_)
      | (refine Exists.intro _ (And.intro rfl (And.intro rfl (And.intro (Nat.le_of_ble_eq_true rfl) ?_))))
      | (refine Exists.intro _ (And.intro rfl (And.intro rfl (And.intro rfl (And.intro (Nat.le_of_ble_eq_true rfl) ?_)))))
      | (refine And.intro (Exists.intro _ (And.intro rfl rfl)) ?_)
      | (exact fun hW => absurd hW (by decide +kernel))
      | (intro hW; (try simp only [Bool.not_true, Bool.not_false, Bool.not_eq_true', Bool.not_eq_false', decide_eq_true_eq, decide_eq_false_iff_not, reduceCtorEq, Bool.true_eq_false, Bool.false_eq_true, mk_size, List.size_toArray, ByteArray.size_append, ByteArray.size_extract, List.length_cons, List.length_nil, ba_get, ba_empty, Int.toNat_natCast] at hW))
      | (refine And.intro (?_ : _ → _) (?_ : _ → _))
      | (refine FinR.drop 0 (Nat.zero_le _) (Closed.zero _) rfl ?_)
      | (refine FinR.keep ?_)
      | (refine And.intro (det3_agg rfl) ?_)
      | (refine fL_mk ?_)
      | (refine And.intro (by (try simp only [mk_size, List.size_toArray, ByteArray.size_append, ByteArray.size_extract, List.length_cons, List.length_nil]); omega) ?_)
      | (refine And.intro (by (try simp only [mk_size, List.size_toArray, ByteArray.size_append, ByteArray.size_extract, List.length_cons, List.length_nil, wrap64_eq]); omega) ?_)
      | fail)
    all_goals first | (exfalso; omega) | skip
    refine Again.go (i + 1) ⟨rfl, rfl, slI' (wsucc' i (by omega)), trivial⟩ (.keep ?_) (by omega) (by omega)
    rw [← hset, ← hst]
  · obtain rfl : i = l.length := by omega
    rw [Nat.sub_self, List.take_length, List.replicate_zero, List.append_nil]
    repeat' ((conv => whnf); first
      | (refine And.intro rfl ?_)
      | (refine And.intro (by decide +kernel) ?_)
      | (refine And.intro trivial ?_)
      | (refine Exists.intro _ (And.intro rfl (And.intro rfl (And.intro (Nat.le_of_ble_eq_true rfl) ?_))))
      | (refine Exists.intro _ (And.intro rfl (And.intro rfl (And.intro rfl (And.intro (Nat.le_of_ble_eq_true rfl) ?_)))))
      | (refine And.intro (Exists.intro _ (And.intro rfl rfl)) ?_)
      | (exact fun hW => absurd hW (by decide +kernel))
      | (intro hW; (try simp only [Bool.not_true, Bool.not_false, Bool.not_eq_true', Bool.not_eq_false', decide_eq_true_eq, decide_eq_false_iff_not, reduceCtorEq, Bool.true_eq_false, Bool.false_eq_true, mk_size, List.size_toArray, ByteArray.size_append, ByteArray.size_extract, List.length_cons, List.length_nil, ba_get, ba_empty, Int.toNat_natCast] at hW))
      | (refine And.intro (?_ : _ → _) (?_ : _ → _))
      | (refine FinR.drop 0 (Nat.zero_le _) (Closed.zero _) rfl ?_)
      | (refine FinR.keep ?_)
      | (refine And.intro (det3_agg rfl) ?_)
      | (refine fL_mk ?_)
      | (refine And.intro (by (try simp only [mk_size, List.size_toArray, ByteArray.size_append, ByteArray.size_extract, List.length_cons, List.length_nil]); omega) ?_)
      | (refine And.intro (by (try simp only [mk_size, List.size_toArray, ByteArray.size_append, ByteArray.size_extract, List.length_cons, List.length_nil, wrap64_eq]); omega) ?_)
      | fail)
    all_goals first | (exfalso; omega) | exact h0
theorem d_toIntS (a : AV) (l : List Int) (hs : Sli W0 σ 1 en1 a l) (hl : l.length ≤ 1048576) (K : Cont) (h0 : K (.sl (σ.length + 0) 0 0 l.length l.length) (σ ++ [⟨l.map I, 0, 3, 1, true, true⟩])) : ACall Try.prog W0 33 [a] σ K :=
  lift_S1 (ι := Unit) (fun _ => .sl 0 0 0 l.length l.length) (fun _ => [⟨l.map I, 0, 3, 1, true, true⟩]) (by kernel_rfl) hs (fun W1 a' h K hK => c_toIntS a' l h hl K (hK ())) K (fun _ => by
    rw [show shB σ.length [(⟨l.map I, 0, 3, 1, true, true⟩ : Blk)] = [⟨l.map I, 0, 3, 1, true, true⟩] by simp only [shB, List.map_cons, List.map_nil, sh_I]]; exact h0)
theorem mem_take_succ {l : List Int} {i : Nat} {x n : Int} (h : l[i]? = some x) : n ∈ l.take (i + 1) ↔ n ∈ l.take i ∨ n = x := by rw [take_snoc h, List.mem_append, List.mem_singleton]
theorem c_l1Has (a : AV) (l : List Int) (n : Int) (ha : Sli W0 [] 1 en1 a l) (hl : l.length ≤ 1048576) (K : Cont) (h0 : K (Bo (decide (n ∈ l))) []) : ACall Try.prog W0 100 [a, I n] [] K := by
  refine by100 (Nat.le_of_ble_eq_true rfl) ?_
  obtain ⟨o, n', cap, rfl, hn, hc, hm, hf⟩ := sli_form ha
  subst hn
  repeat' ((conv => whnf); first
    | (refine And.intro rfl ?_)
    | (refine And.intro (by decide +kernel) ?_)
    | (refine And.intro trivial ?_)
    | (refine Exists.intro _ (And.intro rfl (And.intro rfl (And.intro (Nat.le_of_ble_eq_true rfl) ?_))))
    | (refine Exists.intro _ (And.intro rfl (And.intro rfl (And.intro rfl (And.intro (Nat.le_of_ble_eq_true rfl) ?_)))))
    | (refine And.intro (Exists.intro _ (And.intro rfl rfl)) ?_)
    | (exact fun hW => absurd hW (by decide +kernel))
    | (intro hW; (try simp only [Bool.not_true, Bool.not_false, Bool.not_eq_true', Bool.not_eq_false', decide_eq_true_eq, decide_eq_false_iff_not, reduceCtorEq, Bool.true_eq_false, Bool.false_eq_true, mk_size, List.size_toArray, ByteArray.size_append, ByteArray.size_extract, List.length_cons, List.length_nil, ba_get, ba_empty, Int.toNat_natCast] at hW))
    | (refine And.intro (?_ : _ → _) (?_ : _ → _))
    | (refine FinR.drop 0 (Nat.zero_le _) (Closed.zero _) rfl ?_)
    | (refine FinR.keep ?_)
    | (refine And.intro (det3_agg rfl) ?_)
    | (refine fL_mk ?_)
    | (refine And.intro (by (try simp only [mk_size, List.size_toArray, ByteArray.size_append, ByteArray.size_extract, List.length_cons, List.length_nil]); omega) ?_)
    | (refine And.intro (by (try simp only [mk_size, List.size_toArray, ByteArray.size_append, ByteArray.size_extract, List.length_cons, List.length_nil, wrap64_eq]); omega) ?_)
    | fail)
  refine LoopR.live (fun i : Nat => [(0, .lit (.slice o l.length cap)), (1, I n), (5, I i)]) (fun i => []) (fun i => i ≤ l.length ∧ n ∉ l.take i) (fun i => l.length - i) 0 ⟨rfl, rfl, rfl, trivial⟩ (.keep rfl) ⟨Nat.zero_le _, by simp⟩ ?_
  rintro i ⟨hi, hni⟩
  by_cases hlt : i < l.length
  · have hxi : l[i]? = some l[i] := List.getElem?_eq_getElem hlt
    obtain ⟨ad, rfl, hb, hxx⟩ := hf i _ hxi
    have hld := fun C h => ldIn (W0 := W0) (s := 1) (enc := en1) hb hxx (k := i) hxi rfl (C := C) h
    have hms := mem_take_succ (n := n) hxi
    by_cases he : l[i] = n
    · rw [decide_eq_true (show n ∈ l from he ▸ List.getElem_mem hlt)] at h0
      repeat' ((conv => whnf); first
        | (refine And.intro rfl ?_)
        | (refine And.intro (by decide +kernel) ?_)
        | (refine And.intro trivial ?_)
        | (refine hld _ ?_)
        | (refine Exists.intro _ (And.intro rfl (And.intro rfl (And.intro (Nat.le_of_ble_eq_true rfl) ?_))))
        | (refine Exists.intro _ (And.intro rfl (And.intro rfl (And.intro rfl (And.intro (Nat.le_of_ble_eq_true rfl) ?_)))))
        | (refine And.intro (Exists.intro _ (And.intro rfl rfl)) ?_)
        | (exact fun hW => absurd hW (by decide +kernel))
        | (intro hW; (try simp only [Bool.not_true, Bool.not_false, Bool.not_eq_true', Bool.not_eq_false', decide_eq_true_eq, decide_eq_false_iff_not, reduceCtorEq, Bool.true_eq_false, Bool.false_eq_true, mk_size, List.size_toArray, ByteArray.size_append, ByteArray.size_extract, List.length_cons, List.length_nil, ba_get, ba_empty, Int.toNat_natCast] at hW))
        | (refine And.intro (?_ : _ → _) (?_ : _ → _))
        | (refine FinR.drop 0 (Nat.zero_le _) (Closed.zero _) rfl ?_)
        | (refine FinR.keep ?_)
        | (refine And.intro (det3_agg rfl) ?_)
        | (refine fL_mk ?_)
        | (refine And.intro (by (try simp only [mk_size, List.size_toArray, ByteArray.size_append, ByteArray.size_extract, List.length_cons, List.length_nil]); omega) ?_)
        | (refine And.intro (by (try simp only [mk_size, List.size_toArray, ByteArray.size_append, ByteArray.size_extract, List.length_cons, List.length_nil, wrap64_eq]); omega) ?_)
        | fail)
      all_goals first | (exfalso; omega) | exact h0
    · skip
      repeat' ((conv => whnf); first
        | (refine And.intro rfl ?_)
        | (refine And.intro (by decide +kernel) ?_)
        | (refine And.intro trivial ?_)
        | (refine hld _ ?_)
        | (refine Exists.intro _ (And.intro rfl (And.intro rfl (And.intro (Nat.le_of_ble_eq_true rfl) ?_))))
        | (refine Exists.intro _ (And.intro rfl (And.intro rfl (And.intro rfl (And.intro (Nat.le_of_ble_eq_true rfl) ?_)))))
        | (refine And.intro (Exists.intro _ (And.intro rfl rfl)) ?_)
        | (exact fun hW => absurd hW (by decide +kernel))
        | (intro hW; (try simp only [Bool.not_true, Bool.not_false, Bool.not_eq_true', Bool.not_eq_false', decide_eq_true_eq, decide_eq_false_iff_not, reduceCtorEq, Bool.true_eq_false, Bool.false_eq_true, mk_size, List.size_toArray, ByteArray.size_append, ByteArray.size_extract, List.length_cons, List.length_nil, ba_get, ba_empty, Int.toNat_natCast] at hW))
        | (refine And.intro (?_ : _ → _) (?_ : _ → _))
        | (refine FinR.drop 0 (Nat.zero_le _) (Closed.zero _) rfl ?_)
        | (refine FinR.keep ?_)
        | (refine And.intro (det3_agg rfl) ?_)
        | (refine fL_mk ?_)
        | (refine And.intro (by (try simp only [mk_size, List.size_toArray, ByteArray.size_append, ByteArray.size_extract, List.length_cons, List.length_nil]); omega) ?_)
        | (refine And.intro (by (try simp only [mk_size, List.size_toArray, ByteArray.size_append, ByteArray.size_extract, List.length_cons, List.length_nil, wrap64_eq]); omega) ?_)
        | fail)
      all_goals first | (exfalso; omega) | skip
      exact Again.go (i + 1) ⟨rfl, rfl, slI' (wsucc' i (by omega)), trivial⟩ (.keep rfl) ⟨by omega, by rw [hms]; rintro (h | h); exact hni h; exact he h.symm⟩ (by omega)
  · obtain rfl : i = l.length := by omega
    rw [List.take_length] at hni
    rw [decide_eq_false hni] at h0
    repeat' ((conv => whnf); first
      | (refine And.intro rfl ?_)
      | (refine And.intro (by decide +kernel) ?_)
      | (refine And.intro trivial ?_)
      | (refine Exists.intro _ (And.intro rfl (And.intro rfl (And.intro (Nat.le_of_ble_eq_true rfl) ?_))))
      | (refine Exists.intro _ (And.intro rfl (And.intro rfl (And.intro rfl (And.intro (Nat.le_of_ble_eq_true rfl) ?_)))))
      | (refine And.intro (Exists.intro _ (And.intro rfl rfl)) ?_)
      | (exact fun hW => absurd hW (by decide +kernel))
      | (intro hW; (try simp only [Bool.not_true, Bool.not_false, Bool.not_eq_true', Bool.not_eq_false', decide_eq_true_eq, decide_eq_false_iff_not, reduceCtorEq, Bool.true_eq_false, Bool.false_eq_true, mk_size, List.size_toArray, ByteArray.size_append, ByteArray.size_extract, List.length_cons, List.length_nil, ba_get, ba_empty, Int.toNat_natCast] at hW))
      | (refine And.intro (?_ : _ → _) (?_ : _ → _))
      | (refine FinR.drop 0 (Nat.zero_le _) (Closed.zero _) rfl ?_)
      | (refine FinR.keep ?_)
      | (refine And.intro (det3_agg rfl) ?_)
      | (refine fL_mk ?_)
      | (refine And.intro (by (try simp only [mk_size, List.size_toArray, ByteArray.size_append, ByteArray.size_extract, List.length_cons, List.length_nil]); omega) ?_)
      | (refine And.intro (by (try simp only [mk_size, List.size_toArray, ByteArray.size_append, ByteArray.size_extract, List.length_cons, List.length_nil, wrap64_eq]); omega) ?_)
      | fail)
    all_goals first | (exfalso; omega) | exact h0
theorem d_l1Has (a : AV) (l : List Int) (n : Int) (ha : Sli W0 σ 1 en1 a l) (hl : l.length ≤ 1048576) (K : Cont) (h0 : K (Bo (decide (n ∈ l))) σ) : ACall Try.prog W0 100 [a, I n] σ K :=
  lift_Sp (by kernel_rfl) rfl (fun _ => rfl) ha (fun W1 a' h K hK => c_l1Has a' l n h hl K hK) K h0
theorem c_Index (a : AV) (l : List Int) (n : Int) (ha : Sli W0 [] 1 en1 a l) (hl : l.length ≤ 1048576) (K : Cont) (h1 : ∀ i : Nat, n ∈ l → K (I i) []) (h2 : n ∉ l → K (I (-1)) []) : ACall Try.prog W0 121 [a, I n] [] K := by
  refine by121 (Nat.le_of_ble_eq_true rfl) ?_
  obtain ⟨o, n', cap, rfl, hn, hc, hm, hf⟩ := sli_form ha
  subst hn
  repeat' ((conv => whnf); first
    | (refine And.intro rfl ?_)
    | (refine And.intro (by decide +kernel) ?_)
    | (refine And.intro trivial ?_)
    | (refine Exists.intro _ (And.intro rfl (And.intro rfl (And.intro (Nat.le_of_ble_eq_true rfl) ?_))))
    | (refine Exists.intro _ (And.intro rfl (And.intro rfl (And.intro rfl (And.intro (Nat.le_of_ble_eq_true rfl) ?_)))))
    | (refine And.intro (Exists.intro _ (And.intro rfl rfl)) ?_)
    | (exact fun hW => absurd hW (by decide +kernel))
    | (intro hW; (try simp only [Bool.not_true, Bool.not_false, Bool.not_eq_true', Bool.not_eq_false', decide_eq_true_eq, decide_eq_false_iff_not, reduceCtorEq, Bool.true_eq_false, Bool.false_eq_true, mk_size, List.size_toArray, ByteArray.size_append, ByteArray.size_extract, List.length_cons, List.length_nil, ba_get, ba_empty, Int.toNat_natCast] at hW))
    | (refine And.intro (?_ : _ → _) (?_ : _ → _))
    | (refine FinR.drop 0 (Nat.zero_le _) (Closed.zero _) rfl ?_)
    | (refine FinR.keep ?_)
    | (refine And.intro (det3_agg rfl) ?_)
    | (refine fL_mk ?_)
    | (refine And.intro (by (try simp only [mk_size, List.size_toArray, ByteArray.size_append, ByteArray.size_extract, List.length_cons, List.length_nil]); omega) ?_)
    | (refine And.intro (by (try simp only [mk_size, List.size_toArray, ByteArray.size_append, ByteArray.size_extract, List.length_cons, List.length_nil, wrap64_eq]); omega) ?_)
    | fail)
  refine LoopR.live (fun i : Nat => [(0, .lit (.slice o l.length cap)), (1, I n), (7, I l.length), (8, I i)]) (fun i => []) (fun i => i ≤ l.length ∧ n ∉ l.take i) (fun i => l.length - i) 0 ⟨rfl, rfl, rfl, rfl, trivial⟩ (.keep rfl) ⟨Nat.zero_le _, by simp⟩ ?_
  rintro i ⟨hi, hni⟩
  by_cases hlt : i < l.length
  · have hxi : l[i]? = some l[i] := List.getElem?_eq_getElem hlt
    obtain ⟨ad, rfl, hb, hxx⟩ := hf i _ hxi
    have hld := fun C h => ldIn (W0 := W0) (s := 1) (enc := en1) hb hxx (k := i) hxi rfl (C := C) h
    have hms := mem_take_succ (n := n) hxi
    by_cases he : n = l[i]
    · have h0 := h1 i (he ▸ List.getElem_mem hlt)
      repeat' ((conv => whnf); first
        | (refine And.intro rfl ?_)
        | (refine And.intro (by decide +kernel) ?_)
        | (refine And.intro trivial ?_)
        | (refine hld _ ?_)
        | (refine Exists.intro _ (And.intro rfl (And.intro rfl (And.intro (Nat.le_of_ble_eq_true rfl) ?_))))
        | (refine Exists.intro _ (And.intro rfl (And.intro rfl (And.intro rfl (And.intro (Nat.le_of_ble_eq_true rfl) ?_)))))
        | (refine And.intro (Exists.intro _ (And.intro rfl rfl)) ?_)
        | (exact fun hW => absurd hW (by decide +kernel))
        | (intro hW; (try simp only [Bool.not_true, Bool.not_false, Bool.not_eq_true', Bool.not_eq_false', decide_eq_true_eq, decide_eq_false_iff_not, reduceCtorEq, Bool.true_eq_false, Bool.false_eq_true, mk_size, List.size_toArray, ByteArray.size_append, ByteArray.size_extract, List.length_cons, List.length_nil, ba_get, ba_empty, Int.toNat_natCast] at hW))
        | (refine And.intro (?_ : _ → _) (?_ : _ → _))
        | (refine FinR.drop 0 (Nat.zero_le _) (Closed.zero _) rfl ?_)
        | (refine FinR.keep ?_)
        | (refine And.intro (det3_agg rfl) ?_)
        | (refine fL_mk ?_)
        | (refine And.intro (by (try simp only [mk_size, List.size_toArray, ByteArray.size_append, ByteArray.size_extract, List.length_cons, List.length_nil]); omega) ?_)
        | (refine And.intro (by (try simp only [mk_size, List.size_toArray, ByteArray.size_append, ByteArray.size_extract, List.length_cons, List.length_nil, wrap64_eq]); omega) ?_)
        | fail)
      all_goals first | (exfalso; omega) | exact h0
    · skip
      repeat' ((conv => whnf); first
        | (refine And.intro rfl ?_)
        | (refine And.intro (by decide +kernel) ?_)
        | (refine And.intro trivial ?_)
        | (refine hld _ ?_)
        | (refine Exists.intro _ (And.intro rfl (And.intro rfl (And.intro (Nat.le_of_ble_eq_true rfl) ?_))))
        | (refine Exists.intro _ (And.intro rfl (And.intro rfl (And.intro rfl (And.intro (Nat.le_of_ble_eq_true rfl) ?_)))))
        | (refine And.intro (Exists.intro _ (And.intro rfl rfl)) ?_)
        | (exact fun hW => absurd hW (by decide +kernel))
        | (intro hW; (try simp only [Bool.not_true, Bool.not_false, Bool.not_eq_true', Bool.not_eq_false', decide_eq_true_eq, decide_eq_false_iff_not, reduceCtorEq, Bool.true_eq_false, Bool.false_eq_true, mk_size, List.size_toArray, ByteArray.size_append, ByteArray.size_extract, List.length_cons, List.length_nil, ba_get, ba_empty, Int.toNat_natCast] at hW))
        | (refine And.intro (?_ : _ → _) (?_ : _ → _))
        | (refine FinR.drop 0 (Nat.zero_le _) (Closed.zero _) rfl ?_)
        | (refine FinR.keep ?_)
        | (refine And.intro (det3_agg rfl) ?_)
        | (refine fL_mk ?_)
        | (refine And.intro (by (try simp only [mk_size, List.size_toArray, ByteArray.size_append, ByteArray.size_extract, List.length_cons, List.length_nil]); omega) ?_)
        | (refine And.intro (by (try simp only [mk_size, List.size_toArray, ByteArray.size_append, ByteArray.size_extract, List.length_cons, List.length_nil, wrap64_eq]); omega) ?_)
        | fail)
      all_goals first | (exfalso; omega) | skip
      exact Again.go (i + 1) ⟨rfl, rfl, rfl, slI' (wsucc' i (by omega)), trivial⟩ (.keep rfl) ⟨by omega, by rw [hms]; rintro (h | h); exact hni h; exact he h⟩ (by omega)
  · obtain rfl : i = l.length := by omega
    rw [List.take_length] at hni
    have h0 := h2 hni
    repeat' ((conv => whnf); first
      | (refine And.intro rfl ?_)
      | (refine And.intro (by decide +kernel) ?_)
      | (refine And.intro trivial ?_)
      | (refine Exists.intro _ (And.intro rfl (And.intro rfl (And.intro (Nat.le_of_ble_eq_true rfl) ?_))))
      | (refine Exists.intro _ (And.intro rfl (And.intro rfl (And.intro rfl (And.intro (Nat.le_of_ble_eq_true rfl) ?_)))))
      | (refine And.intro (Exists.intro _ (And.intro rfl rfl)) ?_)
      | (exact fun hW => absurd hW (by decide +kernel))
      | (intro hW; (try simp only [Bool.not_true, Bool.not_false, Bool.not_eq_true', Bool.not_eq_false', decide_eq_true_eq, decide_eq_false_iff_not, reduceCtorEq, Bool.true_eq_false, Bool.false_eq_true, mk_size, List.size_toArray, ByteArray.size_append, ByteArray.size_extract, List.length_cons, List.length_nil, ba_get, ba_empty, Int.toNat_natCast] at hW))
      | (refine And.intro (?_ : _ → _) (?_ : _ → _))
      | (refine FinR.drop 0 (Nat.zero_le _) (Closed.zero _) rfl ?_)
      | (refine FinR.keep ?_)
      | (refine And.intro (det3_agg rfl) ?_)
      | (refine fL_mk ?_)
      | (refine And.intro (by (try simp only [mk_size, List.size_toArray, ByteArray.size_append, ByteArray.size_extract, List.length_cons, List.length_nil]); omega) ?_)
      | (refine And.intro (by (try simp only [mk_size, List.size_toArray, ByteArray.size_append, ByteArray.size_extract, List.length_cons, List.length_nil, wrap64_eq]); omega) ?_)
      | fail)
    all_goals first | (exfalso; omega) | exact h0
theorem c_Contains (a : AV) (l : List Int) (n : Int) (ha : Sli W0 [] 1 en1 a l) (hl : l.length ≤ 1048576) (K : Cont) (h0 : K (Bo (decide (n ∈ l))) []) : ACall Try.prog W0 101 [a, I n] [] K := by
  obtain ⟨va, rfl⟩ := sli_lit ha
  refine by101 (Nat.le_of_ble_eq_true rfl) ?_
  repeat' ((conv => whnf); first
    | (refine And.intro rfl ?_)
    | (refine And.intro (by decide +kernel) ?_)
    | (refine And.intro trivial ?_)
    | (refine c_Index (ha := ha) (hl := hl) (h1 := fun i h1 => ?_) (h2 := fun h2 => ?_) ..)
    | (refine Exists.intro _ (And.intro rfl (And.intro rfl (And.intro (Nat.le_of_ble_eq_true rfl) ?_))))
    | (refine Exists.intro _ (And.intro rfl (And.intro rfl (And.intro rfl (And.intro (Nat.le_of_ble_eq_true rfl) ?_)))))
    | (refine And.intro (Exists.intro _ (And.intro rfl rfl)) ?_)
    | (exact fun hW => absurd hW (by decide +kernel))
    | (intro hW; (try simp only [Bool.not_true, Bool.not_false, Bool.not_eq_true', Bool.not_eq_false', decide_eq_true_eq, decide_eq_false_iff_not, reduceCtorEq, Bool.true_eq_false, Bool.false_eq_true, mk_size, List.size_toArray, ByteArray.size_append, ByteArray.size_extract, List.length_cons, List.length_nil, ba_get, ba_empty, Int.toNat_natCast] at hW))
    | (refine And.intro (?_ : _ → _) (?_ : _ → _))
    | (refine FinR.drop 0 (Nat.zero_le _) (Closed.zero _) rfl ?_)
    | (refine FinR.keep ?_)
    | (refine And.intro (det3_agg rfl) ?_)
    | (refine fL_mk ?_)
    | (refine And.intro (by (try simp only [mk_size, List.size_toArray, ByteArray.size_append, ByteArray.size_extract, List.length_cons, List.length_nil]); omega) ?_)
    | (refine And.intro (by (try simp only [mk_size, List.size_toArray, ByteArray.size_append, ByteArray.size_extract, List.length_cons, List.length_nil, wrap64_eq]); omega) ?_)
    | fail)
  · rw [decide_eq_true h1] at h0
    refine kB' h0 ?_
    simp
  · rw [decide_eq_false h2] at h0
    exact kB' h0 rfl
theorem d_Contains (a : AV) (l : List Int) (n : Int) (ha : Sli W0 σ 1 en1 a l) (hl : l.length ≤ 1048576) (K : Cont) (h0 : K (Bo (decide (n ∈ l))) σ) : ACall Try.prog W0 101 [a, I n] σ K :=
  lift_Sp (by kernel_rfl) rfl (fun _ => rfl) ha (fun W1 a' h K hK => c_Contains a' l n h hl K hK) K h0
/-! orders -/
def ordK (l : List Int) (n : Nat) : Nat → Bool
  | 0 => true
  | i + 1 => ordK l n i && (inB (l.getD i 0) 0 ((n : Int) - 1) && !decide (l.getD i 0 ∈ l.take i))
theorem ordK_succ (l : List Int) (n i : Nat) : ordK l n (i + 1) = (ordK l n i && (inB (l.getD i 0) 0 ((n : Int) - 1) && !decide (l.getD i 0 ∈ l.take i))) := rfl
theorem ordK_le {l : List Int} {n : Nat} : ∀ {i j : Nat}, i ≤ j → ordK l n i = false → ordK l n j = false
  | i, 0, h, e => by have : i = 0 := by omega
                     subst this; exact e
  | i, j + 1, h, e => by
    by_cases hij : i = j + 1
    · subst hij; exact e
    · rw [ordK_succ, ordK_le (j := j) (by omega) e, Bool.false_and]
def ordB (l : List Int) (n : Nat) : Bool := decide (l.length = n) && ordK l n n
theorem c_l8Order (a : AV) (l : List Int) (n : Nat) (ha : Sli W0 [] 1 en1 a l) (hl : l.length ≤ 1048576) (hn6 : n ≤ 1048576) (K : Cont) (h0 : K (Bo (ordB l n)) []) : ACall Try.prog W0 68 [a, I n] [] K := by
  refine by68 (Nat.le_of_ble_eq_true rfl) ?_
  obtain ⟨o, n', cap, rfl, hn, hc, hm, hf⟩ := sli_form ha
  subst hn
  have ew : IntKind.i64.wrap ((n : Int) - 1) = (n : Int) - 1 := wrap_i64 _ (by omega) (by omega)
  by_cases hln : l.length = n
  · subst hln
    rw [ordB, decide_eq_true rfl, Bool.true_and] at h0
    repeat' ((conv => whnf); first
      | (refine And.intro rfl ?_)
      | (refine And.intro (by decide +kernel) ?_)
      | (refine And.intro trivial ?_)
      | (refine Exists.intro _ (And.intro rfl (And.intro rfl (And.intro (Nat.le_of_ble_eq_true rfl) ?_))))
      | (refine Exists.intro _ (And.intro rfl (And.intro rfl (And.intro rfl (And.intro (Nat.le_of_ble_eq_true rfl) ?_)))))
      | (refine And.intro (Exists.intro _ (And.intro rfl rfl)) ?_)
      | (exact fun hW => absurd hW (by decide +kernel))
      | (intro hW; (try simp only [Bool.not_true, Bool.not_false, Bool.not_eq_true', Bool.not_eq_false', decide_eq_true_eq, decide_eq_false_iff_not, reduceCtorEq, Bool.true_eq_false, Bool.false_eq_true, mk_size, List.size_toArray, ByteArray.size_append, ByteArray.size_extract, List.length_cons, List.length_nil, ba_get, ba_empty, Int.toNat_natCast] at hW))
      | (refine And.intro (?_ : _ → _) (?_ : _ → _))
      | (refine FinR.drop 0 (Nat.zero_le _) (Closed.zero _) rfl ?_)
      | (refine FinR.keep ?_)
      | (refine And.intro (det3_agg rfl) ?_)
      | (refine fL_mk ?_)
      | (refine And.intro (by (try simp only [mk_size, List.size_toArray, ByteArray.size_append, ByteArray.size_extract, List.length_cons, List.length_nil]); omega) ?_)
      | (refine And.intro (by (try simp only [mk_size, List.size_toArray, ByteArray.size_append, ByteArray.size_extract, List.length_cons, List.length_nil, wrap64_eq]); omega) ?_)
      | fail)
    all_goals first | (exfalso; omega) | (exfalso; simp_all; done) | skip
    refine LoopR.live (fun i : Nat => [(0, .lit (.slice o l.length cap)), (1, I l.length), (5, I i)]) (fun i => []) (fun i => i ≤ l.length ∧ ordK l l.length i = true) (fun i => l.length - i) 0 ⟨rfl, rfl, rfl, trivial⟩ (.keep rfl) ⟨Nat.zero_le _, rfl⟩ ?_
    rintro i ⟨hi, hk⟩
    by_cases hlt : i < l.length
    · have hxi : l[i]? = some l[i] := List.getElem?_eq_getElem hlt
      obtain ⟨ad, rfl, hb, hxx⟩ := hf i _ hxi
      have hld := fun C h => ldIn (W0 := W0) (s := 1) (enc := en1) hb hxx (k := i) hxi rfl (C := C) h
      have hsu := ordK_succ l l.length i
      rw [getD_at hxi, hk, Bool.true_and] at hsu
      have hpre : ∀ {σ : List Blk} (X : Addr) (m c : Nat), X = ad → m = i → c = cap → Sli W0 σ 1 en1 (.lit (.slice (some X) m c)) (l.take i) := fun X m c hX hm' hc' => sli_pre hb hxx hi hX hm' (by omega) (by omega)
      have htl : (l.take i).length ≤ 1048576 := by rw [List.length_take]; omega
      cases hb1 : inB l[i] 0 ((l.length : Int) - 1) with
      | true =>
        repeat' ((conv => whnf); first
          | (refine And.intro rfl ?_)
          | (refine And.intro (by decide +kernel) ?_)
          | (refine And.intro trivial ?_)
          | (refine hld _ ?_)
          | (refine Exists.intro _ (And.intro (callW_fn (d_l1In (h0 := And.intro rfl rfl) ..)) (And.intro trivial ?_)))
          | (refine Exists.intro _ (And.intro (callW_fn (d_l1Has (ha := hpre _ _ _ (addr0 _ _ _) rfl rfl) (hl := htl) (h0 := And.intro rfl rfl) ..)) (And.intro trivial ?_)))
          | (refine Exists.intro _ (And.intro rfl (And.intro rfl (And.intro (Nat.le_of_ble_eq_true rfl) ?_))))
          | (refine Exists.intro _ (And.intro rfl (And.intro rfl (And.intro rfl (And.intro (Nat.le_of_ble_eq_true rfl) ?_)))))
          | (refine And.intro (Exists.intro _ (And.intro rfl rfl)) ?_)
          | (exact fun hW => absurd hW (by decide +kernel))
          | (intro hW; (try simp only [Bool.not_true, Bool.not_false, Bool.not_eq_true', Bool.not_eq_false', decide_eq_true_eq, decide_eq_false_iff_not, reduceCtorEq, Bool.true_eq_false, Bool.false_eq_true, mk_size, List.size_toArray, ByteArray.size_append, ByteArray.size_extract, List.length_cons, List.length_nil, ba_get, ba_empty, Int.toNat_natCast] at hW))
          | (refine And.intro (?_ : _ → _) (?_ : _ → _))
          | (refine FinR.drop 0 (Nat.zero_le _) (Closed.zero _) rfl ?_)
          | (refine FinR.keep ?_)
          | (refine And.intro (det3_agg rfl) ?_)
          | (refine fL_mk ?_)
          | (refine And.intro (by (try simp only [mk_size, List.size_toArray, ByteArray.size_append, ByteArray.size_extract, List.length_cons, List.length_nil]); omega) ?_)
          | (refine And.intro (by (try simp only [mk_size, List.size_toArray, ByteArray.size_append, ByteArray.size_extract, List.length_cons, List.length_nil, wrap64_eq]); omega) ?_)
          | fail)
        all_goals first | (exfalso; omega) | (exfalso; simp_all; done) | skip
        · rw [hb1, decide_eq_true hW, Bool.true_and, Bool.not_true] at hsu
          rw [ordK_le (i := i + 1) (by omega) hsu] at h0
          exact h0
        · rw [hb1, decide_eq_false hW, Bool.true_and, Bool.not_false] at hsu
          exact Again.go (i + 1) ⟨rfl, rfl, slI' (wsucc' i (by omega)), trivial⟩ (.keep rfl) ⟨by omega, hsu⟩ (by omega)
      | false =>
        rw [hb1, Bool.false_and] at hsu
        rw [ordK_le (i := i + 1) (by omega) hsu] at h0
        repeat' ((conv => whnf); first
          | (refine And.intro rfl ?_)
          | (refine And.intro (by decide +kernel) ?_)
          | (refine And.intro trivial ?_)
          | (refine hld _ ?_)
          | (refine Exists.intro _ (And.intro (callW_fn (d_l1In (h0 := And.intro rfl rfl) ..)) (And.intro trivial ?_)))
          | (refine Exists.intro _ (And.intro rfl (And.intro rfl (And.intro (Nat.le_of_ble_eq_true rfl) ?_))))
          | (refine Exists.intro _ (And.intro rfl (And.intro rfl (And.intro rfl (And.intro (Nat.le_of_ble_eq_true rfl) ?_)))))
          | (refine And.intro (Exists.intro _ (And.intro rfl rfl)) ?_)
          | (exact fun hW => absurd hW (by decide +kernel))
          | (intro hW; (try simp only [Bool.not_true, Bool.not_false, Bool.not_eq_true', Bool.not_eq_false', decide_eq_true_eq, decide_eq_false_iff_not, reduceCtorEq, Bool.true_eq_false, Bool.false_eq_true, mk_size, List.size_toArray, ByteArray.size_append, ByteArray.size_extract, List.length_cons, List.length_nil, ba_get, ba_empty, Int.toNat_natCast] at hW))
          | (refine And.intro (?_ : _ → _) (?_ : _ → _))
          | (refine FinR.drop 0 (Nat.zero_le _) (Closed.zero _) rfl ?_)
          | (refine FinR.keep ?_)
          | (refine And.intro (det3_agg rfl) ?_)
          | (refine fL_mk ?_)
          | (refine And.intro (by (try simp only [mk_size, List.size_toArray, ByteArray.size_append, ByteArray.size_extract, List.length_cons, List.length_nil]); omega) ?_)
          | (refine And.intro (by (try simp only [mk_size, List.size_toArray, ByteArray.size_append, ByteArray.size_extract, List.length_cons, List.length_nil, wrap64_eq]); omega) ?_)
          | fail)
        all_goals first | (exfalso; omega) | (exfalso; simp_all; done) | exact h0
    · obtain rfl : i = l.length := by omega
      rw [hk] at h0
      repeat' ((conv => whnf); first
        | (refine And.intro rfl ?_)
        | (refine And.intro (by decide +kernel) ?_)
        | (refine And.intro trivial ?_)
        | (refine Exists.intro _ (And.intro rfl (And.intro rfl (And.intro (Nat.le_of_ble_eq_true rfl) ?_))))
        | (refine Exists.intro _ (And.intro rfl (And.intro rfl (And.intro rfl (And.intro (Nat.le_of_ble_eq_true rfl) ?_)))))
        | (refine And.intro (Exists.intro _ (And.intro rfl rfl)) ?_)
        | (exact fun hW => absurd hW (by decide +kernel))
        | (intro hW; (try simp only [Bool.not_true, Bool.not_false, Bool.not_eq_true', Bool.not_eq_false', decide_eq_true_eq, decide_eq_false_iff_not, reduceCtorEq, Bool.true_eq_false, Bool.false_eq_true, mk_size, List.size_toArray, ByteArray.size_append, ByteArray.size_extract, List.length_cons, List.length_nil, ba_get, ba_empty, Int.toNat_natCast] at hW))
        | (refine And.intro (?_ : _ → _) (?_ : _ → _))
        | (refine FinR.drop 0 (Nat.zero_le _) (Closed.zero _) rfl ?_)
        | (refine FinR.keep ?_)
        | (refine And.intro (det3_agg rfl) ?_)
        | (refine fL_mk ?_)
        | (refine And.intro (by (try simp only [mk_size, List.size_toArray, ByteArray.size_append, ByteArray.size_extract, List.length_cons, List.length_nil]); omega) ?_)
        | (refine And.intro (by (try simp only [mk_size, List.size_toArray, ByteArray.size_append, ByteArray.size_extract, List.length_cons, List.length_nil, wrap64_eq]); omega) ?_)
        | fail)
      all_goals first | (exfalso; omega) | exact h0
  · rw [ordB, decide_eq_false hln, Bool.false_and] at h0
    repeat' ((conv => whnf); first
      | (refine And.intro rfl ?_)
      | (refine And.intro (by decide +kernel) ?_)
      | (refine And.intro trivial ?_)
      | (refine Exists.intro _ (And.intro rfl (And.intro rfl (And.intro (Nat.le_of_ble_eq_true rfl) ?_))))
      | (refine Exists.intro _ (And.intro rfl (And.intro rfl (And.intro rfl (And.intro (Nat.le_of_ble_eq_true rfl) ?_)))))
      | (refine And.intro (Exists.intro _ (And.intro rfl rfl)) ?_)
      | (exact fun hW => absurd hW (by decide +kernel))
      | (intro hW; (try simp only [Bool.not_true, Bool.not_false, Bool.not_eq_true', Bool.not_eq_false', decide_eq_true_eq, decide_eq_false_iff_not, reduceCtorEq, Bool.true_eq_false, Bool.false_eq_true, mk_size, List.size_toArray, ByteArray.size_append, ByteArray.size_extract, List.length_cons, List.length_nil, ba_get, ba_empty, Int.toNat_natCast] at hW))
      | (refine And.intro (?_ : _ → _) (?_ : _ → _))
      | (refine FinR.drop 0 (Nat.zero_le _) (Closed.zero _) rfl ?_)
      | (refine FinR.keep ?_)
      | (refine And.intro (det3_agg rfl) ?_)
      | (refine fL_mk ?_)
      | (refine And.intro (by (try simp only [mk_size, List.size_toArray, ByteArray.size_append, ByteArray.size_extract, List.length_cons, List.length_nil]); omega) ?_)
      | (refine And.intro (by (try simp only [mk_size, List.size_toArray, ByteArray.size_append, ByteArray.size_extract, List.length_cons, List.length_nil, wrap64_eq]); omega) ?_)
      | fail)
    all_goals first | (exfalso; omega) | exact h0
theorem d_l8Order (a : AV) (l : List Int) (n : Nat) (ha : Sli W0 σ 1 en1 a l) (hl : l.length ≤ 1048576) (hn6 : n ≤ 1048576) (K : Cont) (h0 : K (Bo (ordB l n)) σ) : ACall Try.prog W0 68 [a, I n] σ K :=
  lift_Sp (by kernel_rfl) rfl (fun _ => rfl) ha (fun W1 a' h K hK => c_l8Order a' l n h hl hn6 K hK) K h0
theorem c_isOrder (a : AV) (l : List Int) (n : Nat) (ha : Sli W0 [] 1 en1 a l) (hl : l.length ≤ 1048576) (hn6 : n ≤ 1048576) (K : Cont) (h0 : K (Bo (ordB l n)) []) : ACall Try.prog W0 70 [a, I n] [] K := by
  refine by70 (Nat.le_of_ble_eq_true rfl) ?_
  obtain ⟨o, n', cap, rfl, hn, hc, hm, hf⟩ := sli_form ha
  subst hn
  by_cases hln : l.length = n
  · subst hln
    rw [ordB, decide_eq_true rfl, Bool.true_and] at h0
    repeat' ((conv => whnf); first
      | (refine And.intro rfl ?_)
      | (refine And.intro (by decide +kernel) ?_)
      | (refine And.intro trivial ?_)
      | (refine Exists.intro _ (And.intro rfl (And.intro rfl (And.intro (Nat.le_of_ble_eq_true rfl) ?_))))
      | (refine Exists.intro _ (And.intro rfl (And.intro rfl (And.intro rfl (And.intro (Nat.le_of_ble_eq_true rfl) ?_)))))
      | (refine And.intro (Exists.intro _ (And.intro rfl rfl)) ?_)
      | (exact fun hW => absurd hW (by decide +kernel))
      | (intro hW; (try simp only [Bool.not_true, Bool.not_false, Bool.not_eq_true', Bool.not_eq_false', decide_eq_true_eq, decide_eq_false_iff_not, reduceCtorEq, Bool.true_eq_false, Bool.false_eq_true, mk_size, List.size_toArray, ByteArray.size_append, ByteArray.size_extract, List.length_cons, List.length_nil, ba_get, ba_empty, Int.toNat_natCast] at hW))
      | (refine And.intro (?_ : _ → _) (?_ : _ → _))
      | (refine FinR.drop 0 (Nat.zero_le _) (Closed.zero _) rfl ?_)
      | (refine FinR.keep ?_)
      | (refine And.intro (det3_agg rfl) ?_)
      | (refine fL_mk ?_)
      | (refine And.intro (by (try simp only [mk_size, List.size_toArray, ByteArray.size_append, ByteArray.size_extract, List.length_cons, List.length_nil]); omega) ?_)
      | (refine And.intro (by (try simp only [mk_size, List.size_toArray, ByteArray.size_append, ByteArray.size_extract, List.length_cons, List.length_nil, wrap64_eq]); omega) ?_)
      | fail)
    all_goals first | (exfalso; omega) | (exfalso; simp_all; done) | skip
    refine LoopR.live (fun i : Nat => [(0, .lit (.slice o l.length cap)), (1, I l.length), (11, .lit (.slice o l.length cap)), (12, I l.length), (13, I i)]) (fun i => []) (fun i => i ≤ l.length ∧ ordK l l.length i = true) (fun i => l.length - i) 0 ⟨rfl, rfl, rfl, rfl, rfl, trivial⟩ (.keep rfl) ⟨Nat.zero_le _, rfl⟩ ?_
    rintro i ⟨hi, hk⟩
    by_cases hlt : i < l.length
    · have hxi : l[i]? = some l[i] := List.getElem?_eq_getElem hlt
      obtain ⟨ad, rfl, hb, hxx⟩ := hf i _ hxi
      have hld := fun C h => ldIn (W0 := W0) (s := 1) (enc := en1) hb hxx (k := i) hxi rfl (C := C) h
      have hsu := ordK_succ l l.length i
      rw [getD_at hxi, hk, Bool.true_and] at hsu
      have hpre : ∀ {σ : List Blk} (X : Addr) (m c : Nat), X = ad → m = i → c = cap → Sli W0 σ 1 en1 (.lit (.slice (some X) m c)) (l.take i) := fun X m c hX hm' hc' => sli_pre hb hxx hi hX hm' (by omega) (by omega)
      have htl : (l.take i).length ≤ 1048576 := by rw [List.length_take]; omega
      by_cases hb1 : 0 ≤ l[i] ∧ l[i] ≤ (l.length : Int) - 1
      · have hbt : inB l[i] 0 ((l.length : Int) - 1) = true := (inB_iff _ _ _).2 hb1
        repeat' ((conv => whnf); first
          | (refine And.intro rfl ?_)
          | (refine And.intro (by decide +kernel) ?_)
          | (refine And.intro trivial ?_)
          | (refine hld _ ?_)
          | (refine d_Contains (ha := hpre _ _ _ (addr0 _ _ _) rfl rfl) (hl := htl) (h0 := ?_) ..)
          | (refine Exists.intro _ (And.intro rfl (And.intro rfl (And.intro (Nat.le_of_ble_eq_true rfl) ?_))))
          | (refine Exists.intro _ (And.intro rfl (And.intro rfl (And.intro rfl (And.intro (Nat.le_of_ble_eq_true rfl) ?_)))))
          | (refine And.intro (Exists.intro _ (And.intro rfl rfl)) ?_)
          | (exact fun hW => absurd hW (by decide +kernel))
          | (intro hW; (try simp only [Bool.not_true, Bool.not_false, Bool.not_eq_true', Bool.not_eq_false', decide_eq_true_eq, decide_eq_false_iff_not, reduceCtorEq, Bool.true_eq_false, Bool.false_eq_true, mk_size, List.size_toArray, ByteArray.size_append, ByteArray.size_extract, List.length_cons, List.length_nil, ba_get, ba_empty, Int.toNat_natCast] at hW))
          | (refine And.intro (?_ : _ → _) (?_ : _ → _))
          | (refine FinR.drop 0 (Nat.zero_le _) (Closed.zero _) rfl ?_)
          | (refine FinR.keep ?_)
          | (refine And.intro (det3_agg rfl) ?_)
          | (refine fL_mk ?_)
          | (refine And.intro (by (try simp only [mk_size, List.size_toArray, ByteArray.size_append, ByteArray.size_extract, List.length_cons, List.length_nil]); omega) ?_)
          | (refine And.intro (by (try simp only [mk_size, List.size_toArray, ByteArray.size_append, ByteArray.size_extract, List.length_cons, List.length_nil, wrap64_eq]); omega) ?_)
          | fail)
        all_goals first | (exfalso; omega) | (exfalso; simp_all; done) | skip
        · rw [hbt, decide_eq_true hW, Bool.true_and, Bool.not_true] at hsu
          rw [ordK_le (i := i + 1) (by omega) hsu] at h0
          exact h0
        · rw [hbt, decide_eq_false hW, Bool.true_and, Bool.not_false] at hsu
          exact Again.go (i + 1) ⟨rfl, rfl, rfl, rfl, slI' (wsucc' i (by omega)), trivial⟩ (.keep rfl) ⟨by omega, hsu⟩ (by omega)
      · have hbf : inB l[i] 0 ((l.length : Int) - 1) = false := by
          rw [Bool.eq_false_iff]; intro h; exact hb1 ((inB_iff _ _ _).1 h)
        rw [hbf, Bool.false_and] at hsu
        rw [ordK_le (i := i + 1) (by omega) hsu] at h0
        repeat' ((conv => whnf); first
          | (refine And.intro rfl ?_)
          | (refine And.intro (by decide +kernel) ?_)
          | (refine And.intro trivial ?_)
          | (refine hld _ ?_)
          | (refine d_Contains (ha := hpre _ _ _ (addr0 _ _ _) rfl rfl) (hl := htl) (h0 := ?_) ..)
          | (refine Exists.intro _ (And.intro rfl (And.intro rfl (And.intro (Nat.le_of_ble_eq_true rfl) ?_))))
          | (refine Exists.intro _ (And.intro rfl (And.intro rfl (And.intro rfl (And.intro (Nat.le_of_ble_eq_true rfl) ?_)))))
          | (refine And.intro (Exists.intro _ (And.intro rfl rfl)) ?_)
          | (exact fun hW => absurd hW (by decide +kernel))
          | (intro hW; (try simp only [Bool.not_true, Bool.not_false, Bool.not_eq_true', Bool.not_eq_false', decide_eq_true_eq, decide_eq_false_iff_not, reduceCtorEq, Bool.true_eq_false, Bool.false_eq_true, mk_size, List.size_toArray, ByteArray.size_append, ByteArray.size_extract, List.length_cons, List.length_nil, ba_get, ba_empty, Int.toNat_natCast] at hW))
          | (refine And.intro (?_ : _ → _) (?_ : _ → _))
          | (refine FinR.drop 0 (Nat.zero_le _) (Closed.zero _) rfl ?_)
          | (refine FinR.keep ?_)
          | (refine And.intro (det3_agg rfl) ?_)
          | (refine fL_mk ?_)
          | (refine And.intro (by (try simp only [mk_size, List.size_toArray, ByteArray.size_append, ByteArray.size_extract, List.length_cons, List.length_nil]); omega) ?_)
          | (refine And.intro (by (try simp only [mk_size, List.size_toArray, ByteArray.size_append, ByteArray.size_extract, List.length_cons, List.length_nil, wrap64_eq]); omega) ?_)
          | fail)
        all_goals first | (exfalso; omega) | (exfalso; simp_all; done) | exact h0
    · obtain rfl : i = l.length := by omega
      rw [hk] at h0
      repeat' ((conv => whnf); first
        | (refine And.intro rfl ?_)
        | (refine And.intro (by decide +kernel) ?_)
        | (refine And.intro trivial ?_)
        | (refine Exists.intro _ (And.intro rfl (And.intro rfl (And.intro (Nat.le_of_ble_eq_true rfl) ?_))))
        | (refine Exists.intro _ (And.intro rfl (And.intro rfl (And.intro rfl (And.intro (Nat.le_of_ble_eq_true rfl) ?_)))))
        | (refine And.intro (Exists.intro _ (And.intro rfl rfl)) ?_)
        | (exact fun hW => absurd hW (by decide +kernel))
        | (intro hW; (try simp only [Bool.not_true, Bool.not_false, Bool.not_eq_true', Bool.not_eq_false', decide_eq_true_eq, decide_eq_false_iff_not, reduceCtorEq, Bool.true_eq_false, Bool.false_eq_true, mk_size, List.size_toArray, ByteArray.size_append, ByteArray.size_extract, List.length_cons, List.length_nil, ba_get, ba_empty, Int.toNat_natCast] at hW))
        | (refine And.intro (?_ : _ → _) (?_ : _ → _))
        | (refine FinR.drop 0 (Nat.zero_le _) (Closed.zero _) rfl ?_)
        | (refine FinR.keep ?_)
        | (refine And.intro (det3_agg rfl) ?_)
        | (refine fL_mk ?_)
        | (refine And.intro (by (try simp only [mk_size, List.size_toArray, ByteArray.size_append, ByteArray.size_extract, List.length_cons, List.length_nil]); omega) ?_)
        | (refine And.intro (by (try simp only [mk_size, List.size_toArray, ByteArray.size_append, ByteArray.size_extract, List.length_cons, List.length_nil, wrap64_eq]); omega) ?_)
        | fail)
      all_goals first | (exfalso; omega) | exact h0
  · rw [ordB, decide_eq_false hln, Bool.false_and] at h0
    repeat' ((conv => whnf); first
      | (refine And.intro rfl ?_)
      | (refine And.intro (by decide +kernel) ?_)
      | (refine And.intro trivial ?_)
      | (refine Exists.intro _ (And.intro rfl (And.intro rfl (And.intro (Nat.le_of_ble_eq_true rfl) ?_))))
      | (refine Exists.intro _ (And.intro rfl (And.intro rfl (And.intro rfl (And.intro (Nat.le_of_ble_eq_true rfl) ?_)))))
      | (refine And.intro (Exists.intro _ (And.intro rfl rfl)) ?_)
      | (exact fun hW => absurd hW (by decide +kernel))
      | (intro hW; (try simp only [Bool.not_true, Bool.not_false, Bool.not_eq_true', Bool.not_eq_false', decide_eq_true_eq, decide_eq_false_iff_not, reduceCtorEq, Bool.true_eq_false, Bool.false_eq_true, mk_size, List.size_toArray, ByteArray.size_append, ByteArray.size_extract, List.length_cons, List.length_nil, ba_get, ba_empty, Int.toNat_natCast] at hW))
      | (refine And.intro (?_ : _ → _) (?_ : _ → _))
      | (refine FinR.drop 0 (Nat.zero_le _) (Closed.zero _) rfl ?_)
      | (refine FinR.keep ?_)
      | (refine And.intro (det3_agg rfl) ?_)
      | (refine fL_mk ?_)
      | (refine And.intro (by (try simp only [mk_size, List.size_toArray, ByteArray.size_append, ByteArray.size_extract, List.length_cons, List.length_nil]); omega) ?_)
      | (refine And.intro (by (try simp only [mk_size, List.size_toArray, ByteArray.size_append, ByteArray.size_extract, List.length_cons, List.length_nil, wrap64_eq]); omega) ?_)
      | fail)
    all_goals first | (exfalso; omega) | exact h0
theorem d_isOrder (a : AV) (l : List Int) (n : Nat) (ha : Sli W0 σ 1 en1 a l) (hl : l.length ≤ 1048576) (hn6 : n ≤ 1048576) (K : Cont) (h0 : K (Bo (ordB l n)) σ) : ACall Try.prog W0 70 [a, I n] σ K :=
  lift_Sp (by kernel_rfl) rfl (fun _ => rfl) ha (fun W1 a' h K hK => c_isOrder a' l n h hl hn6 K hK) K h0
end Go.Proofs.Ythncpkdhcfaflaa
end

section
/- Contracts: pictures of prints in an order. -/
set_option linter.unusedVariables false
set_option linter.unusedSimpArgs false
set_option maxRecDepth 100000
set_option maxHeartbeats 4000000
namespace Go.Proofs.Ythncpkdhcfaflaa
open Go Go.RowKit Go.Proofs.Ythncpkdhcfaflaa.Abs
variable {W0 : World} {σ : List Blk}
theorem lift_S2 {α β : Type} {enc : α → List Value} {enc' : β → List Value} {g : FuncId} {a b : AV} {xs : List α} {ys : List β} {s s' : Nat} {ι : Type} (r : ι → AV) (τ : ι → List Blk) (hok : callOK Try.prog g = true) (hs : Sli W0 σ s enc a xs) (hs2 : Sli W0 σ s' enc' b ys)
    (h : ∀ (W1 : World) (a' b' : AV), Sli W1 [] s enc a' xs → Sli W1 [] s' enc' b' ys → ∀ K : Cont, (∀ i, K (r i) (τ i)) → ACall Try.prog W1 g [a', b'] [] K) (K : Cont) (h0 : ∀ i, K (sh3 σ.length (r i)) (σ ++ shB σ.length (τ i))) : ACall Try.prog W0 g [a, b] σ K := by
  refine ACall.frameA (K0 := fun v σ' => ∃ i, v = r i ∧ σ' = τ i) hok (fun W1 ι vs hh hrr => ?_) ?_
  · obtain ⟨v1, vs', rfl, hr1, hr2⟩ := Rels.uncons hrr
    obtain ⟨v2, vs'', rfl, hr3, hr4⟩ := Rels.uncons hr2
    obtain ⟨a', ha, hs'⟩ := hs.conc hh ⟨v1, hr1⟩
    obtain ⟨b', hb, hs2'⟩ := hs2.conc hh ⟨v2, hr3⟩
    obtain rfl := hr4.nil_inv
    exact ⟨[a', b'], Rels.cons (ha _ hr1) (Rels.cons (hb _ hr3) Rels.nil), h W1 a' b' hs' hs2' _ (fun i => ⟨i, rfl, rfl⟩)⟩
  · rintro v σ' ⟨i, rfl, rfl⟩; exact h0 i
theorem pic_st {q : List Int} (hq : q.length = 36) {Z : List AV} (hZ : Z.length = 36) : Z.take 0 ++ q.map I ++ Z.drop (0 + 36) = q.map I := by
  rw [List.take_zero, List.nil_append, List.drop_of_length_le (by omega), List.append_nil]
def picY (ys : List (List Int)) : List Int := ys.foldl (fun P x => madeK P (pSet x) (pInk x) 36) z36
def ordL (xs : List (List Int)) (ord : List Int) : List (List Int) := ord.map fun k => xs.getD k.toNat []
theorem picY_len (ys : List (List Int)) : (picY ys).length = 36 := by
  suffices h : ∀ (ys : List (List Int)) (P : List Int), P.length = 36 → (ys.foldl (fun P x => madeK P (pSet x) (pInk x) 36) P).length = 36 from h ys z36 rfl
  intro ys
  induction ys with
  | nil => exact fun P h => h
  | cons x ys ih => exact fun P h => ih _ (by rw [madeK_len, h])
theorem picY_snoc (ys : List (List Int)) (x : List Int) : picY (ys ++ [x]) = madeK (picY ys) (pSet x) (pInk x) 36 := by simp [picY]
theorem ordL_snoc (xs : List (List Int)) (ord : List Int) (k : Int) : ordL xs (ord ++ [k]) = ordL xs ord ++ [xs.getD k.toNat []] := by simp [ordL]
def inR (n : Nat) (ord : List Int) : Prop := ∀ k ∈ ord, 0 ≤ k ∧ k < (n : Int)
theorem xget {xs : List (List Int)} {k : Int} (h : 0 ≤ k ∧ k < (xs.length : Int)) : xs[k.toNat]? = some (xs.getD k.toNat []) := by
  have hlt : k.toNat < xs.length := by omega
  rw [List.getD_eq_getElem?_getD, List.getElem?_eq_getElem hlt]; rfl
theorem row9' {x : List Int} (h : x.length = 9) : ∃ a b c d e f g h' i, x = [a, b, c, d, e, f, g, h', i] := by
  match x, h with
  | [a, b, c, d, e, f, g, h', i], _ => exact ⟨a, b, c, d, e, f, g, h', i, rfl⟩
theorem c_l8All (a b : AV) (xs : List (List Int)) (ord : List Int) (ha : Sli W0 [] 9 enI a xs) (hb' : Sli W0 [] 1 en1 b ord) (hx : ∀ x ∈ xs, x.length = 9) (hall : xs.all pOk = true) (hl : xs.length ≤ 1048576) (ho : inR xs.length ord) (hl2 : ord.length ≤ 1048576) (K : Cont) (h0 : K (Pi (picY (ordL xs ord))) []) : ACall Try.prog W0 69 [a, b] [] K := by
  refine by69 (Nat.le_of_ble_eq_true rfl) ?_
  obtain ⟨o, n, cap, rfl, hn, hc, hm, hf⟩ := sli_form ha
  obtain ⟨o2, n2, cap2, rfl, hn2, hc2, hm2, hf2⟩ := sli_form hb'
  subst hn; subst hn2
  repeat' ((conv => whnf); first
    | (refine And.intro rfl ?_)
    | (refine And.intro (by decide +kernel) ?_)
    | (refine And.intro trivial ?_)
    | (refine Exists.intro _ (And.intro rfl (And.intro rfl (And.intro (Nat.le_of_ble_eq_true rfl) ?_))))
    | (refine Exists.intro _ (And.intro rfl (And.intro rfl (And.intro rfl (And.intro (Nat.le_of_ble_eq_true rfl) ?_)))))
    | (refine And.intro (Exists.intro _ (And.intro rfl rfl)) ?_)
    | (exact fun hW => absurd hW (by decide +kernel))
    | (intro hW; (try simp only [Bool.not_true, Bool.not_false, Bool.not_eq_true', Bool.not_eq_false', decide_eq_true_eq, decide_eq_false_iff_not, reduceCtorEq, Bool.true_eq_false, Bool.false_eq_true, mk_size, List.size_toArray, ByteArray.size_append, ByteArray.size_extract, List.length_cons, List.length_nil, ba_get, ba_empty, Int.toNat_natCast] at hW))
    | (refine And.intro (?_ : _ → _) (?_ : _ → _))
    | (refine FinR.drop 0 (Nat.zero_le _) (Closed.zero _) rfl ?_)
    | (refine FinR.keep ?_)
    | (refine And.intro (det3_agg rfl) ?_)
    | (refine fL_mk ?_)
    | (refine And.intro (by (try simp only [mk_size, List.size_toArray, ByteArray.size_append, ByteArray.size_extract, List.length_cons, List.length_nil]); omega) ?_)
    | (refine And.intro (by (try simp only [mk_size, List.size_toArray, ByteArray.size_append, ByteArray.size_extract, List.length_cons, List.length_nil, wrap64_eq]); omega) ?_)
    | fail)
  refine LoopR.live (fun i : Nat => [(0, .lit (.slice o xs.length cap)), (1, .lit (.slice o2 ord.length cap2)), (4, .ptr 0 0 0), (5, .ptr 1 0 0), (6, I i)]) (fun i => [bQ z36 44, bQ (picY (ordL xs (ord.take i))) 44]) (fun i => i ≤ ord.length) (fun i => ord.length - i) 0 ⟨rfl, rfl, rfl, rfl, rfl, trivial⟩ (.keep rfl) (Nat.zero_le _) ?_
  intro i hi
  have hpl := picY_len (ordL xs (ord.take i))
  by_cases hlt : i < ord.length
  · have hoi : ord[i]? = some ord[i] := List.getElem?_eq_getElem hlt
    obtain ⟨ad2, rfl, hb2, hxx2⟩ := hf2 i _ hoi
    have hk := ho _ (List.getElem_mem hlt)
    have hxi := xget hk
    have hxm := List.mem_of_getElem? hxi
    have hp := List.all_eq_true.1 hall _ hxm
    obtain ⟨ad, rfl, hb, hxx⟩ := hf _ _ hxi
    have hsn : picY (ordL xs (ord.take (i + 1))) = madeK (picY (ordL xs (ord.take i))) (pSet (xs.getD ord[i].toNat [])) (pInk (xs.getD ord[i].toNat [])) 36 := by
      rw [take_snoc hoi, ordL_snoc, picY_snoc]
    obtain ⟨c0, c1, c2, c3, c4, c5, c6, c7, c8, hrow⟩ := row9' (hx _ hxm)
    rw [hrow] at hxi hp hsn
    have hld := ld9 hb hxx hxi rfl
    have hld2 := fun C h => ldIn (W0 := W0) (s := 1) (enc := en1) hb2 hxx2 (k := i) hoi rfl (C := C) h
    repeat' ((conv => whnf); first
      | (refine And.intro rfl (Exists.intro (bQ (picY (ordL xs (ord.take i))) 44) (And.intro rfl (And.intro rfl (And.intro (pic_le hpl rfl) ?_)))); rw [show (bQ (picY (ordL xs (ord.take i))) 44).cells = (picY (ordL xs (ord.take i))).map I from rfl, pic_ld hpl _ rfl])
      | (refine Exists.intro (bQ (picY (ordL xs (ord.take i))) 44) (And.intro rfl (And.intro rfl (And.intro (pic_len (by rw [madeK_len]; exact hpl)) (And.intro (pic_le hpl rfl) ?_)))))
      | (refine And.intro rfl ?_)
      | (refine And.intro (by decide +kernel) ?_)
      | (refine And.intro trivial ?_)
      | (refine hld _ ?_)
      | (refine hld2 _ ?_)
      | (refine Exists.intro _ (And.intro (fun τ => callW_fn (d_l8Made (hq := hpl) (hp := hp) (h0 := And.intro rfl rfl) ..)) ?_))
      | (refine Exists.intro _ (And.intro rfl (And.intro rfl (And.intro (Nat.le_of_ble_eq_true rfl) ?_))))
      | (refine Exists.intro _ (And.intro rfl (And.intro rfl (And.intro rfl (And.intro (Nat.le_of_ble_eq_true rfl) ?_)))))
      | (refine And.intro (Exists.intro _ (And.intro rfl rfl)) ?_)
      | (exact fun hW => absurd hW (by decide +kernel))
      | (intro hW; (try simp only [Bool.not_true, Bool.not_false, Bool.not_eq_true', Bool.not_eq_false', decide_eq_true_eq, decide_eq_false_iff_not, reduceCtorEq, Bool.true_eq_false, Bool.false_eq_true, mk_size, List.size_toArray, ByteArray.size_append, ByteArray.size_extract, List.length_cons, List.length_nil, ba_get, ba_empty, Int.toNat_natCast] at hW))
      | (refine And.intro (?_ : _ → _) (?_ : _ → _))
      | (refine FinR.drop 0 (Nat.zero_le _) (Closed.zero _) rfl ?_)
      | (refine FinR.keep ?_)
      | (refine And.intro (det3_agg rfl) ?_)
      | (refine fL_mk ?_)
      | (refine And.intro (by (try simp only [mk_size, List.size_toArray, ByteArray.size_append, ByteArray.size_extract, List.length_cons, List.length_nil]); omega) ?_)
      | (refine And.intro (by (try simp only [mk_size, List.size_toArray, ByteArray.size_append, ByteArray.size_extract, List.length_cons, List.length_nil, wrap64_eq]); omega) ?_)
      | fail)
    all_goals first | (exfalso; omega) | skip
    refine Again.go (i + 1) ⟨rfl, rfl, rfl, rfl, slI' (wsucc' i (by omega)), trivial⟩ (.keep ?_) (by omega) (by omega)
    rw [hsn]
    have e := pic_st (q := madeK (picY (ordL xs (ord.take i))) (pSet [c0, c1, c2, c3, c4, c5, c6, c7, c8]) c0 36) (by rw [madeK_len]; exact hpl) (Z := (picY (ordL xs (ord.take i))).map I) (by rw [List.length_map]; exact hpl)
    dsimp only [bQ]
    rw [show pInk [c0, c1, c2, c3, c4, c5, c6, c7, c8] = c0 from rfl]
    conv => lhs; rw [← e]
    rfl
  · obtain rfl : i = ord.length := by omega
    rw [List.take_length] at hpl ⊢
    repeat' ((conv => whnf); first
      | (refine Exists.intro (bQ (picY (ordL xs ord)) 44) (And.intro rfl (And.intro rfl (And.intro (pic_le hpl rfl) ?_))); rw [show (bQ (picY (ordL xs ord)) 44).cells = (picY (ordL xs ord)).map I from rfl, pic_ld hpl _ rfl])
      | (refine Exists.intro _ (And.intro rfl (And.intro rfl (And.intro (pic_len hpl) (And.intro (Nat.le_of_ble_eq_true rfl) ?_)))))
      | (refine Exists.intro _ (And.intro rfl (And.intro rfl (And.intro (pic_rle hpl _) ?_))); rw [pic_res hpl _])
      | (refine FinR.drop 0 (Nat.zero_le _) (Closed.zero _) (belPi 0 _) ?_)
      | (refine And.intro rfl ?_)
      | (refine And.intro (by decide +kernel) ?_)
      | (refine And.intro trivial ?_)
      | (refine Exists.intro _ (And.intro rfl (And.intro rfl (And.intro (Nat.le_of_ble_eq_true rfl) ?_))))
      | (refine Exists.intro _ (And.intro rfl (And.intro rfl (And.intro rfl (And.intro (Nat.le_of_ble_eq_true rfl) ?_)))))
      | (refine And.intro (Exists.intro _ (And.intro rfl rfl)) ?_)
      | (exact fun hW => absurd hW (by decide +kernel))
      | (intro hW; (try simp only [Bool.not_true, Bool.not_false, Bool.not_eq_true', Bool.not_eq_false', decide_eq_true_eq, decide_eq_false_iff_not, reduceCtorEq, Bool.true_eq_false, Bool.false_eq_true, mk_size, List.size_toArray, ByteArray.size_append, ByteArray.size_extract, List.length_cons, List.length_nil, ba_get, ba_empty, Int.toNat_natCast] at hW))
      | (refine And.intro (?_ : _ → _) (?_ : _ → _))
      | (refine FinR.drop 0 (Nat.zero_le _) (Closed.zero _) rfl ?_)
      | (refine FinR.keep ?_)
      | (refine And.intro (det3_agg rfl) ?_)
      | (refine fL_mk ?_)
      | (refine And.intro (by (try simp only [mk_size, List.size_toArray, ByteArray.size_append, ByteArray.size_extract, List.length_cons, List.length_nil]); omega) ?_)
      | (refine And.intro (by (try simp only [mk_size, List.size_toArray, ByteArray.size_append, ByteArray.size_extract, List.length_cons, List.length_nil, wrap64_eq]); omega) ?_)
      | fail)
    all_goals first | (exfalso; omega) | exact h0
theorem d_l8All (a b : AV) (xs : List (List Int)) (ord : List Int) (ha : Sli W0 σ 9 enI a xs) (hb : Sli W0 σ 1 en1 b ord) (hx : ∀ x ∈ xs, x.length = 9) (hall : xs.all pOk = true) (hl : xs.length ≤ 1048576) (ho : inR xs.length ord) (hl2 : ord.length ≤ 1048576) (K : Cont) (h0 : K (Pi (picY (ordL xs ord))) σ) : ACall Try.prog W0 69 [a, b] σ K :=
  lift_S2 (ι := Unit) (fun _ => Pi (picY (ordL xs ord))) (fun _ => []) (by kernel_rfl) ha hb (fun W1 a' b' h h' K hK => c_l8All a' b' xs ord h h' hx hall hl ho hl2 K (hK ())) K (fun _ => by
    rw [sh_Pi, show shB σ.length [] = [] from rfl, List.append_nil]; exact h0)
/-! the program -/
theorem c_list (n : Nat) (hn : n < 2 ^ 36) (K : Cont) (h0 : ∀ cap, K (.sl 0 (selN n.testBit 36).length 0 (selN n.testBit 36).length cap) [outB (selN n.testBit 36)]) : ACall Try.prog W0 102 [U n] [] K := by
  refine by102 (Nat.le_of_ble_eq_true rfl) ?_
  repeat' ((conv => whnf); first
    | (refine And.intro rfl ?_)
    | (refine And.intro (by decide +kernel) ?_)
    | (refine And.intro trivial ?_)
    | (refine Exists.intro _ (And.intro rfl (And.intro rfl (And.intro (Nat.le_of_ble_eq_true rfl) ?_))))
    | (refine Exists.intro _ (And.intro rfl (And.intro rfl (And.intro rfl (And.intro (Nat.le_of_ble_eq_true rfl) ?_)))))
    | (refine And.intro (Exists.intro _ (And.intro rfl rfl)) ?_)
    | (exact fun hW => absurd hW (by decide +kernel))
    | (intro hW; (try simp only [Bool.not_true, Bool.not_false, Bool.not_eq_true', Bool.not_eq_false', decide_eq_true_eq, decide_eq_false_iff_not, reduceCtorEq, Bool.true_eq_false, Bool.false_eq_true, mk_size, List.size_toArray, ByteArray.size_append, ByteArray.size_extract, List.length_cons, List.length_nil, ba_get, ba_empty, Int.toNat_natCast] at hW))
    | (refine And.intro (?_ : _ → _) (?_ : _ → _))
    | (refine FinR.drop 0 (Nat.zero_le _) (Closed.zero _) rfl ?_)
    | (refine FinR.keep ?_)
    | (refine And.intro (det3_agg rfl) ?_)
    | (refine fL_mk ?_)
    | (refine And.intro (by (try simp only [mk_size, List.size_toArray, ByteArray.size_append, ByteArray.size_extract, List.length_cons, List.length_nil]); omega) ?_)
    | (refine And.intro (by (try simp only [mk_size, List.size_toArray, ByteArray.size_append, ByteArray.size_extract, List.length_cons, List.length_nil, wrap64_eq]); omega) ?_)
    | fail)
  refine LoopR.live (fun y : Nat × Nat => [(0, U n), (3, .sl 0 (selN n.testBit y.1).length 0 (selN n.testBit y.1).length y.2), (6, I y.1)]) (fun y => [outB (selN n.testBit y.1)]) (fun y => y.1 ≤ 36) (fun y => 36 - y.1) (0, 0) ⟨rfl, rfl, rfl, trivial⟩ (.keep rfl) (Nat.zero_le _) ?_
  rintro ⟨i, cp⟩ hi
  dsimp only at hi
  have hsl := selN_len n.testBit i
  have hq := selN_succ n.testBit i
  by_cases hlt : i < 36
  · skip
    repeat' ((conv => whnf); first
      | (refine And.intro rfl ?_)
      | (refine And.intro (by decide +kernel) ?_)
      | (refine And.intro trivial ?_)
      | (refine d_has (hn := Nat.lt_trans hn (by decide)) (hk := by omega) (h0 := ?_) ..)
      | (refine Exists.intro _ (And.intro rfl (And.intro rfl (And.intro rfl (And.intro rfl (And.intro rfl (And.intro rfl (And.intro (by decide) (And.intro (by simp [List.length_map]) (And.intro rfl (And.intro (by (try dsimp only); unfold maxLen; omega) (And.intro (by (try dsimp only); omega) (fun cap' hcap1 hcap2 => ?_)))))))))))))
      | (refine Exists.intro _ (And.intro rfl (And.intro rfl (And.intro (Nat.le_of_ble_eq_true rfl) ?_))))
      | (refine Exists.intro _ (And.intro rfl (And.intro rfl (And.intro rfl (And.intro (Nat.le_of_ble_eq_true rfl) ?_)))))
      | (refine And.intro (Exists.intro _ (And.intro rfl rfl)) ?_)
      | (exact fun hW => absurd hW (by decide +kernel))
      | (intro hW; (try simp only [Bool.not_true, Bool.not_false, Bool.not_eq_true', Bool.not_eq_false', decide_eq_true_eq, decide_eq_false_iff_not, reduceCtorEq, Bool.true_eq_false, Bool.false_eq_true, mk_size, List.size_toArray, ByteArray.size_append, ByteArray.size_extract, List.length_cons, List.length_nil, ba_get, ba_empty, Int.toNat_natCast] at hW))
      | (refine And.intro (?_ : _ → _) (?_ : _ → _))
      | (refine FinR.drop 0 (Nat.zero_le _) (Closed.zero _) rfl ?_)
      | (refine FinR.keep ?_)
      | (refine And.intro (det3_agg rfl) ?_)
      | (refine fL_mk ?_)
      | (refine And.intro (by (try simp only [mk_size, List.size_toArray, ByteArray.size_append, ByteArray.size_extract, List.length_cons, List.length_nil]); omega) ?_)
      | (refine And.intro (by (try simp only [mk_size, List.size_toArray, ByteArray.size_append, ByteArray.size_extract, List.length_cons, List.length_nil, wrap64_eq]); omega) ?_)
      | fail)
    all_goals first | (exfalso; omega) | skip
    · rw [hW, if_pos rfl] at hq
      refine Again.go (i + 1, _) ⟨rfl, (by show AV.sl _ _ _ _ _ = AV.sl _ _ _ _ _; rw [hq, List.length_append]; rfl), slI' (wsucc' i (by omega)), trivial⟩ (.keep ?_) (by dsimp only; omega) (by dsimp only; omega)
      dsimp only [outB]
      rw [hq, List.length_append, List.map_append]; rfl
    · rw [hW, if_neg (by decide), List.append_nil] at hq
      refine Again.go (i + 1, cp) ⟨rfl, (by show AV.sl _ _ _ _ _ = AV.sl _ _ _ _ _; rw [hq]), slI' (wsucc' i (by omega)), trivial⟩ (.keep ?_) (by dsimp only; omega) (by dsimp only; omega)
      dsimp only [outB]
      rw [hq]
  · obtain rfl : i = 36 := by omega
    have h0 := h0 cp
    repeat' ((conv => whnf); first
      | (refine And.intro rfl ?_)
      | (refine And.intro (by decide +kernel) ?_)
      | (refine And.intro trivial ?_)
      | (refine Exists.intro _ (And.intro rfl (And.intro rfl (And.intro (Nat.le_of_ble_eq_true rfl) ?_))))
      | (refine Exists.intro _ (And.intro rfl (And.intro rfl (And.intro rfl (And.intro (Nat.le_of_ble_eq_true rfl) ?_)))))
      | (refine And.intro (Exists.intro _ (And.intro rfl rfl)) ?_)
      | (exact fun hW => absurd hW (by decide +kernel))
      | (intro hW; (try simp only [Bool.not_true, Bool.not_false, Bool.not_eq_true', Bool.not_eq_false', decide_eq_true_eq, decide_eq_false_iff_not, reduceCtorEq, Bool.true_eq_false, Bool.false_eq_true, mk_size, List.size_toArray, ByteArray.size_append, ByteArray.size_extract, List.length_cons, List.length_nil, ba_get, ba_empty, Int.toNat_natCast] at hW))
      | (refine And.intro (?_ : _ → _) (?_ : _ → _))
      | (refine FinR.drop 0 (Nat.zero_le _) (Closed.zero _) rfl ?_)
      | (refine FinR.keep ?_)
      | (refine And.intro (det3_agg rfl) ?_)
      | (refine fL_mk ?_)
      | (refine And.intro (by (try simp only [mk_size, List.size_toArray, ByteArray.size_append, ByteArray.size_extract, List.length_cons, List.length_nil]); omega) ?_)
      | (refine And.intro (by (try simp only [mk_size, List.size_toArray, ByteArray.size_append, ByteArray.size_extract, List.length_cons, List.length_nil, wrap64_eq]); omega) ?_)
      | fail)
    all_goals first | (exfalso; omega) | exact h0
theorem d_list (n : Nat) (hn : n < 2 ^ 36) (K : Cont) (h0 : ∀ cap, K (.sl (σ.length + 0) (selN n.testBit 36).length 0 (selN n.testBit 36).length cap) (σ ++ [outB (selN n.testBit 36)])) : ACall Try.prog W0 102 [U n] σ K := by
  refine ACall.frame (K0 := fun v σ' => ∃ cap, v = .sl 0 (selN n.testBit 36).length 0 (selN n.testBit 36).length cap ∧ σ' = [outB (selN n.testBit 36)]) rfl (fun W1 _ => c_list n hn _ fun cap => ⟨cap, rfl, rfl⟩) ?_
  rintro v σ' ⟨cap, rfl, rfl⟩
  rw [sh_out1]; exact h0 cap
theorem selN_mem (f : Nat → Bool) : ∀ n, ∀ k ∈ selN f n, ∃ m : Nat, k = m ∧ m < n
  | 0, k, h => by cases h
  | n + 1, k, h => by
    rw [selN_succ] at h
    rcases List.mem_append.1 h with h | h
    · obtain ⟨m, e, hm⟩ := selN_mem f n k h
      exact ⟨m, e, by omega⟩
    · split at h
      · exact ⟨n, List.mem_singleton.1 h, by omega⟩
      · cases h
def setL (P : List Int) (l : List Int) (ink : Int) : List Int := l.foldl (fun P k => P.set k.toNat ink) P
theorem setL_len (ink : Int) : ∀ (l P : List Int), (setL P l ink).length = P.length
  | [], P => rfl
  | k :: l, P => by
    show (setL (P.set k.toNat ink) l ink).length = _
    rw [setL_len ink l, List.length_set]
theorem setL_snoc (P l : List Int) (k ink : Int) : setL P (l ++ [k]) ink = (setL P l ink).set k.toNat ink := by simp [setL]
theorem setL_made (P : List Int) (n : Nat) (ink : Int) : ∀ k, setL P (selN n.testBit k) ink = madeK P n ink k
  | 0 => rfl
  | k + 1 => by
    rw [selN_succ, madeK_succ]
    split
    · rw [setL_snoc, setL_made P n ink k, Int.toNat_natCast]
    · rw [List.append_nil, setL_made P n ink k]
def enY (x : List Int) : List Value := [.int .u64 (pSet x : Nat), .int .i64 (pInk x)]
theorem sli_ly {xs : List (List Int)} {b ver : Nat} {e : TypeId} {z : Nat} {r m : Bool} {cap : Nat} (hb : σ[b]? = some ⟨lyC xs, ver, e, z, r, m⟩) : Sli W0 σ 2 enY (.sl b ver 0 xs.length cap) xs :=
  .own b ver 0 _ cap _ _ hb rfl rfl fun i x hi j v hj => by
    obtain ⟨h1, h2⟩ := lyC_get hi
    rw [Nat.zero_add]
    match j, hj with
    | 0, hj => cases hj; exact h1
    | 1, hj => cases hj; exact h2
    | j + 2, hj => simp [enY] at hj
theorem c_picture (a : AV) (xs : List (List Int)) (ha : Sli W0 [] 2 enY a xs) (hx : ∀ x ∈ xs, x.length = 9) (hall : xs.all pOk = true) (hl : xs.length ≤ 1048576) (K : Cont) (h0 : K (Pi (picY xs)) []) : ACall Try.prog W0 71 [a] [] K := by
  refine by71 (Nat.le_of_ble_eq_true rfl) ?_
  obtain ⟨o, n, cap, rfl, hn, hc, hm, hf⟩ := sli_form ha
  subst hn
  repeat' ((conv => whnf); first
    | (refine And.intro rfl ?_)
    | (refine And.intro (by decide +kernel) ?_)
    | (refine And.intro trivial ?_)
    | (refine Exists.intro _ (And.intro rfl (And.intro rfl (And.intro (Nat.le_of_ble_eq_true rfl) ?_))))
    | (refine Exists.intro _ (And.intro rfl (And.intro rfl (And.intro rfl (And.intro (Nat.le_of_ble_eq_true rfl) ?_)))))
    | (refine And.intro (Exists.intro _ (And.intro rfl rfl)) ?_)
    | (exact fun hW => absurd hW (by decide +kernel))
    | (intro hW; (try simp only [Bool.not_true, Bool.not_false, Bool.not_eq_true', Bool.not_eq_false', decide_eq_true_eq, decide_eq_false_iff_not, reduceCtorEq, Bool.true_eq_false, Bool.false_eq_true, mk_size, List.size_toArray, ByteArray.size_append, ByteArray.size_extract, List.length_cons, List.length_nil, ba_get, ba_empty, Int.toNat_natCast] at hW))
    | (refine And.intro (?_ : _ → _) (?_ : _ → _))
    | (refine FinR.drop 0 (Nat.zero_le _) (Closed.zero _) rfl ?_)
    | (refine FinR.keep ?_)
    | (refine And.intro (det3_agg rfl) ?_)
    | (refine fL_mk ?_)
    | (refine And.intro (by (try simp only [mk_size, List.size_toArray, ByteArray.size_append, ByteArray.size_extract, List.length_cons, List.length_nil]); omega) ?_)
    | (refine And.intro (by (try simp only [mk_size, List.size_toArray, ByteArray.size_append, ByteArray.size_extract, List.length_cons, List.length_nil, wrap64_eq]); omega) ?_)
    | fail)
  refine LoopR.live (fun i : Nat => [(2, .ptr 0 0 0), (3, .ptr 1 0 0), (9, .lit (.slice o xs.length cap)), (10, I xs.length), (11, I i)]) (fun i => [bQ z36 44, bQ (picY (xs.take i)) 44]) (fun i => i ≤ xs.length) (fun i => xs.length - i) 0 ⟨rfl, rfl, rfl, rfl, rfl, trivial⟩ (.keep rfl) (Nat.zero_le _) ?_
  intro i hi
  have hpl := picY_len (xs.take i)
  by_cases hlt : i < xs.length
  · obtain ⟨x, hxi⟩ : ∃ x, xs[i]? = some x := ⟨_, List.getElem?_eq_getElem hlt⟩
    obtain ⟨ad, rfl, hb, hxx⟩ := hf i _ hxi
    have hp : pOk x = true := List.all_eq_true.1 hall _ (List.mem_of_getElem? hxi)
    have hs := pSet_lt (hx _ (List.mem_of_getElem? hxi)) hp
    have hld := fun C h => ldIn (W0 := W0) (s := 2) (enc := enY) hb hxx (k := i) hxi rfl (C := C) h
    have hsn : picY (xs.take (i + 1)) = madeK (picY (xs.take i)) (pSet x) (pInk x) 36 := by rw [take_snoc hxi, picY_snoc]
    have hsm := setL_made (picY (xs.take i)) (pSet x) (pInk x) 36
    have hlist : ∀ {W : World} {σ : List Blk} (K : Cont), (∀ L cap, L = selN (pSet x).testBit 36 → K (.sl (σ.length + 0) L.length 0 L.length cap) (σ ++ [outB L])) → ACall Try.prog W 102 [U (pSet x : Nat)] σ K :=
      fun K hK => d_list (pSet x) hs K fun cap => hK _ cap rfl
    repeat' ((conv => whnf); first
      | (refine And.intro rfl ?_)
      | (refine And.intro (by decide +kernel) ?_)
      | (refine And.intro trivial ?_)
      | (refine hld _ ?_)
      | (refine hlist _ (fun L cp hL => ?_))
      | (refine Exists.intro _ (And.intro rfl (And.intro rfl (And.intro (Nat.le_of_ble_eq_true rfl) ?_))))
      | (refine Exists.intro _ (And.intro rfl (And.intro rfl (And.intro rfl (And.intro (Nat.le_of_ble_eq_true rfl) ?_)))))
      | (refine And.intro (Exists.intro _ (And.intro rfl rfl)) ?_)
      | (exact fun hW => absurd hW (by decide +kernel))
      | (intro hW; (try simp only [Bool.not_true, Bool.not_false, Bool.not_eq_true', Bool.not_eq_false', decide_eq_true_eq, decide_eq_false_iff_not, reduceCtorEq, Bool.true_eq_false, Bool.false_eq_true, mk_size, List.size_toArray, ByteArray.size_append, ByteArray.size_extract, List.length_cons, List.length_nil, ba_get, ba_empty, Int.toNat_natCast] at hW))
      | (refine And.intro (?_ : _ → _) (?_ : _ → _))
      | (refine FinR.drop 0 (Nat.zero_le _) (Closed.zero _) rfl ?_)
      | (refine FinR.keep ?_)
      | (refine And.intro (det3_agg rfl) ?_)
      | (refine fL_mk ?_)
      | (refine And.intro (by (try simp only [mk_size, List.size_toArray, ByteArray.size_append, ByteArray.size_extract, List.length_cons, List.length_nil]); omega) ?_)
      | (refine And.intro (by (try simp only [mk_size, List.size_toArray, ByteArray.size_append, ByteArray.size_extract, List.length_cons, List.length_nil, wrap64_eq]); omega) ?_)
      | fail)
    all_goals first | (exfalso; omega) | skip
    have hLl : L.length ≤ 36 := by rw [hL]; exact selN_len _ _
    rw [← hL] at hsm
    refine LoopR.live (fun j : Nat => [(2, .ptr 0 0 0), (3, .ptr 1 0 0), (5, .ptr 2 0 0), (9, .lit (.slice (some ad) xs.length cap)), (10, I xs.length), (11, I i), (17, .sl 3 L.length 0 L.length cp), (18, I L.length), (19, I j)]) (fun j => [bQ z36 44, bQ (setL (picY (xs.take i)) (L.take j) (pInk x)) 44, ⟨[U (pSet x : Nat), I (pInk x)], 0, 93, 0, false, false⟩, outB L]) (fun j => j ≤ L.length) (fun j => L.length - j) 0 ⟨rfl, rfl, rfl, rfl, rfl, rfl, rfl, rfl, rfl, trivial⟩ (.keep rfl) (Nat.zero_le _) ?_
    intro j hj
    have hsl := setL_len (pInk x) (L.take j) (picY (xs.take i))
    rw [hpl] at hsl
    by_cases hlt2 : j < L.length
    · have hLj : L[j]? = some L[j] := List.getElem?_eq_getElem hlt2
      obtain ⟨m, hm, hm36⟩ := selN_mem (pSet x).testBit 36 L[j] (by rw [← hL]; exact List.getElem_mem hlt2)
      have e1 : (L[j]).tmod 6 = ((m % 6 : Nat) : Int) := by rw [hm, Int.tmod_eq_emod_of_nonneg (by omega)]; rfl
      have e2 : IntKind.i64.wrap ((L[j]).tdiv 6) = ((m / 6 : Nat) : Int) := by rw [hm, Int.tdiv_eq_ediv_of_nonneg (by omega), wrap_i64 _ (by omega) (by omega)]; rfl
      have hoff : 0 + 0 + (IntKind.i64.wrap ((L[j]).tdiv 6)).toNat * 6 + ((L[j]).tmod 6).toNat * 1 = m := by rw [e1, e2]; simp only [Int.toNat_natCast]; omega
      have hle : ∀ off, off = m → off + 1 ≤ ((setL (picY (xs.take i)) (L.take j) (pInk x)).map I).length := fun off ho => cell_le (by omega)
      have hle3 : ∀ off, off = j → off + 1 ≤ (L.map I).length := fun off ho => cell_le (by omega)
      have hce : ∀ off, off = j → mkAV false (((L.map I).drop off).take 1) = I L[j] := fun off ho => by subst ho; rw [cell_ld hlt2, getD_at hLj]
      have hst : ((setL (picY (xs.take i)) (L.take j) (pInk x)).map I).take (0 + 0 + (IntKind.i64.wrap ((L[j]).tdiv 6)).toNat * 6 + ((L[j]).tmod 6).toNat * 1) ++ [I (pInk x)] ++ ((setL (picY (xs.take i)) (L.take j) (pInk x)).map I).drop (0 + 0 + (IntKind.i64.wrap ((L[j]).tdiv 6)).toNat * 6 + ((L[j]).tmod 6).toNat * 1 + 1) = (setL (picY (xs.take i)) (L.take (j + 1)) (pInk x)).map I := by
        rw [hoff, cell_st (pInk x) (by omega), take_snoc hLj, setL_snoc, hm, Int.toNat_natCast]
      repeat' ((conv => whnf); first
        | (refine Exists.intro (outB L) (And.intro rfl (And.intro rfl (And.intro (hle3 _ (by rw [Int.toNat_natCast]; omega)) ?_))); rw [show (outB L).cells = L.map I from rfl, hce _ (by rw [Int.toNat_natCast]; omega)])
        | (refine Exists.intro (bQ (setL (picY (xs.take i)) (L.take j) (pInk x)) 44) (And.intro rfl (And.intro rfl (And.intro rfl (And.intro (hle _ hoff) ?_)))))
        | (refine And.intro rfl ?_)
        | (refine And.intro (by decide +kernel) ?_)
        | (refine And.intro trivial ?_)
        | (refine Exists.intro _ (And.intro rfl (And.intro rfl (And.intro (Nat.le_of_ble_eq_true rfl) ?_))))
        | (refine Exists.intro _ (And.intro rfl (And.intro rfl (And.intro rfl (And.intro (Nat.le_of_ble_eq_true rfl) ?_)))))
        | (refine And.intro (Exists.intro _ (And.intro rfl rfl)) ?_)
        | (exact fun hW => absurd hW (by decide +kernel))
        | (intro hW; (try simp only [Bool.not_true, Bool.not_false, Bool.not_eq_true', Bool.not_eq_false', decide_eq_true_eq, decide_eq_false_iff_not, reduceCtorEq, Bool.true_eq_false, Bool.false_eq_true, mk_size, List.size_toArray, ByteArray.size_append, ByteArray.size_extract, List.length_cons, List.length_nil, ba_get, ba_empty, Int.toNat_natCast] at hW))
        | (refine And.intro (?_ : _ → _) (?_ : _ → _))
        | (refine FinR.drop 0 (Nat.zero_le _) (Closed.zero _) rfl ?_)
        | (refine FinR.keep ?_)
        | (refine And.intro (det3_agg rfl) ?_)
        | (refine fL_mk ?_)
        | (refine And.intro (by (try simp only [mk_size, List.size_toArray, ByteArray.size_append, ByteArray.size_extract, List.length_cons, List.length_nil]); omega) ?_)
        | (refine And.intro (by (try simp only [mk_size, List.size_toArray, ByteArray.size_append, ByteArray.size_extract, List.length_cons, List.length_nil, wrap64_eq]); omega) ?_)
        | fail)
      all_goals first | (exfalso; omega) | skip
      refine Again.go (j + 1) ⟨rfl, rfl, rfl, rfl, rfl, rfl, rfl, rfl, slI' (wsucc' j (by omega)), trivial⟩ (.keep ?_) (by omega) (by omega)
      dsimp only [bQ]
      rw [← hst]
      rfl
    · obtain rfl : j = L.length := by omega
      rw [List.take_length, hsm, ← hsn]
      repeat' ((conv => whnf); first
        | (refine And.intro rfl ?_)
        | (refine And.intro (by decide +kernel) ?_)
        | (refine And.intro trivial ?_)
        | (refine Exists.intro _ (And.intro rfl (And.intro rfl (And.intro (Nat.le_of_ble_eq_true rfl) ?_))))
        | (refine Exists.intro _ (And.intro rfl (And.intro rfl (And.intro rfl (And.intro (Nat.le_of_ble_eq_true rfl) ?_)))))
        | (refine And.intro (Exists.intro _ (And.intro rfl rfl)) ?_)
        | (exact fun hW => absurd hW (by decide +kernel))
        | (intro hW; (try simp only [Bool.not_true, Bool.not_false, Bool.not_eq_true', Bool.not_eq_false', decide_eq_true_eq, decide_eq_false_iff_not, reduceCtorEq, Bool.true_eq_false, Bool.false_eq_true, mk_size, List.size_toArray, ByteArray.size_append, ByteArray.size_extract, List.length_cons, List.length_nil, ba_get, ba_empty, Int.toNat_natCast] at hW))
        | (refine And.intro (?_ : _ → _) (?_ : _ → _))
        | (refine FinR.drop 0 (Nat.zero_le _) (Closed.zero _) rfl ?_)
        | (refine FinR.keep ?_)
        | (refine And.intro (det3_agg rfl) ?_)
        | (refine fL_mk ?_)
        | (refine And.intro (by (try simp only [mk_size, List.size_toArray, ByteArray.size_append, ByteArray.size_extract, List.length_cons, List.length_nil]); omega) ?_)
        | (refine And.intro (by (try simp only [mk_size, List.size_toArray, ByteArray.size_append, ByteArray.size_extract, List.length_cons, List.length_nil, wrap64_eq]); omega) ?_)
        | fail)
      all_goals first | (exfalso; omega) | skip
      exact Again.go (i + 1) ⟨rfl, rfl, rfl, rfl, slI' (wsucc' i (by omega)), trivial⟩ (.drop 2 (Nat.zero_le _) rfl (closCons (belI 2 _) (closCons (belI 2 _) (closNil 2))) rfl) (by omega) (by omega)
  · obtain rfl : i = xs.length := by omega
    rw [List.take_length] at hpl ⊢
    repeat' ((conv => whnf); first
      | (refine Exists.intro (bQ (picY xs) 44) (And.intro rfl (And.intro rfl (And.intro (pic_le hpl rfl) ?_))); rw [show (bQ (picY xs) 44).cells = (picY xs).map I from rfl, pic_ld hpl _ rfl])
      | (refine Exists.intro _ (And.intro rfl (And.intro rfl (And.intro (pic_len hpl) (And.intro (Nat.le_of_ble_eq_true rfl) ?_)))))
      | (refine Exists.intro _ (And.intro rfl (And.intro rfl (And.intro (pic_rle hpl _) ?_))); rw [pic_res hpl _])
      | (refine FinR.drop 0 (Nat.zero_le _) (Closed.zero _) (belPi 0 _) ?_)
      | (refine And.intro rfl ?_)
      | (refine And.intro (by decide +kernel) ?_)
      | (refine And.intro trivial ?_)
      | (refine Exists.intro _ (And.intro rfl (And.intro rfl (And.intro (Nat.le_of_ble_eq_true rfl) ?_))))
      | (refine Exists.intro _ (And.intro rfl (And.intro rfl (And.intro rfl (And.intro (Nat.le_of_ble_eq_true rfl) ?_)))))
      | (refine And.intro (Exists.intro _ (And.intro rfl rfl)) ?_)
      | (exact fun hW => absurd hW (by decide +kernel))
      | (intro hW; (try simp only [Bool.not_true, Bool.not_false, Bool.not_eq_true', Bool.not_eq_false', decide_eq_true_eq, decide_eq_false_iff_not, reduceCtorEq, Bool.true_eq_false, Bool.false_eq_true, mk_size, List.size_toArray, ByteArray.size_append, ByteArray.size_extract, List.length_cons, List.length_nil, ba_get, ba_empty, Int.toNat_natCast] at hW))
      | (refine And.intro (?_ : _ → _) (?_ : _ → _))
      | (refine FinR.drop 0 (Nat.zero_le _) (Closed.zero _) rfl ?_)
      | (refine FinR.keep ?_)
      | (refine And.intro (det3_agg rfl) ?_)
      | (refine fL_mk ?_)
      | (refine And.intro (by (try simp only [mk_size, List.size_toArray, ByteArray.size_append, ByteArray.size_extract, List.length_cons, List.length_nil]); omega) ?_)
      | (refine And.intro (by (try simp only [mk_size, List.size_toArray, ByteArray.size_append, ByteArray.size_extract, List.length_cons, List.length_nil, wrap64_eq]); omega) ?_)
      | fail)
    all_goals first | (exfalso; omega) | exact h0
end Go.Proofs.Ythncpkdhcfaflaa
end

section
/- Contracts: right orders; the law. -/
set_option linter.unusedVariables false
set_option linter.unusedSimpArgs false
set_option maxRecDepth 100000
set_option maxHeartbeats 4000000
namespace Go.Proofs.Ythncpkdhcfaflaa
open Go Go.RowKit Go.Proofs.Ythncpkdhcfaflaa.Abs
variable {W0 : World} {σ : List Blk}
theorem ordL_len (xs : List (List Int)) (ord : List Int) : (ordL xs ord).length = ord.length := by rw [ordL, List.length_map]
theorem c_ordered (a b : AV) (xs : List (List Int)) (ord : List Int) (ha : Sli W0 [] 2 enY a xs) (hb' : Sli W0 [] 1 en1 b ord) (hl : xs.length ≤ 1048576) (ho : inR xs.length ord) (hl2 : ord.length ≤ 1048576) (K : Cont) (h0 : ∀ cap, K (.sl 0 (ordL xs ord).length 0 (ordL xs ord).length cap) [lyB (ordL xs ord)]) : ACall Try.prog W0 72 [a, b] [] K := by
  refine by72 (Nat.le_of_ble_eq_true rfl) ?_
  obtain ⟨o, n, cap, rfl, hn, hc, hm, hf⟩ := sli_form ha
  obtain ⟨o2, n2, cap2, rfl, hn2, hc2, hm2, hf2⟩ := sli_form hb'
  subst hn; subst hn2
  repeat' ((conv => whnf); first
    | (refine And.intro rfl ?_)
    | (refine And.intro (by decide +kernel) ?_)
    | (refine And.intro trivial ?_)
    | (refine Exists.intro _ (And.intro rfl (And.intro rfl (And.intro (Nat.le_of_ble_eq_true rfl) ?_))))
    | (refine Exists.intro _ (And.intro rfl (And.intro rfl (And.intro rfl (And.intro (Nat.le_of_ble_eq_true rfl) ?_)))))
    | (refine And.intro (Exists.intro _ (And.intro rfl rfl)) ?_)
    | (exact fun hW => absurd hW (by decide +kernel))
    | (intro hW; (try simp only [Bool.not_true, Bool.not_false, Bool.not_eq_true', Bool.not_eq_false', decide_eq_true_eq, decide_eq_false_iff_not, reduceCtorEq, Bool.true_eq_false, Bool.false_eq_true, mk_size, List.size_toArray, ByteArray.size_append, ByteArray.size_extract, List.length_cons, List.length_nil, ba_get, ba_empty, Int.toNat_natCast] at hW))
    | (refine And.intro (?_ : _ → _) (?_ : _ → _))
    | (refine FinR.drop 0 (Nat.zero_le _) (Closed.zero _) rfl ?_)
    | (refine FinR.keep ?_)
    | (refine And.intro (det3_agg rfl) ?_)
    | (refine fL_mk ?_)
    | (refine And.intro (by (try simp only [mk_size, List.size_toArray, ByteArray.size_append, ByteArray.size_extract, List.length_cons, List.length_nil]); omega) ?_)
    | (refine And.intro (by (try simp only [mk_size, List.size_toArray, ByteArray.size_append, ByteArray.size_extract, List.length_cons, List.length_nil, wrap64_eq]); omega) ?_)
    | fail)
  refine LoopR.live (fun y : Nat × Nat => [(0, .lit (.slice o xs.length cap)), (5, .sl 0 (ordL xs (ord.take y.1)).length 0 (ordL xs (ord.take y.1)).length y.2), (9, .lit (.slice o2 ord.length cap2)), (10, I ord.length), (11, I y.1)]) (fun y => [lyB (ordL xs (ord.take y.1))]) (fun y => y.1 ≤ ord.length) (fun y => ord.length - y.1) (0, 0) ⟨rfl, rfl, rfl, rfl, rfl, trivial⟩ (.keep rfl) (Nat.zero_le _) ?_
  rintro ⟨i, cp⟩ hi
  dsimp only at hi
  have hsl : (ordL xs (ord.take i)).length = i := by rw [ordL_len, List.length_take, Nat.min_eq_left hi]
  by_cases hlt : i < ord.length
  · have hoi : ord[i]? = some ord[i] := List.getElem?_eq_getElem hlt
    obtain ⟨ad2, rfl, hb2, hxx2⟩ := hf2 i _ hoi
    have hk := ho _ (List.getElem_mem hlt)
    have hxi := xget hk
    obtain ⟨ad, rfl, hb, hxx⟩ := hf _ _ hxi
    have hsn : ordL xs (ord.take (i + 1)) = ordL xs (ord.take i) ++ [xs.getD ord[i].toNat []] := by rw [take_snoc hoi, ordL_snoc]
    have hld := fun C h => ldIn (W0 := W0) (s := 2) (enc := enY) hb hxx hxi rfl (C := C) h
    have hld2 := fun C h => ldIn (W0 := W0) (s := 1) (enc := en1) hb2 hxx2 (k := i) hoi rfl (C := C) h
    have hly := lyC_len (ordL xs (ord.take i))
    repeat' ((conv => whnf); first
      | (refine And.intro rfl ?_)
      | (refine And.intro (by decide +kernel) ?_)
      | (refine And.intro trivial ?_)
      | (refine hld _ ?_)
      | (refine hld2 _ ?_)
      | (refine Exists.intro _ (And.intro rfl (And.intro rfl (And.intro rfl (And.intro rfl (And.intro rfl (And.intro rfl (And.intro (by decide) (And.intro (by simp [hly]) (And.intro rfl (And.intro (by (try dsimp only); unfold maxLen; omega) (And.intro (by (try dsimp only); omega) (fun cap' hcap1 hcap2 => ?_)))))))))))))
      | (refine Exists.intro _ (And.intro rfl (And.intro rfl (And.intro (Nat.le_of_ble_eq_true rfl) ?_))))
      | (refine Exists.intro _ (And.intro rfl (And.intro rfl (And.intro rfl (And.intro (Nat.le_of_ble_eq_true rfl) ?_)))))
      | (refine And.intro (Exists.intro _ (And.intro rfl rfl)) ?_)
      | (exact fun hW => absurd hW (by decide +kernel))
      | (intro hW; (try simp only [Bool.not_true, Bool.not_false, Bool.not_eq_true', Bool.not_eq_false', decide_eq_true_eq, decide_eq_false_iff_not, reduceCtorEq, Bool.true_eq_false, Bool.false_eq_true, mk_size, List.size_toArray, ByteArray.size_append, ByteArray.size_extract, List.length_cons, List.length_nil, ba_get, ba_empty, Int.toNat_natCast] at hW))
      | (refine And.intro (?_ : _ → _) (?_ : _ → _))
      | (refine FinR.drop 0 (Nat.zero_le _) (Closed.zero _) rfl ?_)
      | (refine FinR.keep ?_)
      | (refine And.intro (det3_agg rfl) ?_)
      | (refine fL_mk ?_)
      | (refine And.intro (by (try simp only [mk_size, List.size_toArray, ByteArray.size_append, ByteArray.size_extract, List.length_cons, List.length_nil]); omega) ?_)
      | (refine And.intro (by (try simp only [mk_size, List.size_toArray, ByteArray.size_append, ByteArray.size_extract, List.length_cons, List.length_nil, wrap64_eq]); omega) ?_)
      | fail)
    all_goals first | (exfalso; omega) | skip
    refine Again.go (i + 1, _) ⟨rfl, (by show AV.sl _ _ _ _ _ = AV.sl _ _ _ _ _; rw [hsn, List.length_append]; rfl), rfl, rfl, slI' (wsucc' i (by omega)), trivial⟩ (.keep ?_) (by dsimp only; omega) (by dsimp only; omega)
    dsimp only [lyB]
    rw [hsn, List.length_append, lyC_snoc]; rfl
  · obtain rfl : i = ord.length := by omega
    rw [List.take_length]
    have h0 := h0 cp
    repeat' ((conv => whnf); first
      | (refine And.intro rfl ?_)
      | (refine And.intro (by decide +kernel) ?_)
      | (refine And.intro trivial ?_)
      | (refine Exists.intro _ (And.intro rfl (And.intro rfl (And.intro (Nat.le_of_ble_eq_true rfl) ?_))))
      | (refine Exists.intro _ (And.intro rfl (And.intro rfl (And.intro rfl (And.intro (Nat.le_of_ble_eq_true rfl) ?_)))))
      | (refine And.intro (Exists.intro _ (And.intro rfl rfl)) ?_)
      | (exact fun hW => absurd hW (by decide +kernel))
      | (intro hW; (try simp only [Bool.not_true, Bool.not_false, Bool.not_eq_true', Bool.not_eq_false', decide_eq_true_eq, decide_eq_false_iff_not, reduceCtorEq, Bool.true_eq_false, Bool.false_eq_true, mk_size, List.size_toArray, ByteArray.size_append, ByteArray.size_extract, List.length_cons, List.length_nil, ba_get, ba_empty, Int.toNat_natCast] at hW))
      | (refine And.intro (?_ : _ → _) (?_ : _ → _))
      | (refine FinR.drop 0 (Nat.zero_le _) (Closed.zero _) rfl ?_)
      | (refine FinR.keep ?_)
      | (refine And.intro (det3_agg rfl) ?_)
      | (refine fL_mk ?_)
      | (refine And.intro (by (try simp only [mk_size, List.size_toArray, ByteArray.size_append, ByteArray.size_extract, List.length_cons, List.length_nil]); omega) ?_)
      | (refine And.intro (by (try simp only [mk_size, List.size_toArray, ByteArray.size_append, ByteArray.size_extract, List.length_cons, List.length_nil, wrap64_eq]); omega) ?_)
      | fail)
    all_goals first | (exfalso; omega) | exact h0
theorem sh_lyB (k : Nat) (xs : List (List Int)) : shB k [lyB xs] = [lyB xs] := by simp only [shB, List.map_cons, List.map_nil, lyB, sh_lyC]
theorem d_ordered (a b : AV) (xs : List (List Int)) (ord : List Int) (ha : Sli W0 σ 2 enY a xs) (hb : Sli W0 σ 1 en1 b ord) (hl : xs.length ≤ 1048576) (ho : inR xs.length ord) (hl2 : ord.length ≤ 1048576) (K : Cont) (h0 : ∀ cap, K (.sl (σ.length + 0) (ordL xs ord).length 0 (ordL xs ord).length cap) (σ ++ [lyB (ordL xs ord)])) : ACall Try.prog W0 72 [a, b] σ K :=
  lift_S2 (ι := Nat) (fun cap => .sl 0 (ordL xs ord).length 0 (ordL xs ord).length cap) (fun _ => [lyB (ordL xs ord)]) (by kernel_rfl) ha hb (fun W1 a' b' h h' K hK => c_ordered a' b' xs ord h h' hl ho hl2 K hK) K (fun cap => by rw [sh_lyB]; exact h0 cap)
theorem d_picture (a : AV) (xs : List (List Int)) (ha : Sli W0 σ 2 enY a xs) (hx : ∀ x ∈ xs, x.length = 9) (hall : xs.all pOk = true) (hl : xs.length ≤ 1048576) (K : Cont) (h0 : K (Pi (picY xs)) σ) : ACall Try.prog W0 71 [a] σ K :=
  lift_S (by kernel_rfl) (fun k => sh_Pi k _) ha (fun W1 a' h K hK => c_picture a' xs h hx hall hl K hK) K h0
theorem ordL_ok {xs : List (List Int)} {ord : List Int} (hx : ∀ x ∈ xs, x.length = 9) (hall : xs.all pOk = true) (ho : inR xs.length ord) : (∀ x ∈ ordL xs ord, x.length = 9) ∧ (ordL xs ord).all pOk = true := by
  have h : ∀ x ∈ ordL xs ord, x ∈ xs := by
    intro x hxm
    obtain ⟨k, hk, rfl⟩ := List.mem_map.1 hxm
    exact List.mem_of_getElem? (xget (ho k hk))
  exact ⟨fun x hm => hx x (h x hm), List.all_eq_true.2 fun x hm => List.all_eq_true.1 hall x (h x hm)⟩
theorem ordB_in {l : List Int} {n : Nat} (h : ordB l n = true) : l.length = n ∧ inR n l := by
  simp only [ordB, Bool.and_eq_true, decide_eq_true_eq] at h
  obtain ⟨h1, h2⟩ := h
  refine ⟨h1, fun k hk => ?_⟩
  obtain ⟨i, hi⟩ := List.mem_iff_getElem?.1 hk
  have hlt := getElem?_lt hi
  have h3 : ordK l n (i + 1) = true := by
    cases hh : ordK l n (i + 1) with
    | true => rfl
    | false => rw [ordK_le (by omega) hh] at h2; cases h2
  rw [ordK_succ, getD_at hi] at h3
  simp only [Bool.and_eq_true] at h3
  have := (inB_iff _ _ _).1 h3.2.1
  omega
theorem c_sRightT (p : List Int) (hq : p.length = 36) (a b : AV) (xs : List (List Int)) (ord : List Int) (ha : Sli W0 [] 9 enI a xs) (hb : Sli W0 [] 1 en1 b ord) (hx : ∀ x ∈ xs, x.length = 9) (hpic : picB p = true) (hlb : listB xs = true) (hob : ordB ord xs.length = true) (K : Cont) (h0 : K (.tup [Bo (decide (picY (ordL xs ord) = p)), Bo true]) []) : ACall Try.prog W0 32 [Pi p, a, b] [] K := by
  obtain ⟨hl, hall⟩ := listB_iff.1 hlb
  obtain ⟨ho1, ho⟩ := ordB_in hob
  obtain ⟨o, n, cap, rfl, hn, _⟩ := sli_form ha
  obtain ⟨o2, n2, cap2, rfl, hn2, _⟩ := sli_form hb
  have hpl := picY_len (ordL xs ord)
  refine by32 (Nat.le_of_ble_eq_true rfl) ?_
  rw [← hn] at hob
  repeat' ((conv => whnf); first
    | (refine Exists.intro (bQ p 44) (And.intro rfl (And.intro rfl (And.intro (pic_le hq rfl) ?_))); rw [show (bQ p 44).cells = p.map I from rfl, pic_ld hq _ rfl])
    | (rw [lits_I, lits_I])
    | (rw [eqC36 hpl hq])
    | (refine And.intro rfl ?_)
    | (refine And.intro (by decide +kernel) ?_)
    | (refine And.intro trivial ?_)
    | (refine d_l8Picture (hq := hq) (h0 := ?_) ..; rw [hpic])
    | (refine d_l8List (ha := sli_up ha) (hx := hx) (hl := by omega) (h0 := ?_) ..; rw [hlb])
    | (refine d_l8Order (ha := sli_up hb) (hl := by omega) (hn6 := by omega) (h0 := ?_) ..; rw [hob])
    | (refine And.intro rfl ?_)
    | (refine Exists.intro _ (And.intro (fun τ => callW_fn (d_l8All (ha := sli_up ha) (hb := sli_up hb) (hx := hx) (hall := hall) (hl := by omega) (ho := ho) (hl2 := by omega) (h0 := And.intro rfl rfl) ..)) ?_))
    | (refine Exists.intro _ (And.intro rfl (And.intro rfl (And.intro (Nat.le_of_ble_eq_true rfl) ?_))))
    | (refine Exists.intro _ (And.intro rfl (And.intro rfl (And.intro rfl (And.intro (Nat.le_of_ble_eq_true rfl) ?_)))))
    | (refine And.intro (Exists.intro _ (And.intro rfl rfl)) ?_)
    | (exact fun hW => absurd hW (by decide +kernel))
    | (intro hW; (try simp only [Bool.not_true, Bool.not_false, Bool.not_eq_true', Bool.not_eq_false', decide_eq_true_eq, decide_eq_false_iff_not, reduceCtorEq, Bool.true_eq_false, Bool.false_eq_true, mk_size, List.size_toArray, ByteArray.size_append, ByteArray.size_extract, List.length_cons, List.length_nil, ba_get, ba_empty, Int.toNat_natCast] at hW))
    | (refine And.intro (?_ : _ → _) (?_ : _ → _))
    | (refine FinR.drop 0 (Nat.zero_le _) (Closed.zero _) rfl ?_)
    | (refine FinR.keep ?_)
    | (refine And.intro (det3_agg rfl) ?_)
    | (refine fL_mk ?_)
    | (refine And.intro (by (try simp only [mk_size, List.size_toArray, ByteArray.size_append, ByteArray.size_extract, List.length_cons, List.length_nil]); omega) ?_)
    | (refine And.intro (by (try simp only [mk_size, List.size_toArray, ByteArray.size_append, ByteArray.size_extract, List.length_cons, List.length_nil, wrap64_eq]); omega) ?_)
    | fail)
  all_goals first | (exfalso; omega) | (exfalso; simp_all; done) | skip
  all_goals (refine Eq.mp (congrArg (fun v => K v []) ?_) h0; simp)
theorem c_RightT (p : List Int) (hq : p.length = 36) (a b : AV) (xs : List (List Int)) (ord : List Int) (ha : Sli W0 [] 9 enI a xs) (hb : Sli W0 [] 1 en1 b ord) (hx : ∀ x ∈ xs, x.length = 9) (hpic : picB p = true) (hlb : listB xs = true) (hob : ordB ord xs.length = true) (K : Cont) (h0 : K (.tup [Bo (decide (picY (ordL xs ord) = p)), Bo true]) []) : ACall Try.prog W0 34 [Pi p, a, b] [] K := by
  obtain ⟨hl, hall⟩ := listB_iff.1 hlb
  obtain ⟨ho1, ho⟩ := ordB_in hob
  obtain ⟨o, n, cap, rfl, hn, _⟩ := sli_form ha
  obtain ⟨o2, n2, cap2, rfl, hn2, _⟩ := sli_form hb
  have hpl := picY_len (ordL xs ord)
  obtain ⟨hk1, hk2⟩ := ordL_ok hx hall ho
  have hk3 := ordL_len xs ord
  have h6 : decide (xs.length ≤ 6) = true := by simpa using hl
  refine by34 (Nat.le_of_ble_eq_true rfl) ?_
  rw [← hn] at hob
  repeat' ((conv => whnf); first
    | (refine Exists.intro (bQ p 44) (And.intro rfl (And.intro rfl (And.intro (pic_le hq rfl) ?_))); rw [show (bQ p 44).cells = p.map I from rfl, pic_ld hq _ rfl])
    | (refine And.intro rfl (Exists.intro (bQ p 44) (And.intro rfl (And.intro rfl (And.intro (pic_le hq rfl) ?_)))); rw [show (bQ p 44).cells = p.map I from rfl, pic_ld hq _ rfl])
    | (rw [lits_I, lits_I])
    | (rw [eqC36 hpl hq])
    | (refine And.intro rfl ?_)
    | (refine And.intro (by decide +kernel) ?_)
    | (refine And.intro trivial ?_)
    | (refine d_layersOf (ha := sli_up ha) (hx := hx) (hl := by omega) (h1 := fun _ cp => ?_) (h2 := fun hf => by rw [hall] at hf; cases hf) ..; rw [h6])
    | (refine d_IsPicture (hq := hq) (h0 := ?_) ..; rw [hpic])
    | (refine d_isOrder (ha := sli_up hb) (hl := by omega) (hn6 := by omega) (h0 := ?_) ..; rw [hob])
    | (refine d_ordered (ha := sli_ly rfl) (hb := sli_up hb) (hl := by omega) (ho := ho) (hl2 := by omega) (h0 := fun cap => ?_) ..)
    | (refine Exists.intro _ (And.intro (callW_fn (d_picture (ha := sli_ly rfl) (hx := hk1) (hall := hk2) (hl := by omega) (h0 := And.intro rfl rfl) ..)) ?_))
    | (refine Exists.intro _ (And.intro rfl (And.intro rfl (And.intro (Nat.le_of_ble_eq_true rfl) ?_))))
    | (refine Exists.intro _ (And.intro rfl (And.intro rfl (And.intro rfl (And.intro (Nat.le_of_ble_eq_true rfl) ?_)))))
    | (refine And.intro (Exists.intro _ (And.intro rfl rfl)) ?_)
    | (exact fun hW => absurd hW (by decide +kernel))
    | (intro hW; (try simp only [Bool.not_true, Bool.not_false, Bool.not_eq_true', Bool.not_eq_false', decide_eq_true_eq, decide_eq_false_iff_not, reduceCtorEq, Bool.true_eq_false, Bool.false_eq_true, mk_size, List.size_toArray, ByteArray.size_append, ByteArray.size_extract, List.length_cons, List.length_nil, ba_get, ba_empty, Int.toNat_natCast] at hW))
    | (refine And.intro (?_ : _ → _) (?_ : _ → _))
    | (refine FinR.drop 0 (Nat.zero_le _) (Closed.zero _) rfl ?_)
    | (refine FinR.keep ?_)
    | (refine And.intro (det3_agg rfl) ?_)
    | (refine fL_mk ?_)
    | (refine And.intro (by (try simp only [mk_size, List.size_toArray, ByteArray.size_append, ByteArray.size_extract, List.length_cons, List.length_nil]); omega) ?_)
    | (refine And.intro (by (try simp only [mk_size, List.size_toArray, ByteArray.size_append, ByteArray.size_extract, List.length_cons, List.length_nil, wrap64_eq]); omega) ?_)
    | fail)
  all_goals first | (exfalso; omega) | (exfalso; simp_all; done) | skip
  all_goals (refine Eq.mp (congrArg (fun v => K v []) ?_) h0; simp)
end Go.Proofs.Ythncpkdhcfaflaa
end
