/- Contracts: DoJobs. -/
import Derived.Test.YthncpkdhcfaflaaM14
set_option linter.unusedVariables false
set_option linter.unusedSimpArgs false
set_option maxRecDepth 100000
set_option maxHeartbeats 4000000
namespace Go.Proofs.Ythncpkdhcfaflaa
open Go Go.RowKit Go.Proofs.Ythncpkdhcfaflaa.Abs
variable {W0 : World} {σ : List Blk}
theorem c_l12DoT (n m n' m' : Nat) (hn : n < 2 ^ 36) (hm : m < 2 ^ 36) (p q p' q' : Int) (hp : 0 ≤ p ∧ p ≤ 1000) (hq : 0 ≤ q ∧ q ≤ 1000) (k a b : Int) (hj : jobO n m p q k a b = some (n', m', p', q')) (K : Cont) (h0 : K (.tup [SpN n' m' p' q', Bo true]) []) : ACall Try.prog W0 79 [SpN n m p q, Jb k a b] [] K := by
  exact c_l12Do n m hn hm p q hp hq k a b K (fun a b c d h => by rw [hj] at h; cases h; exact h0) (fun h => by rw [hj] at h; cases h)
theorem d_l12DoT (n m n' m' : Nat) (hn : n < 2 ^ 36) (hm : m < 2 ^ 36) (p q p' q' : Int) (hp : 0 ≤ p ∧ p ≤ 1000) (hq : 0 ≤ q ∧ q ≤ 1000) (k a b : Int) (hj : jobO n m p q k a b = some (n', m', p', q')) (K : Cont) (h0 : K (.tup [SpN n' m' p' q', Bo true]) σ) : ACall Try.prog W0 79 [SpN n m p q, Jb k a b] σ K :=
  ACall.lift rfl (fun _ => rfl) (fun W1 K _ hK => c_l12DoT n m n' m' hn hm p q p' q' hp hq k a b hj K hK) h0
theorem c_l12DoN (n m : Nat) (hn : n < 2 ^ 36) (hm : m < 2 ^ 36) (p q : Int) (hp : 0 ≤ p ∧ p ≤ 1000) (hq : 0 ≤ q ∧ q ≤ 1000) (k a b : Int) (hj : jobO n m p q k a b = none) (K : Cont) (h0 : K (.tup [Sp0, Bo false]) []) : ACall Try.prog W0 79 [SpN n m p q, Jb k a b] [] K := by
  exact c_l12Do n m hn hm p q hp hq k a b K (fun a b c d h => by rw [hj] at h; cases h) (fun _ => h0)
theorem d_l12DoN (n m : Nat) (hn : n < 2 ^ 36) (hm : m < 2 ^ 36) (p q : Int) (hp : 0 ≤ p ∧ p ≤ 1000) (hq : 0 ≤ q ∧ q ≤ 1000) (k a b : Int) (hj : jobO n m p q k a b = none) (K : Cont) (h0 : K (.tup [Sp0, Bo false]) σ) : ACall Try.prog W0 79 [SpN n m p q, Jb k a b] σ K :=
  ACall.lift rfl (fun _ => rfl) (fun W1 K _ hK => c_l12DoN n m hn hm p q hp hq k a b hj K hK) h0
structure ShopN where
  n : Nat
  m : Nat
  p : Int
  q : Int
def ShopN.ok (s : ShopN) : Prop := s.n < 2 ^ 36 ∧ s.m < 2 ^ 36 ∧ (0 ≤ s.p ∧ s.p ≤ 1000) ∧ (0 ≤ s.q ∧ s.q ≤ 1000)
abbrev ShopN.av (s : ShopN) : AV := SpN s.n s.m s.p s.q
def bS (s : ShopN) : Blk := ⟨[I (rowN s.n 0 : Nat), I (rowN s.n 1 : Nat), I (rowN s.n 2 : Nat), I (rowN s.n 3 : Nat), I (rowN s.n 4 : Nat), I (rowN s.n 5 : Nat), I (rowN s.m 0 : Nat), I (rowN s.m 1 : Nat), I (rowN s.m 2 : Nat), I (rowN s.m 3 : Nat), I (rowN s.m 4 : Nat), I (rowN s.m 5 : Nat), I s.p, I s.q], 0, 61, 0, false, false⟩
def bZ : Blk := ⟨[I 0, I 0, I 0, I 0, I 0, I 0, I 0, I 0, I 0, I 0, I 0, I 0, I 0, I 0], 0, 61, 0, false, false⟩
/-- jobs as long as they are possible -/
def runJ : List (List Int) → ShopN → ShopN × Nat
  | [], s => (s, 0)
  | x :: l, s => match jobO s.n s.m s.p s.q (x.getD 0 0) (x.getD 1 0) (x.getD 2 0) with
    | some (n', m', p', q') => ((runJ l ⟨n', m', p', q'⟩).1, (runJ l ⟨n', m', p', q'⟩).2 + 1)
    | none => (s, 0)
theorem closS3 (s t : ShopN) : Closed 3 [bS s, bZ, bS t] := fun B hB => by
  rcases List.mem_cons.1 hB with rfl | hB
  · rfl
  rcases List.mem_cons.1 hB with rfl | hB
  · rfl
  rw [List.mem_singleton.1 hB]; rfl
theorem closS2 (t : ShopN) : Closed 2 [bS t, bZ] := fun B hB => by
  rcases List.mem_cons.1 hB with rfl | hB
  · rfl
  rw [List.mem_singleton.1 hB]; rfl
theorem c_sDoJobs (s : ShopN) (hs : s.ok) (a : AV) (xs : List (List Int)) (ha : Sli W0 [] 3 enI a xs) (hx : ∀ x ∈ xs, x.length = 3) (hl : xs.length ≤ 1048576) (K : Cont) (h0 : K (.tup [(runJ xs s).1.av, I ((runJ xs s).2 : Nat), Bo true]) []) : ACall Try.prog W0 47 [s.av, a] [] K := by
  refine by47 (Nat.le_of_ble_eq_true rfl) ?_
  obtain ⟨hn, hm, hp, hq⟩ := hs
  have hg := in1000 hp hq
  cases ha with
  | nil =>
    repeat' ((conv => whnf); first
      | (refine And.intro rfl ?_)
      | (refine And.intro (by decide +kernel) ?_)
      | (refine And.intro trivial ?_)
      | (refine d_goodN (h0 := ?_) ..)
      | (refine Exists.intro _ (And.intro (fun τ => callW_fn (d_goodN (h0 := And.intro rfl rfl) ..)) ?_))
      | (refine Exists.intro _ (And.intro (callW_fn (d_goodN (h0 := And.intro rfl rfl) ..)) (And.intro trivial ?_)))
      | (refine Exists.intro _ (And.intro (callW_fn (d_goodN (h0 := And.intro rfl rfl) ..)) ?_))
      | (refine Exists.intro _ (And.intro (fun τ _ => callW_fn (d_goodN (h0 := And.intro rfl rfl) ..)) ?_))
      | (refine Exists.intro _ (And.intro rfl (And.intro rfl (And.intro (Nat.le_of_ble_eq_true rfl) ?_))))
      | (refine Exists.intro _ (And.intro rfl (And.intro rfl (And.intro rfl (And.intro (Nat.le_of_ble_eq_true rfl) ?_)))))
      | (refine And.intro (Exists.intro _ (And.intro rfl rfl)) ?_)
      | (exact fun hW => absurd hW (by decide +kernel))
      | (intro hW; (try simp only [Bool.not_true, Bool.not_false, Bool.not_eq_true', Bool.not_eq_false', decide_eq_true_eq, decide_eq_false_iff_not, reduceCtorEq, Bool.true_eq_false, Bool.false_eq_true, mk_size, List.size_toArray, ByteArray.size_append, ByteArray.size_extract, List.length_cons, List.length_nil, ba_get, ba_empty, Int.toNat_natCast] at hW))
      | (refine And.intro (?_ : _ → _) (?_ : _ → _))
      | (refine FinR.drop 0 (Nat.zero_le _) (Closed.zero _) rfl ?_)
      | (refine FinR.keep ?_)
      | (refine And.intro (det3_agg rfl) ?_)
      | (refine fL_mk ?_)
      | (refine And.intro (by (try simp only [mk_size, List.size_toArray, ByteArray.size_append, ByteArray.size_extract, List.length_cons, List.length_nil]); omega) ?_)
      | (refine And.intro (by (try simp only [mk_size, List.size_toArray, ByteArray.size_append, ByteArray.size_extract, List.length_cons, List.length_nil, wrap64_eq]); omega) ?_)
      | fail)
    all_goals first | (exfalso; simp_all; done) | skip
    refine LoopR.unroll 1 ?_
    repeat' ((conv => whnf); first
      | (refine And.intro rfl ?_)
      | (refine And.intro (by decide +kernel) ?_)
      | (refine And.intro trivial ?_)
      | (refine Exists.intro _ (And.intro rfl (And.intro rfl (And.intro (Nat.le_of_ble_eq_true rfl) ?_))))
      | (refine Exists.intro _ (And.intro rfl (And.intro rfl (And.intro rfl (And.intro (Nat.le_of_ble_eq_true rfl) ?_)))))
      | (refine And.intro (Exists.intro _ (And.intro rfl rfl)) ?_)
      | (exact fun hW => absurd hW (by decide +kernel))
      | (intro hW; (try simp only [Bool.not_true, Bool.not_false, Bool.not_eq_true', Bool.not_eq_false', decide_eq_true_eq, decide_eq_false_iff_not, reduceCtorEq, Bool.true_eq_false, Bool.false_eq_true, mk_size, List.size_toArray, ByteArray.size_append, ByteArray.size_extract, List.length_cons, List.length_nil, ba_get, ba_empty, Int.toNat_natCast] at hW))
      | (refine And.intro (?_ : _ → _) (?_ : _ → _))
      | (refine FinR.drop 0 (Nat.zero_le _) (Closed.zero _) rfl ?_)
      | (refine FinR.keep ?_)
      | (refine And.intro (det3_agg rfl) ?_)
      | (refine fL_mk ?_)
      | (refine And.intro (by (try simp only [mk_size, List.size_toArray, ByteArray.size_append, ByteArray.size_extract, List.length_cons, List.length_nil]); omega) ?_)
      | (refine And.intro (by (try simp only [mk_size, List.size_toArray, ByteArray.size_append, ByteArray.size_extract, List.length_cons, List.length_nil, wrap64_eq]); omega) ?_)
      | fail)
    all_goals first | (exfalso; omega) | exact h0
  | inn ad n cap xs hn' hc hcm hb hxx =>
    subst hn'
    repeat' ((conv => whnf); first
      | (refine And.intro rfl ?_)
      | (refine And.intro (by decide +kernel) ?_)
      | (refine And.intro trivial ?_)
      | (refine d_goodN (h0 := ?_) ..)
      | (refine Exists.intro _ (And.intro (fun τ => callW_fn (d_goodN (h0 := And.intro rfl rfl) ..)) ?_))
      | (refine Exists.intro _ (And.intro (callW_fn (d_goodN (h0 := And.intro rfl rfl) ..)) (And.intro trivial ?_)))
      | (refine Exists.intro _ (And.intro (callW_fn (d_goodN (h0 := And.intro rfl rfl) ..)) ?_))
      | (refine Exists.intro _ (And.intro (fun τ _ => callW_fn (d_goodN (h0 := And.intro rfl rfl) ..)) ?_))
      | (refine Exists.intro _ (And.intro rfl (And.intro rfl (And.intro (Nat.le_of_ble_eq_true rfl) ?_))))
      | (refine Exists.intro _ (And.intro rfl (And.intro rfl (And.intro rfl (And.intro (Nat.le_of_ble_eq_true rfl) ?_)))))
      | (refine And.intro (Exists.intro _ (And.intro rfl rfl)) ?_)
      | (exact fun hW => absurd hW (by decide +kernel))
      | (intro hW; (try simp only [Bool.not_true, Bool.not_false, Bool.not_eq_true', Bool.not_eq_false', decide_eq_true_eq, decide_eq_false_iff_not, reduceCtorEq, Bool.true_eq_false, Bool.false_eq_true, mk_size, List.size_toArray, ByteArray.size_append, ByteArray.size_extract, List.length_cons, List.length_nil, ba_get, ba_empty, Int.toNat_natCast] at hW))
      | (refine And.intro (?_ : _ → _) (?_ : _ → _))
      | (refine FinR.drop 0 (Nat.zero_le _) (Closed.zero _) rfl ?_)
      | (refine FinR.keep ?_)
      | (refine And.intro (det3_agg rfl) ?_)
      | (refine fL_mk ?_)
      | (refine And.intro (by (try simp only [mk_size, List.size_toArray, ByteArray.size_append, ByteArray.size_extract, List.length_cons, List.length_nil]); omega) ?_)
      | (refine And.intro (by (try simp only [mk_size, List.size_toArray, ByteArray.size_append, ByteArray.size_extract, List.length_cons, List.length_nil, wrap64_eq]); omega) ?_)
      | fail)
    all_goals first | (exfalso; simp_all; done) | skip
    refine LoopR.live (fun y : Nat × ShopN => [(1, .lit (.slice (some ad) xs.length cap)), (4, .ptr 1 0 0), (7, .ptr 2 0 0), (8, I y.1)]) (fun y => [bS s, bZ, bS y.2]) (fun y => y.1 ≤ xs.length ∧ y.2.ok ∧ (runJ xs s).1 = (runJ (xs.drop y.1) y.2).1 ∧ (runJ xs s).2 = (runJ (xs.drop y.1) y.2).2 + y.1) (fun y => xs.length - y.1) (0, s) ⟨rfl, rfl, rfl, rfl, trivial⟩ (.keep rfl) ⟨Nat.zero_le _, ⟨hn, hm, hp, hq⟩, rfl, rfl⟩ ?_
    rintro ⟨i, t⟩ ⟨hi, ht, hr1, hr2⟩
    obtain ⟨tn, tm, tp, tq⟩ := ht
    dsimp only at hi hr1 hr2
    by_cases hlt : i < xs.length
    · have hxi : xs[i]? = some xs[i] := List.getElem?_eq_getElem hlt
      obtain ⟨k, b, c, hrow⟩ : ∃ k b c, xs[i] = [k, b, c] := by
        have := hx _ (List.mem_of_getElem? hxi)
        match hh : xs[i], this with
        | [k, b, c], _ => exact ⟨k, b, c, rfl⟩
      rw [List.drop_eq_getElem_cons hlt, hrow] at hr1 hr2
      rw [hrow] at hxi
      have hld := fun C h => ldIn (W0 := W0) (s := 3) (enc := enI) hb hxx (k := i) hxi rfl (C := C) h
      cases hj : jobO t.n t.m t.p t.q k b c with
      | none =>
        have e : runJ ([k, b, c] :: xs.drop (i + 1)) t = (t, 0) := by simp [runJ, hj]
        rw [e] at hr1 hr2
        rw [hr1, hr2, Nat.zero_add] at h0
        repeat' ((conv => whnf); first
          | (refine And.intro rfl ?_)
          | (refine And.intro (by decide +kernel) ?_)
          | (refine And.intro trivial ?_)
          | (refine hld _ ?_)
          | (refine d_l12DoN (hn := tn) (hm := tm) (hp := tp) (hq := tq) (hj := hj) (h0 := ?_) ..)
          | (refine Exists.intro _ (And.intro (fun τ => callW_fn (d_l12DoN (hn := tn) (hm := tm) (hp := tp) (hq := tq) (hj := hj) (h0 := And.intro rfl rfl) ..)) ?_))
          | (refine Exists.intro _ (And.intro (callW_fn (d_l12DoN (hn := tn) (hm := tm) (hp := tp) (hq := tq) (hj := hj) (h0 := And.intro rfl rfl) ..)) (And.intro trivial ?_)))
          | (refine Exists.intro _ (And.intro (callW_fn (d_l12DoN (hn := tn) (hm := tm) (hp := tp) (hq := tq) (hj := hj) (h0 := And.intro rfl rfl) ..)) ?_))
          | (refine Exists.intro _ (And.intro (fun τ _ => callW_fn (d_l12DoN (hn := tn) (hm := tm) (hp := tp) (hq := tq) (hj := hj) (h0 := And.intro rfl rfl) ..)) ?_))
          | (refine Exists.intro _ (And.intro rfl (And.intro rfl (And.intro (Nat.le_of_ble_eq_true rfl) ?_))))
          | (refine Exists.intro _ (And.intro rfl (And.intro rfl (And.intro rfl (And.intro (Nat.le_of_ble_eq_true rfl) ?_)))))
          | (refine And.intro (Exists.intro _ (And.intro rfl rfl)) ?_)
          | (exact fun hW => absurd hW (by decide +kernel))
          | (intro hW; (try simp only [Bool.not_true, Bool.not_false, Bool.not_eq_true', Bool.not_eq_false', decide_eq_true_eq, decide_eq_false_iff_not, reduceCtorEq, Bool.true_eq_false, Bool.false_eq_true, mk_size, List.size_toArray, ByteArray.size_append, ByteArray.size_extract, List.length_cons, List.length_nil, ba_get, ba_empty, Int.toNat_natCast] at hW))
          | (refine And.intro (?_ : _ → _) (?_ : _ → _))
          | (refine FinR.drop 0 (Nat.zero_le _) (Closed.zero _) rfl ?_)
          | (refine FinR.keep ?_)
          | (refine And.intro (det3_agg rfl) ?_)
          | (refine fL_mk ?_)
          | (refine And.intro (by (try simp only [mk_size, List.size_toArray, ByteArray.size_append, ByteArray.size_extract, List.length_cons, List.length_nil]); omega) ?_)
          | (refine And.intro (by (try simp only [mk_size, List.size_toArray, ByteArray.size_append, ByteArray.size_extract, List.length_cons, List.length_nil, wrap64_eq]); omega) ?_)
          | fail)
        all_goals first | (exfalso; omega) | exact h0
      | some r =>
        obtain ⟨n', m', p', q'⟩ := r
        have hok := jobO_ok tn tm tp.1 tq.1 hj
        have e : runJ ([k, b, c] :: xs.drop (i + 1)) t = ((runJ (xs.drop (i + 1)) ⟨n', m', p', q'⟩).1, (runJ (xs.drop (i + 1)) ⟨n', m', p', q'⟩).2 + 1) := by simp [runJ, hj]
        rw [e] at hr1 hr2
        repeat' ((conv => whnf); first
          | (refine And.intro rfl ?_)
          | (refine And.intro (by decide +kernel) ?_)
          | (refine And.intro trivial ?_)
          | (refine hld _ ?_)
          | (refine d_l12DoT (hn := tn) (hm := tm) (hp := tp) (hq := tq) (hj := hj) (h0 := ?_) ..)
          | (refine Exists.intro _ (And.intro (fun τ => callW_fn (d_l12DoT (hn := tn) (hm := tm) (hp := tp) (hq := tq) (hj := hj) (h0 := And.intro rfl rfl) ..)) ?_))
          | (refine Exists.intro _ (And.intro (callW_fn (d_l12DoT (hn := tn) (hm := tm) (hp := tp) (hq := tq) (hj := hj) (h0 := And.intro rfl rfl) ..)) (And.intro trivial ?_)))
          | (refine Exists.intro _ (And.intro (callW_fn (d_l12DoT (hn := tn) (hm := tm) (hp := tp) (hq := tq) (hj := hj) (h0 := And.intro rfl rfl) ..)) ?_))
          | (refine Exists.intro _ (And.intro (fun τ _ => callW_fn (d_l12DoT (hn := tn) (hm := tm) (hp := tp) (hq := tq) (hj := hj) (h0 := And.intro rfl rfl) ..)) ?_))
          | (refine Exists.intro _ (And.intro rfl (And.intro rfl (And.intro (Nat.le_of_ble_eq_true rfl) ?_))))
          | (refine Exists.intro _ (And.intro rfl (And.intro rfl (And.intro rfl (And.intro (Nat.le_of_ble_eq_true rfl) ?_)))))
          | (refine And.intro (Exists.intro _ (And.intro rfl rfl)) ?_)
          | (exact fun hW => absurd hW (by decide +kernel))
          | (intro hW; (try simp only [Bool.not_true, Bool.not_false, Bool.not_eq_true', Bool.not_eq_false', decide_eq_true_eq, decide_eq_false_iff_not, reduceCtorEq, Bool.true_eq_false, Bool.false_eq_true, mk_size, List.size_toArray, ByteArray.size_append, ByteArray.size_extract, List.length_cons, List.length_nil, ba_get, ba_empty, Int.toNat_natCast] at hW))
          | (refine And.intro (?_ : _ → _) (?_ : _ → _))
          | (refine FinR.drop 0 (Nat.zero_le _) (Closed.zero _) rfl ?_)
          | (refine FinR.keep ?_)
          | (refine And.intro (det3_agg rfl) ?_)
          | (refine fL_mk ?_)
          | (refine And.intro (by (try simp only [mk_size, List.size_toArray, ByteArray.size_append, ByteArray.size_extract, List.length_cons, List.length_nil]); omega) ?_)
          | (refine And.intro (by (try simp only [mk_size, List.size_toArray, ByteArray.size_append, ByteArray.size_extract, List.length_cons, List.length_nil, wrap64_eq]); omega) ?_)
          | fail)
        all_goals first | (exfalso; omega) | skip
        exact Again.go (i + 1, ⟨n', m', p', q'⟩) ⟨rfl, rfl, rfl, slI' (wsucc' i (by omega)), trivial⟩ (.drop 3 (Nat.zero_le _) rfl (closS3 _ _) rfl) ⟨by dsimp only; omega, hok, hr1, by dsimp only at hr2 ⊢; omega⟩ (by dsimp only; omega)
    · obtain rfl : i = xs.length := by omega
      rw [List.drop_length] at hr1 hr2
      rw [hr1, hr2, show (runJ [] t).2 + xs.length = xs.length from Nat.zero_add _] at h0
      repeat' ((conv => whnf); first
        | (refine And.intro rfl ?_)
        | (refine And.intro (by decide +kernel) ?_)
        | (refine And.intro trivial ?_)
        | (refine Exists.intro _ (And.intro rfl (And.intro rfl (And.intro (Nat.le_of_ble_eq_true rfl) ?_))))
        | (refine Exists.intro _ (And.intro rfl (And.intro rfl (And.intro rfl (And.intro (Nat.le_of_ble_eq_true rfl) ?_)))))
        | (refine And.intro (Exists.intro _ (And.intro rfl rfl)) ?_)
        | (exact fun hW => absurd hW (by decide +kernel))
        | (intro hW; (try simp only [Bool.not_true, Bool.not_false, Bool.not_eq_true', Bool.not_eq_false', decide_eq_true_eq, decide_eq_false_iff_not, reduceCtorEq, Bool.true_eq_false, Bool.false_eq_true, mk_size, List.size_toArray, ByteArray.size_append, ByteArray.size_extract, List.length_cons, List.length_nil, ba_get, ba_empty, Int.toNat_natCast] at hW))
        | (refine And.intro (?_ : _ → _) (?_ : _ → _))
        | (refine FinR.drop 0 (Nat.zero_le _) (Closed.zero _) rfl ?_)
        | (refine FinR.keep ?_)
        | (refine And.intro (det3_agg rfl) ?_)
        | (refine fL_mk ?_)
        | (refine And.intro (by (try simp only [mk_size, List.size_toArray, ByteArray.size_append, ByteArray.size_extract, List.length_cons, List.length_nil]); omega) ?_)
        | (refine And.intro (by (try simp only [mk_size, List.size_toArray, ByteArray.size_append, ByteArray.size_extract, List.length_cons, List.length_nil, wrap64_eq]); omega) ?_)
        | fail)
      all_goals first | (exfalso; omega) | exact h0
  | own b ver off n cap B xs hB => simp at hB
theorem c_DoJobs (s : ShopN) (hs : s.ok) (a : AV) (xs : List (List Int)) (ha : Sli W0 [] 3 enI a xs) (hx : ∀ x ∈ xs, x.length = 3) (hl : xs.length ≤ 1048576) (K : Cont) (h0 : K (.tup [(runJ xs s).1.av, I ((runJ xs s).2 : Nat), Bo true]) []) : ACall Try.prog W0 49 [s.av, a] [] K := by
  refine by49 (Nat.le_of_ble_eq_true rfl) ?_
  obtain ⟨hn, hm, hp, hq⟩ := hs
  have hg := in1000 hp hq
  cases ha with
  | nil =>
    repeat' ((conv => whnf); first
      | (refine And.intro rfl ?_)
      | (refine And.intro (by decide +kernel) ?_)
      | (refine And.intro trivial ?_)
      | (refine d_isShopN (h0 := ?_) ..)
      | (refine Exists.intro _ (And.intro (fun τ => callW_fn (d_isShopN (h0 := And.intro rfl rfl) ..)) ?_))
      | (refine Exists.intro _ (And.intro (callW_fn (d_isShopN (h0 := And.intro rfl rfl) ..)) (And.intro trivial ?_)))
      | (refine Exists.intro _ (And.intro (callW_fn (d_isShopN (h0 := And.intro rfl rfl) ..)) ?_))
      | (refine Exists.intro _ (And.intro (fun τ _ => callW_fn (d_isShopN (h0 := And.intro rfl rfl) ..)) ?_))
      | (refine Exists.intro _ (And.intro rfl (And.intro rfl (And.intro (Nat.le_of_ble_eq_true rfl) ?_))))
      | (refine Exists.intro _ (And.intro rfl (And.intro rfl (And.intro rfl (And.intro (Nat.le_of_ble_eq_true rfl) ?_)))))
      | (refine And.intro (Exists.intro _ (And.intro rfl rfl)) ?_)
      | (exact fun hW => absurd hW (by decide +kernel))
      | (intro hW; (try simp only [Bool.not_true, Bool.not_false, Bool.not_eq_true', Bool.not_eq_false', decide_eq_true_eq, decide_eq_false_iff_not, reduceCtorEq, Bool.true_eq_false, Bool.false_eq_true, mk_size, List.size_toArray, ByteArray.size_append, ByteArray.size_extract, List.length_cons, List.length_nil, ba_get, ba_empty, Int.toNat_natCast] at hW))
      | (refine And.intro (?_ : _ → _) (?_ : _ → _))
      | (refine FinR.drop 0 (Nat.zero_le _) (Closed.zero _) rfl ?_)
      | (refine FinR.keep ?_)
      | (refine And.intro (det3_agg rfl) ?_)
      | (refine fL_mk ?_)
      | (refine And.intro (by (try simp only [mk_size, List.size_toArray, ByteArray.size_append, ByteArray.size_extract, List.length_cons, List.length_nil]); omega) ?_)
      | (refine And.intro (by (try simp only [mk_size, List.size_toArray, ByteArray.size_append, ByteArray.size_extract, List.length_cons, List.length_nil, wrap64_eq]); omega) ?_)
      | fail)
    all_goals first | (exfalso; simp_all; done) | skip
    refine LoopR.unroll 1 ?_
    repeat' ((conv => whnf); first
      | (refine And.intro rfl ?_)
      | (refine And.intro (by decide +kernel) ?_)
      | (refine And.intro trivial ?_)
      | (refine Exists.intro _ (And.intro rfl (And.intro rfl (And.intro (Nat.le_of_ble_eq_true rfl) ?_))))
      | (refine Exists.intro _ (And.intro rfl (And.intro rfl (And.intro rfl (And.intro (Nat.le_of_ble_eq_true rfl) ?_)))))
      | (refine And.intro (Exists.intro _ (And.intro rfl rfl)) ?_)
      | (exact fun hW => absurd hW (by decide +kernel))
      | (intro hW; (try simp only [Bool.not_true, Bool.not_false, Bool.not_eq_true', Bool.not_eq_false', decide_eq_true_eq, decide_eq_false_iff_not, reduceCtorEq, Bool.true_eq_false, Bool.false_eq_true, mk_size, List.size_toArray, ByteArray.size_append, ByteArray.size_extract, List.length_cons, List.length_nil, ba_get, ba_empty, Int.toNat_natCast] at hW))
      | (refine And.intro (?_ : _ → _) (?_ : _ → _))
      | (refine FinR.drop 0 (Nat.zero_le _) (Closed.zero _) rfl ?_)
      | (refine FinR.keep ?_)
      | (refine And.intro (det3_agg rfl) ?_)
      | (refine fL_mk ?_)
      | (refine And.intro (by (try simp only [mk_size, List.size_toArray, ByteArray.size_append, ByteArray.size_extract, List.length_cons, List.length_nil]); omega) ?_)
      | (refine And.intro (by (try simp only [mk_size, List.size_toArray, ByteArray.size_append, ByteArray.size_extract, List.length_cons, List.length_nil, wrap64_eq]); omega) ?_)
      | fail)
    all_goals first | (exfalso; omega) | exact h0
  | inn ad n cap xs hn' hc hcm hb hxx =>
    subst hn'
    repeat' ((conv => whnf); first
      | (refine And.intro rfl ?_)
      | (refine And.intro (by decide +kernel) ?_)
      | (refine And.intro trivial ?_)
      | (refine d_isShopN (h0 := ?_) ..)
      | (refine Exists.intro _ (And.intro (fun τ => callW_fn (d_isShopN (h0 := And.intro rfl rfl) ..)) ?_))
      | (refine Exists.intro _ (And.intro (callW_fn (d_isShopN (h0 := And.intro rfl rfl) ..)) (And.intro trivial ?_)))
      | (refine Exists.intro _ (And.intro (callW_fn (d_isShopN (h0 := And.intro rfl rfl) ..)) ?_))
      | (refine Exists.intro _ (And.intro (fun τ _ => callW_fn (d_isShopN (h0 := And.intro rfl rfl) ..)) ?_))
      | (refine Exists.intro _ (And.intro rfl (And.intro rfl (And.intro (Nat.le_of_ble_eq_true rfl) ?_))))
      | (refine Exists.intro _ (And.intro rfl (And.intro rfl (And.intro rfl (And.intro (Nat.le_of_ble_eq_true rfl) ?_)))))
      | (refine And.intro (Exists.intro _ (And.intro rfl rfl)) ?_)
      | (exact fun hW => absurd hW (by decide +kernel))
      | (intro hW; (try simp only [Bool.not_true, Bool.not_false, Bool.not_eq_true', Bool.not_eq_false', decide_eq_true_eq, decide_eq_false_iff_not, reduceCtorEq, Bool.true_eq_false, Bool.false_eq_true, mk_size, List.size_toArray, ByteArray.size_append, ByteArray.size_extract, List.length_cons, List.length_nil, ba_get, ba_empty, Int.toNat_natCast] at hW))
      | (refine And.intro (?_ : _ → _) (?_ : _ → _))
      | (refine FinR.drop 0 (Nat.zero_le _) (Closed.zero _) rfl ?_)
      | (refine FinR.keep ?_)
      | (refine And.intro (det3_agg rfl) ?_)
      | (refine fL_mk ?_)
      | (refine And.intro (by (try simp only [mk_size, List.size_toArray, ByteArray.size_append, ByteArray.size_extract, List.length_cons, List.length_nil]); omega) ?_)
      | (refine And.intro (by (try simp only [mk_size, List.size_toArray, ByteArray.size_append, ByteArray.size_extract, List.length_cons, List.length_nil, wrap64_eq]); omega) ?_)
      | fail)
    all_goals first | (exfalso; simp_all; done) | skip
    refine LoopR.live (fun y : Nat × ShopN => [(1, .lit (.slice (some ad) xs.length cap)), (2, .ptr 0 0 0), (4, .ptr 1 0 0), (15, .lit (.slice (some ad) xs.length cap)), (16, I xs.length), (17, I y.1)]) (fun y => [bS y.2, bZ]) (fun y => y.1 ≤ xs.length ∧ y.2.ok ∧ (runJ xs s).1 = (runJ (xs.drop y.1) y.2).1 ∧ (runJ xs s).2 = (runJ (xs.drop y.1) y.2).2 + y.1) (fun y => xs.length - y.1) (0, s) ⟨rfl, rfl, rfl, rfl, rfl, rfl, trivial⟩ (.keep rfl) ⟨Nat.zero_le _, ⟨hn, hm, hp, hq⟩, rfl, rfl⟩ ?_
    rintro ⟨i, t⟩ ⟨hi, ht, hr1, hr2⟩
    obtain ⟨tn, tm, tp, tq⟩ := ht
    dsimp only at hi hr1 hr2
    by_cases hlt : i < xs.length
    · have hxi : xs[i]? = some xs[i] := List.getElem?_eq_getElem hlt
      obtain ⟨k, b, c, hrow⟩ : ∃ k b c, xs[i] = [k, b, c] := by
        have := hx _ (List.mem_of_getElem? hxi)
        match hh : xs[i], this with
        | [k, b, c], _ => exact ⟨k, b, c, rfl⟩
      rw [List.drop_eq_getElem_cons hlt, hrow] at hr1 hr2
      rw [hrow] at hxi
      have hld := fun C h => ldIn (W0 := W0) (s := 3) (enc := enI) hb hxx (k := i) hxi rfl (C := C) h
      cases hj : jobO t.n t.m t.p t.q k b c with
      | none =>
        have e : runJ ([k, b, c] :: xs.drop (i + 1)) t = (t, 0) := by simp [runJ, hj]
        rw [e] at hr1 hr2
        rw [hr1, hr2, Nat.zero_add] at h0
        repeat' ((conv => whnf); first
          | (refine And.intro rfl ?_)
          | (refine And.intro (by decide +kernel) ?_)
          | (refine And.intro trivial ?_)
          | (refine hld _ ?_)
          | (refine d_job (hn := tn) (hm := tm) (hp := tp) (hq := tq) (h1 := fun a b c d h => by rw [hj] at h; cases h) (h2 := fun h c0 c1 c2 c3 c4 c5 c6 c7 c8 c9 c10 c11 c12 c13 => ?_) ..)
          | (refine Exists.intro _ (And.intro rfl (And.intro rfl (And.intro (Nat.le_of_ble_eq_true rfl) ?_))))
          | (refine Exists.intro _ (And.intro rfl (And.intro rfl (And.intro rfl (And.intro (Nat.le_of_ble_eq_true rfl) ?_)))))
          | (refine And.intro (Exists.intro _ (And.intro rfl rfl)) ?_)
          | (exact fun hW => absurd hW (by decide +kernel))
          | (intro hW; (try simp only [Bool.not_true, Bool.not_false, Bool.not_eq_true', Bool.not_eq_false', decide_eq_true_eq, decide_eq_false_iff_not, reduceCtorEq, Bool.true_eq_false, Bool.false_eq_true, mk_size, List.size_toArray, ByteArray.size_append, ByteArray.size_extract, List.length_cons, List.length_nil, ba_get, ba_empty, Int.toNat_natCast] at hW))
          | (refine And.intro (?_ : _ → _) (?_ : _ → _))
          | (refine FinR.drop 0 (Nat.zero_le _) (Closed.zero _) rfl ?_)
          | (refine FinR.keep ?_)
          | (refine And.intro (det3_agg rfl) ?_)
          | (refine fL_mk ?_)
          | (refine And.intro (by (try simp only [mk_size, List.size_toArray, ByteArray.size_append, ByteArray.size_extract, List.length_cons, List.length_nil]); omega) ?_)
          | (refine And.intro (by (try simp only [mk_size, List.size_toArray, ByteArray.size_append, ByteArray.size_extract, List.length_cons, List.length_nil, wrap64_eq]); omega) ?_)
          | fail)
        all_goals first | (exfalso; omega) | exact h0
      | some r =>
        obtain ⟨n', m', p', q'⟩ := r
        have hok := jobO_ok tn tm tp.1 tq.1 hj
        have e : runJ ([k, b, c] :: xs.drop (i + 1)) t = ((runJ (xs.drop (i + 1)) ⟨n', m', p', q'⟩).1, (runJ (xs.drop (i + 1)) ⟨n', m', p', q'⟩).2 + 1) := by simp [runJ, hj]
        rw [e] at hr1 hr2
        repeat' ((conv => whnf); first
          | (refine And.intro rfl ?_)
          | (refine And.intro (by decide +kernel) ?_)
          | (refine And.intro trivial ?_)
          | (refine hld _ ?_)
          | (refine d_jobT (hn := tn) (hm := tm) (hp := tp) (hq := tq) (hj := hj) (h0 := ?_) ..)
          | (refine Exists.intro _ (And.intro rfl (And.intro rfl (And.intro (Nat.le_of_ble_eq_true rfl) ?_))))
          | (refine Exists.intro _ (And.intro rfl (And.intro rfl (And.intro rfl (And.intro (Nat.le_of_ble_eq_true rfl) ?_)))))
          | (refine And.intro (Exists.intro _ (And.intro rfl rfl)) ?_)
          | (exact fun hW => absurd hW (by decide +kernel))
          | (intro hW; (try simp only [Bool.not_true, Bool.not_false, Bool.not_eq_true', Bool.not_eq_false', decide_eq_true_eq, decide_eq_false_iff_not, reduceCtorEq, Bool.true_eq_false, Bool.false_eq_true, mk_size, List.size_toArray, ByteArray.size_append, ByteArray.size_extract, List.length_cons, List.length_nil, ba_get, ba_empty, Int.toNat_natCast] at hW))
          | (refine And.intro (?_ : _ → _) (?_ : _ → _))
          | (refine FinR.drop 0 (Nat.zero_le _) (Closed.zero _) rfl ?_)
          | (refine FinR.keep ?_)
          | (refine And.intro (det3_agg rfl) ?_)
          | (refine fL_mk ?_)
          | (refine And.intro (by (try simp only [mk_size, List.size_toArray, ByteArray.size_append, ByteArray.size_extract, List.length_cons, List.length_nil]); omega) ?_)
          | (refine And.intro (by (try simp only [mk_size, List.size_toArray, ByteArray.size_append, ByteArray.size_extract, List.length_cons, List.length_nil, wrap64_eq]); omega) ?_)
          | fail)
        all_goals first | (exfalso; omega) | skip
        exact Again.go (i + 1, ⟨n', m', p', q'⟩) ⟨rfl, rfl, rfl, rfl, rfl, slI' (wsucc' i (by omega)), trivial⟩ (.drop 2 (Nat.zero_le _) rfl (closS2 _) rfl) ⟨by dsimp only; omega, hok, hr1, by dsimp only at hr2 ⊢; omega⟩ (by dsimp only; omega)
    · obtain rfl : i = xs.length := by omega
      rw [List.drop_length] at hr1 hr2
      rw [hr1, hr2, show (runJ [] t).2 + xs.length = xs.length from Nat.zero_add _] at h0
      repeat' ((conv => whnf); first
        | (refine And.intro rfl ?_)
        | (refine And.intro (by decide +kernel) ?_)
        | (refine And.intro trivial ?_)
        | (refine Exists.intro _ (And.intro rfl (And.intro rfl (And.intro (Nat.le_of_ble_eq_true rfl) ?_))))
        | (refine Exists.intro _ (And.intro rfl (And.intro rfl (And.intro rfl (And.intro (Nat.le_of_ble_eq_true rfl) ?_)))))
        | (refine And.intro (Exists.intro _ (And.intro rfl rfl)) ?_)
        | (exact fun hW => absurd hW (by decide +kernel))
        | (intro hW; (try simp only [Bool.not_true, Bool.not_false, Bool.not_eq_true', Bool.not_eq_false', decide_eq_true_eq, decide_eq_false_iff_not, reduceCtorEq, Bool.true_eq_false, Bool.false_eq_true, mk_size, List.size_toArray, ByteArray.size_append, ByteArray.size_extract, List.length_cons, List.length_nil, ba_get, ba_empty, Int.toNat_natCast] at hW))
        | (refine And.intro (?_ : _ → _) (?_ : _ → _))
        | (refine FinR.drop 0 (Nat.zero_le _) (Closed.zero _) rfl ?_)
        | (refine FinR.keep ?_)
        | (refine And.intro (det3_agg rfl) ?_)
        | (refine fL_mk ?_)
        | (refine And.intro (by (try simp only [mk_size, List.size_toArray, ByteArray.size_append, ByteArray.size_extract, List.length_cons, List.length_nil]); omega) ?_)
        | (refine And.intro (by (try simp only [mk_size, List.size_toArray, ByteArray.size_append, ByteArray.size_extract, List.length_cons, List.length_nil, wrap64_eq]); omega) ?_)
        | fail)
      all_goals first | (exfalso; omega) | exact h0
  | own b ver off n cap B xs hB => simp at hB
end Go.Proofs.Ythncpkdhcfaflaa
