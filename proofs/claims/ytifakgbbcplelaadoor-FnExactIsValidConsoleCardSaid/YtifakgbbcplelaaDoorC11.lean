/- Contracts: the law IsValidConsole. -/
import Derived.Test.YtifakgbbcplelaaDoorS9
import Derived.Test.YtifakgbbcplelaaDoorC2
set_option linter.unusedVariables false
set_option linter.unusedSimpArgs false
set_option maxRecDepth 100000
namespace Go.Proofs.YtifakgbbcplelaaDoor
open Go Go.RowKit Go.Proofs.YtifakgbbcplelaaDoor.Abs
variable {W0 : World} {σ : List Blk}
theorem kIx {K : Cont} {a b : Int} (h : K (I a) σ) (e : a = b) : K (I b) σ := e ▸ h
theorem kBx {K : Cont} {a b : Bool} (h : K (Bo a) σ) (e : a = b) : K (Bo b) σ := e ▸ h
abbrev Cns (a b c d e f a' b' c' d' e' f' p q : Int) (s t : ByteArray) (n : Int) : AV := .agg [I a, I b, I c, I d, I e, I f, I a', I b', I c', I d', I e', I f', I p, I q, St s, St t, I n]
theorem c_szConsole (a b c d e f a' b' c' d' e' f' p q : Int) (s t : ByteArray) (n : Int) (hc : s.size ≤ 9223372036854775807) (hr : t.size ≤ 9223372036854775807) (m : Int) (hm : 0 ≤ m) (hm' : m ≤ 1048576) (K : Cont) (h0 : K (I (if szI m [s.size, t.size] < 0 then -1 else szI m [s.size, t.size])) []) : ACall Tryd.prog W0 4 [Cns a b c d e f a' b' c' d' e' f' p q s t n, I m] [] K := by
  refine by4 (Nat.le_of_ble_eq_true rfl) ?_
  repeat' ((conv => whnf); first
    | (refine And.intro rfl ?_)
    | (refine And.intro (by decide +kernel) ?_)
    | (refine And.intro trivial ?_)
    | (refine d_szLog (hc := hc) (hr := hr) (hm := hm) (hm' := hm') (h0 := ?_) ..)
    | (refine Exists.intro _ (And.intro rfl (And.intro rfl (And.intro (Nat.le_of_ble_eq_true rfl) ?_))))
    | (refine Exists.intro _ (And.intro rfl (And.intro rfl (And.intro rfl (And.intro (Nat.le_of_ble_eq_true rfl) ?_)))))
    | (refine And.intro (Exists.intro _ (And.intro rfl rfl)) ?_)
    | (exact fun hW => absurd hW (by decide +kernel))
    | (intro hW; (try simp only [Bool.not_true, Bool.not_false, Bool.not_eq_true', Bool.not_eq_false', decide_eq_true_eq, decide_eq_false_iff_not, reduceCtorEq, Bool.true_eq_false, Bool.false_eq_true, mk_size, List.size_toArray, ByteArray.size_append, ByteArray.size_extract, List.length_cons, List.length_nil, ba_get, ba_empty, Int.toNat_natCast] at hW))
    | (refine And.intro (?_ : _ → _) (?_ : _ → _))
    | (refine FinR.drop 0 (Nat.zero_le _) (Closed.zero _) rfl ?_)
    | (refine FinR.keep ?_)
    | (refine And.intro (det3_agg rfl) ?_)
    | (refine fL_mk ?_)
    | (refine And.intro (by (try simp only [mk_size, List.size_toArray, ByteArray.size_append, ByteArray.size_extract, List.length_cons, List.length_nil]); omega) ?_)
    | (refine And.intro (by (try simp only [mk_size, List.size_toArray, ByteArray.size_append, ByteArray.size_extract, List.length_cons, List.length_nil, wrap64_eq]); omega) ?_)
    | fail)
  all_goals (refine kIx h0 ?_; first | rw [if_pos (by omega)] | rw [if_neg (by omega)])
theorem d_szConsole (a b c d e f a' b' c' d' e' f' p q : Int) (s t : ByteArray) (n : Int) (hc : s.size ≤ 9223372036854775807) (hr : t.size ≤ 9223372036854775807) (m : Int) (hm : 0 ≤ m) (hm' : m ≤ 1048576) (K : Cont) (h0 : K (I (if szI m [s.size, t.size] < 0 then -1 else szI m [s.size, t.size])) σ) : ACall Tryd.prog W0 4 [Cns a b c d e f a' b' c' d' e' f' p q s t n, I m] σ K :=
  ACall.lift rfl (fun _ => rfl) (fun W1 K _ hK => c_szConsole a b c d e f a' b' c' d' e' f' p q s t n hc hr m hm hm' K hK) h0
theorem c_toConsole (a b c d e f a' b' c' d' e' f' p q : Int) (s t : ByteArray) (n : Int) (K : Cont) (h0 : K (Cns a b c d e f a' b' c' d' e' f' p q s t n) []) : ACall Tryd.prog W0 6 [Cns a b c d e f a' b' c' d' e' f' p q s t n] [] K := by
  refine by6 (Nat.le_of_ble_eq_true rfl) ?_
  repeat' ((conv => whnf); first
    | (refine And.intro rfl ?_)
    | (refine And.intro (by decide +kernel) ?_)
    | (refine And.intro trivial ?_)
    | (refine d_toShop (h0 := ?_) ..)
    | (refine Exists.intro _ (And.intro (fun τ => callW_fn (d_toShop (h0 := And.intro rfl rfl) ..)) ?_))
    | (refine Exists.intro _ (And.intro (callW_fn (d_toShop (h0 := And.intro rfl rfl) ..)) (And.intro trivial ?_)))
    | (refine Exists.intro _ (And.intro (callW_fn (d_toShop (h0 := And.intro rfl rfl) ..)) ?_))
    | (refine Exists.intro _ (And.intro (fun τ _ => callW_fn (d_toShop (h0 := And.intro rfl rfl) ..)) ?_))
    | (refine d_toLog (h0 := ?_) ..)
    | (refine Exists.intro _ (And.intro (fun τ => callW_fn (d_toLog (h0 := And.intro rfl rfl) ..)) ?_))
    | (refine Exists.intro _ (And.intro (callW_fn (d_toLog (h0 := And.intro rfl rfl) ..)) (And.intro trivial ?_)))
    | (refine Exists.intro _ (And.intro (callW_fn (d_toLog (h0 := And.intro rfl rfl) ..)) ?_))
    | (refine Exists.intro _ (And.intro (fun τ _ => callW_fn (d_toLog (h0 := And.intro rfl rfl) ..)) ?_))
    | (refine Exists.intro _ (And.intro rfl (And.intro rfl (And.intro (Nat.le_of_ble_eq_true rfl) ?_))))
    | (refine Exists.intro _ (And.intro rfl (And.intro rfl (And.intro rfl (And.intro (Nat.le_of_ble_eq_true rfl) ?_)))))
    | (refine And.intro (Exists.intro _ (And.intro rfl rfl)) ?_)
    | (exact fun hW => absurd hW (by decide +kernel))
    | (intro hW; (try simp only [Bool.not_true, Bool.not_false, Bool.not_eq_true', Bool.not_eq_false', decide_eq_true_eq, decide_eq_false_iff_not, reduceCtorEq, Bool.true_eq_false, Bool.false_eq_true, mk_size, List.size_toArray, ByteArray.size_append, ByteArray.size_extract, List.length_cons, List.length_nil, ba_get, ba_empty, Int.toNat_natCast] at hW))
    | (refine And.intro (?_ : _ → _) (?_ : _ → _))
    | (refine FinR.drop 0 (Nat.zero_le _) (Closed.zero _) rfl ?_)
    | (refine FinR.keep ?_)
    | (refine And.intro (det3_agg rfl) ?_)
    | (refine fL_mk ?_)
    | (refine And.intro (by (try simp only [mk_size, List.size_toArray, ByteArray.size_append, ByteArray.size_extract, List.length_cons, List.length_nil]); omega) ?_)
    | (refine And.intro (by (try simp only [mk_size, List.size_toArray, ByteArray.size_append, ByteArray.size_extract, List.length_cons, List.length_nil, wrap64_eq]); omega) ?_)
    | fail)
  all_goals first | exact h0 | (refine Eq.mp (congrArg (fun v => K v []) ?_) h0; clear h0; simp_all <;> omega)
theorem d_toConsole (a b c d e f a' b' c' d' e' f' p q : Int) (s t : ByteArray) (n : Int) (K : Cont) (h0 : K (Cns a b c d e f a' b' c' d' e' f' p q s t n) σ) : ACall Tryd.prog W0 6 [Cns a b c d e f a' b' c' d' e' f' p q s t n] σ K :=
  ACall.lift rfl (fun _ => rfl) (fun W1 K _ hK => c_toConsole a b c d e f a' b' c' d' e' f' p q s t n K hK) h0
theorem c_sIsValidConsole (a b c d e f a' b' c' d' e' f' p q : Int) (s t : ByteArray) (n : Int) (hd : s.size ≤ 1048576) (hp : t.size ≤ 1048576) (K : Cont) (h0 : K (Bo (shopB a b c d e f a' b' c' d' e' f' p q && vB s t n)) []) : ACall Tryd.prog W0 5 [Cns a b c d e f a' b' c' d' e' f' p q s t n] [] K := by
  refine by5 (Nat.le_of_ble_eq_true rfl) ?_
  repeat' ((conv => whnf); first
    | (refine And.intro rfl ?_)
    | (refine And.intro (by decide +kernel) ?_)
    | (refine And.intro trivial ?_)
    | (refine d_l12Good (h0 := ?_) ..)
    | (refine Exists.intro _ (And.intro (fun τ => callW_fn (d_l12Good (h0 := And.intro rfl rfl) ..)) ?_))
    | (refine Exists.intro _ (And.intro (callW_fn (d_l12Good (h0 := And.intro rfl rfl) ..)) (And.intro trivial ?_)))
    | (refine Exists.intro _ (And.intro (callW_fn (d_l12Good (h0 := And.intro rfl rfl) ..)) ?_))
    | (refine Exists.intro _ (And.intro (fun τ _ => callW_fn (d_l12Good (h0 := And.intro rfl rfl) ..)) ?_))
    | (refine d_l12Valid (hd := hd) (hp := hp) (h0 := ?_) ..)
    | (refine Exists.intro _ (And.intro (fun τ => callW_fn (d_l12Valid (hd := hd) (hp := hp) (h0 := And.intro rfl rfl) ..)) ?_))
    | (refine Exists.intro _ (And.intro (callW_fn (d_l12Valid (hd := hd) (hp := hp) (h0 := And.intro rfl rfl) ..)) (And.intro trivial ?_)))
    | (refine Exists.intro _ (And.intro (callW_fn (d_l12Valid (hd := hd) (hp := hp) (h0 := And.intro rfl rfl) ..)) ?_))
    | (refine Exists.intro _ (And.intro (fun τ _ => callW_fn (d_l12Valid (hd := hd) (hp := hp) (h0 := And.intro rfl rfl) ..)) ?_))
    | (refine Exists.intro _ (And.intro rfl (And.intro rfl (And.intro (Nat.le_of_ble_eq_true rfl) ?_))))
    | (refine Exists.intro _ (And.intro rfl (And.intro rfl (And.intro rfl (And.intro (Nat.le_of_ble_eq_true rfl) ?_)))))
    | (refine And.intro (Exists.intro _ (And.intro rfl rfl)) ?_)
    | (exact fun hW => absurd hW (by decide +kernel))
    | (intro hW; (try simp only [Bool.not_true, Bool.not_false, Bool.not_eq_true', Bool.not_eq_false', decide_eq_true_eq, decide_eq_false_iff_not, reduceCtorEq, Bool.true_eq_false, Bool.false_eq_true, mk_size, List.size_toArray, ByteArray.size_append, ByteArray.size_extract, List.length_cons, List.length_nil, ba_get, ba_empty, Int.toNat_natCast] at hW))
    | (refine And.intro (?_ : _ → _) (?_ : _ → _))
    | (refine FinR.drop 0 (Nat.zero_le _) (Closed.zero _) rfl ?_)
    | (refine FinR.keep ?_)
    | (refine And.intro (det3_agg rfl) ?_)
    | (refine fL_mk ?_)
    | (refine And.intro (by (try simp only [mk_size, List.size_toArray, ByteArray.size_append, ByteArray.size_extract, List.length_cons, List.length_nil]); omega) ?_)
    | (refine And.intro (by (try simp only [mk_size, List.size_toArray, ByteArray.size_append, ByteArray.size_extract, List.length_cons, List.length_nil, wrap64_eq]); omega) ?_)
    | fail)
  all_goals (refine kBx h0 ?_; clear h0; simp_all)
theorem d_sIsValidConsole (a b c d e f a' b' c' d' e' f' p q : Int) (s t : ByteArray) (n : Int) (hd : s.size ≤ 1048576) (hp : t.size ≤ 1048576) (K : Cont) (h0 : K (Bo (shopB a b c d e f a' b' c' d' e' f' p q && vB s t n)) σ) : ACall Tryd.prog W0 5 [Cns a b c d e f a' b' c' d' e' f' p q s t n] σ K :=
  ACall.lift rfl (fun _ => rfl) (fun W1 K _ hK => c_sIsValidConsole a b c d e f a' b' c' d' e' f' p q s t n hd hp K hK) h0
theorem c_IsValidConsole (a b c d e f a' b' c' d' e' f' p q : Int) (s t : ByteArray) (n : Int) (hd : s.size ≤ 1048576) (hp : t.size ≤ 1048576) (ht : TabP W0) (K : Cont) (h0 : K (Bo (shopB a b c d e f a' b' c' d' e' f' p q && vB s t n)) []) : ACall Tryd.prog W0 7 [Cns a b c d e f a' b' c' d' e' f' p q s t n] [] K := by
  refine by7 (Nat.le_of_ble_eq_true rfl) ?_
  repeat' ((conv => whnf); first
    | (refine And.intro rfl ?_)
    | (refine And.intro (by decide +kernel) ?_)
    | (refine And.intro trivial ?_)
    | (refine d_IsShop (h0 := ?_) ..)
    | (refine Exists.intro _ (And.intro (fun τ => callW_fn (d_IsShop (h0 := And.intro rfl rfl) ..)) ?_))
    | (refine Exists.intro _ (And.intro (callW_fn (d_IsShop (h0 := And.intro rfl rfl) ..)) (And.intro trivial ?_)))
    | (refine Exists.intro _ (And.intro (callW_fn (d_IsShop (h0 := And.intro rfl rfl) ..)) ?_))
    | (refine Exists.intro _ (And.intro (fun τ _ => callW_fn (d_IsShop (h0 := And.intro rfl rfl) ..)) ?_))
    | (refine d_IsValidLog (hd := hd) (hp := hp) (ht := ht) (h0 := ?_) ..)
    | (refine Exists.intro _ (And.intro (fun τ => callW_fn (d_IsValidLog (hd := hd) (hp := hp) (ht := ht) (h0 := And.intro rfl rfl) ..)) ?_))
    | (refine Exists.intro _ (And.intro (callW_fn (d_IsValidLog (hd := hd) (hp := hp) (ht := ht) (h0 := And.intro rfl rfl) ..)) (And.intro trivial ?_)))
    | (refine Exists.intro _ (And.intro (callW_fn (d_IsValidLog (hd := hd) (hp := hp) (ht := ht) (h0 := And.intro rfl rfl) ..)) ?_))
    | (refine Exists.intro _ (And.intro (fun τ _ => callW_fn (d_IsValidLog (hd := hd) (hp := hp) (ht := ht) (h0 := And.intro rfl rfl) ..)) ?_))
    | (refine Exists.intro _ (And.intro rfl (And.intro rfl (And.intro (Nat.le_of_ble_eq_true rfl) ?_))))
    | (refine Exists.intro _ (And.intro rfl (And.intro rfl (And.intro rfl (And.intro (Nat.le_of_ble_eq_true rfl) ?_)))))
    | (refine And.intro (Exists.intro _ (And.intro rfl rfl)) ?_)
    | (exact fun hW => absurd hW (by decide +kernel))
    | (intro hW; (try simp only [Bool.not_true, Bool.not_false, Bool.not_eq_true', Bool.not_eq_false', decide_eq_true_eq, decide_eq_false_iff_not, reduceCtorEq, Bool.true_eq_false, Bool.false_eq_true, mk_size, List.size_toArray, ByteArray.size_append, ByteArray.size_extract, List.length_cons, List.length_nil, ba_get, ba_empty, Int.toNat_natCast] at hW))
    | (refine And.intro (?_ : _ → _) (?_ : _ → _))
    | (refine FinR.drop 0 (Nat.zero_le _) (Closed.zero _) rfl ?_)
    | (refine FinR.keep ?_)
    | (refine And.intro (det3_agg rfl) ?_)
    | (refine fL_mk ?_)
    | (refine And.intro (by (try simp only [mk_size, List.size_toArray, ByteArray.size_append, ByteArray.size_extract, List.length_cons, List.length_nil]); omega) ?_)
    | (refine And.intro (by (try simp only [mk_size, List.size_toArray, ByteArray.size_append, ByteArray.size_extract, List.length_cons, List.length_nil, wrap64_eq]); omega) ?_)
    | fail)
  all_goals (refine kBx h0 ?_; clear h0; simp_all)
theorem d_IsValidConsole (a b c d e f a' b' c' d' e' f' p q : Int) (s t : ByteArray) (n : Int) (hd : s.size ≤ 1048576) (hp : t.size ≤ 1048576) (ht : TabP W0) (K : Cont) (h0 : K (Bo (shopB a b c d e f a' b' c' d' e' f' p q && vB s t n)) σ) : ACall Tryd.prog W0 7 [Cns a b c d e f a' b' c' d' e' f' p q s t n] σ K :=
  ACall.lift rfl (fun _ => rfl) (fun W1 K hb hK => c_IsValidConsole a b c d e f a' b' c' d' e' f' p q s t n hd hp (ht.mono hb) K hK) h0
theorem c_law_IsValidConsole (a : Int) (ha : IntKind.i64.has a) (b : Int) (hb : IntKind.i64.has b) (c : Int) (hc : IntKind.i64.has c) (d : Int) (hd : IntKind.i64.has d) (e : Int) (he : IntKind.i64.has e) (f : Int) (hf : IntKind.i64.has f) (a' : Int) (ha' : IntKind.i64.has a') (b' : Int) (hb' : IntKind.i64.has b') (c' : Int) (hc' : IntKind.i64.has c') (d' : Int) (hd' : IntKind.i64.has d') (e' : Int) (he' : IntKind.i64.has e') (f' : Int) (hf' : IntKind.i64.has f') (p : Int) (hp : IntKind.i64.has p) (q : Int) (hq : IntKind.i64.has q) (s : ByteArray) (hs : s.size ≤ 9223372036854775807) (t : ByteArray) (htt : t.size ≤ 9223372036854775807) (n : Int) (hn : IntKind.i64.has n) (ht : TabP W0) (K : Cont) (h0 : K (Bo true) []) : ACall Tryd.prog W0 3 [Cns a b c d e f a' b' c' d' e' f' p q s t n] [] K := by
  refine by3 (Nat.le_of_ble_eq_true rfl) ?_
  by_cases hz : szI 1048576 [s.size, t.size] < 0
  · skip
    repeat' ((conv => whnf); first
      | (refine And.intro rfl ?_)
      | (refine And.intro (by decide +kernel) ?_)
      | (refine And.intro trivial ?_)
      | (refine d_szConsole (hc := hs) (hr := htt) (hm := by decide) (hm' := by decide) (h0 := ?_) ..; rw [if_pos hz])
      | (refine Exists.intro _ (And.intro rfl (And.intro rfl (And.intro (Nat.le_of_ble_eq_true rfl) ?_))))
      | (refine Exists.intro _ (And.intro rfl (And.intro rfl (And.intro rfl (And.intro (Nat.le_of_ble_eq_true rfl) ?_)))))
      | (refine And.intro (Exists.intro _ (And.intro rfl rfl)) ?_)
      | (exact fun hW => absurd hW (by decide +kernel))
      | (intro hW; (try simp only [Bool.not_true, Bool.not_false, Bool.not_eq_true', Bool.not_eq_false', decide_eq_true_eq, decide_eq_false_iff_not, reduceCtorEq, Bool.true_eq_false, Bool.false_eq_true, mk_size, List.size_toArray, ByteArray.size_append, ByteArray.size_extract, List.length_cons, List.length_nil, ba_get, ba_empty, Int.toNat_natCast] at hW))
      | (refine And.intro (?_ : _ → _) (?_ : _ → _))
      | (refine FinR.drop 0 (Nat.zero_le _) (Closed.zero _) rfl ?_)
      | (refine FinR.keep ?_)
      | (refine And.intro (det3_agg rfl) ?_)
      | (refine fL_mk ?_)
      | (refine And.intro (by (try simp only [mk_size, List.size_toArray, ByteArray.size_append, ByteArray.size_extract, List.length_cons, List.length_nil]); omega) ?_)
      | (refine And.intro (by (try simp only [mk_size, List.size_toArray, ByteArray.size_append, ByteArray.size_extract, List.length_cons, List.length_nil, wrap64_eq]); omega) ?_)
      | fail)
    all_goals first | exact h0 | (exfalso; omega)
  · have hb := szI_neg (by decide) (Int.not_lt.1 hz)
    have hs' : s.size ≤ 1048576 := by have := hb s.size (by simp); omega
    have ht' : t.size ≤ 1048576 := by have := hb t.size (by simp); omega
    repeat' ((conv => whnf); first
      | (refine And.intro rfl ?_)
      | (refine And.intro (by decide +kernel) ?_)
      | (refine And.intro trivial ?_)
      | (refine d_szConsole (hc := hs) (hr := htt) (hm := by decide) (hm' := by decide) (h0 := ?_) ..; rw [if_neg hz])
      | (refine d_toConsole (h0 := ?_) ..)
      | (refine Exists.intro _ (And.intro (fun τ => callW_fn (d_toConsole (h0 := And.intro rfl rfl) ..)) ?_))
      | (refine Exists.intro _ (And.intro (callW_fn (d_toConsole (h0 := And.intro rfl rfl) ..)) (And.intro trivial ?_)))
      | (refine Exists.intro _ (And.intro (callW_fn (d_toConsole (h0 := And.intro rfl rfl) ..)) ?_))
      | (refine Exists.intro _ (And.intro (fun τ _ => callW_fn (d_toConsole (h0 := And.intro rfl rfl) ..)) ?_))
      | (refine d_sIsValidConsole (hd := hs') (hp := ht') (h0 := ?_) ..)
      | (refine d_IsValidConsole (hd := hs') (hp := ht') (ht := ht) (h0 := ?_) ..)
      | (refine Exists.intro _ (And.intro rfl (And.intro rfl (And.intro (Nat.le_of_ble_eq_true rfl) ?_))))
      | (refine Exists.intro _ (And.intro rfl (And.intro rfl (And.intro rfl (And.intro (Nat.le_of_ble_eq_true rfl) ?_)))))
      | (refine And.intro (Exists.intro _ (And.intro rfl rfl)) ?_)
      | (exact fun hW => absurd hW (by decide +kernel))
      | (intro hW; (try simp only [Bool.not_true, Bool.not_false, Bool.not_eq_true', Bool.not_eq_false', decide_eq_true_eq, decide_eq_false_iff_not, reduceCtorEq, Bool.true_eq_false, Bool.false_eq_true, mk_size, List.size_toArray, ByteArray.size_append, ByteArray.size_extract, List.length_cons, List.length_nil, ba_get, ba_empty, Int.toNat_natCast] at hW))
      | (refine And.intro (?_ : _ → _) (?_ : _ → _))
      | (refine FinR.drop 0 (Nat.zero_le _) (Closed.zero _) rfl ?_)
      | (refine FinR.keep ?_)
      | (refine And.intro (det3_agg rfl) ?_)
      | (refine fL_mk ?_)
      | (refine And.intro (by (try simp only [mk_size, List.size_toArray, ByteArray.size_append, ByteArray.size_extract, List.length_cons, List.length_nil]); omega) ?_)
      | (refine And.intro (by (try simp only [mk_size, List.size_toArray, ByteArray.size_append, ByteArray.size_extract, List.length_cons, List.length_nil, wrap64_eq]); omega) ?_)
      | fail)
    all_goals first | exact h0 | (exfalso; simp_all; done)
end Go.Proofs.YtifakgbbcplelaaDoor
