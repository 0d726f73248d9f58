/- Contracts: lists of records compared, marked, held. -/
import Derived.Test.YtlmplfgnhibfcaaDoorS9
set_option linter.unusedVariables false
set_option linter.unusedSimpArgs false
set_option maxRecDepth 100000
set_option maxHeartbeats 4000000
namespace Go.Proofs.YtlmplfgnhibfcaaDoor
open Go Go.RowKit Go.Proofs.YtlmplfgnhibfcaaDoor.Abs
variable {W0 : World} {σ : List Blk}
theorem fS_mkL {l : List Blk} {K : List Blk → Prop} (h : K l) : fS l K := by rw [fS_eq]; exact h
theorem get_setL {α : Type} {l : List α} {i : Nat} {a b : α} (h : l[i]? = some a) : (l.set i b)[i]? = some b := by
  rw [List.getElem?_set_self (getElem?_lt h)]
theorem set_selfL {α : Type} {l : List α} {i : Nat} {a : α} (h : l[i]? = some a) : l.set i a = l := by
  have := (List.getElem?_eq_some_iff.1 h)
  obtain ⟨h1, h2⟩ := this
  rw [← h2]; exact List.set_getElem_self h1
theorem sli_formL {α : Type} {s : Nat} {enc : α → List Value} {a : AV} {xs : List α} (h : Sli W0 [] s enc a xs) : ∃ o n cap, a = .lit (.slice o n cap) ∧ n = xs.length ∧ n ≤ cap ∧ cap ≤ maxLen ∧ ∀ (i : Nat) (x : α), xs[i]? = some x → ∃ ad, o = some ad ∧ ad.block < W0.heap.size ∧ ∀ i x, xs[i]? = some x → ∀ j v, (enc x)[j]? = some v → W0.cell? ((ad.add (i * s)).add j) = some v ∧ v.oneCell' = true := by
  cases h with
  | nil => exact ⟨none, 0, 0, rfl, rfl, Nat.le_refl _, Nat.zero_le _, fun i x h => by simp at h⟩
  | inn ad n cap xs hn hc hm hb hx => exact ⟨some ad, n, cap, rfl, hn, hc, hm, fun i x h => ⟨ad, rfl, hb, hx⟩⟩
  | own b ver off n cap B xs hB => simp at hB
theorem wsuccL (x : Nat) (hx : x < 4611686018427387904) : IntKind.i64.wrap ((x : Int) + 1) = ((x + 1 : Nat) : Int) := by rw [wrap_i64 _ (by omega) (by omega)]; omega
abbrev enR (e : Rec) : List Value := [.string e.1, .string e.2]
theorem rc_get : ∀ {es : List Rec} {i : Nat} {x : Rec}, es[i]? = some x → (rcells es)[i * 2]? = some (St x.1) ∧ (rcells es)[i * 2 + 1]? = some (St x.2)
  | e :: es, 0, x, h => by cases h; exact ⟨rfl, rfl⟩
  | e :: es, i + 1, x, h => by
    have ih := rc_get (es := es) (i := i) (x := x) h
    have e1 : rcells (e :: es) = St e.1 :: St e.2 :: rcells es := rfl
    rw [e1, show (i + 1) * 2 = i * 2 + 1 + 1 by omega]
    exact ih
theorem sli_recs {es : List Rec} {b ver cap : Nat} {e : TypeId} {z : Nat} {r m : Bool} (hb : σ[b]? = some ⟨rcells es, ver, e, z, r, m⟩) : Sli W0 σ 2 enR (.sl b ver 0 es.length cap) es :=
  .own b ver 0 _ cap _ _ hb rfl rfl fun i x hi j v hj => by
    have h := rc_get hi
    match j, hj with
    | 0, hj => cases hj; rw [Nat.zero_add]; exact h.1
    | 1, hj => cases hj; rw [Nat.zero_add]; exact h.2
theorem lift_RR {g : FuncId} {a b r : AV} {es : List Rec} (hok : callOK Tryd.prog g = true) (hr : ∀ k, sh3 k r = r) (ha : Sli W0 σ 2 enR a es) (hb : Sli W0 σ 2 enR b es)
    (h : ∀ (W1 : World) (a' b' : AV), Sli W1 [] 2 enR a' es → Sli W1 [] 2 enR b' es → ∀ K : Cont, K r [] → ACall Tryd.prog W1 g [a', b'] [] K) (K : Cont) (h0 : K r σ) : ACall Tryd.prog W0 g [a, b] σ K := by
  refine ACall.frameA (K0 := fun v σ' => v = r ∧ σ' = []) hok (fun W1 ι vs hh hrr => ?_) ?_
  · obtain ⟨v1, vs', rfl, hr1, hr2⟩ := Rels.uncons hrr
    obtain ⟨v2, vs'', rfl, hr3, hr4⟩ := Rels.uncons hr2
    obtain rfl := hr4.nil_inv
    obtain ⟨a', ha', hsa⟩ := ha.conc hh ⟨v1, hr1⟩
    obtain ⟨b', hb', hsb⟩ := hb.conc hh ⟨v2, hr3⟩
    exact ⟨[a', b'], Rels.cons (ha' _ hr1) (Rels.cons (hb' _ hr3) Rels.nil), h W1 a' b' hsa hsb _ ⟨rfl, rfl⟩⟩
  · rintro v σ' ⟨rfl, rfl⟩
    rw [hr, show shB σ.length [] = [] from rfl, List.append_nil]; exact h0
theorem lift_RI {g : FuncId} {a r : AV} {n : Int} {es : List Rec} (hok : callOK Tryd.prog g = true) (hr : ∀ k, sh3 k r = r) (ha : Sli W0 σ 2 enR a es)
    (h : ∀ (W1 : World) (a' : AV), Sli W1 [] 2 enR a' es → ∀ K : Cont, K r [] → ACall Tryd.prog W1 g [a', I n] [] K) (K : Cont) (h0 : K r σ) : ACall Tryd.prog W0 g [a, I n] σ K := by
  refine ACall.frameA (K0 := fun v σ' => v = r ∧ σ' = []) hok (fun W1 ι vs hh hrr => ?_) ?_
  · obtain ⟨v1, vs', rfl, hr1, hr2⟩ := Rels.uncons hrr
    obtain ⟨v2, vs'', rfl, hr3, hr4⟩ := Rels.uncons hr2
    obtain rfl := hr4.nil_inv
    obtain ⟨a', ha', hsa⟩ := ha.conc hh ⟨v1, hr1⟩
    exact ⟨[a', I n], Rels.cons (ha' _ hr1) (Rels.cons hr3 Rels.nil), h W1 a' hsa _ ⟨rfl, rfl⟩⟩
  · rintro v σ' ⟨rfl, rfl⟩
    rw [hr, show shB σ.length [] = [] from rfl, List.append_nil]; exact h0
theorem c_eqLogRecord (c r : ByteArray) (K : Cont) (h0 : K (Bo true) []) : ACall Tryd.prog W0 18 [Rc c r, Rc c r] [] K := by
  refine by18 (Nat.le_of_ble_eq_true rfl) ?_
  repeat' ((conv => whnf); first
    | (refine And.intro rfl ?_)
    | (refine And.intro (by decide +kernel) ?_)
    | (refine And.intro trivial ?_)
    | (refine Exists.intro _ (And.intro rfl (And.intro rfl (And.intro (Nat.le_of_ble_eq_true rfl) ?_))))
    | (refine Exists.intro _ (And.intro rfl (And.intro rfl (And.intro rfl (And.intro (Nat.le_of_ble_eq_true rfl) ?_)))))
    | (refine And.intro (Exists.intro _ (And.intro rfl rfl)) ?_)
    | (exact fun hW => absurd hW (by decide +kernel))
    | (intro hW; (try simp only [Bool.not_true, Bool.not_false, Bool.not_eq_true', Bool.not_eq_false', decide_eq_true_eq, decide_eq_false_iff_not, reduceCtorEq, Bool.true_eq_false, Bool.false_eq_true, mk_size, List.size_toArray, ByteArray.size_append, ByteArray.size_extract, List.length_cons, List.length_nil, ba_get, ba_empty, Int.toNat_natCast] at hW))
    | (refine And.intro (?_ : _ → _) (?_ : _ → _))
    | (refine FinR.drop 0 (Nat.zero_le _) (Closed.zero _) rfl ?_)
    | (refine FinR.keep ?_)
    | (refine And.intro (det3_agg rfl) ?_)
    | (refine fL_mk ?_)
    | (refine And.intro (by (try simp only [mk_size, List.size_toArray, ByteArray.size_append, ByteArray.size_extract, List.length_cons, List.length_nil]); omega) ?_)
    | (refine And.intro (by (try simp only [mk_size, List.size_toArray, ByteArray.size_append, ByteArray.size_extract, List.length_cons, List.length_nil, wrap64_eq]); omega) ?_)
    | fail)
  all_goals first | exact h0 | (exfalso; simp_all; done)
theorem d_eqLogRecord (c r : ByteArray) (K : Cont) (h0 : K (Bo true) σ) : ACall Tryd.prog W0 18 [Rc c r, Rc c r] σ K :=
  ACall.lift rfl (fun _ => rfl) (fun W1 K _ hK => c_eqLogRecord c r K hK) h0
theorem c_eqRecS (a b : AV) (es : List Rec) (ha : Sli W0 [] 2 enR a es) (hb' : Sli W0 [] 2 enR b es) (hl : es.length ≤ 1048576) (K : Cont) (h0 : K (Bo true) []) : ACall Tryd.prog W0 9 [a, b] [] K := by
  refine by9 (Nat.le_of_ble_eq_true rfl) ?_
  obtain ⟨o, n, cap, rfl, hn, hc, hm, hf⟩ := sli_formL ha
  obtain ⟨o2, n2, cap2, rfl, hn2, hc2, hm2, hf2⟩ := sli_formL hb'
  subst hn
  have hnl : es.length = n2 := hn2.symm
  subst hn2
  repeat' ((conv => whnf); first
    | (refine And.intro rfl ?_)
    | (refine And.intro (by decide +kernel) ?_)
    | (refine And.intro trivial ?_)
    | (refine Exists.intro _ (And.intro rfl (And.intro rfl (And.intro (Nat.le_of_ble_eq_true rfl) ?_))))
    | (refine Exists.intro _ (And.intro rfl (And.intro rfl (And.intro rfl (And.intro (Nat.le_of_ble_eq_true rfl) ?_)))))
    | (refine And.intro (Exists.intro _ (And.intro rfl rfl)) ?_)
    | (exact fun hW => absurd hW (by decide +kernel))
    | (intro hW; (try simp only [Bool.not_true, Bool.not_false, Bool.not_eq_true', Bool.not_eq_false', decide_eq_true_eq, decide_eq_false_iff_not, reduceCtorEq, Bool.true_eq_false, Bool.false_eq_true, mk_size, List.size_toArray, ByteArray.size_append, ByteArray.size_extract, List.length_cons, List.length_nil, ba_get, ba_empty, Int.toNat_natCast] at hW))
    | (refine And.intro (?_ : _ → _) (?_ : _ → _))
    | (refine FinR.drop 0 (Nat.zero_le _) (Closed.zero _) rfl ?_)
    | (refine FinR.keep ?_)
    | (refine And.intro (det3_agg rfl) ?_)
    | (refine fL_mk ?_)
    | (refine And.intro (by (try simp only [mk_size, List.size_toArray, ByteArray.size_append, ByteArray.size_extract, List.length_cons, List.length_nil]); omega) ?_)
    | (refine And.intro (by (try simp only [mk_size, List.size_toArray, ByteArray.size_append, ByteArray.size_extract, List.length_cons, List.length_nil, wrap64_eq]); omega) ?_)
    | fail)
  all_goals first | (exfalso; omega) | (exfalso; simp_all; done) | skip
  refine LoopR.live (fun i : Nat => [(0, .lit (.slice o es.length cap)), (1, .lit (.slice o2 es.length cap2)), (5, I i)]) (fun i => []) (fun i => i ≤ es.length) (fun i => es.length - i) 0 ⟨rfl, rfl, rfl, trivial⟩ (.keep rfl) (Nat.zero_le _) ?_
  intro i hi
  by_cases hlt : i < es.length
  · have hxi : es[i]? = some es[i] := List.getElem?_eq_getElem hlt
    obtain ⟨ad, rfl, hb, hxx⟩ := hf i _ hxi
    obtain ⟨ad2, rfl, hb2, hxx2⟩ := hf2 i _ hxi
    have hld := fun C h => ldIn (W0 := W0) (s := 2) (enc := enR) hb hxx (k := i) hxi rfl (C := C) h
    have hld2 := fun C h => ldIn (W0 := W0) (s := 2) (enc := enR) hb2 hxx2 (k := i) hxi rfl (C := C) h
    repeat' ((conv => whnf); first
      | (refine And.intro rfl ?_)
      | (refine And.intro (by decide +kernel) ?_)
      | (refine And.intro trivial ?_)
      | (refine hld _ ?_)
      | (refine hld2 _ ?_)
      | (refine d_eqLogRecord (h0 := ?_) ..)
      | (refine Exists.intro _ (And.intro (fun τ => callW_fn (d_eqLogRecord (h0 := And.intro rfl rfl) ..)) ?_))
      | (refine Exists.intro _ (And.intro (callW_fn (d_eqLogRecord (h0 := And.intro rfl rfl) ..)) (And.intro trivial ?_)))
      | (refine Exists.intro _ (And.intro (callW_fn (d_eqLogRecord (h0 := And.intro rfl rfl) ..)) ?_))
      | (refine Exists.intro _ (And.intro (fun τ _ => callW_fn (d_eqLogRecord (h0 := And.intro rfl rfl) ..)) ?_))
      | (refine And.intro rfl (hld _ ?_))
      | (refine And.intro rfl (hld2 _ ?_))
      | (refine Exists.intro _ (And.intro rfl (And.intro rfl (And.intro (Nat.le_of_ble_eq_true rfl) ?_))))
      | (refine Exists.intro _ (And.intro rfl (And.intro rfl (And.intro rfl (And.intro (Nat.le_of_ble_eq_true rfl) ?_)))))
      | (refine And.intro (Exists.intro _ (And.intro rfl rfl)) ?_)
      | (exact fun hW => absurd hW (by decide +kernel))
      | (intro hW; (try simp only [Bool.not_true, Bool.not_false, Bool.not_eq_true', Bool.not_eq_false', decide_eq_true_eq, decide_eq_false_iff_not, reduceCtorEq, Bool.true_eq_false, Bool.false_eq_true, mk_size, List.size_toArray, ByteArray.size_append, ByteArray.size_extract, List.length_cons, List.length_nil, ba_get, ba_empty, Int.toNat_natCast] at hW))
      | (refine And.intro (?_ : _ → _) (?_ : _ → _))
      | (refine FinR.drop 0 (Nat.zero_le _) (Closed.zero _) rfl ?_)
      | (refine FinR.keep ?_)
      | (refine And.intro (det3_agg rfl) ?_)
      | (refine fL_mk ?_)
      | (refine And.intro (by (try simp only [mk_size, List.size_toArray, ByteArray.size_append, ByteArray.size_extract, List.length_cons, List.length_nil]); omega) ?_)
      | (refine And.intro (by (try simp only [mk_size, List.size_toArray, ByteArray.size_append, ByteArray.size_extract, List.length_cons, List.length_nil, wrap64_eq]); omega) ?_)
      | fail)
    all_goals first | (exfalso; omega) | (exfalso; simp_all; done) | skip
    exact Again.go (i + 1) ⟨rfl, rfl, slI (wsuccL i (by omega)), trivial⟩ (.keep rfl) (by omega) (by omega)
  · obtain rfl : i = es.length := by omega
    repeat' ((conv => whnf); first
      | (refine And.intro rfl ?_)
      | (refine And.intro (by decide +kernel) ?_)
      | (refine And.intro trivial ?_)
      | (refine Exists.intro _ (And.intro rfl (And.intro rfl (And.intro (Nat.le_of_ble_eq_true rfl) ?_))))
      | (refine Exists.intro _ (And.intro rfl (And.intro rfl (And.intro rfl (And.intro (Nat.le_of_ble_eq_true rfl) ?_)))))
      | (refine And.intro (Exists.intro _ (And.intro rfl rfl)) ?_)
      | (exact fun hW => absurd hW (by decide +kernel))
      | (intro hW; (try simp only [Bool.not_true, Bool.not_false, Bool.not_eq_true', Bool.not_eq_false', decide_eq_true_eq, decide_eq_false_iff_not, reduceCtorEq, Bool.true_eq_false, Bool.false_eq_true, mk_size, List.size_toArray, ByteArray.size_append, ByteArray.size_extract, List.length_cons, List.length_nil, ba_get, ba_empty, Int.toNat_natCast] at hW))
      | (refine And.intro (?_ : _ → _) (?_ : _ → _))
      | (refine FinR.drop 0 (Nat.zero_le _) (Closed.zero _) rfl ?_)
      | (refine FinR.keep ?_)
      | (refine And.intro (det3_agg rfl) ?_)
      | (refine fL_mk ?_)
      | (refine And.intro (by (try simp only [mk_size, List.size_toArray, ByteArray.size_append, ByteArray.size_extract, List.length_cons, List.length_nil]); omega) ?_)
      | (refine And.intro (by (try simp only [mk_size, List.size_toArray, ByteArray.size_append, ByteArray.size_extract, List.length_cons, List.length_nil, wrap64_eq]); omega) ?_)
      | fail)
    all_goals first | (exfalso; omega) | exact h0
theorem d_eqRecS (a b : AV) (es : List Rec) (ha : Sli W0 σ 2 enR a es) (hb' : Sli W0 σ 2 enR b es) (hl : es.length ≤ 1048576) (K : Cont) (h0 : K (Bo true) σ) : ACall Tryd.prog W0 9 [a, b] σ K :=
  lift_RR (by kernel_rfl) (fun _ => rfl) ha hb' (fun W1 a' b' h h' K hK => c_eqRecS a' b' es h h' hl K hK) K h0
/-! texts of marks -/
def dgT : Nat → Nat → ByteArray → ByteArray
  | 0, _, out => out
  | f + 1, k, out => if k = 0 then out else dgT f (k / 10) (strOfNums [((48 + k % 10 : Nat) : Int)] ++ out)
def mkT (k : Nat) : ByteArray := ⟨#[109]⟩ ++ dgT (k + 1) k ⟨#[]⟩
theorem c_markText (k : Nat) (hk : 0 < k) (hk2 : k ≤ 1000000) (K : Cont) (h0 : K (St (mkT k)) []) : ACall Tryd.prog W0 19 [I k] [] K := by
  refine by19 (Nat.le_of_ble_eq_true rfl) ?_
  obtain ⟨D, hD⟩ : ∃ D, D = dgT (k + 1) k ⟨#[]⟩ := ⟨_, rfl⟩
  have h0 : K (St (⟨#[109]⟩ ++ D)) [] := by rw [hD]; exact h0
  repeat' ((conv => whnf); first
    | (refine And.intro rfl ?_)
    | (refine And.intro (by decide +kernel) ?_)
    | (refine And.intro trivial ?_)
    | (refine Exists.intro _ (And.intro rfl (And.intro rfl (And.intro (Nat.le_of_ble_eq_true rfl) ?_))))
    | (refine Exists.intro _ (And.intro rfl (And.intro rfl (And.intro rfl (And.intro (Nat.le_of_ble_eq_true rfl) ?_)))))
    | (refine And.intro (Exists.intro _ (And.intro rfl rfl)) ?_)
    | (exact fun hW => absurd hW (by decide +kernel))
    | (intro hW; (try simp only [Bool.not_true, Bool.not_false, Bool.not_eq_true', Bool.not_eq_false', decide_eq_true_eq, decide_eq_false_iff_not, reduceCtorEq, Bool.true_eq_false, Bool.false_eq_true, mk_size, List.size_toArray, ByteArray.size_append, ByteArray.size_extract, List.length_cons, List.length_nil, ba_get, ba_empty, Int.toNat_natCast] at hW))
    | (refine And.intro (?_ : _ → _) (?_ : _ → _))
    | (refine FinR.drop 0 (Nat.zero_le _) (Closed.zero _) rfl ?_)
    | (refine FinR.keep ?_)
    | (refine And.intro (det3_agg rfl) ?_)
    | (refine fL_mk ?_)
    | (refine And.intro (by (try simp only [mk_size, List.size_toArray, ByteArray.size_append, ByteArray.size_extract, List.length_cons, List.length_nil]); omega) ?_)
    | (refine And.intro (by (try simp only [mk_size, List.size_toArray, ByteArray.size_append, ByteArray.size_extract, List.length_cons, List.length_nil, wrap64_eq]); omega) ?_)
    | fail)
  all_goals first | (exfalso; omega) | skip
  refine LoopR.live (fun y : Nat × Nat × ByteArray => [(0, I y.2.1), (3, St y.2.2)]) (fun y => []) (fun y => y.2.1 < y.1 ∧ y.2.2.size + y.2.1 ≤ 1000000 ∧ dgT y.1 y.2.1 y.2.2 = D) (fun y => y.2.1) (k + 1, k, ⟨#[]⟩) ⟨rfl, rfl, trivial⟩ (.keep rfl) ⟨Nat.lt_succ_self _, by show 0 + k ≤ _; omega, hD.symm⟩ ?_
  rintro ⟨f, j, out⟩ ⟨hj, hj2, hd⟩
  dsimp only at hj hj2 hd ⊢
  by_cases hj0 : 0 < j
  · obtain ⟨f', rfl⟩ : ∃ f', f = f' + 1 := ⟨f - 1, by omega⟩
    unfold dgT at hd
    rw [if_neg (by omega)] at hd
    have e1 : ((j : Nat) : Int).tmod 10 = ((j % 10 : Nat) : Int) := by rw [Int.tmod_eq_emod_of_nonneg (by omega)]; rfl
    have e2 : IntKind.i64.wrap (((j : Nat) : Int).tdiv 10) = ((j / 10 : Nat) : Int) := by rw [Int.tdiv_eq_ediv_of_nonneg (by omega), wrap_i64 _ (by omega) (by omega)]; rfl
    have e3 : IntKind.u8.wrap (IntKind.i64.wrap (48 + ((j : Nat) : Int).tmod 10)) = ((48 + j % 10 : Nat) : Int) := by
      rw [e1, wrap_i64 _ (by omega) (by omega)]
      have : j % 10 < 10 := Nat.mod_lt _ (by omega)
      generalize j % 10 = m at this
      obtain rfl | rfl | rfl | rfl | rfl | rfl | rfl | rfl | rfl | rfl : m = 0 ∨ m = 1 ∨ m = 2 ∨ m = 3 ∨ m = 4 ∨ m = 5 ∨ m = 6 ∨ m = 7 ∨ m = 8 ∨ m = 9 := by omega
      all_goals rfl
    repeat' ((conv => whnf); first
      | (refine And.intro (show (((1 : Nat) + out.size : Nat) : Int) ≤ 9223372036854775807 by omega) ?_)
      | (refine And.intro rfl ?_)
      | (refine And.intro (by decide +kernel) ?_)
      | (refine And.intro trivial ?_)
      | (refine Exists.intro _ (Exists.intro [_] (And.intro rfl (And.intro rfl (And.intro (Nat.le_of_ble_eq_true rfl) (And.intro rfl ?_))))))
      | (refine Exists.intro _ (And.intro rfl (And.intro rfl (And.intro (Nat.le_of_ble_eq_true rfl) ?_))))
      | (refine Exists.intro _ (And.intro rfl (And.intro rfl (And.intro rfl (And.intro (Nat.le_of_ble_eq_true rfl) ?_)))))
      | (refine And.intro (Exists.intro _ (And.intro rfl rfl)) ?_)
      | (exact fun hW => absurd hW (by decide +kernel))
      | (intro hW; (try simp only [Bool.not_true, Bool.not_false, Bool.not_eq_true', Bool.not_eq_false', decide_eq_true_eq, decide_eq_false_iff_not, reduceCtorEq, Bool.true_eq_false, Bool.false_eq_true, mk_size, List.size_toArray, ByteArray.size_append, ByteArray.size_extract, List.length_cons, List.length_nil, ba_get, ba_empty, Int.toNat_natCast] at hW))
      | (refine And.intro (?_ : _ → _) (?_ : _ → _))
      | (refine FinR.drop 0 (Nat.zero_le _) (Closed.zero _) rfl ?_)
      | (refine FinR.keep ?_)
      | (refine And.intro (det3_agg rfl) ?_)
      | (refine fL_mk ?_)
      | (refine And.intro (by (try simp only [mk_size, List.size_toArray, ByteArray.size_append, ByteArray.size_extract, List.length_cons, List.length_nil]); omega) ?_)
      | (refine And.intro (by (try simp only [mk_size, List.size_toArray, ByteArray.size_append, ByteArray.size_extract, List.length_cons, List.length_nil, wrap64_eq]); omega) ?_)
      | fail)
    all_goals first | (exfalso; omega) | skip
    all_goals exact Again.go (f', j / 10, strOfNums [((48 + j % 10 : Nat) : Int)] ++ out) ⟨slI e2, (by show AV.lit (.string (strOfNums [IntKind.u8.wrap (IntKind.i64.wrap (48 + ((j : Nat) : Int).tmod 10))] ++ out)) = _; rw [e3]), trivial⟩ (.drop 0 (Nat.zero_le _) rfl (fun B hB => by cases hB) rfl) ⟨by dsimp only; omega, by show (strOfNums _ ++ out).size + j / 10 ≤ _; rw [ByteArray.size_append, strOfNums_size]; show (1 + out.size) + j / 10 ≤ _; omega, hd⟩ (by dsimp only; omega)
  · obtain rfl : j = 0 := by omega
    have hd : out = D := by
      cases f with
      | zero => exact hd
      | succ f => unfold dgT at hd; rw [if_pos rfl] at hd; exact hd
    subst hd
    repeat' ((conv => whnf); first
      | (refine And.intro (show (((1 : Nat) + out.size : Nat) : Int) ≤ 9223372036854775807 by omega) ?_)
      | (refine And.intro rfl ?_)
      | (refine And.intro (by decide +kernel) ?_)
      | (refine And.intro trivial ?_)
      | (refine Exists.intro _ (And.intro rfl (And.intro rfl (And.intro (Nat.le_of_ble_eq_true rfl) ?_))))
      | (refine Exists.intro _ (And.intro rfl (And.intro rfl (And.intro rfl (And.intro (Nat.le_of_ble_eq_true rfl) ?_)))))
      | (refine And.intro (Exists.intro _ (And.intro rfl rfl)) ?_)
      | (exact fun hW => absurd hW (by decide +kernel))
      | (intro hW; (try simp only [Bool.not_true, Bool.not_false, Bool.not_eq_true', Bool.not_eq_false', decide_eq_true_eq, decide_eq_false_iff_not, reduceCtorEq, Bool.true_eq_false, Bool.false_eq_true, mk_size, List.size_toArray, ByteArray.size_append, ByteArray.size_extract, List.length_cons, List.length_nil, ba_get, ba_empty, Int.toNat_natCast] at hW))
      | (refine And.intro (?_ : _ → _) (?_ : _ → _))
      | (refine FinR.drop 0 (Nat.zero_le _) (Closed.zero _) rfl ?_)
      | (refine FinR.keep ?_)
      | (refine And.intro (det3_agg rfl) ?_)
      | (refine fL_mk ?_)
      | (refine And.intro (by (try simp only [mk_size, List.size_toArray, ByteArray.size_append, ByteArray.size_extract, List.length_cons, List.length_nil]); omega) ?_)
      | (refine And.intro (by (try simp only [mk_size, List.size_toArray, ByteArray.size_append, ByteArray.size_extract, List.length_cons, List.length_nil, wrap64_eq]); omega) ?_)
      | fail)
    all_goals first | (exfalso; omega) | exact h0
theorem d_markText (k : Nat) (hk : 0 < k) (hk2 : k ≤ 1000000) (K : Cont) (h0 : K (St (mkT k)) σ) : ACall Tryd.prog W0 19 [I k] σ K :=
  ACall.lift rfl (fun _ => rfl) (fun W1 K _ hK => c_markText k hk hk2 K hK) h0
/-! marks in a list -/
def mkC (k : Nat) (i : Nat) : List AV := (List.range i).map fun j => St (mkT (k + j))
theorem mkC_len (k i : Nat) : (mkC k i).length = i := by simp [mkC]
def mSB (B : Blk) (k i : Nat) : Blk := { B with cells := mkC k i ++ B.cells.drop i }
theorem mSB_zero (B : Blk) (k : Nat) : mSB B k 0 = B := by simp [mSB, mkC]
theorem mSB_step {B : Blk} {k i : Nat} (h : i < B.cells.length) : ({ mSB B k i with cells := (mSB B k i).cells.take i ++ [St (mkT (k + i))] ++ (mSB B k i).cells.drop (i + 1) } : Blk) = mSB B k (i + 1) := by
  have hl := mkC_len k i
  have e1 : (mkC k i ++ B.cells.drop i).take i = mkC k i := by rw [List.take_left' hl]
  have e2 : (mkC k i ++ B.cells.drop i).drop (i + 1) = B.cells.drop (i + 1) := by
    rw [← List.drop_drop, List.drop_left' hl, List.drop_drop]
  have e3 : mkC k (i + 1) = mkC k i ++ [St (mkT (k + i))] := by simp [mkC, List.range_succ]
  unfold mSB
  dsimp only
  rw [e1, e2, e3]
theorem st_mkL {C : List Blk → Prop} {b ver : Nat} {B : Blk} {k : Nat} (hB : σ[b]? = some B) (hv : B.ver = ver) (m off : Nat) (ho : off = m) (hm : m < B.cells.length) (h : C (σ.set b (mSB B k (m + 1)))) :
    ∃ B', (σ.set b (mSB B k m))[b]? = some B' ∧ B'.ver = ver ∧ [St (mkT (k + m))].length = 1 ∧ off + 1 ≤ B'.cells.length ∧ fS ((σ.set b (mSB B k m)).set b { B' with cells := B'.cells.take off ++ [St (mkT (k + m))] ++ B'.cells.drop (off + 1) }) C := by
  subst ho
  refine ⟨_, get_setL hB, hv, rfl, ?_, ?_⟩
  · show off + 1 ≤ (mkC k off ++ B.cells.drop off).length
    rw [List.length_append, mkC_len, List.length_drop]; omega
  · rw [fS_eq, mSB_step hm, List.set_set]; exact h
theorem d_markRecS (b ver n cap : Nat) (B : Blk) (hB : σ[b]? = some B) (hv : B.ver = ver) (hn : n * 2 ≤ B.cells.length) (hn2 : n ≤ 1000) (k : Nat) (hk : 0 < k ∧ k ≤ 1000) (K : Cont) (h0 : K (I (k + n * 2 : Nat)) (σ.set b (mSB B k (n * 2)))) : ACall Tryd.prog W0 10 [.sl b ver 0 n cap, I k] σ K := by
  refine by10 (Nat.le_of_ble_eq_true rfl) ?_
  repeat' ((conv => whnf); first
    | (refine And.intro rfl ?_)
    | (refine And.intro (by decide +kernel) ?_)
    | (refine And.intro trivial ?_)
    | (refine Exists.intro _ (And.intro rfl (And.intro rfl (And.intro (Nat.le_of_ble_eq_true rfl) ?_))))
    | (refine Exists.intro _ (And.intro rfl (And.intro rfl (And.intro rfl (And.intro (Nat.le_of_ble_eq_true rfl) ?_)))))
    | (refine And.intro (Exists.intro _ (And.intro rfl rfl)) ?_)
    | (exact fun hW => absurd hW (by decide +kernel))
    | (intro hW; (try simp only [Bool.not_true, Bool.not_false, Bool.not_eq_true', Bool.not_eq_false', decide_eq_true_eq, decide_eq_false_iff_not, reduceCtorEq, Bool.true_eq_false, Bool.false_eq_true, mk_size, List.size_toArray, ByteArray.size_append, ByteArray.size_extract, List.length_cons, List.length_nil, ba_get, ba_empty, Int.toNat_natCast] at hW))
    | (refine And.intro (?_ : _ → _) (?_ : _ → _))
    | (refine FinR.drop 0 (Nat.zero_le _) (Closed.zero _) rfl ?_)
    | (refine FinR.keep ?_)
    | (refine And.intro (det3_agg rfl) ?_)
    | (refine fL_mk ?_)
    | (refine And.intro (by (try simp only [mk_size, List.size_toArray, ByteArray.size_append, ByteArray.size_extract, List.length_cons, List.length_nil]); omega) ?_)
    | (refine And.intro (by (try simp only [mk_size, List.size_toArray, ByteArray.size_append, ByteArray.size_extract, List.length_cons, List.length_nil, wrap64_eq]); omega) ?_)
    | fail)
  refine LoopR.live (fun i : Nat => [(0, .sl b ver 0 n cap), (1, I (k + i * 2 : Nat)), (5, I i)]) (fun i => σ.set b (mSB B k (i * 2))) (fun i => i ≤ n) (fun i => n - i) 0 ⟨rfl, slI (by omega), rfl, trivial⟩ (.keep (by show σ.set b (mSB B k (0 * 2)) = σ; rw [Nat.zero_mul, mSB_zero, set_selfL hB])) (Nat.zero_le _) ?_
  intro i hi
  have hcur : ∃ B', (σ.set b (mSB B k (i * 2)))[b]? = some B' ∧ B'.ver = ver := ⟨_, get_setL hB, hv⟩
  have hcur1 : ∃ B', (σ.set b (mSB B k (i * 2 + 1)))[b]? = some B' ∧ B'.ver = ver := ⟨_, get_setL hB, hv⟩
  by_cases hlt : i < n
  · have e1 : IntKind.i64.wrap (((k + i * 2 : Nat) : Int) + 1) = ((k + (i * 2 + 1) : Nat) : Int) := by rw [wrap_i64 _ (by omega) (by omega)]; omega
    have e2 : IntKind.i64.wrap (((k + (i * 2 + 1) : Nat) : Int) + 1) = ((k + (i + 1) * 2 : Nat) : Int) := by rw [wrap_i64 _ (by omega) (by omega)]; omega
    repeat' ((conv => whnf); first
      | (rw [e1])
      | (refine And.intro rfl ?_)
      | (refine And.intro (by decide +kernel) ?_)
      | (refine And.intro trivial ?_)
      | (refine And.intro hcur ?_)
      | (refine And.intro hcur1 ?_)
      | (refine d_markText (hk := by omega) (hk2 := by omega) (h0 := ?_) ..)
      | (refine Exists.intro _ (And.intro (fun τ => callW_fn (d_markText (hk := by omega) (hk2 := by omega) (h0 := And.intro rfl rfl) ..)) ?_))
      | (refine Exists.intro _ (And.intro (callW_fn (d_markText (hk := by omega) (hk2 := by omega) (h0 := And.intro rfl rfl) ..)) (And.intro trivial ?_)))
      | (refine Exists.intro _ (And.intro (callW_fn (d_markText (hk := by omega) (hk2 := by omega) (h0 := And.intro rfl rfl) ..)) ?_))
      | (refine Exists.intro _ (And.intro (fun τ _ => callW_fn (d_markText (hk := by omega) (hk2 := by omega) (h0 := And.intro rfl rfl) ..)) ?_))
      | (refine st_mkL hB hv (i * 2) _ (by rw [Int.toNat_natCast]; omega) (by omega) ?_)
      | (refine st_mkL hB hv (i * 2 + 1) _ (by rw [Int.toNat_natCast]; omega) (by omega) ?_)
      | (refine Exists.intro _ (And.intro rfl (And.intro rfl (And.intro (Nat.le_of_ble_eq_true rfl) ?_))))
      | (refine Exists.intro _ (And.intro rfl (And.intro rfl (And.intro rfl (And.intro (Nat.le_of_ble_eq_true rfl) ?_)))))
      | (refine And.intro (Exists.intro _ (And.intro rfl rfl)) ?_)
      | (exact fun hW => absurd hW (by decide +kernel))
      | (intro hW; (try simp only [Bool.not_true, Bool.not_false, Bool.not_eq_true', Bool.not_eq_false', decide_eq_true_eq, decide_eq_false_iff_not, reduceCtorEq, Bool.true_eq_false, Bool.false_eq_true, mk_size, List.size_toArray, ByteArray.size_append, ByteArray.size_extract, List.length_cons, List.length_nil, ba_get, ba_empty, Int.toNat_natCast] at hW))
      | (refine And.intro (?_ : _ → _) (?_ : _ → _))
      | (refine FinR.drop 0 (Nat.zero_le _) (Closed.zero _) rfl ?_)
      | (refine FinR.keep ?_)
      | (refine And.intro (det3_agg rfl) ?_)
      | (refine fL_mk ?_)
      | (refine And.intro (by (try simp only [mk_size, List.size_toArray, ByteArray.size_append, ByteArray.size_extract, List.length_cons, List.length_nil]); omega) ?_)
      | (refine And.intro (by (try simp only [mk_size, List.size_toArray, ByteArray.size_append, ByteArray.size_extract, List.length_cons, List.length_nil, wrap64_eq]); omega) ?_)
      | fail)
    all_goals first | (exfalso; omega) | skip
    all_goals exact Again.go (i + 1) ⟨rfl, slI e2, slI (wsuccL i (by omega)), trivial⟩ (.keep (by rw [Nat.add_mul])) (by omega) (by omega)
  · obtain rfl : i = n := by omega
    repeat' ((conv => whnf); first
      | (refine And.intro rfl ?_)
      | (refine And.intro (by decide +kernel) ?_)
      | (refine And.intro trivial ?_)
      | (refine And.intro hcur ?_)
      | (refine Exists.intro _ (And.intro rfl (And.intro rfl (And.intro (Nat.le_of_ble_eq_true rfl) ?_))))
      | (refine Exists.intro _ (And.intro rfl (And.intro rfl (And.intro rfl (And.intro (Nat.le_of_ble_eq_true rfl) ?_)))))
      | (refine And.intro (Exists.intro _ (And.intro rfl rfl)) ?_)
      | (exact fun hW => absurd hW (by decide +kernel))
      | (intro hW; (try simp only [Bool.not_true, Bool.not_false, Bool.not_eq_true', Bool.not_eq_false', decide_eq_true_eq, decide_eq_false_iff_not, reduceCtorEq, Bool.true_eq_false, Bool.false_eq_true, mk_size, List.size_toArray, ByteArray.size_append, ByteArray.size_extract, List.length_cons, List.length_nil, ba_get, ba_empty, Int.toNat_natCast] at hW))
      | (refine And.intro (?_ : _ → _) (?_ : _ → _))
      | (refine FinR.drop 0 (Nat.zero_le _) (Closed.zero _) rfl ?_)
      | (refine FinR.keep ?_)
      | (refine And.intro (det3_agg rfl) ?_)
      | (refine fL_mk ?_)
      | (refine And.intro (by (try simp only [mk_size, List.size_toArray, ByteArray.size_append, ByteArray.size_extract, List.length_cons, List.length_nil]); omega) ?_)
      | (refine And.intro (by (try simp only [mk_size, List.size_toArray, ByteArray.size_append, ByteArray.size_extract, List.length_cons, List.length_nil, wrap64_eq]); omega) ?_)
      | fail)
    all_goals first | (exfalso; omega) | exact h0
def mkR (k n : Nat) : List Rec := (List.range n).map fun i => (mkT (k + i * 2), mkT (k + (i * 2 + 1)))
theorem mkR_len (k n : Nat) : (mkR k n).length = n := by simp [mkR]
theorem mkR_get (k : Nat) {n i : Nat} (h : i < n) : (mkR k n)[i]? = some (mkT (k + i * 2), mkT (k + (i * 2 + 1))) := by simp [mkR, h]
theorem mkC_get (k : Nat) {m j : Nat} (h : j < m) (X : List AV) : (mkC k m ++ X)[j]? = some (St (mkT (k + j))) := by
  rw [List.getElem?_append_left (by rw [mkC_len]; exact h)]; simp [mkC, h]
theorem sli_mk {b ver n cap k m : Nat} {B : Blk} (hm : m = n * 2) (hB : σ[b]? = some (mSB B k m)) (hv : B.ver = ver) : Sli W0 σ 2 enR (.sl b ver 0 n cap) (mkR k n) :=
  .own b ver 0 _ cap _ _ hB hv (mkR_len k n).symm fun i x hi j v hj => by
    subst hm
    have hlt : i < n := by have := getElem?_lt hi; rwa [mkR_len] at this
    rw [mkR_get k hlt] at hi
    cases hi
    match j, hj with
    | 0, hj => cases hj; show (mkC k (n * 2) ++ _)[0 + i * 2 + 0]? = _; rw [show 0 + i * 2 + 0 = i * 2 by omega]; exact mkC_get k (by omega) _
    | 1, hj => cases hj; show (mkC k (n * 2) ++ _)[0 + i * 2 + 1]? = _; rw [show 0 + i * 2 + 1 = i * 2 + 1 by omega]; exact mkC_get k (by omega) _
theorem c_heldRecS (a : AV) (n k : Nat) (ha : Sli W0 [] 2 enR a (mkR k n)) (hn2 : n ≤ 1000) (hk : 0 < k ∧ k ≤ 1000) (K : Cont) (h0 : K (I (k + n * 2 : Nat)) []) : ACall Tryd.prog W0 11 [a, I k] [] K := by
  refine by11 (Nat.le_of_ble_eq_true rfl) ?_
  have hl := mkR_len k n
  generalize hm : mkR k n = xs at ha hl
  obtain ⟨o, n', cap, rfl, hn, hc, hcm, hf⟩ := sli_formL ha
  rw [hl] at hn
  subst hn
  repeat' ((conv => whnf); first
    | (refine And.intro rfl ?_)
    | (refine And.intro (by decide +kernel) ?_)
    | (refine And.intro trivial ?_)
    | (refine Exists.intro _ (And.intro rfl (And.intro rfl (And.intro (Nat.le_of_ble_eq_true rfl) ?_))))
    | (refine Exists.intro _ (And.intro rfl (And.intro rfl (And.intro rfl (And.intro (Nat.le_of_ble_eq_true rfl) ?_)))))
    | (refine And.intro (Exists.intro _ (And.intro rfl rfl)) ?_)
    | (exact fun hW => absurd hW (by decide +kernel))
    | (intro hW; (try simp only [Bool.not_true, Bool.not_false, Bool.not_eq_true', Bool.not_eq_false', decide_eq_true_eq, decide_eq_false_iff_not, reduceCtorEq, Bool.true_eq_false, Bool.false_eq_true, mk_size, List.size_toArray, ByteArray.size_append, ByteArray.size_extract, List.length_cons, List.length_nil, ba_get, ba_empty, Int.toNat_natCast] at hW))
    | (refine And.intro (?_ : _ → _) (?_ : _ → _))
    | (refine FinR.drop 0 (Nat.zero_le _) (Closed.zero _) rfl ?_)
    | (refine FinR.keep ?_)
    | (refine And.intro (det3_agg rfl) ?_)
    | (refine fL_mk ?_)
    | (refine And.intro (by (try simp only [mk_size, List.size_toArray, ByteArray.size_append, ByteArray.size_extract, List.length_cons, List.length_nil]); omega) ?_)
    | (refine And.intro (by (try simp only [mk_size, List.size_toArray, ByteArray.size_append, ByteArray.size_extract, List.length_cons, List.length_nil, wrap64_eq]); omega) ?_)
    | fail)
  refine LoopR.live (fun i : Nat => [(0, .lit (.slice o n' cap)), (1, I (k + i * 2 : Nat)), (5, I i)]) (fun i => []) (fun i => i ≤ n') (fun i => n' - i) 0 ⟨rfl, slI (by omega), rfl, trivial⟩ (.keep rfl) (Nat.zero_le _) ?_
  intro i hi
  by_cases hlt : i < n'
  · have hxi : xs[i]? = some (mkT (k + i * 2), mkT (k + (i * 2 + 1))) := by rw [← hm, mkR_get k hlt]
    obtain ⟨ad, rfl, hb, hxx⟩ := hf i _ hxi
    have hld0 := fun C h => ldInF (W0 := W0) (s := 2) (enc := enR) hb hxx (k := i) hxi 0 1 rfl (C := C) h
    have hld1 := fun C h => ldInF (W0 := W0) (s := 2) (enc := enR) hb hxx (k := i) hxi 1 1 rfl (C := C) h
    have e1 : IntKind.i64.wrap (((k + i * 2 : Nat) : Int) + 1) = ((k + (i * 2 + 1) : Nat) : Int) := by rw [wrap_i64 _ (by omega) (by omega)]; omega
    have e2 : IntKind.i64.wrap (((k + (i * 2 + 1) : Nat) : Int) + 1) = ((k + (i + 1) * 2 : Nat) : Int) := by rw [wrap_i64 _ (by omega) (by omega)]; omega
    repeat' ((conv => whnf); first
      | (rw [e1])
      | (refine And.intro rfl ?_)
      | (refine And.intro (by decide +kernel) ?_)
      | (refine And.intro trivial ?_)
      | (refine hld0 _ ?_)
      | (refine hld1 _ ?_)
      | (refine d_markText (hk := by omega) (hk2 := by omega) (h0 := ?_) ..)
      | (refine Exists.intro _ (And.intro (fun τ => callW_fn (d_markText (hk := by omega) (hk2 := by omega) (h0 := And.intro rfl rfl) ..)) ?_))
      | (refine Exists.intro _ (And.intro (callW_fn (d_markText (hk := by omega) (hk2 := by omega) (h0 := And.intro rfl rfl) ..)) (And.intro trivial ?_)))
      | (refine Exists.intro _ (And.intro (callW_fn (d_markText (hk := by omega) (hk2 := by omega) (h0 := And.intro rfl rfl) ..)) ?_))
      | (refine Exists.intro _ (And.intro (fun τ _ => callW_fn (d_markText (hk := by omega) (hk2 := by omega) (h0 := And.intro rfl rfl) ..)) ?_))
      | (refine Exists.intro _ (And.intro rfl (And.intro rfl (And.intro (Nat.le_of_ble_eq_true rfl) ?_))))
      | (refine Exists.intro _ (And.intro rfl (And.intro rfl (And.intro rfl (And.intro (Nat.le_of_ble_eq_true rfl) ?_)))))
      | (refine And.intro (Exists.intro _ (And.intro rfl rfl)) ?_)
      | (exact fun hW => absurd hW (by decide +kernel))
      | (intro hW; (try simp only [Bool.not_true, Bool.not_false, Bool.not_eq_true', Bool.not_eq_false', decide_eq_true_eq, decide_eq_false_iff_not, reduceCtorEq, Bool.true_eq_false, Bool.false_eq_true, mk_size, List.size_toArray, ByteArray.size_append, ByteArray.size_extract, List.length_cons, List.length_nil, ba_get, ba_empty, Int.toNat_natCast] at hW))
      | (refine And.intro (?_ : _ → _) (?_ : _ → _))
      | (refine FinR.drop 0 (Nat.zero_le _) (Closed.zero _) rfl ?_)
      | (refine FinR.keep ?_)
      | (refine And.intro (det3_agg rfl) ?_)
      | (refine fL_mk ?_)
      | (refine And.intro (by (try simp only [mk_size, List.size_toArray, ByteArray.size_append, ByteArray.size_extract, List.length_cons, List.length_nil]); omega) ?_)
      | (refine And.intro (by (try simp only [mk_size, List.size_toArray, ByteArray.size_append, ByteArray.size_extract, List.length_cons, List.length_nil, wrap64_eq]); omega) ?_)
      | fail)
    all_goals first | (exfalso; omega) | (exfalso; exact hW rfl) | (exfalso; simp_all; done) | skip
    all_goals exact Again.go (i + 1) ⟨rfl, slI e2, slI (wsuccL i (by omega)), trivial⟩ (.keep rfl) (by omega) (by omega)
  · obtain rfl : i = n' := by omega
    repeat' ((conv => whnf); first
      | (refine And.intro rfl ?_)
      | (refine And.intro (by decide +kernel) ?_)
      | (refine And.intro trivial ?_)
      | (refine Exists.intro _ (And.intro rfl (And.intro rfl (And.intro (Nat.le_of_ble_eq_true rfl) ?_))))
      | (refine Exists.intro _ (And.intro rfl (And.intro rfl (And.intro rfl (And.intro (Nat.le_of_ble_eq_true rfl) ?_)))))
      | (refine And.intro (Exists.intro _ (And.intro rfl rfl)) ?_)
      | (exact fun hW => absurd hW (by decide +kernel))
      | (intro hW; (try simp only [Bool.not_true, Bool.not_false, Bool.not_eq_true', Bool.not_eq_false', decide_eq_true_eq, decide_eq_false_iff_not, reduceCtorEq, Bool.true_eq_false, Bool.false_eq_true, mk_size, List.size_toArray, ByteArray.size_append, ByteArray.size_extract, List.length_cons, List.length_nil, ba_get, ba_empty, Int.toNat_natCast] at hW))
      | (refine And.intro (?_ : _ → _) (?_ : _ → _))
      | (refine FinR.drop 0 (Nat.zero_le _) (Closed.zero _) rfl ?_)
      | (refine FinR.keep ?_)
      | (refine And.intro (det3_agg rfl) ?_)
      | (refine fL_mk ?_)
      | (refine And.intro (by (try simp only [mk_size, List.size_toArray, ByteArray.size_append, ByteArray.size_extract, List.length_cons, List.length_nil]); omega) ?_)
      | (refine And.intro (by (try simp only [mk_size, List.size_toArray, ByteArray.size_append, ByteArray.size_extract, List.length_cons, List.length_nil, wrap64_eq]); omega) ?_)
      | fail)
    all_goals first | (exfalso; omega) | exact h0
theorem d_heldRecS (a : AV) (n k : Nat) (ha : Sli W0 σ 2 enR a (mkR k n)) (hn2 : n ≤ 1000) (hk : 0 < k ∧ k ≤ 1000) (K : Cont) (h0 : K (I (k + n * 2 : Nat)) σ) : ACall Tryd.prog W0 11 [a, I k] σ K :=
  lift_RI (by kernel_rfl) (fun _ => rfl) ha (fun W1 a' h K hK => c_heldRecS a' n k h hn2 hk K hK) K h0
end Go.Proofs.YtlmplfgnhibfcaaDoor
