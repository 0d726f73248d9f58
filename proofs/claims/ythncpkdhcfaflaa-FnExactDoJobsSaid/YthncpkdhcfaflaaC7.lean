/- Contract: how many cells of a sheet are black. -/
import Derived.Test.YthncpkdhcfaflaaC6
set_option linter.unusedVariables false
set_option linter.unusedSimpArgs false
namespace Go.Proofs.Ythncpkdhcfaflaa
open Go Go.RowKit Go.Proofs.Ythncpkdhcfaflaa.Abs
variable {W0 : World} {σ : List Blk}
/-- the ones of a row -/
def pcz (r : Int) : Int := (ones 6 r.toNat : Nat)
theorem pcz_step : ∀ r : Nat, r < 64 → ones 6 r = r % 2 + ones 6 (r / 2) ∧ ones 6 r ≤ 6 := by decide +kernel
def frC (fr : Fr) (r acc : Int) : Fr := fun t => if t = 3 then I acc else if t = 5 then I r else if Nat.ble 14 t && Nat.ble t 21 then .junk else fr t
theorem tmod2 (r : Int) (h : 0 ≤ r) : r.tmod 2 = r % 2 := Int.tmod_eq_emod_of_nonneg h
theorem tdiv2 (r : Int) (h : 0 ≤ r) : r.tdiv 2 = r / 2 := Int.tdiv_eq_ediv_of_nonneg h
def innerC : RC := .seq (.seq (.reg [.op (some 14) (.mv (.t 5)), .op (some 15) (.binI .gtr (.t 14) (.v (.lit (.int .i64 (0)))))]) (.cond (.t 15) .skip (.exit 2)))
  (.seq (.block 3 (.reg [.op (some 18) (.mv (.t 3)), .op (some 19) (.mv (.t 5)), .op (some 20) (.binI .rem (.t 19) (.v (.lit (.int .i64 (2))))), .op (some 21) (.binI .add (.t 18) (.t 20)), .op (some 3) (.mv (.t 21))]))
    (.reg [.op (some 16) (.mv (.t 5)), .op (some 17) (.binI .quo (.t 16) (.v (.lit (.int .i64 (2))))), .op (some 5) (.mv (.t 17))]))
theorem body_l2Count {b0 : Nat} {fr : Fr} {σ : List Blk} (r acc : Int) (Q : CPost) (hr0 : 0 ≤ r) (hr : r < 64) (ha0 : 0 ≤ acc) (ha : acc ≤ 1006) (h1 : r = 0 → Q (.exit 2) (upd (upd (frC fr 0 acc) 14 (I 0)) 15 (Bo false)) σ)
    (h2 : 0 < r → ∀ fr', (∀ t, frC fr (r / 2) (acc + r % 2) t = .junk ∨ frC fr (r / 2) (acc + r % 2) t = fr' t) → Q .normal fr' σ) : rW Try.prog W0 b0 innerC (frC fr r acc) σ Q := by
  have e1 : IntKind.i64.wrap (acc + r.tmod 2) = acc + r % 2 := by rw [tmod2 r hr0]; exact wrap_i64 _ (by omega) (by omega)
  have e2 : IntKind.i64.wrap (r.tdiv 2) = r / 2 := by rw [tdiv2 r hr0]; exact wrap_i64 _ (by omega) (by omega)
  by_cases h : r = 0
  · subst h
    repeat' ((conv => whnf); first
      | (refine And.intro rfl ?_)
      | (refine And.intro (by decide +kernel) ?_)
      | (refine And.intro trivial ?_)
      | (refine Exists.intro _ (And.intro rfl (And.intro rfl (And.intro (Nat.le_of_ble_eq_true rfl) ?_))))
      | (refine Exists.intro _ (And.intro rfl (And.intro rfl (And.intro rfl (And.intro (Nat.le_of_ble_eq_true rfl) ?_)))))
      | (refine And.intro (Exists.intro _ (And.intro rfl rfl)) ?_)
      | (exact fun hW => absurd hW (by decide +kernel))
      | (intro hW; (try simp only [Bool.not_true, Bool.not_false, Bool.not_eq_true', Bool.not_eq_false', decide_eq_true_eq, decide_eq_false_iff_not, reduceCtorEq, Bool.true_eq_false, Bool.false_eq_true, mk_size, List.size_toArray, ByteArray.size_append, ByteArray.size_extract, List.length_cons, List.length_nil, ba_get, ba_empty, Int.toNat_natCast] at hW))
      | (refine And.intro (?_ : _ → _) (?_ : _ → _))
      | (refine FinR.drop 0 (Nat.zero_le _) (Closed.zero _) rfl ?_)
      | (refine FinR.keep ?_)
      | (refine And.intro (det3_agg rfl) ?_)
      | (refine fL_mk ?_)
      | (refine And.intro (by (try simp only [mk_size, List.size_toArray, ByteArray.size_append, ByteArray.size_extract, List.length_cons, List.length_nil]); omega) ?_)
      | (refine And.intro (by (try simp only [mk_size, List.size_toArray, ByteArray.size_append, ByteArray.size_extract, List.length_cons, List.length_nil, wrap64_eq]); omega) ?_)
      | fail)
    exact h1 rfl
  · skip
    repeat' ((conv => whnf); first
      | (refine And.intro rfl ?_)
      | (refine And.intro (by decide +kernel) ?_)
      | (refine And.intro trivial ?_)
      | (refine Exists.intro _ (And.intro rfl (And.intro rfl (And.intro (Nat.le_of_ble_eq_true rfl) ?_))))
      | (refine Exists.intro _ (And.intro rfl (And.intro rfl (And.intro rfl (And.intro (Nat.le_of_ble_eq_true rfl) ?_)))))
      | (refine And.intro (Exists.intro _ (And.intro rfl rfl)) ?_)
      | (exact fun hW => absurd hW (by decide +kernel))
      | (intro hW; (try simp only [Bool.not_true, Bool.not_false, Bool.not_eq_true', Bool.not_eq_false', decide_eq_true_eq, decide_eq_false_iff_not, reduceCtorEq, Bool.true_eq_false, Bool.false_eq_true, mk_size, List.size_toArray, ByteArray.size_append, ByteArray.size_extract, List.length_cons, List.length_nil, ba_get, ba_empty, Int.toNat_natCast] at hW))
      | (refine And.intro (?_ : _ → _) (?_ : _ → _))
      | (refine FinR.drop 0 (Nat.zero_le _) (Closed.zero _) rfl ?_)
      | (refine FinR.keep ?_)
      | (refine And.intro (det3_agg rfl) ?_)
      | (refine fL_mk ?_)
      | (refine And.intro (by (try simp only [mk_size, List.size_toArray, ByteArray.size_append, ByteArray.size_extract, List.length_cons, List.length_nil]); omega) ?_)
      | (refine And.intro (by (try simp only [mk_size, List.size_toArray, ByteArray.size_append, ByteArray.size_extract, List.length_cons, List.length_nil, wrap64_eq]); omega) ?_)
      | fail)
    · refine h2 (by omega) _ fun t => ?_
      rw [← e1, ← e2]
      simp only [frC, updO, upd]
      by_cases t3 : t = 3
      · subst t3; exact .inr rfl
      · by_cases t5 : t = 5
        · subst t5; exact .inr rfl
        · by_cases tj : (Nat.ble 14 t && Nat.ble t 21) = true
          · simp [t3, t5, tj]
          · have : t ≠ 14 ∧ t ≠ 15 ∧ t ≠ 16 ∧ t ≠ 17 ∧ t ≠ 18 ∧ t ≠ 19 ∧ t ≠ 20 ∧ t ≠ 21 := by
              refine ⟨?_, ?_, ?_, ?_, ?_, ?_, ?_, ?_⟩ <;> (intro e; subst e; exact tj rfl)
            simp [t3, t5, tj, this]
    · omega
theorem inner_l2Count {b0 : Nat} {fr : Fr} {Q : CPost} (acc r : Int) (hr0 : 0 ≤ r) (hr : r < 64) (ha0 : 0 ≤ acc) (ha : acc ≤ 1000) (h3 : fr 3 = I acc) (h5 : fr 5 = I r)
    (hq : Q (.exit 2) (upd (upd (frC fr 0 (acc + pcz r)) 14 (I 0)) 15 (Bo false)) σ) : LoopR b0 (fun fr σ Q => rW Try.prog W0 b0 innerC fr σ Q) fr σ Q := by
  refine LoopR.inv ⟨fun m fr' σ' => ∃ r' acc' : Int, fr' = frC fr r' acc' ∧ σ' = σ ∧ 0 ≤ r' ∧ r' < 64 ∧ m = r'.toNat ∧ 0 ≤ acc' ∧ acc' + pcz r' = acc + pcz r, r.toNat, frC fr r acc, σ, .inl ⟨rfl, fun t => ?_⟩, ⟨r, acc, rfl, rfl, hr0, hr, rfl, ha0, rfl⟩, ?_⟩
  · unfold frC
    split
    · rename_i e; right; rw [e, h3]
    · split
      · rename_i e; right; rw [e, h5]
      · split
        · exact .inl rfl
        · exact .inr rfl
  · rintro m fr' σ' ⟨r', acc', rfl, rfl, k1, k2, rfl, k3, k4⟩
    have hp : pcz r ≤ 6 := by unfold pcz; have := (pcz_step r.toNat (by omega)).2; omega
    have hp' : 0 ≤ pcz r' := by unfold pcz; omega
    refine body_l2Count r' acc' _ k1 k2 k3 (by omega) (fun e => ?_) (fun e fr'' hfr => ?_)
    · subst e
      have : acc' = acc + pcz r := by rw [← k4]; simp [pcz, ones]
      subst this
      exact hq
    · refine ⟨(r' / 2).toNat, frC fr (r' / 2) (acc' + r' % 2), σ', by omega, .inl ⟨rfl, hfr⟩, r' / 2, acc' + r' % 2, rfl, rfl, by omega, by omega, rfl, by omega, ?_⟩
      rw [← k4]
      unfold pcz
      have h1 := (pcz_step r'.toNat (by omega)).1
      rw [show (r' / 2).toNat = r'.toNat / 2 by omega]
      omega
theorem pcz_bd (r : Int) (h0 : 0 ≤ r) (h1 : r < 64) : 0 ≤ pcz r ∧ pcz r ≤ 6 := by
  unfold pcz; have := (pcz_step r.toNat (by omega)).2; omega
set_option maxRecDepth 100000 in
theorem c_l2Count (a b c d e f : Int) (ha : 0 ≤ a ∧ a < 64) (hb : 0 ≤ b ∧ b < 64) (hc : 0 ≤ c ∧ c < 64) (hd : 0 ≤ d ∧ d < 64) (he : 0 ≤ e ∧ e < 64) (hf : 0 ≤ f ∧ f < 64) (K : Cont) (h0 : K (I (0 + pcz a + pcz b + pcz c + pcz d + pcz e + pcz f)) []) : ACall Try.prog W0 52 [Sh a b c d e f] [] K := by
  refine by52 (Nat.le_of_ble_eq_true rfl) ?_
  have pa := pcz_bd a ha.1 ha.2
  have pb := pcz_bd b hb.1 hb.2
  have pc := pcz_bd c hc.1 hc.2
  have pd := pcz_bd d hd.1 hd.2
  have pe := pcz_bd e he.1 he.2
  have pf := pcz_bd f hf.1 hf.2
  repeat' ((conv => whnf); first
    | (refine And.intro rfl ?_)
    | (refine And.intro (by decide +kernel) ?_)
    | (refine And.intro trivial ?_)
    | (refine Exists.intro _ (And.intro rfl (And.intro rfl (And.intro (Nat.le_of_ble_eq_true rfl) ?_))))
    | (refine Exists.intro _ (And.intro rfl (And.intro rfl (And.intro rfl (And.intro (Nat.le_of_ble_eq_true rfl) ?_)))))
    | (refine And.intro (Exists.intro _ (And.intro rfl rfl)) ?_)
    | (exact fun hW => absurd hW (by decide +kernel))
    | (intro hW; (try simp only [Bool.not_true, Bool.not_false, Bool.not_eq_true', Bool.not_eq_false', decide_eq_true_eq, decide_eq_false_iff_not, reduceCtorEq, Bool.true_eq_false, Bool.false_eq_true, mk_size, List.size_toArray, ByteArray.size_append, ByteArray.size_extract, List.length_cons, List.length_nil, ba_get, ba_empty, Int.toNat_natCast] at hW))
    | (refine And.intro (?_ : _ → _) (?_ : _ → _))
    | (refine FinR.drop 0 (Nat.zero_le _) (Closed.zero _) rfl ?_)
    | (refine FinR.keep ?_)
    | (refine And.intro (det3_agg rfl) ?_)
    | (refine fL_mk ?_)
    | (refine And.intro (by (try simp only [mk_size, List.size_toArray, ByteArray.size_append, ByteArray.size_extract, List.length_cons, List.length_nil]); omega) ?_)
    | (refine And.intro (by (try simp only [mk_size, List.size_toArray, ByteArray.size_append, ByteArray.size_extract, List.length_cons, List.length_nil, wrap64_eq]); omega) ?_)
    | fail)
  refine LoopR.unroll 7 ?_
  repeat' ((conv => whnf); first
    | (refine And.intro rfl ?_)
    | (refine And.intro (by decide +kernel) ?_)
    | (refine And.intro trivial ?_)
    | (refine inner_l2Count _ _ (by omega) (by omega) (by omega) (by omega) rfl rfl ?_)
    | (refine Exists.intro _ (And.intro rfl (And.intro rfl (And.intro (Nat.le_of_ble_eq_true rfl) ?_))))
    | (refine Exists.intro _ (And.intro rfl (And.intro rfl (And.intro rfl (And.intro (Nat.le_of_ble_eq_true rfl) ?_)))))
    | (refine And.intro (Exists.intro _ (And.intro rfl rfl)) ?_)
    | (exact fun hW => absurd hW (by decide +kernel))
    | (intro hW; (try simp only [Bool.not_true, Bool.not_false, Bool.not_eq_true', Bool.not_eq_false', decide_eq_true_eq, decide_eq_false_iff_not, reduceCtorEq, Bool.true_eq_false, Bool.false_eq_true, mk_size, List.size_toArray, ByteArray.size_append, ByteArray.size_extract, List.length_cons, List.length_nil, ba_get, ba_empty, Int.toNat_natCast] at hW))
    | (refine And.intro (?_ : _ → _) (?_ : _ → _))
    | (refine FinR.drop 0 (Nat.zero_le _) (Closed.zero _) rfl ?_)
    | (refine FinR.keep ?_)
    | (refine And.intro (det3_agg rfl) ?_)
    | (refine fL_mk ?_)
    | (refine And.intro (by (try simp only [mk_size, List.size_toArray, ByteArray.size_append, ByteArray.size_extract, List.length_cons, List.length_nil]); omega) ?_)
    | (refine And.intro (by (try simp only [mk_size, List.size_toArray, ByteArray.size_append, ByteArray.size_extract, List.length_cons, List.length_nil, wrap64_eq]); omega) ?_)
    | fail)
  all_goals exact h0
theorem d_l2Count (a b c d e f : Int) (ha : 0 ≤ a ∧ a < 64) (hb : 0 ≤ b ∧ b < 64) (hc : 0 ≤ c ∧ c < 64) (hd : 0 ≤ d ∧ d < 64) (he : 0 ≤ e ∧ e < 64) (hf : 0 ≤ f ∧ f < 64) (K : Cont) (h0 : K (I (0 + pcz a + pcz b + pcz c + pcz d + pcz e + pcz f)) σ) : ACall Try.prog W0 52 [Sh a b c d e f] σ K :=
  ACall.lift rfl (fun _ => rfl) (fun W1 K _ hK => c_l2Count a b c d e f ha hb hc hd he hf K hK) h0
end Go.Proofs.Ythncpkdhcfaflaa
