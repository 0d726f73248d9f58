/- Contracts: the records that a text begins with, by the reference. -/
import Derived.Test.YtlmplfgnhibfcaaDoorRd
set_option linter.unusedVariables false
set_option linter.unusedSimpArgs false
set_option maxRecDepth 100000
set_option maxHeartbeats 4000000
namespace Go.Proofs.YtlmplfgnhibfcaaDoor
open Go Go.RowKit Go.Proofs.YtlmplfgnhibfcaaDoor.Abs
variable {W0 : World} {σ : List Blk}
theorem d_l12Decode (s : ByteArray) (k : Nat) (hk : k < 60) (hs : s.size < 1000000) (K : Cont) (h0 : ∀ c r b, (b = true → recB c r = true ∧ lineB k c r = s ++ ⟨#[10]⟩) → (b = false → ¬ ∃ c r, recB c r = true ∧ lineB k c r = s ++ ⟨#[10]⟩) → K (.tup [Rc c r, Bo b]) σ) : ACall Tryd.prog W0 22 [St s, I k] σ K := by
  refine ACall.frame (K0 := fun v σ' => ∃ c r b, (b = true → recB c r = true ∧ lineB k c r = s ++ ⟨#[10]⟩) ∧ (b = false → ¬ ∃ c r, recB c r = true ∧ lineB k c r = s ++ ⟨#[10]⟩) ∧ v = .tup [Rc c r, Bo b] ∧ σ' = []) rfl (fun W1 _ => c_l12Decode s k hk hs _ fun c r b h1 h2 => ⟨c, r, b, h1, h2, rfl, rfl⟩) ?_
  rintro v σ' ⟨c, r, b, h1, h2, rfl, rfl⟩
  have := h0 c r b h1 h2
  have e : σ ++ shB σ.length [] = σ := by simp [shB]
  rw [e]; exact this
theorem wrap_sum (n m : Nat) (h : n + m < 1000000000) : IntKind.i64.wrap (IntKind.i64.wrap ((n : Int) + (m : Int)) + 1) = ((n + m + 1 : Nat) : Int) := by
  simp only [wrap64_eq]; omega
structure OpX where
  es : List Rec
  n : Nat
  ver : Nat
  cap : Nat
theorem c_l12Open (s : ByteArray) (hs : s.size < 1000000) (K : Cont) (h0 : ∀ es n ver cap, Reads (tl s) es n → K (.tup [.sl 0 ver 0 es.length cap, I (n : Nat)]) [⟨rcells es, ver, 44, 2, true, true⟩]) : ACall Tryd.prog W0 15 [St s] [] K := by
  refine by15 (Nat.le_of_ble_eq_true rfl) ?_
  have tls := tl_len s
  repeat' ((conv => whnf); first
    | (refine And.intro rfl ?_)
    | (refine And.intro (by decide +kernel) ?_)
    | (refine And.intro trivial ?_)
    | (refine Exists.intro _ (And.intro rfl (And.intro rfl (And.intro (Nat.le_of_ble_eq_true rfl) ?_))))
    | (refine Exists.intro _ (And.intro rfl (And.intro rfl (And.intro rfl (And.intro (Nat.le_of_ble_eq_true rfl) ?_)))))
    | (refine And.intro (Exists.intro _ (And.intro rfl rfl)) ?_)
    | (exact fun hW => absurd hW (by decide +kernel))
    | (intro hW; (try simp only [Bool.not_true, Bool.not_false, Bool.not_eq_true', Bool.not_eq_false', decide_eq_true_eq, decide_eq_false_iff_not, reduceCtorEq, Bool.true_eq_false, Bool.false_eq_true, mk_size, List.size_toArray, ByteArray.size_append, ByteArray.size_extract, List.length_cons, List.length_nil, ba_get, ba_empty, Int.toNat_natCast] at hW))
    | (refine And.intro (?_ : _ → _) (?_ : _ → _))
    | (refine FinR.drop 0 (Nat.zero_le _) (Closed.zero _) rfl ?_)
    | (refine FinR.keep ?_)
    | (refine And.intro (det3_agg rfl) ?_)
    | (refine fL_mk ?_)
    | (refine And.intro (by (try simp only [mk_size, List.size_toArray, ByteArray.size_append, ByteArray.size_extract, List.length_cons, List.length_nil]); omega) ?_)
    | (refine And.intro (by (try simp only [mk_size, List.size_toArray, ByteArray.size_append, ByteArray.size_extract, List.length_cons, List.length_nil, wrap64_eq]); omega) ?_)
    | fail)
  refine LoopR.live (fun x : OpX => [(0, St s), (4, .sl 0 x.ver 0 x.es.length x.cap), (5, I x.n)]) (fun x => [⟨rcells x.es, x.ver, 44, 2, true, true⟩])
    (fun x => x.es.length ≤ 60 ∧ x.n ≤ s.size ∧ x.n = (encL 0 x.es).length ∧ tl s = encL 0 x.es ++ (tl s).drop x.n ∧ ∀ e ∈ x.es, recB e.1 e.2 = true) (fun x => s.size - x.n) ⟨[], 0, 0, 0⟩ ⟨rfl, rfl, rfl, trivial⟩ (.keep rfl) ⟨Nat.zero_le _, Nat.zero_le _, rfl, rfl, fun e he => by cases he⟩ ?_
  rintro ⟨es, n, ver, cap⟩ ⟨h1, h2, h3, h4, h5⟩
  dsimp only at h1 h2 h3 h4 h5
  have hx : s.extract (((n : Nat) : Int)).toNat (((s.size : Nat) : Int)).toNat = bs ((tl s).drop n) := by
    rw [Lib.extract_eq, Int.toNat_natCast, Int.toNat_natCast]
    show bs (((tl s).drop n).take (s.size - n)) = _
    rw [List.take_of_length_le (by rw [List.length_drop]; omega)]
  have hb := bef_len_le 10 ((tl s).drop n)
  have hl : ((tl s).drop n).length = s.size - n := by rw [List.length_drop, tls]
  repeat' ((conv => whnf); first
    | (refine And.intro rfl ?_)
    | (refine And.intro (by decide +kernel) ?_)
    | (refine And.intro trivial ?_)
    | (rw [hx]; refine d_l1SplitB (l := (tl s).drop n) (b := 10) (hs := by omega) (h0 := fun rest ver' cap' hr => ?_) ..)
    | (refine d_l12Decode (s := bs (bef 10 ((tl s).drop n))) (k := es.length) (hk := by omega) (hs := by simp only [mk_size, List.size_toArray]; omega) (h0 := fun c r b hb1 hb2 => ?_) ..)
    | (refine Exists.intro _ (And.intro rfl (And.intro rfl (And.intro rfl (And.intro rfl (And.intro rfl (And.intro rfl (And.intro (by decide) (And.intro (by simp [rcells_len]) (And.intro rfl (And.intro (by (try dsimp only); unfold maxLen; omega) (And.intro (by (try dsimp only); omega) (fun cap' hcap1 hcap2 => ?_)))))))))))))
    | (refine FinR.drop 1 (Nat.zero_le _) (closed1 (rcells_bel _ _)) rfl ?_)
    | (refine Exists.intro _ (And.intro rfl (And.intro rfl (And.intro (Nat.le_of_ble_eq_true rfl) ?_))))
    | (refine Exists.intro _ (And.intro rfl (And.intro rfl (And.intro rfl (And.intro (Nat.le_of_ble_eq_true rfl) ?_)))))
    | (refine And.intro (Exists.intro _ (And.intro rfl rfl)) ?_)
    | (exact fun hW => absurd hW (by decide +kernel))
    | (intro hW; (try simp only [Bool.not_true, Bool.not_false, Bool.not_eq_true', Bool.not_eq_false', decide_eq_true_eq, decide_eq_false_iff_not, reduceCtorEq, Bool.true_eq_false, Bool.false_eq_true, mk_size, List.size_toArray, ByteArray.size_append, ByteArray.size_extract, List.length_cons, List.length_nil, ba_get, ba_empty, Int.toNat_natCast] at hW))
    | (refine And.intro (?_ : _ → _) (?_ : _ → _))
    | (refine FinR.drop 0 (Nat.zero_le _) (Closed.zero _) rfl ?_)
    | (refine FinR.keep ?_)
    | (refine And.intro (det3_agg rfl) ?_)
    | (refine fL_mk ?_)
    | (refine And.intro (by (try simp only [mk_size, List.size_toArray, ByteArray.size_append, ByteArray.size_extract, List.length_cons, List.length_nil]); omega) ?_)
    | (refine And.intro (by (try simp only [mk_size, List.size_toArray, ByteArray.size_append, ByteArray.size_extract, List.length_cons, List.length_nil, wrap64_eq]); omega) ?_)
    | fail)
  · exact h0 es n ver cap ⟨h3, ⟨_, h4, fun ⟨c', r', t', hk, hv, e⟩ => hb2 hW ⟨c', r', hv, (line_eq hv e).1⟩⟩, h5, h1⟩
  · rename_i e1 _ e2 e3 _
    obtain ⟨hv, he⟩ := hb1 hW
    have ha : ((tl s).drop n).any (· == 10) = true := by
      cases h : ((tl s).drop n).any (· == 10) with
      | true => rfl
      | false => have := hr.2 h; omega
    have hlt := bef_lt ha
    have hc : (tl s).drop n = bef 10 ((tl s).drop n) ++ 10 :: aft 10 ((tl s).drop n) := by
      rcases bef_cases 10 ((tl s).drop n) with ⟨h, _⟩ | ⟨_, h⟩
      · rw [h] at ha; cases ha
      · exact h
    have htl : tl (lineB es.length c r) = bef 10 ((tl s).drop n) ++ [10] := by rw [he, tl_append]; rfl
    have hen : encL 0 (es ++ [(c, r)]) = encL 0 es ++ (bef 10 ((tl s).drop n) ++ [10]) := by rw [encL_snoc, Nat.zero_add, htl]
    refine Again.go ⟨es ++ [(c, r)], n + (bef 10 ((tl s).drop n)).length + 1, ver + 1, cap'⟩ ⟨rfl, sl_len (by simp), slI (wrap_sum n (bef 10 ((tl s).drop n)).length (by omega)), trivial⟩ (.drop 1 (Nat.zero_le _) (blk_ext ?_ rfl rfl) (closed1 (rcells_bel _ _)) rfl) ⟨by simp; omega, by dsimp only; omega, ?_, ?_, ?_⟩ (by dsimp only; omega)
    · show rcells (es ++ [(c, r)]) = rcells es ++ [AV.lit (.string c), AV.lit (.string r)]
      simp [rcells]
    · dsimp only; rw [hen, h3]; simp only [List.length_append, List.length_cons, List.length_nil]; omega
    · dsimp only
      rw [hen, List.append_assoc]
      conv => lhs; rw [h4]
      congr 1
      have e4 : (tl s).drop (n + (bef 10 ((tl s).drop n)).length + 1) = aft 10 ((tl s).drop n) := by
        unfold aft; rw [List.drop_drop]; congr 1
      rw [e4]
      conv => lhs; rw [hc]
      simp
    · intro e he'
      rcases List.mem_append.1 he' with h | h
      · exact h5 e h
      · rw [List.mem_singleton.1 h]; exact hv
  · refine h0 es n ver cap ⟨h3, ⟨_, h4, fun ⟨c', r', t', hk, hv, e⟩ => ?_⟩, h5, h1⟩
    rename_i e1 e2 e3 e4 _
    have := hr.1 (by omega)
    rw [(line_eq hv e).2] at this; cases this
  · exact h0 es n ver cap ⟨h3, ⟨_, h4, fun ⟨c', r', t', hk, hv, e⟩ => by omega⟩, h5, h1⟩
  · refine h0 es n ver cap ⟨h3, ⟨_, h4, fun ⟨c', r', t', hk, hv, e⟩ => ?_⟩, h5, h1⟩
    rename_i e1 _
    have h6 := (line_eq hv e).2
    rw [List.drop_eq_nil_of_le (by omega)] at h6; cases h6
theorem d_l12Open (s : ByteArray) (hs : s.size < 1000000) (K : Cont) (h0 : ∀ es n ver cap, Reads (tl s) es n → K (.tup [.sl σ.length ver 0 es.length cap, I (n : Nat)]) (σ ++ [⟨rcells es, ver, 44, 2, true, true⟩])) : ACall Tryd.prog W0 15 [St s] σ K := by
  refine ACall.frame (K0 := fun v σ' => ∃ es n ver cap, Reads (tl s) es n ∧ v = .tup [.sl 0 ver 0 es.length cap, I (n : Nat)] ∧ σ' = [⟨rcells es, ver, 44, 2, true, true⟩]) rfl (fun W1 _ => c_l12Open s hs _ fun es n ver cap h => ⟨es, n, ver, cap, h, rfl, rfl⟩) ?_
  rintro v σ' ⟨es, n, ver, cap, h, rfl, rfl⟩
  have := h0 es n ver cap h
  simp only [sh3, sh2, sh1, shB, List.map_cons, List.map_nil, rcells_sh, Nat.add_zero]
  exact this
end Go.Proofs.YtlmplfgnhibfcaaDoor
