import Derived.Test.YtkcbhdjhbnnlgaaZE6
section
/- Contracts: vain steps, by both sides; plans marked and held. -/
set_option linter.unusedVariables false
set_option linter.unusedSimpArgs false
set_option maxRecDepth 100000
set_option maxHeartbeats 4000000
namespace Go.Proofs.Ytkcbhdjhbnnlgaa
open Go Go.RowKit Go.Proofs.Ytkcbhdjhbnnlgaa.Abs
variable {W0 : World} {σ : List Blk}
/-! vain steps -/
def vainQ (fs : List (Nat × Nat)) (n i : Nat) : Bool := decide (runN (fs.take (i + 1)) n = runN (fs.take i) n)
abbrev vainL (xs ys : List (List Int)) (n : Nat) : List Int := selN (vainQ (fsOf xs ys) n) ys.length
theorem c_l11Vain (v1 v2 : Value) (xs ys : List (List Int)) (h1 : Sli W0 [] 6 enI (.lit v1) xs) (h2 : Sli W0 [] 4 enI (.lit v2) ys) (hx : ∀ x ∈ xs, x.length = 6) (hy : ∀ x ∈ ys, x.length = 4) (hxa : xs.all shRow = true) (hya : ys.all (stOk xs.length) = true) (hl2 : ys.length ≤ 1048576) (n : Nat) (hn : n < 2 ^ 36) (K : Cont)
    (h0 : ∀ r cap τ, τ[r]? = some (outB (vainL xs ys n)) → K (.sl r (vainL xs ys n).length 0 (vainL xs ys n).length cap) τ) : ACall Try.prog W0 100 [PlA (rowN n 0 : Nat) (rowN n 1 : Nat) (rowN n 2 : Nat) (rowN n 3 : Nat) (rowN n 4 : Nat) (rowN n 5 : Nat) (.lit v1) (.lit v2)] [] K := by
  refine by100 (Nat.le_of_ble_eq_true rfl) ?_
  obtain ⟨o2, n2, cap2, hv2, hn2, hc2, hm2, hf2⟩ := sli_form h2
  cases hv2
  subst hn2
  have hfo := fsOf_ok hx hy hxa hya
  repeat' ((conv => whnf); first | (refine Exists.intro ([] : List Nat) ?_) | (refine And.intro rfl ?_) | (refine And.intro (by decide +kernel) ?_) | (refine And.intro trivial ?_) | (first | (refine And.intro (Exists.intro _ (And.intro rfl rfl)) ?_) | (refine And.intro (?_ : _ → _) (?_ : _ → _)) | (refine And.intro (det3_agg rfl) ?_) | (refine And.intro (by (try simp only [List.length_cons, List.length_nil]); omega) ?_) | (refine And.intro ?_ ?_)) | (refine Exists.intro _ (And.intro rfl (And.intro rfl (And.intro (Nat.le_of_ble_eq_true rfl) ?_)))) | (refine Exists.intro _ (And.intro rfl (And.intro rfl (And.intro rfl (And.intro (Nat.le_of_ble_eq_true rfl) ?_))))) | (refine And.intro (Exists.intro _ (And.intro rfl rfl)) ?_) | (exact fun hW => absurd hW (by decide +kernel)) | (intro hW; (try simp only [Bool.not_true, Bool.not_false, Bool.not_eq_true', Bool.not_eq_false', decide_eq_true_eq, decide_eq_false_iff_not, reduceCtorEq, Bool.true_eq_false, Bool.false_eq_true, mk_size, List.size_toArray, ByteArray.size_append, ByteArray.size_extract, List.length_cons, List.length_nil, ba_get, ba_empty, Int.toNat_natCast] at hW)) | (refine And.intro (?_ : _ → _) (?_ : _ → _)) | (refine FinR.drop 0 (Nat.zero_le _) (Closed.zero _) rfl ?_) | (refine FinR.keep ?_) | (refine And.intro (det3_agg rfl) ?_) | (refine fL_mk ?_) | (refine And.intro (by (try simp only [mk_size, List.size_toArray, ByteArray.size_append, ByteArray.size_extract, List.length_cons, List.length_nil]); omega) ?_) | (refine And.intro (by (try simp only [mk_size, List.size_toArray, ByteArray.size_append, ByteArray.size_extract, List.length_cons, List.length_nil, wrap64_eq]); omega) ?_) | fail)
  · refine LoopR.live (fun y : Nat × Nat => [(1, .ptr 0 0 0), (3, .sl 1 (selN (vainQ (fsOf xs ys) n) y.1).length 0 (selN (vainQ (fsOf xs ys) n) y.1).length y.2), (4, .ptr 2 0 0), (5, I y.1)]) (fun y => [plBx (rowN n 0 : Nat) (rowN n 1 : Nat) (rowN n 2 : Nat) (rowN n 3 : Nat) (rowN n 4 : Nat) (rowN n 5 : Nat) (.lit v1) (.lit (.slice o2 ys.length cap2)) 67, outB (selN (vainQ (fsOf xs ys) n) y.1), bl (runN ((fsOf xs ys).take y.1) n)]) (fun y => y.1 ≤ ys.length) (fun y => ys.length - y.1) (0, 0) ⟨rfl, rfl, rfl, rfl, trivial⟩ (.keep rfl) (Nat.zero_le _) ?_
    rintro ⟨i, cp⟩ hi
    dsimp only at hi
    have hsl := selN_len (vainQ (fsOf xs ys) n) i
    by_cases hlt : i < ys.length
    · obtain ⟨k', s, m, u, v, hyi, hk3, hs3, hu, hv, hm, hxs, hfs⟩ := step_parts hx hy hxa hya hlt
      obtain ⟨ad, rfl, hb, hxx⟩ := hf2 _ _ hyi
      have hld := fun C h => ldIn (W0 := W0) (s := 4) (enc := enI) hb hxx hyi rfl (C := C) h
      have hsn : runN ((fsOf xs ys).take (i + 1)) n = stepF k'.toNat (prN m u v) (runN ((fsOf xs ys).take i) n) := by rw [take_snoc hfs, runN_snoc]
      have hrn := runN_lt (hfo.take i) hn
      have hrn1 := runN_lt (hfo.take (i + 1)) hn
      have hdec := row_dec hrn1 hrn
      rw [hsn] at hdec
      have hq := selN_succ (vainQ (fsOf xs ys) n) i
      have hqd : vainQ (fsOf xs ys) n i = decide (stepF k'.toNat (prN m u v) (runN ((fsOf xs ys).take i) n) = runN ((fsOf xs ys).take i) n) := by rw [vainQ, hsn]
      repeat' ((conv => whnf); first | (refine Exists.intro ([] : List Nat) ?_) | (refine And.intro rfl ?_) | (refine And.intro (by decide +kernel) ?_) | (refine And.intro trivial ?_) | (refine hld _ ?_) | (refine Exists.intro _ (And.intro (fun τ => callW_fn (d_l11Next (n := runN ((fsOf xs ys).take i) n) (h1 := sli_up h1) (hm := hxs) (hk := hk3) (hs := hs3) (hu := hu) (hv := hv) (h0 := And.intro rfl rfl) ..)) ?_)) | (refine Exists.intro _ (And.intro rfl (And.intro rfl (And.intro rfl (And.intro rfl (And.intro rfl (And.intro rfl (And.intro (by decide) (And.intro (by simp [List.length_map]) (And.intro rfl (And.intro (by (try dsimp only); unfold maxLen; omega) (And.intro (by (try dsimp only); omega) (fun cap' hcap1 hcap2 => ?_))))))))))))) | (refine Exists.intro _ (And.intro rfl (And.intro rfl (And.intro (Nat.le_of_ble_eq_true rfl) ?_)))) | (refine Exists.intro _ (And.intro rfl (And.intro rfl (And.intro rfl (And.intro (Nat.le_of_ble_eq_true rfl) ?_))))) | (refine And.intro (Exists.intro _ (And.intro rfl rfl)) ?_) | (exact fun hW => absurd hW (by decide +kernel)) | (intro hW; (try simp only [Bool.not_true, Bool.not_false, Bool.not_eq_true', Bool.not_eq_false', decide_eq_true_eq, decide_eq_false_iff_not, reduceCtorEq, Bool.true_eq_false, Bool.false_eq_true, mk_size, List.size_toArray, ByteArray.size_append, ByteArray.size_extract, List.length_cons, List.length_nil, ba_get, ba_empty, Int.toNat_natCast] at hW)) | (refine And.intro (?_ : _ → _) (?_ : _ → _)) | (refine FinR.drop 0 (Nat.zero_le _) (Closed.zero _) rfl ?_) | (refine FinR.keep ?_) | (refine And.intro (det3_agg rfl) ?_) | (refine fL_mk ?_) | (refine And.intro (by (try simp only [mk_size, List.size_toArray, ByteArray.size_append, ByteArray.size_extract, List.length_cons, List.length_nil]); omega) ?_) | (refine And.intro (by (try simp only [mk_size, List.size_toArray, ByteArray.size_append, ByteArray.size_extract, List.length_cons, List.length_nil, wrap64_eq]); omega) ?_) | fail)
      all_goals first | (exfalso; omega) | skip
      · rw [hdec] at hW
        simp only [if_false] at hW
        rw [hqd, hW, if_pos rfl] at hq
        refine Again.go (i + 1, _) ⟨rfl, (by show AV.sl _ _ _ _ _ = AV.sl _ _ _ _ _; rw [hq, List.length_append]; rfl), rfl, slI' (wsucc' i (by omega)), trivial⟩ (.drop 3 (Nat.zero_le _) ?_ (closCons rfl (closCons (belI 3 _) (closCons rfl (closNil 3)))) rfl) (by dsimp only; omega) (by dsimp only; omega)
        dsimp only [outB]
        rw [hq, hsn, List.length_append, List.map_append]; rfl
      · rw [hdec] at hW
        simp only [if_false] at hW
        rw [hqd, hW, if_neg (by decide), List.append_nil] at hq
        refine Again.go (i + 1, cp) ⟨rfl, (by show AV.sl _ _ _ _ _ = AV.sl _ _ _ _ _; rw [hq]), rfl, slI' (wsucc' i (by omega)), trivial⟩ (.drop 3 (Nat.zero_le _) ?_ (closCons rfl (closCons (belI 3 _) (closCons rfl (closNil 3)))) rfl) (by dsimp only; omega) (by dsimp only; omega)
        dsimp only [outB]
        rw [hq, hsn]; rfl
    · obtain rfl : i = ys.length := by omega
      have h0 := fun τ => h0 1 cp τ
      repeat' ((conv => whnf); first | (refine FinR.keep ?_) | (refine Exists.intro ([] : List Nat) ?_) | (refine And.intro rfl ?_) | (refine And.intro (by decide +kernel) ?_) | (refine And.intro trivial ?_) | (refine Exists.intro _ (And.intro rfl (And.intro rfl (And.intro (Nat.le_of_ble_eq_true rfl) ?_)))) | (refine Exists.intro _ (And.intro rfl (And.intro rfl (And.intro rfl (And.intro (Nat.le_of_ble_eq_true rfl) ?_))))) | (refine And.intro (Exists.intro _ (And.intro rfl rfl)) ?_) | (exact fun hW => absurd hW (by decide +kernel)) | (intro hW; (try simp only [Bool.not_true, Bool.not_false, Bool.not_eq_true', Bool.not_eq_false', decide_eq_true_eq, decide_eq_false_iff_not, reduceCtorEq, Bool.true_eq_false, Bool.false_eq_true, mk_size, List.size_toArray, ByteArray.size_append, ByteArray.size_extract, List.length_cons, List.length_nil, ba_get, ba_empty, Int.toNat_natCast] at hW)) | (refine And.intro (?_ : _ → _) (?_ : _ → _)) | (refine FinR.drop 0 (Nat.zero_le _) (Closed.zero _) rfl ?_) | (refine FinR.keep ?_) | (refine And.intro (det3_agg rfl) ?_) | (refine fL_mk ?_) | (refine And.intro (by (try simp only [mk_size, List.size_toArray, ByteArray.size_append, ByteArray.size_extract, List.length_cons, List.length_nil]); omega) ?_) | (refine And.intro (by (try simp only [mk_size, List.size_toArray, ByteArray.size_append, ByteArray.size_extract, List.length_cons, List.length_nil, wrap64_eq]); omega) ?_) | fail)
      all_goals first | (exfalso; omega) | exact h0 _ rfl
  · refine LoopR.live (fun y : Nat × Nat => [(1, .ptr 0 0 0), (3, .sl 2 (selN (vainQ (fsOf xs ys) n) y.1).length 0 (selN (vainQ (fsOf xs ys) n) y.1).length y.2), (4, .ptr 1 0 0), (5, I y.1)]) (fun y => [plBx (rowN n 0 : Nat) (rowN n 1 : Nat) (rowN n 2 : Nat) (rowN n 3 : Nat) (rowN n 4 : Nat) (rowN n 5 : Nat) (.lit v1) (.lit (.slice o2 ys.length cap2)) 67, bl (runN ((fsOf xs ys).take y.1) n), outB (selN (vainQ (fsOf xs ys) n) y.1)]) (fun y => y.1 ≤ ys.length) (fun y => ys.length - y.1) (0, 0) ⟨rfl, rfl, rfl, rfl, trivial⟩ (.keep rfl) (Nat.zero_le _) ?_
    rintro ⟨i, cp⟩ hi
    dsimp only at hi
    have hsl := selN_len (vainQ (fsOf xs ys) n) i
    by_cases hlt : i < ys.length
    · obtain ⟨k', s, m, u, v, hyi, hk3, hs3, hu, hv, hm, hxs, hfs⟩ := step_parts hx hy hxa hya hlt
      obtain ⟨ad, rfl, hb, hxx⟩ := hf2 _ _ hyi
      have hld := fun C h => ldIn (W0 := W0) (s := 4) (enc := enI) hb hxx hyi rfl (C := C) h
      have hsn : runN ((fsOf xs ys).take (i + 1)) n = stepF k'.toNat (prN m u v) (runN ((fsOf xs ys).take i) n) := by rw [take_snoc hfs, runN_snoc]
      have hrn := runN_lt (hfo.take i) hn
      have hrn1 := runN_lt (hfo.take (i + 1)) hn
      have hdec := row_dec hrn1 hrn
      rw [hsn] at hdec
      have hq := selN_succ (vainQ (fsOf xs ys) n) i
      have hqd : vainQ (fsOf xs ys) n i = decide (stepF k'.toNat (prN m u v) (runN ((fsOf xs ys).take i) n) = runN ((fsOf xs ys).take i) n) := by rw [vainQ, hsn]
      repeat' ((conv => whnf); first | (refine Exists.intro ([] : List Nat) ?_) | (refine And.intro rfl ?_) | (refine And.intro (by decide +kernel) ?_) | (refine And.intro trivial ?_) | (refine hld _ ?_) | (refine Exists.intro _ (And.intro (fun τ => callW_fn (d_l11Next (n := runN ((fsOf xs ys).take i) n) (h1 := sli_up h1) (hm := hxs) (hk := hk3) (hs := hs3) (hu := hu) (hv := hv) (h0 := And.intro rfl rfl) ..)) ?_)) | (refine Exists.intro _ (And.intro rfl (And.intro rfl (And.intro rfl (And.intro rfl (And.intro rfl (And.intro rfl (And.intro (by decide) (And.intro (by simp [List.length_map]) (And.intro rfl (And.intro (by (try dsimp only); unfold maxLen; omega) (And.intro (by (try dsimp only); omega) (fun cap' hcap1 hcap2 => ?_))))))))))))) | (refine Exists.intro _ (And.intro rfl (And.intro rfl (And.intro (Nat.le_of_ble_eq_true rfl) ?_)))) | (refine Exists.intro _ (And.intro rfl (And.intro rfl (And.intro rfl (And.intro (Nat.le_of_ble_eq_true rfl) ?_))))) | (refine And.intro (Exists.intro _ (And.intro rfl rfl)) ?_) | (exact fun hW => absurd hW (by decide +kernel)) | (intro hW; (try simp only [Bool.not_true, Bool.not_false, Bool.not_eq_true', Bool.not_eq_false', decide_eq_true_eq, decide_eq_false_iff_not, reduceCtorEq, Bool.true_eq_false, Bool.false_eq_true, mk_size, List.size_toArray, ByteArray.size_append, ByteArray.size_extract, List.length_cons, List.length_nil, ba_get, ba_empty, Int.toNat_natCast] at hW)) | (refine And.intro (?_ : _ → _) (?_ : _ → _)) | (refine FinR.drop 0 (Nat.zero_le _) (Closed.zero _) rfl ?_) | (refine FinR.keep ?_) | (refine And.intro (det3_agg rfl) ?_) | (refine fL_mk ?_) | (refine And.intro (by (try simp only [mk_size, List.size_toArray, ByteArray.size_append, ByteArray.size_extract, List.length_cons, List.length_nil]); omega) ?_) | (refine And.intro (by (try simp only [mk_size, List.size_toArray, ByteArray.size_append, ByteArray.size_extract, List.length_cons, List.length_nil, wrap64_eq]); omega) ?_) | fail)
      all_goals first | (exfalso; omega) | skip
      · rw [hdec] at hW
        simp only [if_false] at hW
        rw [hqd, hW, if_pos rfl] at hq
        refine Again.go (i + 1, _) ⟨rfl, (by show AV.sl _ _ _ _ _ = AV.sl _ _ _ _ _; rw [hq, List.length_append]; rfl), rfl, slI' (wsucc' i (by omega)), trivial⟩ (.drop 3 (Nat.zero_le _) ?_ (closCons rfl (closCons rfl (closCons (belI 3 _) (closNil 3)))) rfl) (by dsimp only; omega) (by dsimp only; omega)
        dsimp only [outB]
        rw [hq, hsn, List.length_append, List.map_append]; rfl
      · rw [hdec] at hW
        simp only [if_false] at hW
        rw [hqd, hW, if_neg (by decide), List.append_nil] at hq
        refine Again.go (i + 1, cp) ⟨rfl, (by show AV.sl _ _ _ _ _ = AV.sl _ _ _ _ _; rw [hq]), rfl, slI' (wsucc' i (by omega)), trivial⟩ (.drop 3 (Nat.zero_le _) ?_ (closCons rfl (closCons rfl (closCons (belI 3 _) (closNil 3)))) rfl) (by dsimp only; omega) (by dsimp only; omega)
        dsimp only [outB]
        rw [hq, hsn]; rfl
    · obtain rfl : i = ys.length := by omega
      have h0 := fun τ => h0 2 cp τ
      repeat' ((conv => whnf); first | (refine FinR.keep ?_) | (refine Exists.intro ([] : List Nat) ?_) | (refine And.intro rfl ?_) | (refine And.intro (by decide +kernel) ?_) | (refine And.intro trivial ?_) | (refine Exists.intro _ (And.intro rfl (And.intro rfl (And.intro (Nat.le_of_ble_eq_true rfl) ?_)))) | (refine Exists.intro _ (And.intro rfl (And.intro rfl (And.intro rfl (And.intro (Nat.le_of_ble_eq_true rfl) ?_))))) | (refine And.intro (Exists.intro _ (And.intro rfl rfl)) ?_) | (exact fun hW => absurd hW (by decide +kernel)) | (intro hW; (try simp only [Bool.not_true, Bool.not_false, Bool.not_eq_true', Bool.not_eq_false', decide_eq_true_eq, decide_eq_false_iff_not, reduceCtorEq, Bool.true_eq_false, Bool.false_eq_true, mk_size, List.size_toArray, ByteArray.size_append, ByteArray.size_extract, List.length_cons, List.length_nil, ba_get, ba_empty, Int.toNat_natCast] at hW)) | (refine And.intro (?_ : _ → _) (?_ : _ → _)) | (refine FinR.drop 0 (Nat.zero_le _) (Closed.zero _) rfl ?_) | (refine FinR.keep ?_) | (refine And.intro (det3_agg rfl) ?_) | (refine fL_mk ?_) | (refine And.intro (by (try simp only [mk_size, List.size_toArray, ByteArray.size_append, ByteArray.size_extract, List.length_cons, List.length_nil]); omega) ?_) | (refine And.intro (by (try simp only [mk_size, List.size_toArray, ByteArray.size_append, ByteArray.size_extract, List.length_cons, List.length_nil, wrap64_eq]); omega) ?_) | fail)
      all_goals first | (exfalso; omega) | exact h0 _ rfl
end Go.Proofs.Ytkcbhdjhbnnlgaa
end

section
/- Contracts: vain steps, by both sides. -/
set_option linter.unusedVariables false
set_option linter.unusedSimpArgs false
set_option maxRecDepth 100000
set_option maxHeartbeats 4000000
namespace Go.Proofs.Ytkcbhdjhbnnlgaa
open Go Go.RowKit Go.Proofs.Ytkcbhdjhbnnlgaa.Abs
variable {W0 : World} {σ : List Blk}
theorem d_l11Vain (s1 s2 : AV) (xs ys : List (List Int)) (h1 : Sli W0 σ 6 enI s1 xs) (h2 : Sli W0 σ 4 enI s2 ys) (hx : ∀ x ∈ xs, x.length = 6) (hy : ∀ x ∈ ys, x.length = 4) (hxa : xs.all shRow = true) (hya : ys.all (stOk xs.length) = true) (hl2 : ys.length ≤ 1048576) (n : Nat) (hn : n < 2 ^ 36) (K : Cont)
    (h0 : ∀ b cap τ, (σ ++ τ)[b]? = some (outB (vainL xs ys n)) → σ.length ≤ b → K (.sl b (vainL xs ys n).length 0 (vainL xs ys n).length cap) (σ ++ τ)) : ACall Try.prog W0 100 [PlA (rowN n 0 : Nat) (rowN n 1 : Nat) (rowN n 2 : Nat) (rowN n 3 : Nat) (rowN n 4 : Nat) (rowN n 5 : Nat) s1 s2] σ K :=
  lift_Pl (rest := []) (ι := NewL (vainL xs ys n)) (fun x => .sl x.b (vainL xs ys n).length 0 (vainL xs ys n).length x.cap) (fun x => x.τ) (by kernel_rfl) rfl h1 h2
    (fun W1 v1 v2 q1 q2 K hK => c_l11Vain v1 v2 xs ys q1 q2 hx hy hxa hya hl2 n hn K (fun b cap τ h => hK ⟨b, cap, τ, h⟩)) K (fun x => h0 _ _ _ (newL_sh x) (Nat.le_add_right _ _))
theorem c_sVainT (a b c d e f : Int) (v1 v2 : Value) (xs ys : List (List Int)) (h1 : Sli W0 [] 6 enI (.lit v1) xs) (h2 : Sli W0 [] 4 enI (.lit v2) ys) (hx : ∀ x ∈ xs, x.length = 6) (hy : ∀ x ∈ ys, x.length = 4) (hl : xs.length ≤ 1048576) (hl2 : ys.length ≤ 1048576) (hg : planB a b c d e f xs ys = true) (L : List Int) (hL : L = vainL xs ys (stN [a, b, c, d, e, f])) (K : Cont)
    (h0 : ∀ r cap τ, τ[r]? = some (outB L) → K (.tup [.sl r L.length 0 L.length cap, Bo true]) τ) : ACall Try.prog W0 46 [PlA a b c d e f (.lit v1) (.lit v2)] [] K := by
  refine by46 (Nat.le_of_ble_eq_true rfl) ?_
  obtain ⟨hs, hx4, hy40, hxa, hya⟩ := planB_iff.1 hg
  obtain ⟨n, hn, rfl, rfl, rfl, rfl, rfl, rfl, hst⟩ := st_parts hs
  rw [hst] at hL
  subst hL
  repeat' ((conv => whnf); first | (refine Exists.intro ([] : List Nat) ?_) | (refine And.intro rfl ?_) | (refine And.intro (by decide +kernel) ?_) | (refine And.intro trivial ?_) | (refine d_l11Plan (h1 := sli_up h1) (h2 := sli_up h2) (hx := hx) (hy := hy) (hl := hl) (hl2 := hl2) (h0 := ?_) ..; rw [hg]) | (refine d_l11Vain (h1 := sli_up h1) (h2 := sli_up h2) (hx := hx) (hy := hy) (hxa := hxa) (hya := hya) (hl2 := hl2) (hn := hn) (h0 := fun b cap τ e l => ?_) ..) | (refine Exists.intro _ (And.intro rfl (And.intro rfl (And.intro (Nat.le_of_ble_eq_true rfl) ?_)))) | (refine Exists.intro _ (And.intro rfl (And.intro rfl (And.intro rfl (And.intro (Nat.le_of_ble_eq_true rfl) ?_))))) | (refine And.intro (Exists.intro _ (And.intro rfl rfl)) ?_) | (exact fun hW => absurd hW (by decide +kernel)) | (intro hW; (try simp only [Bool.not_true, Bool.not_false, Bool.not_eq_true', Bool.not_eq_false', decide_eq_true_eq, decide_eq_false_iff_not, reduceCtorEq, Bool.true_eq_false, Bool.false_eq_true, mk_size, List.size_toArray, ByteArray.size_append, ByteArray.size_extract, List.length_cons, List.length_nil, ba_get, ba_empty, Int.toNat_natCast] at hW)) | (refine And.intro (?_ : _ → _) (?_ : _ → _)) | (refine FinR.drop 0 (Nat.zero_le _) (Closed.zero _) rfl ?_) | (refine FinR.keep ?_) | (refine And.intro (det3_agg rfl) ?_) | (refine fL_mk ?_) | (refine And.intro (by (try simp only [mk_size, List.size_toArray, ByteArray.size_append, ByteArray.size_extract, List.length_cons, List.length_nil]); omega) ?_) | (refine And.intro (by (try simp only [mk_size, List.size_toArray, ByteArray.size_append, ByteArray.size_extract, List.length_cons, List.length_nil, wrap64_eq]); omega) ?_) | fail)
  all_goals first | exact h0 _ _ _ (by assumption) | (exfalso; omega) | (exfalso; simp_all; done)
theorem c_sVainF (a b c d e f : Int) (v1 v2 : Value) (xs ys : List (List Int)) (h1 : Sli W0 [] 6 enI (.lit v1) xs) (h2 : Sli W0 [] 4 enI (.lit v2) ys) (hx : ∀ x ∈ xs, x.length = 6) (hy : ∀ x ∈ ys, x.length = 4) (hl : xs.length ≤ 1048576) (hl2 : ys.length ≤ 1048576) (hg : planB a b c d e f xs ys = false) (K : Cont)
    (h0 : ∀ A, K (.tup [.sl 1 0 0 0 0, Bo false]) [A, outB []]) : ACall Try.prog W0 46 [PlA a b c d e f (.lit v1) (.lit v2)] [] K := by
  refine by46 (Nat.le_of_ble_eq_true rfl) ?_
  repeat' ((conv => whnf); first | (refine Exists.intro ([] : List Nat) ?_) | (refine And.intro rfl ?_) | (refine And.intro (by decide +kernel) ?_) | (refine And.intro trivial ?_) | (refine d_l11Plan (h1 := sli_up h1) (h2 := sli_up h2) (hx := hx) (hy := hy) (hl := hl) (hl2 := hl2) (h0 := ?_) ..; rw [hg]) | (refine Exists.intro _ (And.intro rfl (And.intro rfl (And.intro (Nat.le_of_ble_eq_true rfl) ?_)))) | (refine Exists.intro _ (And.intro rfl (And.intro rfl (And.intro rfl (And.intro (Nat.le_of_ble_eq_true rfl) ?_))))) | (refine And.intro (Exists.intro _ (And.intro rfl rfl)) ?_) | (exact fun hW => absurd hW (by decide +kernel)) | (intro hW; (try simp only [Bool.not_true, Bool.not_false, Bool.not_eq_true', Bool.not_eq_false', decide_eq_true_eq, decide_eq_false_iff_not, reduceCtorEq, Bool.true_eq_false, Bool.false_eq_true, mk_size, List.size_toArray, ByteArray.size_append, ByteArray.size_extract, List.length_cons, List.length_nil, ba_get, ba_empty, Int.toNat_natCast] at hW)) | (refine And.intro (?_ : _ → _) (?_ : _ → _)) | (refine FinR.drop 0 (Nat.zero_le _) (Closed.zero _) rfl ?_) | (refine FinR.keep ?_) | (refine And.intro (det3_agg rfl) ?_) | (refine fL_mk ?_) | (refine And.intro (by (try simp only [mk_size, List.size_toArray, ByteArray.size_append, ByteArray.size_extract, List.length_cons, List.length_nil]); omega) ?_) | (refine And.intro (by (try simp only [mk_size, List.size_toArray, ByteArray.size_append, ByteArray.size_extract, List.length_cons, List.length_nil, wrap64_eq]); omega) ?_) | fail)
  all_goals first | exact h0 _ | (exfalso; omega) | (exfalso; simp_all; done)
theorem c_VainF (a b c d e f : Int) (v1 v2 : Value) (xs ys : List (List Int)) (h1 : Sli W0 [] 6 enI (.lit v1) xs) (h2 : Sli W0 [] 4 enI (.lit v2) ys) (hx : ∀ x ∈ xs, x.length = 6) (hy : ∀ x ∈ ys, x.length = 4) (hg : planB a b c d e f xs ys = false) (K : Cont)
    (h0 : K (.tup [nilA, Bo false]) []) : ACall Try.prog W0 45 [PlA a b c d e f (.lit v1) (.lit v2)] [] K := by
  refine by45 (Nat.le_of_ble_eq_true rfl) ?_
  repeat' ((conv => whnf); first | (refine Exists.intro ([] : List Nat) ?_) | (refine And.intro rfl ?_) | (refine And.intro (by decide +kernel) ?_) | (refine And.intro trivial ?_) | (refine d_planOf (h1 := sli_up h1) (h2 := sli_up h2) (hx := hx) (hy := hy) (h0 := fun h τ hp => by rw [hg] at h; cases h) (h00 := fun _ => ?_) ..) | (refine Exists.intro _ (And.intro rfl (And.intro rfl (And.intro (Nat.le_of_ble_eq_true rfl) ?_)))) | (refine Exists.intro _ (And.intro rfl (And.intro rfl (And.intro rfl (And.intro (Nat.le_of_ble_eq_true rfl) ?_))))) | (refine And.intro (Exists.intro _ (And.intro rfl rfl)) ?_) | (exact fun hW => absurd hW (by decide +kernel)) | (intro hW; (try simp only [Bool.not_true, Bool.not_false, Bool.not_eq_true', Bool.not_eq_false', decide_eq_true_eq, decide_eq_false_iff_not, reduceCtorEq, Bool.true_eq_false, Bool.false_eq_true, mk_size, List.size_toArray, ByteArray.size_append, ByteArray.size_extract, List.length_cons, List.length_nil, ba_get, ba_empty, Int.toNat_natCast] at hW)) | (refine And.intro (?_ : _ → _) (?_ : _ → _)) | (refine FinR.drop 0 (Nat.zero_le _) (Closed.zero _) rfl ?_) | (refine FinR.keep ?_) | (refine And.intro (det3_agg rfl) ?_) | (refine fL_mk ?_) | (refine And.intro (by (try simp only [mk_size, List.size_toArray, ByteArray.size_append, ByteArray.size_extract, List.length_cons, List.length_nil]); omega) ?_) | (refine And.intro (by (try simp only [mk_size, List.size_toArray, ByteArray.size_append, ByteArray.size_extract, List.length_cons, List.length_nil, wrap64_eq]); omega) ?_) | fail)
  all_goals first | exact h0 | (exfalso; omega) | (exfalso; simp_all; done)
theorem c_VainT (a b c d e f : Int) (v1 v2 : Value) (xs ys : List (List Int)) (h1 : Sli W0 [] 6 enI (.lit v1) xs) (h2 : Sli W0 [] 4 enI (.lit v2) ys) (hx : ∀ x ∈ xs, x.length = 6) (hy : ∀ x ∈ ys, x.length = 4) (hg : planB a b c d e f xs ys = true) (L : List Int) (hL : L = vainL xs ys (stN [a, b, c, d, e, f])) (K : Cont)
    (h0 : ∀ r cap τ, τ[r]? = some (outB L) → K (.tup [.sl r L.length 0 L.length cap, Bo true]) τ) : ACall Try.prog W0 45 [PlA a b c d e f (.lit v1) (.lit v2)] [] K := by
  refine by45 (Nat.le_of_ble_eq_true rfl) ?_
  obtain ⟨o2, n2, cap2, hv2, hn2, hc2, hm2, hf2⟩ := sli_form h2
  cases hv2
  subst hn2
  obtain ⟨hs, hx4, hy40, hxa, hya⟩ := planB_iff.1 hg
  have hfo := fsOf_ok hx hy hxa hya
  have hfl := fsOf_len xs ys
  obtain ⟨n, hn, rfl, rfl, rfl, rfl, rfl, rfl, hst⟩ := st_parts hs
  rw [hst] at hL
  subst hL
  have hver : (ruB (runL (fsOf xs ys) n)).ver = (fsOf xs ys).length := by show (runL (fsOf xs ys) n).length - 1 = _; rw [runL_len]; rfl
  repeat' ((conv => whnf); first | (refine Exists.intro ([] : List Nat) ?_) | (refine And.intro rfl ?_) | (refine And.intro (by decide +kernel) ?_) | (refine And.intro trivial ?_) | (refine d_planOf (h1 := sli_up h1) (h2 := sli_up h2) (hx := hx) (hy := hy) (h0 := fun h τ hp => ?_) (h00 := fun h => by rw [hg] at h; cases h) ..; rw [hst] at hp; obtain ⟨sq, hq1, hq2⟩ := hp.ex) | (refine And.intro ⟨_, hq1, rfl⟩ ?_) | (refine Exists.intro _ (And.intro hq1 (And.intro rfl (And.intro (Nat.le_of_ble_eq_true rfl) ?_)))) | (refine d_run (hp := hp) (hf := hfo) (hl := by omega) (hx := hn) (h0 := fun cap => ?_) ..) | (refine fS_mk ?_) | (refine Exists.intro _ (And.intro rfl (And.intro rfl (And.intro (Nat.le_of_ble_eq_true rfl) ?_)))) | (refine Exists.intro _ (And.intro rfl (And.intro rfl (And.intro rfl (And.intro (Nat.le_of_ble_eq_true rfl) ?_))))) | (refine And.intro (Exists.intro _ (And.intro rfl rfl)) ?_) | (exact fun hW => absurd hW (by decide +kernel)) | (intro hW; (try simp only [Bool.not_true, Bool.not_false, Bool.not_eq_true', Bool.not_eq_false', decide_eq_true_eq, decide_eq_false_iff_not, reduceCtorEq, Bool.true_eq_false, Bool.false_eq_true, mk_size, List.size_toArray, ByteArray.size_append, ByteArray.size_extract, List.length_cons, List.length_nil, ba_get, ba_empty, Int.toNat_natCast] at hW)) | (refine And.intro (?_ : _ → _) (?_ : _ → _)) | (refine FinR.drop 0 (Nat.zero_le _) (Closed.zero _) rfl ?_) | (refine FinR.keep ?_) | (refine And.intro (det3_agg rfl) ?_) | (refine fL_mk ?_) | (refine And.intro (by (try simp only [mk_size, List.size_toArray, ByteArray.size_append, ByteArray.size_extract, List.length_cons, List.length_nil]); omega) ?_) | (refine And.intro (by (try simp only [mk_size, List.size_toArray, ByteArray.size_append, ByteArray.size_extract, List.length_cons, List.length_nil, wrap64_eq]); omega) ?_) | fail)
  all_goals first | (exfalso; omega) | (exfalso; simp_all; done) | skip
  obtain ⟨S, hS⟩ : ∃ S : List Blk, S = [plBx (rowN n 0 : Nat) (rowN n 1 : Nat) (rowN n 2 : Nat) (rowN n 3 : Nat) (rowN n 4 : Nat) (rowN n 5 : Nat) (.lit v1) (.lit (.slice o2 ys.length cap2)) 67] ++ τ := ⟨_, rfl⟩
  refine LoopR.live (fun y : Nat × Nat => [(6, .sl S.length (fsOf xs ys).length 0 ((fsOf xs ys).length + 1) cap), (7, .sl (S ++ [ruB (runL (fsOf xs ys) n)]).length (selN (vainQ (fsOf xs ys) n) y.1).length 0 (selN (vainQ (fsOf xs ys) n) y.1).length y.2), (25, I ys.length), (26, I y.1)]) (fun y => S ++ [ruB (runL (fsOf xs ys) n)] ++ [outB (selN (vainQ (fsOf xs ys) n) y.1)]) (fun y => y.1 ≤ ys.length) (fun y => ys.length - y.1) (0, 0) ⟨by rw [hS]; rfl, by rw [hS]; rfl, rfl, rfl, trivial⟩ (.keep (by rw [hS]; rfl)) (Nat.zero_le _) ?_
  rintro ⟨i, cp⟩ hi
  dsimp only at hi
  have hsl := selN_len (vainQ (fsOf xs ys) n) i
  by_cases hlt : i < ys.length
  · have hq := selN_succ (vainQ (fsOf xs ys) n) i
    have hw1 : IntKind.i64.wrap ((i : Int) + 1) = ((i + 1 : Nat) : Int) := wsucc' i (by omega)
    have hle : ∀ off, off ≤ ys.length → off + 1 ≤ (ruB (runL (fsOf xs ys) n)).cells.length := fun off ho => by show _ ≤ (List.map _ _).length; rw [List.length_map, runL_len]; omega
    have hg0 : ∀ off, off = i → mkAV false (((ruB (runL (fsOf xs ys) n)).cells.drop off).take 1) = U (runN ((fsOf xs ys).take i) n : Nat) := fun off ho => stB_get (runL_get _ _ (by omega)) ho
    have hg1 : ∀ off, off = i + 1 → mkAV false (((ruB (runL (fsOf xs ys) n)).cells.drop off).take 1) = U (runN ((fsOf xs ys).take (i + 1)) n : Nat) := fun off ho => stB_get (runL_get _ _ (by omega)) ho
    have hml : ∀ l : List Int, l.length * 1 = (l.map I).length := fun l => by rw [List.length_map, Nat.mul_one]
    by_cases hv : runN ((fsOf xs ys).take (i + 1)) n = runN ((fsOf xs ys).take i) n
    · have hqd : vainQ (fsOf xs ys) n i = true := decide_eq_true hv
      rw [hqd, if_pos rfl] at hq
      have hla : (selN (vainQ (fsOf xs ys) n) i ++ [(i : Int)]).length = (selN (vainQ (fsOf xs ys) n) i).length + 1 := List.length_append
      repeat' ((conv => whnf); first | (refine Exists.intro _ (And.intro (getx1 getl) (And.intro hver (And.intro (hle _ (by rw [Int.toNat_natCast]; omega)) ?_))); rw [hg0 _ (by rw [Int.toNat_natCast]; omega)]) | (refine Exists.intro _ (And.intro (getx1 getl) (And.intro hver (And.intro (hle _ (by rw [hw1, Int.toNat_natCast]; omega)) ?_))); rw [hg1 _ (by rw [hw1, Int.toNat_natCast]; omega)]) | (refine Exists.intro _ (And.intro getl (And.intro rfl (And.intro rfl (And.intro rfl (And.intro rfl (And.intro rfl (And.intro (by decide) (And.intro (hml _) (And.intro rfl (And.intro (by dsimp only; unfold maxLen; omega) (And.intro (by dsimp only; omega) (fun cap' hcap1 hcap2 => ?_)))))))))))); rw [set_last]) | (refine Exists.intro ([] : List Nat) ?_) | (refine And.intro rfl ?_) | (refine And.intro (by decide +kernel) ?_) | (refine And.intro trivial ?_) | (refine fS_mk ?_) | (refine And.intro ⟨_, getx1 getl, hver⟩ ?_) | (refine Exists.intro _ (And.intro rfl (And.intro rfl (And.intro (Nat.le_of_ble_eq_true rfl) ?_)))) | (refine Exists.intro _ (And.intro rfl (And.intro rfl (And.intro rfl (And.intro (Nat.le_of_ble_eq_true rfl) ?_))))) | (refine And.intro (Exists.intro _ (And.intro rfl rfl)) ?_) | (exact fun hW => absurd hW (by decide +kernel)) | (intro hW; (try simp only [Bool.not_true, Bool.not_false, Bool.not_eq_true', Bool.not_eq_false', decide_eq_true_eq, decide_eq_false_iff_not, reduceCtorEq, Bool.true_eq_false, Bool.false_eq_true, mk_size, List.size_toArray, ByteArray.size_append, ByteArray.size_extract, List.length_cons, List.length_nil, ba_get, ba_empty, Int.toNat_natCast] at hW)) | (refine And.intro (?_ : _ → _) (?_ : _ → _)) | (refine FinR.drop 0 (Nat.zero_le _) (Closed.zero _) rfl ?_) | (refine FinR.keep ?_) | (refine And.intro (det3_agg rfl) ?_) | (refine fL_mk ?_) | (refine And.intro (by (try simp only [mk_size, List.size_toArray, ByteArray.size_append, ByteArray.size_extract, List.length_cons, List.length_nil]); omega) ?_) | (refine And.intro (by (try simp only [mk_size, List.size_toArray, ByteArray.size_append, ByteArray.size_extract, List.length_cons, List.length_nil, wrap64_eq]); omega) ?_) | fail)
      all_goals first | (exfalso; omega) | (exfalso; simp_all; done) | skip
      refine Again.go (i + 1, _) ⟨rfl, (by show AV.sl _ _ _ _ _ = AV.sl _ _ _ _ _; rw [hq, hla]), rfl, slI' (wsucc' i (by omega)), trivial⟩ (.keep ?_) (by dsimp only; omega) (by dsimp only; omega)
      dsimp only [outB]
      rw [hq, hla, List.map_append]; rfl
    · have hqd : vainQ (fsOf xs ys) n i = false := decide_eq_false hv
      rw [hqd, if_neg (by decide), List.append_nil] at hq
      repeat' ((conv => whnf); first | (refine Exists.intro _ (And.intro (getx1 getl) (And.intro hver (And.intro (hle _ (by rw [Int.toNat_natCast]; omega)) ?_))); rw [hg0 _ (by rw [Int.toNat_natCast]; omega)]) | (refine Exists.intro _ (And.intro (getx1 getl) (And.intro hver (And.intro (hle _ (by rw [hw1, Int.toNat_natCast]; omega)) ?_))); rw [hg1 _ (by rw [hw1, Int.toNat_natCast]; omega)]) | (refine Exists.intro _ (And.intro getl (And.intro rfl (And.intro rfl (And.intro rfl (And.intro rfl (And.intro rfl (And.intro (by decide) (And.intro (hml _) (And.intro rfl (And.intro (by dsimp only; unfold maxLen; omega) (And.intro (by dsimp only; omega) (fun cap' hcap1 hcap2 => ?_)))))))))))); rw [set_last]) | (refine Exists.intro ([] : List Nat) ?_) | (refine And.intro rfl ?_) | (refine And.intro (by decide +kernel) ?_) | (refine And.intro trivial ?_) | (refine fS_mk ?_) | (refine And.intro ⟨_, getx1 getl, hver⟩ ?_) | (refine Exists.intro _ (And.intro rfl (And.intro rfl (And.intro (Nat.le_of_ble_eq_true rfl) ?_)))) | (refine Exists.intro _ (And.intro rfl (And.intro rfl (And.intro rfl (And.intro (Nat.le_of_ble_eq_true rfl) ?_))))) | (refine And.intro (Exists.intro _ (And.intro rfl rfl)) ?_) | (exact fun hW => absurd hW (by decide +kernel)) | (intro hW; (try simp only [Bool.not_true, Bool.not_false, Bool.not_eq_true', Bool.not_eq_false', decide_eq_true_eq, decide_eq_false_iff_not, reduceCtorEq, Bool.true_eq_false, Bool.false_eq_true, mk_size, List.size_toArray, ByteArray.size_append, ByteArray.size_extract, List.length_cons, List.length_nil, ba_get, ba_empty, Int.toNat_natCast] at hW)) | (refine And.intro (?_ : _ → _) (?_ : _ → _)) | (refine FinR.drop 0 (Nat.zero_le _) (Closed.zero _) rfl ?_) | (refine FinR.keep ?_) | (refine And.intro (det3_agg rfl) ?_) | (refine fL_mk ?_) | (refine And.intro (by (try simp only [mk_size, List.size_toArray, ByteArray.size_append, ByteArray.size_extract, List.length_cons, List.length_nil]); omega) ?_) | (refine And.intro (by (try simp only [mk_size, List.size_toArray, ByteArray.size_append, ByteArray.size_extract, List.length_cons, List.length_nil, wrap64_eq]); omega) ?_) | fail)
      all_goals first | (exfalso; omega) | (exfalso; simp_all; done) | skip
      refine Again.go (i + 1, cp) ⟨rfl, (by show AV.sl _ _ _ _ _ = AV.sl _ _ _ _ _; rw [hq]), rfl, slI' (wsucc' i (by omega)), trivial⟩ (.keep ?_) (by dsimp only; omega) (by dsimp only; omega)
      dsimp only [outB]
      rw [hq]
  · obtain rfl : i = ys.length := by omega
    have h0 := fun τ => h0 (S ++ [ruB (runL (fsOf xs ys) n)]).length cp τ
    repeat' ((conv => whnf); first | (refine FinR.keep ?_) | (refine Exists.intro ([] : List Nat) ?_) | (refine And.intro rfl ?_) | (refine And.intro (by decide +kernel) ?_) | (refine And.intro trivial ?_) | (refine Exists.intro _ (And.intro rfl (And.intro rfl (And.intro (Nat.le_of_ble_eq_true rfl) ?_)))) | (refine Exists.intro _ (And.intro rfl (And.intro rfl (And.intro rfl (And.intro (Nat.le_of_ble_eq_true rfl) ?_))))) | (refine And.intro (Exists.intro _ (And.intro rfl rfl)) ?_) | (exact fun hW => absurd hW (by decide +kernel)) | (intro hW; (try simp only [Bool.not_true, Bool.not_false, Bool.not_eq_true', Bool.not_eq_false', decide_eq_true_eq, decide_eq_false_iff_not, reduceCtorEq, Bool.true_eq_false, Bool.false_eq_true, mk_size, List.size_toArray, ByteArray.size_append, ByteArray.size_extract, List.length_cons, List.length_nil, ba_get, ba_empty, Int.toNat_natCast] at hW)) | (refine And.intro (?_ : _ → _) (?_ : _ → _)) | (refine FinR.drop 0 (Nat.zero_le _) (Closed.zero _) rfl ?_) | (refine FinR.keep ?_) | (refine And.intro (det3_agg rfl) ?_) | (refine fL_mk ?_) | (refine And.intro (by (try simp only [mk_size, List.size_toArray, ByteArray.size_append, ByteArray.size_extract, List.length_cons, List.length_nil]); omega) ?_) | (refine And.intro (by (try simp only [mk_size, List.size_toArray, ByteArray.size_append, ByteArray.size_extract, List.length_cons, List.length_nil, wrap64_eq]); omega) ?_) | fail)
    all_goals first | (exfalso; omega) | exact h0 _ getl
theorem d_VainT (a b c d e f : Int) (s1 s2 : AV) (xs ys : List (List Int)) (h1 : Sli W0 σ 6 enI s1 xs) (h2 : Sli W0 σ 4 enI s2 ys) (hx : ∀ x ∈ xs, x.length = 6) (hy : ∀ x ∈ ys, x.length = 4) (hg : planB a b c d e f xs ys = true) (L : List Int) (hL : L = vainL xs ys (stN [a, b, c, d, e, f])) (K : Cont)
    (h0 : ∀ b cap τ, (σ ++ τ)[b]? = some (outB L) → σ.length ≤ b → K (.tup [.sl b L.length 0 L.length cap, Bo true]) (σ ++ τ)) : ACall Try.prog W0 45 [PlA a b c d e f s1 s2] σ K :=
  lift_Pl (rest := []) (ι := NewL L) (fun x => .tup [.sl x.b L.length 0 L.length x.cap, Bo true]) (fun x => x.τ) (by kernel_rfl) rfl h1 h2
    (fun W1 v1 v2 q1 q2 K hK => c_VainT a b c d e f v1 v2 xs ys q1 q2 hx hy hg L hL K (fun b cap τ h => hK ⟨b, cap, τ, h⟩)) K (fun x => h0 _ _ _ (newL_sh x) (Nat.le_add_right _ _))
theorem d_sVainF (a b c d e f : Int) (s1 s2 : AV) (xs ys : List (List Int)) (h1 : Sli W0 σ 6 enI s1 xs) (h2 : Sli W0 σ 4 enI s2 ys) (hx : ∀ x ∈ xs, x.length = 6) (hy : ∀ x ∈ ys, x.length = 4) (hl : xs.length ≤ 1048576) (hl2 : ys.length ≤ 1048576) (hg : planB a b c d e f xs ys = false) (K : Cont)
    (h0 : ∀ A, K (.tup [.sl (σ.length + 1) 0 0 0 0, Bo false]) (σ ++ [A, outB []])) : ACall Try.prog W0 46 [PlA a b c d e f s1 s2] σ K :=
  lift_Pl (rest := []) (ι := Blk) (fun _ => .tup [.sl 1 0 0 0 0, Bo false]) (fun A => [A, outB []]) (by kernel_rfl) rfl h1 h2
    (fun W1 v1 v2 q1 q2 K hK => c_sVainF a b c d e f v1 v2 xs ys q1 q2 hx hy hl hl2 hg K hK) K (fun A => h0 _)
theorem d_VainF (a b c d e f : Int) (s1 s2 : AV) (xs ys : List (List Int)) (h1 : Sli W0 σ 6 enI s1 xs) (h2 : Sli W0 σ 4 enI s2 ys) (hx : ∀ x ∈ xs, x.length = 6) (hy : ∀ x ∈ ys, x.length = 4) (hg : planB a b c d e f xs ys = false) (K : Cont)
    (h0 : K (.tup [nilA, Bo false]) σ) : ACall Try.prog W0 45 [PlA a b c d e f s1 s2] σ K :=
  lift_Pl (rest := []) (ι := Unit) (fun _ => .tup [nilA, Bo false]) (fun _ => []) (by kernel_rfl) rfl h1 h2
    (fun W1 v1 v2 q1 q2 K hK => c_VainF a b c d e f v1 v2 xs ys q1 q2 hx hy hg K (hK ())) K (fun _ => by
      rw [show shB σ.length [] = [] from rfl, List.append_nil]; exact h0)
end Go.Proofs.Ytkcbhdjhbnnlgaa
end

section
/- Contracts: the law of vain steps. -/
set_option linter.unusedVariables false
set_option linter.unusedSimpArgs false
set_option maxRecDepth 100000
set_option maxHeartbeats 4000000
namespace Go.Proofs.Ytkcbhdjhbnnlgaa
open Go Go.RowKit Go.Proofs.Ytkcbhdjhbnnlgaa.Abs
variable {W0 : World} {σ : List Blk}
theorem varC_app {F : List Nat} {R : Prop} {τ : List Blk} : ∀ {σ : List Blk} {k : Nat}, R → varC F σ R k (σ ++ τ)
  | [], _, h => h
  | B :: σ, k, h => by
    show (match memB k F with
      | true => B.ver = B.ver ∧ B.esz = B.esz ∧ B.row = B.row ∧ varC F σ R (k + 1) (σ ++ τ)
      | false => B = B ∧ varC F σ R (k + 1) (σ ++ τ) : Prop)
    cases memB k F with
    | true => exact ⟨rfl, rfl, rfl, varC_app h⟩
    | false => exact ⟨rfl, varC_app h⟩
end Go.Proofs.Ytkcbhdjhbnnlgaa
end

section
/- Contracts: plans in new memory. -/
set_option linter.unusedVariables false
set_option linter.unusedSimpArgs false
set_option maxRecDepth 100000
set_option maxHeartbeats 4000000
namespace Go.Proofs.Ytkcbhdjhbnnlgaa
open Go Go.RowKit Go.Proofs.Ytkcbhdjhbnnlgaa.Abs
variable {W0 : World} {σ : List Blk}
theorem jc_flat (xs : List (List Int)) : ((xs.map enI).flatten).map AV.lit = jc xs := by
  unfold jc
  rw [List.map_flatten, List.map_map]
  congr 1
  refine List.map_congr_left fun x _ => ?_
  simp
theorem flat_at {s : Nat} : ∀ {xs : List (List Int)}, (∀ x ∈ xs, x.length = s) → ∀ {j : Nat} {v : Value}, ((xs.map enI).flatten)[j]? = some v → ∃ i r x, j = i * s + r ∧ xs[i]? = some x ∧ (enI x)[r]? = some v
  | [], _, j, v, h => by simp at h
  | x :: xs, hx, j, v, h => by
    have hl : (enI x).length = s := by rw [List.length_map]; exact hx x List.mem_cons_self
    have h' : (enI x ++ (xs.map enI).flatten)[j]? = some v := h
    rw [List.getElem?_append] at h'
    split at h'
    · exact ⟨0, j, x, by omega, rfl, h'⟩
    · rename_i hj
      obtain ⟨i, r, y, e, hi, hr⟩ := flat_at (s := s) (fun y hy => hx y (List.mem_cons_of_mem _ hy)) h'
      exact ⟨i + 1, r, y, by rw [Nat.add_mul]; omega, hi, hr⟩
theorem flat_len {s : Nat} {xs : List (List Int)} (hx : ∀ x ∈ xs, x.length = s) : ((xs.map enI).flatten).length = xs.length * s := by
  have := jc_len hx
  rw [← jc_flat, List.length_map] at this
  exact this
/-- all rows of a slice that came in, to be appended -/
theorem sli_src {s : Nat} {ad : Addr} {n cap : Nat} {xs : List (List Int)} (h : Sli W0 [] s enI (.lit (.slice (some ad) n cap)) xs) (hx : ∀ x ∈ xs, x.length = s) {C : List Value → Prop} (hc : C ((xs.map enI).flatten)) :
    ∃ cs : List Value, cs.length = n * s ∧ (∀ (j : Nat) (v : Value), cs[j]? = some v → W0.cell? (ad.add j) = some v ∧ v.oneCell' = true) ∧ ad.block < W0.heap.size ∧ C cs := by
  cases h with
  | inn ad n cap xs hn hcc hm hb hxx =>
    refine ⟨_, by rw [flat_len hx, hn], fun j v hj => ?_, hb, hc⟩
    obtain ⟨i, r, x, rfl, hi, hr⟩ := flat_at hx hj
    have := hxx i x hi r v hr
    rw [add_add] at this
    exact this
/-- a slice that is not nil, as the callee sees it -/
theorem sli_concN {s : Nat} {a : AV} {xs : List (List Int)} {ι : Abs.Loc} {W1 : World} {x : Value} (h : Sli W0 σ s enI a xs) (hn : a ≠ nilA) (hh : HRel W0 ι σ W1) (hr : rel3 ι σ a x) :
    ∃ o n c, x = .slice (some o) n c ∧ Sli W1 [] s enI (.lit (.slice (some o) n c)) xs := by
  have hx : ∃ o n c, x = .slice (some o) n c := by
    cases h with
    | nil => exact absurd rfl hn
    | inn ad n cap xs hn hc hm hb hx => exact ⟨ad, n, cap, hr⟩
    | own b ver off n cap B xs hB hv hn hx =>
      obtain ⟨c, t, _, e, _⟩ := slRel_now hr hB hv
      exact ⟨_, _, _, e⟩
  obtain ⟨o, n, c, rfl⟩ := hx
  obtain ⟨a', ha, hs⟩ := h.conc hh ⟨_, hr⟩
  obtain ⟨v, rfl⟩ := sli_lit hs
  have e : (.slice (some o) n c : Value) = v := ha _ hr
  subst e
  exact ⟨o, n, c, rfl, hs⟩
theorem sl_nn {b v o n c : Nat} : AV.sl b v o n c ≠ nilA := by intro h; cases h
theorem lit_nn {o : Addr} {n c : Nat} : AV.lit (.slice (some o) n c) ≠ nilA := by intro h; cases h
theorem plA_concN {a b c d e f : Int} {s1 s2 : AV} {xs ys : List (List Int)} {ι : Abs.Loc} {W1 : World} {x : Value} (h1 : Sli W0 σ 6 enI s1 xs) (h2 : Sli W0 σ 4 enI s2 ys) (n1 : s1 ≠ nilA) (n2 : s2 ≠ nilA) (hh : HRel W0 ι σ W1) (hr : rel3 ι σ (PlA a b c d e f s1 s2) x) :
    ∃ o1 m1 c1 o2 m2 c2, Sli W1 [] 6 enI (.lit (.slice (some o1) m1 c1)) xs ∧ Sli W1 [] 4 enI (.lit (.slice (some o2) m2 c2)) ys ∧ rel3 [] [] (PlA a b c d e f (.lit (.slice (some o1) m1 c1)) (.lit (.slice (some o2) m2 c2))) x := by
  obtain ⟨l, rfl, hl⟩ := (show ∃ l : List Value, x = .agg l.toArray ∧ Rels (crel ι σ) [I a, I b, I c, I d, I e, I f, s1, s2] l from hr)
  obtain ⟨x0, l0, rfl, q0, r0⟩ := Rels.uncons hl
  obtain ⟨x1, l1, rfl, q1, r1⟩ := Rels.uncons r0
  obtain ⟨x2, l2, rfl, q2, r2⟩ := Rels.uncons r1
  obtain ⟨x3, l3, rfl, q3, r3⟩ := Rels.uncons r2
  obtain ⟨x4, l4, rfl, q4, r4⟩ := Rels.uncons r3
  obtain ⟨x5, l5, rfl, q5, r5⟩ := Rels.uncons r4
  obtain ⟨x6, l6, rfl, q6, r6⟩ := Rels.uncons r5
  obtain ⟨x7, l7, rfl, q7, r7⟩ := Rels.uncons r6
  obtain rfl := r7.nil_inv
  obtain ⟨o1, m1, c1, e1, hs1⟩ := sli_concN h1 n1 hh (sli_r31 h1 q6.1)
  obtain ⟨o2, m2, c2, e2, hs2⟩ := sli_concN h2 n2 hh (sli_r31 h2 q7.1)
  subst e1; subst e2
  refine ⟨_, _, _, _, _, _, hs1, hs2, _, rfl, ?_⟩
  exact Rels.cons ⟨q0.1, q0.2⟩ (Rels.cons ⟨q1.1, q1.2⟩ (Rels.cons ⟨q2.1, q2.2⟩ (Rels.cons ⟨q3.1, q3.2⟩ (Rels.cons ⟨q4.1, q4.2⟩ (Rels.cons ⟨q5.1, q5.2⟩ (Rels.cons ⟨rfl, q6.2⟩ (Rels.cons ⟨rfl, q7.2⟩ Rels.nil)))))))
theorem lift_PlN {g : FuncId} {a b c d e f : Int} {s1 s2 : AV} {rest : List AV} {xs ys : List (List Int)} {ι : Type} (r : ι → AV) (β : ι → List Blk) (hok : callOK Try.prog g = true) (hrest : rest.all pure3 = true) (h1 : Sli W0 σ 6 enI s1 xs) (h2 : Sli W0 σ 4 enI s2 ys) (n1 : s1 ≠ nilA) (n2 : s2 ≠ nilA)
    (h : ∀ (W1 : World) (o1 : Addr) (m1 c1 : Nat) (o2 : Addr) (m2 c2 : Nat), Sli W1 [] 6 enI (.lit (.slice (some o1) m1 c1)) xs → Sli W1 [] 4 enI (.lit (.slice (some o2) m2 c2)) ys → ∀ K : Cont, (∀ i, K (r i) (β i)) → ACall Try.prog W1 g (PlA a b c d e f (.lit (.slice (some o1) m1 c1)) (.lit (.slice (some o2) m2 c2)) :: rest) [] K) (K : Cont) (h0 : ∀ i, K (sh3 σ.length (r i)) (σ ++ shB σ.length (β i))) : ACall Try.prog W0 g (PlA a b c d e f s1 s2 :: rest) σ K := by
  refine ACall.frameA (K0 := fun v σ' => ∃ i, v = r i ∧ σ' = β i) hok (fun W1 ι vs hh hrr => ?_) ?_
  · obtain ⟨v1, vs', rfl, hr1, hr2⟩ := Rels.uncons hrr
    obtain ⟨o1, m1, c1, o2, m2, c2, q1, q2, q3⟩ := plA_concN h1 h2 n1 n2 hh hr1
    exact ⟨_ :: rest, Rels.cons q3 (rels_pure hrest hr2), h W1 _ _ _ _ _ _ q1 q2 _ (fun i => ⟨i, rfl, rfl⟩)⟩
  · rintro v σ' ⟨i, rfl, rfl⟩; exact h0 i
theorem lift_PlSN {g : FuncId} {a b c d e f : Int} {s1 s2 s3 : AV} {xs ys zs : List (List Int)} {ι : Type} (r : ι → AV) (β : ι → List Blk) (hok : callOK Try.prog g = true) (h1 : Sli W0 σ 6 enI s1 xs) (h2 : Sli W0 σ 4 enI s2 ys) (h3 : Sli W0 σ 4 enI s3 zs) (n1 : s1 ≠ nilA) (n2 : s2 ≠ nilA) (n3 : s3 ≠ nilA)
    (h : ∀ (W1 : World) (o1 : Addr) (m1 c1 : Nat) (o2 : Addr) (m2 c2 : Nat) (o3 : Addr) (m3 c3 : Nat), Sli W1 [] 6 enI (.lit (.slice (some o1) m1 c1)) xs → Sli W1 [] 4 enI (.lit (.slice (some o2) m2 c2)) ys → Sli W1 [] 4 enI (.lit (.slice (some o3) m3 c3)) zs → ∀ K : Cont, (∀ i, K (r i) (β i)) → ACall Try.prog W1 g [PlA a b c d e f (.lit (.slice (some o1) m1 c1)) (.lit (.slice (some o2) m2 c2)), .lit (.slice (some o3) m3 c3)] [] K) (K : Cont) (h0 : ∀ i, K (sh3 σ.length (r i)) (σ ++ shB σ.length (β i))) : ACall Try.prog W0 g [PlA a b c d e f s1 s2, s3] σ K := by
  refine ACall.frameA (K0 := fun v σ' => ∃ i, v = r i ∧ σ' = β i) hok (fun W1 ι vs hh hrr => ?_) ?_
  · obtain ⟨v1, vs', rfl, hr1, hr2⟩ := Rels.uncons hrr
    obtain ⟨v2, vs'', rfl, hr3, hr4⟩ := Rels.uncons hr2
    obtain rfl := hr4.nil_inv
    obtain ⟨o1, m1, c1, o2, m2, c2, q1, q2, q3⟩ := plA_concN h1 h2 n1 n2 hh hr1
    obtain ⟨o3, m3, c3, rfl, q4⟩ := sli_concN h3 n3 hh hr3
    exact ⟨[_, .lit (.slice (some o3) m3 c3)], Rels.cons q3 (Rels.cons rfl Rels.nil), h W1 _ _ _ _ _ _ _ _ _ q1 q2 q4 _ (fun i => ⟨i, rfl, rfl⟩)⟩
  · rintro v σ' ⟨i, rfl, rfl⟩; exact h0 i
theorem lift_SN {g : FuncId} {s : Nat} {a : AV} {xs : List (List Int)} {ι : Type} (r : ι → AV) (β : ι → List Blk) (hok : callOK Try.prog g = true) (h1 : Sli W0 σ s enI a xs) (n1 : a ≠ nilA)
    (h : ∀ (W1 : World) (o1 : Addr) (m1 c1 : Nat), Sli W1 [] s enI (.lit (.slice (some o1) m1 c1)) xs → ∀ K : Cont, (∀ i, K (r i) (β i)) → ACall Try.prog W1 g [.lit (.slice (some o1) m1 c1)] [] K) (K : Cont) (h0 : ∀ i, K (sh3 σ.length (r i)) (σ ++ shB σ.length (β i))) : ACall Try.prog W0 g [a] σ K := by
  refine ACall.frameA (K0 := fun v σ' => ∃ i, v = r i ∧ σ' = β i) hok (fun W1 ι vs hh hrr => ?_) ?_
  · obtain ⟨v1, vs', rfl, hr1, hr2⟩ := Rels.uncons hrr
    obtain rfl := hr2.nil_inv
    obtain ⟨o1, m1, c1, rfl, q1⟩ := sli_concN h1 n1 hh hr1
    exact ⟨[.lit (.slice (some o1) m1 c1)], Rels.cons rfl Rels.nil, h W1 _ _ _ q1 _ (fun i => ⟨i, rfl, rfl⟩)⟩
  · rintro v σ' ⟨i, rfl, rfl⟩; exact h0 i
abbrev shK (xs : List (List Int)) (r : Nat) : Blk := ⟨jc xs, r, 26, 6, true, true⟩
abbrev stK (ys : List (List Int)) (r : Nat) : Blk := ⟨jc ys, r, 87, 4, true, true⟩
theorem c_CloneSheet (o : Addr) (n c : Nat) (xs : List (List Int)) (h1 : Sli W0 [] 6 enI (.lit (.slice (some o) n c)) xs) (hx : ∀ x ∈ xs, x.length = 6) (hl : xs.length ≤ 2097152) (K : Cont) (h0 : ∀ c', K (.sl 0 1 0 xs.length c') [shK xs 1]) : ACall Try.prog W0 127 [.lit (.slice (some o) n c)] [] K := by
  refine by127 (Nat.le_of_ble_eq_true rfl) ?_
  have hn : n = xs.length := by cases h1 with | inn ad n cap xs hn hc hm hb hxx => exact hn
  subst hn
  have hj : (((xs.map enI).flatten).map AV.lit).length = xs.length * 6 := by rw [jc_flat]; exact jc_len hx
  repeat' ((conv => whnf); first | (refine Exists.intro ([] : List Nat) ?_) | (refine And.intro rfl ?_) | (refine And.intro (by decide +kernel) ?_) | (refine And.intro trivial ?_) | (refine sli_src h1 hx ?_) | (refine Exists.intro _ (And.intro rfl (And.intro rfl (And.intro rfl (And.intro rfl (And.intro rfl (And.intro rfl (And.intro (by decide) (And.intro rfl (And.intro hj (And.intro (by unfold maxLen; omega) (And.intro (by omega) (fun cap' hcap1 hcap2 => ?_))))))))))))) | (refine Exists.intro _ (And.intro rfl (And.intro rfl (And.intro (Nat.le_of_ble_eq_true rfl) ?_)))) | (refine Exists.intro _ (And.intro rfl (And.intro rfl (And.intro rfl (And.intro (Nat.le_of_ble_eq_true rfl) ?_))))) | (refine And.intro (Exists.intro _ (And.intro rfl rfl)) ?_) | (exact fun hW => absurd hW (by decide +kernel)) | (intro hW; (try simp only [Bool.not_true, Bool.not_false, Bool.not_eq_true', Bool.not_eq_false', decide_eq_true_eq, decide_eq_false_iff_not, reduceCtorEq, Bool.true_eq_false, Bool.false_eq_true, mk_size, List.size_toArray, ByteArray.size_append, ByteArray.size_extract, List.length_cons, List.length_nil, ba_get, ba_empty, Int.toNat_natCast] at hW)) | (refine And.intro (?_ : _ → _) (?_ : _ → _)) | (refine FinR.drop 0 (Nat.zero_le _) (Closed.zero _) rfl ?_) | (refine FinR.keep ?_) | (refine And.intro (det3_agg rfl) ?_) | (refine fL_mk ?_) | (refine And.intro (by (try simp only [mk_size, List.size_toArray, ByteArray.size_append, ByteArray.size_extract, List.length_cons, List.length_nil]); omega) ?_) | (refine And.intro (by (try simp only [mk_size, List.size_toArray, ByteArray.size_append, ByteArray.size_extract, List.length_cons, List.length_nil, wrap64_eq]); omega) ?_) | fail)
  all_goals first | (exfalso; simp_all; done) | skip
  all_goals (rw [Nat.zero_add xs.length, jc_flat]; exact h0 _)
theorem d_CloneSheet (a : AV) (xs : List (List Int)) (h1 : Sli W0 σ 6 enI a xs) (n1 : a ≠ nilA) (hx : ∀ x ∈ xs, x.length = 6) (hl : xs.length ≤ 2097152) (K : Cont) (h0 : ∀ c', K (.sl σ.length 1 0 xs.length c') (σ ++ [shK xs 1])) : ACall Try.prog W0 127 [a] σ K :=
  lift_SN (ι := Nat) (fun c' => .sl 0 1 0 xs.length c') (fun _ => [shK xs 1]) (by kernel_rfl) h1 n1 (fun W1 o1 m1 c1 q K hK => c_CloneSheet o1 m1 c1 xs q hx hl K hK) K (fun c' => by
    rw [show shB σ.length [shK xs 1] = [shK xs 1] by simp [shB, jc_sh]]; exact h0 c')
theorem c_CloneStep (o : Addr) (n c : Nat) (xs : List (List Int)) (h1 : Sli W0 [] 4 enI (.lit (.slice (some o) n c)) xs) (hx : ∀ x ∈ xs, x.length = 4) (hl : xs.length ≤ 2097152) (K : Cont) (h0 : ∀ c', K (.sl 0 1 0 xs.length c') [stK xs 1]) : ACall Try.prog W0 128 [.lit (.slice (some o) n c)] [] K := by
  refine by128 (Nat.le_of_ble_eq_true rfl) ?_
  have hn : n = xs.length := by cases h1 with | inn ad n cap xs hn hc hm hb hxx => exact hn
  subst hn
  have hj : (((xs.map enI).flatten).map AV.lit).length = xs.length * 4 := by rw [jc_flat]; exact jc_len hx
  repeat' ((conv => whnf); first | (refine Exists.intro ([] : List Nat) ?_) | (refine And.intro rfl ?_) | (refine And.intro (by decide +kernel) ?_) | (refine And.intro trivial ?_) | (refine sli_src h1 hx ?_) | (refine Exists.intro _ (And.intro rfl (And.intro rfl (And.intro rfl (And.intro rfl (And.intro rfl (And.intro rfl (And.intro (by decide) (And.intro rfl (And.intro hj (And.intro (by unfold maxLen; omega) (And.intro (by omega) (fun cap' hcap1 hcap2 => ?_))))))))))))) | (refine Exists.intro _ (And.intro rfl (And.intro rfl (And.intro (Nat.le_of_ble_eq_true rfl) ?_)))) | (refine Exists.intro _ (And.intro rfl (And.intro rfl (And.intro rfl (And.intro (Nat.le_of_ble_eq_true rfl) ?_))))) | (refine And.intro (Exists.intro _ (And.intro rfl rfl)) ?_) | (exact fun hW => absurd hW (by decide +kernel)) | (intro hW; (try simp only [Bool.not_true, Bool.not_false, Bool.not_eq_true', Bool.not_eq_false', decide_eq_true_eq, decide_eq_false_iff_not, reduceCtorEq, Bool.true_eq_false, Bool.false_eq_true, mk_size, List.size_toArray, ByteArray.size_append, ByteArray.size_extract, List.length_cons, List.length_nil, ba_get, ba_empty, Int.toNat_natCast] at hW)) | (refine And.intro (?_ : _ → _) (?_ : _ → _)) | (refine FinR.drop 0 (Nat.zero_le _) (Closed.zero _) rfl ?_) | (refine FinR.keep ?_) | (refine And.intro (det3_agg rfl) ?_) | (refine fL_mk ?_) | (refine And.intro (by (try simp only [mk_size, List.size_toArray, ByteArray.size_append, ByteArray.size_extract, List.length_cons, List.length_nil]); omega) ?_) | (refine And.intro (by (try simp only [mk_size, List.size_toArray, ByteArray.size_append, ByteArray.size_extract, List.length_cons, List.length_nil, wrap64_eq]); omega) ?_) | fail)
  all_goals first | (exfalso; simp_all; done) | skip
  all_goals (rw [Nat.zero_add xs.length, jc_flat]; exact h0 _)
theorem d_CloneStep (a : AV) (xs : List (List Int)) (h1 : Sli W0 σ 4 enI a xs) (n1 : a ≠ nilA) (hx : ∀ x ∈ xs, x.length = 4) (hl : xs.length ≤ 2097152) (K : Cont) (h0 : ∀ c', K (.sl σ.length 1 0 xs.length c') (σ ++ [stK xs 1])) : ACall Try.prog W0 128 [a] σ K :=
  lift_SN (ι := Nat) (fun c' => .sl 0 1 0 xs.length c') (fun _ => [stK xs 1]) (by kernel_rfl) h1 n1 (fun W1 o1 m1 c1 q K hK => c_CloneStep o1 m1 c1 xs q hx hl K hK) K (fun c' => by
    rw [show shB σ.length [stK xs 1] = [stK xs 1] by simp [shB, jc_sh]]; exact h0 c')
/-- a plan in new memory -/
structure NewP (xs ys : List (List Int)) where
  τ : List Blk
  b1 : Nat
  r1 : Nat
  c1 : Nat
  b2 : Nat
  r2 : Nat
  c2 : Nat
  h1 : τ[b1]? = some (shK xs r1)
  h2 : τ[b2]? = some (stK ys r2)
theorem newP_sh1 {xs ys : List (List Int)} (x : NewP xs ys) : (σ ++ shB σ.length x.τ)[σ.length + x.b1]? = some (shK xs x.r1) := by
  rw [get_sh x.h1]
  show some (⟨(jc xs).map (sh1 σ.length), _, _, _, _, _⟩ : Blk) = _
  rw [jc_sh]
theorem newP_sh2 {xs ys : List (List Int)} (x : NewP xs ys) : (σ ++ shB σ.length x.τ)[σ.length + x.b2]? = some (stK ys x.r2) := by
  rw [get_sh x.h2]
  show some (⟨(jc ys).map (sh1 σ.length), _, _, _, _, _⟩ : Blk) = _
  rw [jc_sh]
theorem newP_raw {a b c d e f : Int} {xs ys : List (List Int)} {K : Cont} (h0 : ∀ x : NewP xs ys, K (PlA a b c d e f (.sl x.b1 x.r1 0 xs.length x.c1) (.sl x.b2 x.r2 0 ys.length x.c2)) x.τ) (τ : List Blk) (b1 r1 c1 b2 r2 c2 n1 n2 : Nat) (C1 C2 : List AV) (e1 : n1 = xs.length) (e2 : n2 = ys.length) (h1 : τ[b1]? = some ⟨C1, r1, 26, 6, true, true⟩) (j1 : C1 = jc xs) (h2 : τ[b2]? = some ⟨C2, r2, 87, 4, true, true⟩) (j2 : C2 = jc ys) : K (PlA a b c d e f (.sl b1 r1 0 n1 c1) (.sl b2 r2 0 n2 c2)) τ := by
  subst e1; subst e2; subst j1; subst j2
  exact h0 ⟨τ, b1, r1, c1, b2, r2, c2, h1, h2⟩
abbrev plN (a b c d e f : Int) {xs ys : List (List Int)} (x : NewP xs ys) : AV := PlA a b c d e f (.sl x.b1 x.r1 0 xs.length x.c1) (.sl x.b2 x.r2 0 ys.length x.c2)
theorem c_copied (a b c d e f : Int) (o1 : Addr) (m1 c1 : Nat) (o2 : Addr) (m2 c2 : Nat) (o3 : Addr) (m3 c3 : Nat) (xs ys zs : List (List Int)) (h1 : Sli W0 [] 6 enI (.lit (.slice (some o1) m1 c1)) xs) (h2 : Sli W0 [] 4 enI (.lit (.slice (some o2) m2 c2)) ys) (h3 : Sli W0 [] 4 enI (.lit (.slice (some o3) m3 c3)) zs) (hx : ∀ x ∈ xs, x.length = 6) (hz : ∀ x ∈ zs, x.length = 4) (hl : xs.length ≤ 2097152) (hl2 : zs.length ≤ 2097152) (K : Cont) (h0 : ∀ x : NewP xs zs, K (plN a b c d e f x) x.τ) : ACall Try.prog W0 102 [PlA a b c d e f (.lit (.slice (some o1) m1 c1)) (.lit (.slice (some o2) m2 c2)), .lit (.slice (some o3) m3 c3)] [] K := by
  refine by102 (Nat.le_of_ble_eq_true rfl) ?_
  repeat' ((conv => whnf); first | (refine Exists.intro ([] : List Nat) ?_) | (refine And.intro rfl ?_) | (refine And.intro (by decide +kernel) ?_) | (refine And.intro trivial ?_) | (refine d_CloneSheet (h1 := sli_up h1) (n1 := lit_nn) (hx := hx) (hl := hl) (h0 := fun c' => ?_) ..) | (refine d_CloneStep (h1 := sli_up h3) (n1 := lit_nn) (hx := hz) (hl := hl2) (h0 := fun c' => ?_) ..) | (refine Exists.intro _ (And.intro rfl (And.intro rfl (And.intro (Nat.le_of_ble_eq_true rfl) ?_)))) | (refine Exists.intro _ (And.intro rfl (And.intro rfl (And.intro rfl (And.intro (Nat.le_of_ble_eq_true rfl) ?_))))) | (refine And.intro (Exists.intro _ (And.intro rfl rfl)) ?_) | (exact fun hW => absurd hW (by decide +kernel)) | (intro hW; (try simp only [Bool.not_true, Bool.not_false, Bool.not_eq_true', Bool.not_eq_false', decide_eq_true_eq, decide_eq_false_iff_not, reduceCtorEq, Bool.true_eq_false, Bool.false_eq_true, mk_size, List.size_toArray, ByteArray.size_append, ByteArray.size_extract, List.length_cons, List.length_nil, ba_get, ba_empty, Int.toNat_natCast] at hW)) | (refine And.intro (?_ : _ → _) (?_ : _ → _)) | (refine FinR.drop 0 (Nat.zero_le _) (Closed.zero _) rfl ?_) | (refine FinR.keep ?_) | (refine And.intro (det3_agg rfl) ?_) | (refine fL_mk ?_) | (refine And.intro (by (try simp only [mk_size, List.size_toArray, ByteArray.size_append, ByteArray.size_extract, List.length_cons, List.length_nil]); omega) ?_) | (refine And.intro (by (try simp only [mk_size, List.size_toArray, ByteArray.size_append, ByteArray.size_extract, List.length_cons, List.length_nil, wrap64_eq]); omega) ?_) | fail)
  exact h0 ⟨_, _, _, _, _, _, _, rfl, rfl⟩
theorem c_l11Own (a b c d e f : Int) (o1 : Addr) (m1 c1 : Nat) (o2 : Addr) (m2 c2 : Nat) (o3 : Addr) (m3 c3 : Nat) (xs ys zs : List (List Int)) (h1 : Sli W0 [] 6 enI (.lit (.slice (some o1) m1 c1)) xs) (h2 : Sli W0 [] 4 enI (.lit (.slice (some o2) m2 c2)) ys) (h3 : Sli W0 [] 4 enI (.lit (.slice (some o3) m3 c3)) zs) (hx : ∀ x ∈ xs, x.length = 6) (hz : ∀ x ∈ zs, x.length = 4) (hl : xs.length ≤ 2097152) (hl2 : zs.length ≤ 2097152) (K : Cont) (h0 : ∀ x : NewP xs zs, K (plN a b c d e f x) x.τ) : ACall Try.prog W0 104 [PlA a b c d e f (.lit (.slice (some o1) m1 c1)) (.lit (.slice (some o2) m2 c2)), .lit (.slice (some o3) m3 c3)] [] K := by
  refine by104 (Nat.le_of_ble_eq_true rfl) ?_
  have hn1 : m1 = xs.length := by cases h1 with | inn ad n cap xs hn hc hm hb hxx => exact hn
  have hn3 : m3 = zs.length := by cases h3 with | inn ad n cap xs hn hc hm hb hxx => exact hn
  subst hn1; subst hn3
  have hj1 : (((xs.map enI).flatten).map AV.lit).length = xs.length * 6 := by rw [jc_flat]; exact jc_len hx
  have hj3 : (((zs.map enI).flatten).map AV.lit).length = zs.length * 4 := by rw [jc_flat]; exact jc_len hz
  repeat' ((conv => whnf); first | (refine Exists.intro ([] : List Nat) ?_) | (refine And.intro rfl ?_) | (refine And.intro (by decide +kernel) ?_) | (refine And.intro trivial ?_) | (refine sli_src h1 hx ?_) | (refine sli_src h3 hz ?_) | (refine Exists.intro _ (And.intro rfl (And.intro rfl (And.intro rfl (And.intro rfl (And.intro rfl (And.intro rfl (And.intro (by decide) (And.intro rfl (And.intro hj1 (And.intro (by unfold maxLen; omega) (And.intro (by omega) (fun cap' hcap1 hcap2 => ?_))))))))))))) | (refine Exists.intro _ (And.intro rfl (And.intro rfl (And.intro rfl (And.intro rfl (And.intro rfl (And.intro rfl (And.intro (by decide) (And.intro rfl (And.intro hj3 (And.intro (by unfold maxLen; omega) (And.intro (by omega) (fun cap' hcap1 hcap2 => ?_))))))))))))) | (first | (refine And.intro (Exists.intro _ (And.intro rfl rfl)) ?_) | (refine And.intro (?_ : _ → _) (?_ : _ → _)) | (refine And.intro (det3_agg rfl) ?_) | (refine And.intro (by (try simp only [List.length_cons, List.length_nil]); omega) ?_) | (refine And.intro ?_ ?_)) | (refine Exists.intro _ (And.intro rfl (And.intro rfl (And.intro (Nat.le_of_ble_eq_true rfl) ?_)))) | (refine Exists.intro _ (And.intro rfl (And.intro rfl (And.intro rfl (And.intro (Nat.le_of_ble_eq_true rfl) ?_))))) | (refine And.intro (Exists.intro _ (And.intro rfl rfl)) ?_) | (exact fun hW => absurd hW (by decide +kernel)) | (intro hW; (try simp only [Bool.not_true, Bool.not_false, Bool.not_eq_true', Bool.not_eq_false', decide_eq_true_eq, decide_eq_false_iff_not, reduceCtorEq, Bool.true_eq_false, Bool.false_eq_true, mk_size, List.size_toArray, ByteArray.size_append, ByteArray.size_extract, List.length_cons, List.length_nil, ba_get, ba_empty, Int.toNat_natCast] at hW)) | (refine And.intro (?_ : _ → _) (?_ : _ → _)) | (refine FinR.drop 0 (Nat.zero_le _) (Closed.zero _) rfl ?_) | (refine FinR.keep ?_) | (refine And.intro (det3_agg rfl) ?_) | (refine fL_mk ?_) | (refine And.intro (by (try simp only [mk_size, List.size_toArray, ByteArray.size_append, ByteArray.size_extract, List.length_cons, List.length_nil]); omega) ?_) | (refine And.intro (by (try simp only [mk_size, List.size_toArray, ByteArray.size_append, ByteArray.size_extract, List.length_cons, List.length_nil, wrap64_eq]); omega) ?_) | fail)
  all_goals exact newP_raw h0 _ _ _ _ _ _ _ _ _ _ _ (Nat.zero_add _) (Nat.zero_add _) rfl (jc_flat xs) rfl (jc_flat zs)
theorem d_copied (a b c d e f : Int) (s1 s2 s3 : AV) (xs ys zs : List (List Int)) (h1 : Sli W0 σ 6 enI s1 xs) (h2 : Sli W0 σ 4 enI s2 ys) (h3 : Sli W0 σ 4 enI s3 zs) (n1 : s1 ≠ nilA) (n2 : s2 ≠ nilA) (n3 : s3 ≠ nilA) (hx : ∀ x ∈ xs, x.length = 6) (hz : ∀ x ∈ zs, x.length = 4) (hl : xs.length ≤ 2097152) (hl2 : zs.length ≤ 2097152) (K : Cont)
    (h0 : ∀ S b1 r1 c1 b2 r2 c2, S[b1]? = some (shK xs r1) → S[b2]? = some (stK zs r2) → σ.length ≤ b1 → σ.length ≤ b2 → (∀ (j : Nat) (B : Blk), σ[j]? = some B → S[j]? = some B) → K (PlA a b c d e f (.sl b1 r1 0 xs.length c1) (.sl b2 r2 0 zs.length c2)) S) : ACall Try.prog W0 102 [PlA a b c d e f s1 s2, s3] σ K :=
  lift_PlSN (ι := NewP xs zs) (fun x => plN a b c d e f x) (fun x => x.τ) (by kernel_rfl) h1 h2 h3 n1 n2 n3 (fun W1 o1 m1 c1 o2 m2 c2 o3 m3 c3 q1 q2 q3 K hK => c_copied a b c d e f o1 m1 c1 o2 m2 c2 o3 m3 c3 xs ys zs q1 q2 q3 hx hz hl hl2 K hK) K (fun x => h0 _ _ _ _ _ _ _ (newP_sh1 x) (newP_sh2 x) (Nat.le_add_right _ _) (Nat.le_add_right _ _) (fun j B hj => getx1 hj))
theorem d_l11Own (a b c d e f : Int) (s1 s2 s3 : AV) (xs ys zs : List (List Int)) (h1 : Sli W0 σ 6 enI s1 xs) (h2 : Sli W0 σ 4 enI s2 ys) (h3 : Sli W0 σ 4 enI s3 zs) (n1 : s1 ≠ nilA) (n2 : s2 ≠ nilA) (n3 : s3 ≠ nilA) (hx : ∀ x ∈ xs, x.length = 6) (hz : ∀ x ∈ zs, x.length = 4) (hl : xs.length ≤ 2097152) (hl2 : zs.length ≤ 2097152) (K : Cont)
    (h0 : ∀ S b1 r1 c1 b2 r2 c2, S[b1]? = some (shK xs r1) → S[b2]? = some (stK zs r2) → σ.length ≤ b1 → σ.length ≤ b2 → (∀ (j : Nat) (B : Blk), σ[j]? = some B → S[j]? = some B) → K (PlA a b c d e f (.sl b1 r1 0 xs.length c1) (.sl b2 r2 0 zs.length c2)) S) : ACall Try.prog W0 104 [PlA a b c d e f s1 s2, s3] σ K :=
  lift_PlSN (ι := NewP xs zs) (fun x => plN a b c d e f x) (fun x => x.τ) (by kernel_rfl) h1 h2 h3 n1 n2 n3 (fun W1 o1 m1 c1 o2 m2 c2 o3 m3 c3 q1 q2 q3 K hK => c_l11Own a b c d e f o1 m1 c1 o2 m2 c2 o3 m3 c3 xs ys zs q1 q2 q3 hx hz hl hl2 K hK) K (fun x => h0 _ _ _ _ _ _ _ (newP_sh1 x) (newP_sh2 x) (Nat.le_add_right _ _) (Nat.le_add_right _ _) (fun j B hj => getx1 hj))
end Go.Proofs.Ytkcbhdjhbnnlgaa
end

section
/- Contracts: steps undone, by both sides. -/
set_option linter.unusedVariables false
set_option linter.unusedSimpArgs false
set_option maxRecDepth 100000
set_option maxHeartbeats 4000000
namespace Go.Proofs.Ytkcbhdjhbnnlgaa
open Go Go.RowKit Go.Proofs.Ytkcbhdjhbnnlgaa.Abs
variable {W0 : World} {σ : List Blk}
abbrev plZ : AV := PlA 0 0 0 0 0 0 nilA nilA
end Go.Proofs.Ytkcbhdjhbnnlgaa
end

section
/- Contracts: plans of the laws with the state as a variable; plans without slices. -/
set_option linter.unusedVariables false
set_option linter.unusedSimpArgs false
set_option maxRecDepth 100000
set_option maxHeartbeats 4000000
namespace Go.Proofs.Ytkcbhdjhbnnlgaa
open Go Go.RowKit Go.Proofs.Ytkcbhdjhbnnlgaa.Abs
variable {W0 : World} {σ : List Blk}
theorem ne_of_64 {b1 b2 r1 r2 : Nat} {xs ys : List (List Int)} (h1 : σ[b1]? = some (shK xs r1)) (h2 : σ[b2]? = some (stK ys r2)) : b1 ≠ b2 := by
  rintro rfl
  rw [h1] at h2
  injection h2 with h
  injection h with _ _ _ h
  cases h
end Go.Proofs.Ytkcbhdjhbnnlgaa
end

section
/- Contracts: steps drawn from bytes. -/
set_option linter.unusedVariables false
set_option linter.unusedSimpArgs false
set_option maxRecDepth 100000
set_option maxHeartbeats 4000000
namespace Go.Proofs.Ytkcbhdjhbnnlgaa
open Go Go.RowKit Go.Proofs.Ytkcbhdjhbnnlgaa.Abs
variable {W0 : World} {σ : List Blk}
abbrev stC (k s x y : Int) : Blk := ⟨[I k, I s, I x, I y], 0, 87, 0, false, false⟩
abbrev StA (k s x y : Int) : AV := .agg [I k, I s, I x, I y]
theorem c_l1Most (a b : Int) (K : Cont) (h0 : ∀ m, (m = a ∨ m = b) → a ≤ m → b ≤ m → K (I m) []) : ACall Try.prog W0 134 [I a, I b] [] K := by
  refine by134 (Nat.le_of_ble_eq_true rfl) ?_
  repeat' ((conv => whnf); first | (refine Exists.intro ([] : List Nat) ?_) | (refine And.intro rfl ?_) | (refine And.intro (by decide +kernel) ?_) | (refine And.intro trivial ?_) | (refine Exists.intro _ (And.intro rfl (And.intro rfl (And.intro (Nat.le_of_ble_eq_true rfl) ?_)))) | (refine Exists.intro _ (And.intro rfl (And.intro rfl (And.intro rfl (And.intro (Nat.le_of_ble_eq_true rfl) ?_))))) | (refine And.intro (Exists.intro _ (And.intro rfl rfl)) ?_) | (exact fun hW => absurd hW (by decide +kernel)) | (intro hW; (try simp only [Bool.not_true, Bool.not_false, Bool.not_eq_true', Bool.not_eq_false', decide_eq_true_eq, decide_eq_false_iff_not, reduceCtorEq, Bool.true_eq_false, Bool.false_eq_true, mk_size, List.size_toArray, ByteArray.size_append, ByteArray.size_extract, List.length_cons, List.length_nil, ba_get, ba_empty, Int.toNat_natCast] at hW)) | (refine And.intro (?_ : _ → _) (?_ : _ → _)) | (refine FinR.drop 0 (Nat.zero_le _) (Closed.zero _) rfl ?_) | (refine FinR.keep ?_) | (refine And.intro (det3_agg rfl) ?_) | (refine fL_mk ?_) | (refine And.intro (by (try simp only [mk_size, List.size_toArray, ByteArray.size_append, ByteArray.size_extract, List.length_cons, List.length_nil]); omega) ?_) | (refine And.intro (by (try simp only [mk_size, List.size_toArray, ByteArray.size_append, ByteArray.size_extract, List.length_cons, List.length_nil, wrap64_eq]); omega) ?_) | fail)
  all_goals first | exact h0 _ (.inl rfl) (by omega) (by omega) | exact h0 _ (.inr rfl) (by omega) (by omega)
theorem d_l1Most (a b : Int) (K : Cont) (h0 : ∀ m, (m = a ∨ m = b) → a ≤ m → b ≤ m → K (I m) σ) : ACall Try.prog W0 134 [I a, I b] σ K := by
  refine ACall.frame (K0 := fun w σ' => ∃ m, (m = a ∨ m = b) ∧ a ≤ m ∧ b ≤ m ∧ w = I m ∧ σ' = []) rfl (fun W1 hb => c_l1Most a b _ fun m h1 h2 h3 => ⟨m, h1, h2, h3, rfl, rfl⟩) ?_
  rintro w σ' ⟨m, h1, h2, h3, rfl, rfl⟩
  show K _ (σ ++ [])
  rw [List.append_nil]; exact h0 m h1 h2 h3
theorem d_step (b n : Nat) (st : Int) (hst : 0 ≤ st ∧ st ≤ 1000) (v : Value) (xs : List Int) (hcd : Code W0 v xs) (hc : CurAt b v n σ) (hn : n < 700000000) (K : Cont) (h0 : ∀ k s x y R, CurAt b v (n + 30) R → Keeps b σ R → K (StA k s x y) R) : ACall Try.prog W0 129 [.ptr b 0 0, I st] σ K := by
  refine by129 (Nat.le_of_ble_eq_true rfl) ?_
  have hbl := hc.lt
  repeat' ((conv => whnf); first | (refine Exists.intro ([] : List Nat) ?_) | (refine And.intro rfl ?_) | (refine And.intro (by decide +kernel) ?_) | (refine And.intro trivial ?_) | (refine Exists.intro _ (And.intro rfl (And.intro rfl (And.intro (Nat.le_of_ble_eq_true rfl) ?_)))) | (refine Exists.intro _ (And.intro rfl (And.intro rfl (And.intro rfl (And.intro (Nat.le_of_ble_eq_true rfl) ?_))))) | (refine And.intro (Exists.intro _ (And.intro rfl rfl)) ?_) | (exact fun hW => absurd hW (by decide +kernel)) | (intro hW; (try simp only [Bool.not_true, Bool.not_false, Bool.not_eq_true', Bool.not_eq_false', decide_eq_true_eq, decide_eq_false_iff_not, reduceCtorEq, Bool.true_eq_false, Bool.false_eq_true, mk_size, List.size_toArray, ByteArray.size_append, ByteArray.size_extract, List.length_cons, List.length_nil, ba_get, ba_empty, Int.toNat_natCast] at hW)) | (refine And.intro (?_ : _ → _) (?_ : _ → _)) | (refine FinR.drop 0 (Nat.zero_le _) (Closed.zero _) rfl ?_) | (refine FinR.keep ?_) | (refine And.intro (det3_agg rfl) ?_) | (refine fL_mk ?_) | (refine And.intro (by (try simp only [mk_size, List.size_toArray, ByteArray.size_append, ByteArray.size_extract, List.length_cons, List.length_nil]); omega) ?_) | (refine And.intro (by (try simp only [mk_size, List.size_toArray, ByteArray.size_append, ByteArray.size_extract, List.length_cons, List.length_nil, wrap64_eq]); omega) ?_) | fail)
  have hc := hc.app (τ := [stC 0 0 0 0])
  have q : (σ ++ [stC 0 0 0 0])[σ.length]? = some (stC 0 0 0 0) := getl
  have hk : Keeps b σ (σ ++ [stC 0 0 0 0]) := .app
  repeat' ((conv => whnf); first | (refine Exists.intro ([] : List Nat) ?_) | (refine And.intro rfl ?_) | (refine And.intro (by decide +kernel) ?_) | (refine And.intro trivial ?_) | (refine fS_mk ?_) | (have hz9 := w31; refine d_pick (hcd := hcd) (hc := hc) (hn := by omega) (hm := by decide) (h0 := fun w4 S w41 w42 hc1 hk1 => ?_) ..; have q := hk1.2 _ _ (by omega) q; have hk := hk.trans hk1; have hc := hc1) | (have hz9 := w21; refine d_pick (hcd := hcd) (hc := hc) (hn := by omega) (hm := by decide) (h0 := fun w3 S w31 w32 hc1 hk1 => ?_) ..; have q := hk1.2 _ _ (by omega) q; have hk := hk.trans hk1; have hc := hc1) | (have hz9 := w11; refine d_pick (hcd := hcd) (hc := hc) (hn := by omega) (hm := hmx) (h0 := fun w2 S w21 w22 hc1 hk1 => ?_) ..; have q := hk1.2 _ _ (by omega) q; have hk := hk.trans hk1; have hc := hc1) | (refine d_pick (m := 3) (hcd := hcd) (hc := hc) (hn := by omega) (hm := by decide) (h0 := fun w1 S w11 w12 hc1 hk1 => ?_) ..; have q := hk1.2 _ _ (by omega) q; have hk := hk.trans hk1; have hc := hc1) | (refine d_l1Most (h0 := fun mx hm1 hm2 hm3 => ?_) ..; have hmx : mx ≤ 65536 := (by omega)) | (refine Exists.intro _ (And.intro getl (And.intro rfl (And.intro rfl (And.intro (Nat.le_of_ble_eq_true rfl) ?_)))); rw [set_last]) | (refine Exists.intro _ (And.intro rfl (And.intro rfl (And.intro (Nat.le_of_ble_eq_true rfl) ?_)))) | (refine Exists.intro _ (And.intro rfl (And.intro rfl (And.intro rfl (And.intro (Nat.le_of_ble_eq_true rfl) ?_))))) | (refine And.intro (Exists.intro _ (And.intro rfl rfl)) ?_) | (exact fun hW => absurd hW (by decide +kernel)) | (intro hW; (try simp only [Bool.not_true, Bool.not_false, Bool.not_eq_true', Bool.not_eq_false', decide_eq_true_eq, decide_eq_false_iff_not, reduceCtorEq, Bool.true_eq_false, Bool.false_eq_true, mk_size, List.size_toArray, ByteArray.size_append, ByteArray.size_extract, List.length_cons, List.length_nil, ba_get, ba_empty, Int.toNat_natCast] at hW)) | (refine And.intro (?_ : _ → _) (?_ : _ → _)) | (refine FinR.drop 0 (Nat.zero_le _) (Closed.zero _) rfl ?_) | (refine FinR.keep ?_) | (refine And.intro (det3_agg rfl) ?_) | (refine fL_mk ?_) | (refine And.intro (by (try simp only [mk_size, List.size_toArray, ByteArray.size_append, ByteArray.size_extract, List.length_cons, List.length_nil]); omega) ?_) | (refine And.intro (by (try simp only [mk_size, List.size_toArray, ByteArray.size_append, ByteArray.size_extract, List.length_cons, List.length_nil, wrap64_eq]); omega) ?_) | fail)
  have q3 : (S ++ [stC (IntKind.i64.wrap (1 + w1)) w2 w3 w4])[S.length]? = some (stC (IntKind.i64.wrap (1 + w1)) w2 w3 w4) := getl
  have hRl := getElem?_lt q
  have hc := hc.app (τ := [stC (IntKind.i64.wrap (1 + w1)) w2 w3 w4])
  have q := getx1 (τ := [stC (IntKind.i64.wrap (1 + w1)) w2 w3 w4]) q
  have hk := hk.trans (.app (τ := [stC (IntKind.i64.wrap (1 + w1)) w2 w3 w4]))
  repeat' ((conv => whnf); first | (refine Exists.intro ([] : List Nat) ?_) | (refine And.intro rfl ?_) | (refine And.intro (by decide +kernel) ?_) | (refine And.intro trivial ?_) | (refine fS_mk ?_) | (refine d_pick (hm := by decide) (hcd := hcd) (hc := hc) (hn := by omega) (h0 := fun w S hw1 hw2 hc1 hk1 => ?_) ..; have q := hk1.2 _ _ (by omega) (q); have q3 := hk1.2 _ _ (by omega) (q3); have hk := Keeps.trans (hk) hk1; have hc := hc1) | (refine d_cell (hcd := hcd) (hc := hc) (hn := by omega) (h0 := fun w1 w2 S hc1 hk1 => ?_) ..; have q := hk1.2 _ _ (by omega) (q); have q3 := hk1.2 _ _ (by omega) (q3); have hk := Keeps.trans (hk) hk1; have hc := hc1) | (refine d_among (y0 := 0) (ys := [4, -1]) (hL := getl) (hys := by decide) (hbl := by have := (hc).lt; omega) (hcd := hcd) (hc := CurAt.app (hc)) (hn := by omega) (h0 := fun w S hw hc1 hk1 => ?_) ..; have q := hk1.2 _ _ (by omega) (getx1 (q)); have q3 := hk1.2 _ _ (by omega) (getx1 (q3)); have hk := Keeps.trans (hk) hk1.snoc; have hc := hc1) | (refine d_among (y0 := -1) (ys := [4, 3]) (hL := getl) (hys := by decide) (hbl := by have := (hc).lt; omega) (hcd := hcd) (hc := CurAt.app (hc)) (hn := by omega) (h0 := fun w S hw hc1 hk1 => ?_) ..; have q := hk1.2 _ _ (by omega) (getx1 (q)); have q3 := hk1.2 _ _ (by omega) (getx1 (q3)); have hk := Keeps.trans (hk) hk1.snoc; have hc := hc1) | (refine And.intro ⟨_, q3, rfl⟩ ?_) | (refine Exists.intro _ (And.intro (q3) (And.intro rfl (And.intro rfl (And.intro (Nat.le_of_ble_eq_true rfl) ?_))))) | (refine Exists.intro _ (And.intro (q3) (And.intro rfl (And.intro (Nat.le_of_ble_eq_true rfl) ?_)))) | (refine Exists.intro _ (And.intro (q) (And.intro rfl (And.intro rfl (And.intro (Nat.le_of_ble_eq_true rfl) ?_))))) | (refine Exists.intro _ (And.intro (get_set (q)) (And.intro rfl (And.intro (Nat.le_of_ble_eq_true rfl) ?_)))) | (refine And.intro ⟨_, get_set (q3), rfl⟩ ?_) | (refine Exists.intro _ (And.intro (get_set (q3)) (And.intro rfl (And.intro rfl (And.intro (Nat.le_of_ble_eq_true rfl) ?_))))) | (refine Exists.intro _ (And.intro (get_set (q3)) (And.intro rfl (And.intro (Nat.le_of_ble_eq_true rfl) ?_)))) | (refine Exists.intro _ (And.intro (getn (q) (by omega)) (And.intro rfl (And.intro rfl (And.intro (Nat.le_of_ble_eq_true rfl) ?_))))) | (refine Exists.intro _ (And.intro (get_set (getn (q) (by omega))) (And.intro rfl (And.intro (Nat.le_of_ble_eq_true rfl) ?_)))) | (refine Exists.intro _ (And.intro rfl (And.intro rfl (And.intro (Nat.le_of_ble_eq_true rfl) ?_)))) | (refine Exists.intro _ (And.intro rfl (And.intro rfl (And.intro rfl (And.intro (Nat.le_of_ble_eq_true rfl) ?_))))) | (refine And.intro (Exists.intro _ (And.intro rfl rfl)) ?_) | (exact fun hW => absurd hW (by decide +kernel)) | (intro hW; (try simp only [Bool.not_true, Bool.not_false, Bool.not_eq_true', Bool.not_eq_false', decide_eq_true_eq, decide_eq_false_iff_not, reduceCtorEq, Bool.true_eq_false, Bool.false_eq_true, mk_size, List.size_toArray, ByteArray.size_append, ByteArray.size_extract, List.length_cons, List.length_nil, ba_get, ba_empty, Int.toNat_natCast] at hW)) | (refine And.intro (?_ : _ → _) (?_ : _ → _)) | (refine FinR.drop 0 (Nat.zero_le _) (Closed.zero _) rfl ?_) | (refine FinR.keep ?_) | (refine And.intro (det3_agg rfl) ?_) | (refine fL_mk ?_) | (refine And.intro (by (try simp only [mk_size, List.size_toArray, ByteArray.size_append, ByteArray.size_extract, List.length_cons, List.length_nil]); omega) ?_) | (refine And.intro (by (try simp only [mk_size, List.size_toArray, ByteArray.size_append, ByteArray.size_extract, List.length_cons, List.length_nil, wrap64_eq]); omega) ?_) | fail)
  all_goals (refine h0 _ _ _ _ _ ?_ ?_)
  all_goals repeat' (first | exact hc.mono (by omega) | exact hk | refine CurAt.set ?_ (by omega) | refine Keeps.setO ?_ (by omega))
end Go.Proofs.Ytkcbhdjhbnnlgaa
end

section
/- Contracts: plans drawn from bytes. -/
set_option linter.unusedVariables false
set_option linter.unusedSimpArgs false
set_option maxRecDepth 100000
set_option maxHeartbeats 8000000
namespace Go.Proofs.Ytkcbhdjhbnnlgaa
open Go Go.RowKit Go.Proofs.Ytkcbhdjhbnnlgaa.Abs
variable {W0 : World} {σ : List Blk}
theorem mem9 {x a b c d e f g h i : Int} (hx : x ∈ [a, b, c, d, e, f, g, h, i]) : x = a ∨ x = b ∨ x = c ∨ x = d ∨ x = e ∨ x = f ∨ x = g ∨ x = h ∨ x = i := by simpa using hx
theorem sh_round {R : List Blk} {b : Nat} {B : Blk} (qb : R[b]? = some B) {l : List (List Int)} {x : List Int} {cs : List AV} {w : Nat} (hc : cs = jc l ++ x.map I) (hw : w = l.length + 1) : (R.set b ⟨cs, w, 26, 6, true, true⟩)[b]? = some (shK (l ++ [x]) (l ++ [x]).length) := by
  rw [get_set qb, hc, hw, ← jc_snoc, List.length_append]; rfl
theorem st_round {R : List Blk} {b : Nat} {B : Blk} (qb : R[b]? = some B) {l : List (List Int)} {x : List Int} {cs : List AV} {w : Nat} (hc : cs = jc l ++ x.map I) (hw : w = l.length + 1) : (R.set b ⟨cs, w, 87, 4, true, true⟩)[b]? = some (stK (l ++ [x]) (l ++ [x]).length) := by
  rw [get_set qb, hc, hw, ← jc_snoc, List.length_append]; rfl
theorem plR {T : List Blk} {i : Nat} {a b c d e f : Int} {i9 c9 : Nat} {l : List (List Int)} {x : List Int} {s2 : AV} {cs : List AV} (h : T[i]? = some ⟨cs, 0, 67, 0, false, false⟩) (hc : cs = [I a, I b, I c, I d, I e, I f, .sl i9 (l.length + 1) 0 (l.length + 1) c9, s2] := by rfl) : T[i]? = some (plBx a b c d e f (.sl i9 (l ++ [x]).length 0 (l ++ [x]).length c9) s2 67) := by
  rw [h, hc, List.length_append]; rfl
theorem plR2 {T : List Blk} {i : Nat} {a b c d e f : Int} {i9 c9 : Nat} {l : List (List Int)} {x : List Int} {s1 : AV} {cs : List AV} (h : T[i]? = some ⟨cs, 0, 67, 0, false, false⟩) (hc : cs = [I a, I b, I c, I d, I e, I f, s1, .sl i9 (l.length + 1) 0 (l.length + 1) c9] := by rfl) : T[i]? = some (plBx a b c d e f s1 (.sl i9 (l ++ [x]).length 0 (l ++ [x]).length c9) 67) := by
  rw [h, hc, List.length_append]; rfl
theorem rows_snoc {s : Nat} {l : List (List Int)} {x : List Int} (h : ∀ y ∈ l, y.length = s) (hx : x.length = s) : ∀ y ∈ l ++ [x], y.length = s := fun y hy => by
  rcases List.mem_append.1 hy with h' | h'
  · exact h y h'
  · rw [List.mem_singleton.1 h']; exact hx
theorem d_planC (b n : Nat) (v : Value) (xs : List Int) (hcd : Code W0 v xs) (hc : CurAt b v n σ) (hn : n < 600000000) (K : Cont) (h0 : ∀ a1 a2 a3 a4 a5 a6 ss ts b1 c1 b2 c2 R, CurAt b v (n + 4000) R → Keeps b σ R → R[b1]? = some (shK ss ss.length) → R[b2]? = some (stK ts ts.length) → b1 < b2 → σ.length ≤ b1 → (∀ x ∈ ss, x.length = 6) → (∀ x ∈ ts, x.length = 4) → ss.length ≤ 100 → ts.length ≤ 100 → K (PlA a1 a2 a3 a4 a5 a6 (.sl b1 ss.length 0 ss.length c1) (.sl b2 ts.length 0 ts.length c2)) R) : ACall Try.prog W0 106 [.ptr b 0 0] σ K := by
  refine by106 (Nat.le_of_ble_eq_true rfl) ?_
  have hbl := hc.lt
  have hc := ((hc.app (τ := [plBx 0 0 0 0 0 0 nilA nilA 67])).app (τ := [shK [] 0])).app (τ := [stK [] 0])
  have q : (σ ++ [plBx 0 0 0 0 0 0 nilA nilA 67] ++ [shK [] 0] ++ [stK [] 0])[σ.length]? = some (plBx 0 0 0 0 0 0 nilA nilA 67) := getx1 (getx1 getl)
  have q9 : (σ ++ [plBx 0 0 0 0 0 0 nilA nilA 67] ++ [shK [] 0] ++ [stK [] 0])[(σ ++ [plBx 0 0 0 0 0 0 nilA nilA 67]).length]? = some (shK [] 0) := getx1 getl
  have q10 : (σ ++ [plBx 0 0 0 0 0 0 nilA nilA 67] ++ [shK [] 0] ++ [stK [] 0])[(σ ++ [plBx 0 0 0 0 0 0 nilA nilA 67] ++ [shK [] 0]).length]? = some (stK [] 0) := getl
  have hk : Keeps b σ (σ ++ [plBx 0 0 0 0 0 0 nilA nilA 67] ++ [shK [] 0] ++ [stK [] 0]) := (Keeps.app.trans .app).trans .app
  have e9 : (σ ++ [plBx 0 0 0 0 0 0 nilA nilA 67]).length = σ.length + 1 := by rw [List.length_append]; rfl
  have e10 : (σ ++ [plBx 0 0 0 0 0 0 nilA nilA 67] ++ [shK [] 0]).length = σ.length + 2 := by rw [List.length_append, e9]; rfl
  have n9b : (σ ++ [plBx 0 0 0 0 0 0 nilA nilA 67]).length ≠ b := by omega
  have n10b : (σ ++ [plBx 0 0 0 0 0 0 nilA nilA 67] ++ [shK [] 0]).length ≠ b := by omega
  have n92 : (σ ++ [plBx 0 0 0 0 0 0 nilA nilA 67]).length ≠ σ.length := by omega
  have n102 : (σ ++ [plBx 0 0 0 0 0 0 nilA nilA 67] ++ [shK [] 0]).length ≠ σ.length := by omega
  have n910 : (σ ++ [plBx 0 0 0 0 0 0 nilA nilA 67]).length ≠ (σ ++ [plBx 0 0 0 0 0 0 nilA nilA 67] ++ [shK [] 0]).length := by omega
  have n2b : σ.length ≠ b := by omega
  have o9 : σ.length ≤ (σ ++ [plBx 0 0 0 0 0 0 nilA nilA 67]).length := by omega
  have o10 : σ.length ≤ (σ ++ [plBx 0 0 0 0 0 0 nilA nilA 67] ++ [shK [] 0]).length := by omega
  repeat' ((conv => whnf); first | (refine Exists.intro ([] : List Nat) ?_) | (refine And.intro rfl ?_) | (refine And.intro (by decide +kernel) ?_) | (refine And.intro trivial ?_) | (refine fS_mk ?_) | (refine d_one (hcd := hcd) (hc := hc) (hn := by omega) (hm := by decide) (h0 := fun tog R hc1 hk1 => ?_) ..; have q := hk1.2 _ _ n2b q; have q9 := hk1.2 _ _ n9b q9; have q10 := hk1.2 _ _ n10b q10; have hk := hk.trans hk1; have hc := hc1) | (refine Exists.intro _ (And.intro getl (And.intro rfl (And.intro rfl (And.intro (Nat.le_of_ble_eq_true rfl) ?_)))); rw [set_last]) | (refine Exists.intro _ (And.intro rfl (And.intro rfl (And.intro (Nat.le_of_ble_eq_true rfl) ?_)))) | (refine Exists.intro _ (And.intro rfl (And.intro rfl (And.intro rfl (And.intro (Nat.le_of_ble_eq_true rfl) ?_))))) | (refine And.intro (Exists.intro _ (And.intro rfl rfl)) ?_) | (exact fun hW => absurd hW (by decide +kernel)) | (intro hW; (try simp only [Bool.not_true, Bool.not_false, Bool.not_eq_true', Bool.not_eq_false', decide_eq_true_eq, decide_eq_false_iff_not, reduceCtorEq, Bool.true_eq_false, Bool.false_eq_true, mk_size, List.size_toArray, ByteArray.size_append, ByteArray.size_extract, List.length_cons, List.length_nil, ba_get, ba_empty, Int.toNat_natCast] at hW)) | (refine And.intro (?_ : _ → _) (?_ : _ → _)) | (refine FinR.drop 0 (Nat.zero_le _) (Closed.zero _) rfl ?_) | (refine FinR.keep ?_) | (refine And.intro (det3_agg rfl) ?_) | (refine fL_mk ?_) | (refine And.intro (by (try simp only [mk_size, List.size_toArray, ByteArray.size_append, ByteArray.size_extract, List.length_cons, List.length_nil]); omega) ?_) | (refine And.intro (by (try simp only [mk_size, List.size_toArray, ByteArray.size_append, ByteArray.size_extract, List.length_cons, List.length_nil, wrap64_eq]); omega) ?_) | fail)
  have l10 := getElem?_lt q10
  have q3 : (R ++ [plBx 0 0 0 0 0 0 (.sl (σ ++ [plBx 0 0 0 0 0 0 nilA nilA 67]).length 0 0 0 0) (.sl (σ ++ [plBx 0 0 0 0 0 0 nilA nilA 67] ++ [shK [] 0]).length 0 0 0 0) 67])[R.length]? = some (plBx 0 0 0 0 0 0 (.sl (σ ++ [plBx 0 0 0 0 0 0 nilA nilA 67]).length 0 0 0 0) (.sl (σ ++ [plBx 0 0 0 0 0 0 nilA nilA 67] ++ [shK [] 0]).length 0 0 0 0) 67) := getl
  have q := getx1 (τ := [plBx 0 0 0 0 0 0 (.sl (σ ++ [plBx 0 0 0 0 0 0 nilA nilA 67]).length 0 0 0 0) (.sl (σ ++ [plBx 0 0 0 0 0 0 nilA nilA 67] ++ [shK [] 0]).length 0 0 0 0) 67]) q
  have q9 := getx1 (τ := [plBx 0 0 0 0 0 0 (.sl (σ ++ [plBx 0 0 0 0 0 0 nilA nilA 67]).length 0 0 0 0) (.sl (σ ++ [plBx 0 0 0 0 0 0 nilA nilA 67] ++ [shK [] 0]).length 0 0 0 0) 67]) q9
  have q10 := getx1 (τ := [plBx 0 0 0 0 0 0 (.sl (σ ++ [plBx 0 0 0 0 0 0 nilA nilA 67]).length 0 0 0 0) (.sl (σ ++ [plBx 0 0 0 0 0 0 nilA nilA 67] ++ [shK [] 0]).length 0 0 0 0) 67]) q10
  have hk := hk.trans (.app (τ := [plBx 0 0 0 0 0 0 (.sl (σ ++ [plBx 0 0 0 0 0 0 nilA nilA 67]).length 0 0 0 0) (.sl (σ ++ [plBx 0 0 0 0 0 0 nilA nilA 67] ++ [shK [] 0]).length 0 0 0 0) 67]))
  have hc := hc.app (τ := [plBx 0 0 0 0 0 0 (.sl (σ ++ [plBx 0 0 0 0 0 0 nilA nilA 67]).length 0 0 0 0) (.sl (σ ++ [plBx 0 0 0 0 0 0 nilA nilA 67] ++ [shK [] 0]).length 0 0 0 0) 67])
  have n3b : R.length ≠ b := by omega
  have n32 : R.length ≠ σ.length := by omega
  have n39 : R.length ≠ (σ ++ [plBx 0 0 0 0 0 0 nilA nilA 67]).length := by omega
  have n93 : (σ ++ [plBx 0 0 0 0 0 0 nilA nilA 67]).length ≠ R.length := Ne.symm n39
  have o3 : σ.length ≤ R.length := by omega
  have n103 : (σ ++ [plBx 0 0 0 0 0 0 nilA nilA 67] ++ [shK [] 0]).length ≠ R.length := by omega
  have n109 : (σ ++ [plBx 0 0 0 0 0 0 nilA nilA 67] ++ [shK [] 0]).length ≠ (σ ++ [plBx 0 0 0 0 0 0 nilA nilA 67]).length := by omega
  have n310 : R.length ≠ (σ ++ [plBx 0 0 0 0 0 0 nilA nilA 67] ++ [shK [] 0]).length := by omega
  clear hc1 hk1
  repeat' ((conv => whnf); first | (refine Exists.intro ([] : List Nat) ?_) | (refine And.intro rfl ?_) | (refine And.intro (by decide +kernel) ?_) | (refine And.intro trivial ?_) | (refine fS_mk ?_) | (refine d_among (y0 := 2) (ys := [1, 3, 4, 0, 5]) (hL := getl) (hys := by decide) (hcd := hcd) (hc := hc.app) (hbl := by have := hc.lt; omega) (hn := by omega) (h0 := fun z T hxx hc1 hk1 => ?_) ..; have q := hk1.2 _ _ n2b (getx1 q); have q9 := hk1.2 _ _ n9b (getx1 q9); have q10 := hk1.2 _ _ n10b (getx1 q10); have q3 := hk1.2 _ _ n3b (getx1 q3); have hk := hk.trans hk1.snoc; have hc := hc1) | (refine Exists.intro _ (And.intro rfl (And.intro rfl (And.intro (Nat.le_of_ble_eq_true rfl) ?_)))) | (refine Exists.intro _ (And.intro rfl (And.intro rfl (And.intro rfl (And.intro (Nat.le_of_ble_eq_true rfl) ?_))))) | (refine And.intro (Exists.intro _ (And.intro rfl rfl)) ?_) | (exact fun hW => absurd hW (by decide +kernel)) | (intro hW; (try simp only [Bool.not_true, Bool.not_false, Bool.not_eq_true', Bool.not_eq_false', decide_eq_true_eq, decide_eq_false_iff_not, reduceCtorEq, Bool.true_eq_false, Bool.false_eq_true, mk_size, List.size_toArray, ByteArray.size_append, ByteArray.size_extract, List.length_cons, List.length_nil, ba_get, ba_empty, Int.toNat_natCast] at hW)) | (refine And.intro (?_ : _ → _) (?_ : _ → _)) | (refine FinR.drop 0 (Nat.zero_le _) (Closed.zero _) rfl ?_) | (refine FinR.keep ?_) | (refine And.intro (det3_agg rfl) ?_) | (refine fL_mk ?_) | (refine And.intro (by (try simp only [mk_size, List.size_toArray, ByteArray.size_append, ByteArray.size_extract, List.length_cons, List.length_nil]); omega) ?_) | (refine And.intro (by (try simp only [mk_size, List.size_toArray, ByteArray.size_append, ByteArray.size_extract, List.length_cons, List.length_nil, wrap64_eq]); omega) ?_) | fail)
  obtain ⟨z, rfl⟩ : ∃ k : Nat, z = k := ⟨z.toNat, by have := mem6 hxx; omega⟩
  have hz5 : z ≤ 5 := by have := mem6 hxx; omega
  clear hxx hc1 hk1
  refine LoopR.live (fun y : Nat × List (List Int) × Nat × List Blk => [(0, .ptr b 0 0), (2, .ptr σ.length 0 0), (3, .ptr R.length 0 0), (4, Bo tog), (5, I y.1)]) (fun y => y.2.2.2) (fun y => y.1 ≤ z ∧ (∀ x ∈ y.2.1, x.length = 6) ∧ y.2.1.length ≤ z - y.1 ∧ CurAt b v (n + 4 + 102 * (z - y.1)) y.2.2.2 ∧ Keeps b σ y.2.2.2 ∧ y.2.2.2[σ.length]? = some (plBx 0 0 0 0 0 0 nilA nilA 67) ∧ y.2.2.2[(σ ++ [plBx 0 0 0 0 0 0 nilA nilA 67]).length]? = some (shK y.2.1 y.2.1.length) ∧ y.2.2.2[(σ ++ [plBx 0 0 0 0 0 0 nilA nilA 67] ++ [shK [] 0]).length]? = some (stK [] 0) ∧ y.2.2.2[R.length]? = some (plBx 0 0 0 0 0 0 (.sl (σ ++ [plBx 0 0 0 0 0 0 nilA nilA 67]).length y.2.1.length 0 y.2.1.length y.2.2.1) (.sl (σ ++ [plBx 0 0 0 0 0 0 nilA nilA 67] ++ [shK [] 0]).length 0 0 0 0) 67)) (fun y => y.1) (z, [], 0, T) ⟨rfl, rfl, rfl, rfl, rfl, trivial⟩ (.keep rfl) ⟨Nat.le_refl _, (fun x hx => by cases hx), Nat.zero_le _, hc.mono (by omega), hk, q, q9, q10, q3⟩ ?_
  clear hc hk q q9 q10 q3
  rintro ⟨y, ss, cp, T⟩ ⟨hy, hs6, hsl, hc, hk, q, q9, q10, q3⟩
  replace hy : y ≤ z := hy
  replace hs6 : ∀ x ∈ ss, x.length = 6 := hs6
  replace hsl : ss.length ≤ z - y := hsl
  replace hc : CurAt b v (n + 4 + 102 * (z - y)) T := hc
  replace hk : Keeps b σ T := hk
  replace q : T[σ.length]? = some (plBx 0 0 0 0 0 0 nilA nilA 67) := q
  replace q9 : T[(σ ++ [plBx 0 0 0 0 0 0 nilA nilA 67]).length]? = some (shK ss ss.length) := q9
  replace q10 : T[(σ ++ [plBx 0 0 0 0 0 0 nilA nilA 67] ++ [shK [] 0]).length]? = some (stK [] 0) := q10
  replace q3 : T[R.length]? = some (plBx 0 0 0 0 0 0 (.sl (σ ++ [plBx 0 0 0 0 0 0 nilA nilA 67]).length ss.length 0 ss.length cp) (.sl (σ ++ [plBx 0 0 0 0 0 0 nilA nilA 67] ++ [shK [] 0]).length 0 0 0 0) 67) := q3
  have hml : ss.length * 6 = (jc ss).length := (jc_len (s := 6) hs6).symm
  by_cases hy0 : 0 < y
  · skip
    repeat' ((conv => whnf); first | (refine Exists.intro ([] : List Nat) ?_) | (refine And.intro rfl ?_) | (refine And.intro (by decide +kernel) ?_) | (refine And.intro trivial ?_) | (refine fS_mk ?_) | (have hz9 := q6; refine d_one (hcd := hcd) (hc := hc) (hn := by omega) (hm := by decide) (h0 := fun w U hc1 hk1 => ?_) ..; have q := hk1.2 _ _ n2b q; have q9 := hk1.2 _ _ n9b q9; have q10 := hk1.2 _ _ n10b q10; have q3 := hk1.2 _ _ n3b q3; have q6 := hk1.2 _ _ n6b q6; have hk := hk.trans hk1; have hc := hc1) | (refine d_stampC (hcd := hcd) (hc := hc) (hn := by omega) (h0 := fun a1 a2 a3 a4 a5 a6 S hc1 hk1 => ?_) ..; have q := hk1.2 _ _ n2b q; have q9 := hk1.2 _ _ n9b q9; have q10 := hk1.2 _ _ n10b q10; have q3 := hk1.2 _ _ n3b q3; have hk := hk.trans hk1; have hc := hc1) | (refine Exists.intro _ (And.intro getl (And.intro rfl (And.intro rfl (And.intro (Nat.le_of_ble_eq_true rfl) ?_)))); rw [set_last]) | (refine Exists.intro _ (And.intro rfl (And.intro rfl (And.intro (Nat.le_of_ble_eq_true rfl) ?_)))) | (refine Exists.intro _ (And.intro rfl (And.intro rfl (And.intro rfl (And.intro (Nat.le_of_ble_eq_true rfl) ?_))))) | (refine And.intro (Exists.intro _ (And.intro rfl rfl)) ?_) | (exact fun hW => absurd hW (by decide +kernel)) | (intro hW; (try simp only [Bool.not_true, Bool.not_false, Bool.not_eq_true', Bool.not_eq_false', decide_eq_true_eq, decide_eq_false_iff_not, reduceCtorEq, Bool.true_eq_false, Bool.false_eq_true, mk_size, List.size_toArray, ByteArray.size_append, ByteArray.size_extract, List.length_cons, List.length_nil, ba_get, ba_empty, Int.toNat_natCast] at hW)) | (refine And.intro (?_ : _ → _) (?_ : _ → _)) | (refine FinR.drop 0 (Nat.zero_le _) (Closed.zero _) rfl ?_) | (refine FinR.keep ?_) | (refine And.intro (det3_agg rfl) ?_) | (refine fL_mk ?_) | (refine And.intro (by (try simp only [mk_size, List.size_toArray, ByteArray.size_append, ByteArray.size_extract, List.length_cons, List.length_nil]); omega) ?_) | (refine And.intro (by (try simp only [mk_size, List.size_toArray, ByteArray.size_append, ByteArray.size_extract, List.length_cons, List.length_nil, wrap64_eq]); omega) ?_) | fail)
    all_goals first | (exfalso; omega) | skip
    have l9 := getElem?_lt q9
    have l10 := getElem?_lt q10
    have l3 := getElem?_lt q3
    have l2 := getElem?_lt q
    have q6 : (S ++ [shC a1 a2 a3 a4 a5 a6])[S.length]? = some (shC a1 a2 a3 a4 a5 a6) := getl
    have q := getx1 (τ := [shC a1 a2 a3 a4 a5 a6]) q
    have q9 := getx1 (τ := [shC a1 a2 a3 a4 a5 a6]) q9
    have q10 := getx1 (τ := [shC a1 a2 a3 a4 a5 a6]) q10
    have q3 := getx1 (τ := [shC a1 a2 a3 a4 a5 a6]) q3
    have hk := hk.trans (.app (τ := [shC a1 a2 a3 a4 a5 a6]))
    have hc := hc.app (τ := [shC a1 a2 a3 a4 a5 a6])
    have n6b : S.length ≠ b := by omega
    have n69 : S.length ≠ (σ ++ [plBx 0 0 0 0 0 0 nilA nilA 67]).length := Nat.ne_of_gt l9
    have n610 : S.length ≠ (σ ++ [plBx 0 0 0 0 0 0 nilA nilA 67] ++ [shK [] 0]).length := Nat.ne_of_gt l10
    have n63 : S.length ≠ R.length := Nat.ne_of_gt l3
    have n62 : S.length ≠ σ.length := Nat.ne_of_gt l2
    have o2 : σ.length ≤ S.length := by omega
    clear hc1 hk1
    repeat' ((conv => whnf); first | (refine Exists.intro ([] : List Nat) ?_) | (refine And.intro rfl ?_) | (refine And.intro (by decide +kernel) ?_) | (refine And.intro trivial ?_) | (refine fS_mk ?_) | (have hz9 := q6; refine d_one (hcd := hcd) (hc := hc) (hn := by omega) (hm := by decide) (h0 := fun w U hc1 hk1 => ?_) ..; have q := hk1.2 _ _ n2b q; have q9 := hk1.2 _ _ n9b q9; have q10 := hk1.2 _ _ n10b q10; have q3 := hk1.2 _ _ n3b q3; have q6 := hk1.2 _ _ n6b q6; have hk := hk.trans hk1; have hc := hc1) | (refine Exists.intro _ (And.intro (q6) (And.intro rfl (And.intro rfl (And.intro (Nat.le_of_ble_eq_true rfl) ?_))))) | (refine And.intro ⟨_, q3, rfl⟩ ?_) | (refine And.intro ⟨_, getn q3 n63, rfl⟩ ?_) | (refine Exists.intro _ (And.intro (q3) (And.intro rfl (And.intro (Nat.le_of_ble_eq_true rfl) ?_)))) | (refine Exists.intro _ (And.intro (getn q3 n63) (And.intro rfl (And.intro (Nat.le_of_ble_eq_true rfl) ?_)))) | (refine Exists.intro _ (And.intro (q6) (And.intro rfl (And.intro (Nat.le_of_ble_eq_true rfl) ?_)))) | (refine Exists.intro _ (And.intro (get_set q6) (And.intro rfl (And.intro (Nat.le_of_ble_eq_true rfl) ?_)))) | (refine Exists.intro _ (And.intro (q9) (And.intro rfl (And.intro rfl (And.intro rfl (And.intro rfl (And.intro rfl (And.intro (by decide) (And.intro hml (And.intro rfl (And.intro (show ss.length + 1 ≤ maxLen by unfold maxLen; omega) (And.intro (show (ss.length + 1) * 48 ≤ 140737488355328 by omega) (fun cap' hcap1 hcap2 => ?_))))))))))))) | (refine Exists.intro _ (And.intro (getn q9 n69) (And.intro rfl (And.intro rfl (And.intro rfl (And.intro rfl (And.intro rfl (And.intro (by decide) (And.intro hml (And.intro rfl (And.intro (show ss.length + 1 ≤ maxLen by unfold maxLen; omega) (And.intro (show (ss.length + 1) * 48 ≤ 140737488355328 by omega) (fun cap' hcap1 hcap2 => ?_))))))))))))) | (refine And.intro ⟨_, getn q3 n93, rfl⟩ ?_) | (refine And.intro ⟨_, getn (getn q3 n63) n93, rfl⟩ ?_) | (refine Exists.intro _ (And.intro (getn q3 n93) (And.intro rfl (And.intro rfl (And.intro (Nat.le_of_ble_eq_true rfl) ?_))))) | (refine Exists.intro _ (And.intro (getn (getn q3 n63) n93) (And.intro rfl (And.intro rfl (And.intro (Nat.le_of_ble_eq_true rfl) ?_))))) | (refine Exists.intro _ (And.intro rfl (And.intro rfl (And.intro (Nat.le_of_ble_eq_true rfl) ?_)))) | (refine Exists.intro _ (And.intro rfl (And.intro rfl (And.intro rfl (And.intro (Nat.le_of_ble_eq_true rfl) ?_))))) | (refine And.intro (Exists.intro _ (And.intro rfl rfl)) ?_) | (exact fun hW => absurd hW (by decide +kernel)) | (intro hW; (try simp only [Bool.not_true, Bool.not_false, Bool.not_eq_true', Bool.not_eq_false', decide_eq_true_eq, decide_eq_false_iff_not, reduceCtorEq, Bool.true_eq_false, Bool.false_eq_true, mk_size, List.size_toArray, ByteArray.size_append, ByteArray.size_extract, List.length_cons, List.length_nil, ba_get, ba_empty, Int.toNat_natCast] at hW)) | (refine And.intro (?_ : _ → _) (?_ : _ → _)) | (refine FinR.drop 0 (Nat.zero_le _) (Closed.zero _) rfl ?_) | (refine FinR.keep ?_) | (refine And.intro (det3_agg rfl) ?_) | (refine fL_mk ?_) | (refine And.intro (by (try simp only [mk_size, List.size_toArray, ByteArray.size_append, ByteArray.size_extract, List.length_cons, List.length_nil]); omega) ?_) | (refine And.intro (by (try simp only [mk_size, List.size_toArray, ByteArray.size_append, ByteArray.size_extract, List.length_cons, List.length_nil, wrap64_eq]); omega) ?_) | fail)
    all_goals first
      | exact Again.go (y - 1, ss ++ [[63, 0, 0, 0, 0, 0]], cap', _) ⟨rfl, rfl, rfl, rfl, slI' (wpred y (by omega) hy0), trivial⟩ (.keep rfl) ⟨by show _ ≤ z; omega, (fun x hx => by
          rcases List.mem_append.1 hx with h | h
          · exact hs6 x h
          · rw [List.mem_singleton.1 h]; rfl), (by show (ss ++ [[63, 0, 0, 0, 0, 0]]).length ≤ z - (y - 1); rw [List.length_append]; show ss.length + 1 ≤ _; omega), (((hc.set n6b).set n9b).set n3b).mono (by show _ ≤ n + 4 + 102 * (z - (y - 1)); omega), ((hk.setO o2).setO o9).setO o3, getn (getn (getn q n62) n92) n32, getn (sh_round (l := ss) (x := [63, 0, 0, 0, 0, 0]) (getn q9 n69) rfl rfl) n39, getn (getn (getn q10 n610) n910) n310, plR (l := ss) (x := [63, 0, 0, 0, 0, 0]) (get_set (getn (getn q3 n63) n93))⟩ (by show _ < y; omega)
      | exact Again.go (y - 1, ss ++ [[a1, a2, a3, a4, a5, a6]], cap', _) ⟨rfl, rfl, rfl, rfl, slI' (wpred y (by omega) hy0), trivial⟩ (.keep rfl) ⟨by show _ ≤ z; omega, (fun x hx => by
          rcases List.mem_append.1 hx with h | h
          · exact hs6 x h
          · rw [List.mem_singleton.1 h]; rfl), (by show (ss ++ [[a1, a2, a3, a4, a5, a6]]).length ≤ z - (y - 1); rw [List.length_append]; show ss.length + 1 ≤ _; omega), ((hc.set n9b).set n3b).mono (by show _ ≤ n + 4 + 102 * (z - (y - 1)); omega), (hk.setO o9).setO o3, getn (getn q n92) n32, getn (sh_round (l := ss) (x := [a1, a2, a3, a4, a5, a6]) q9 rfl rfl) n39, getn (getn q10 n910) n310, plR (l := ss) (x := [a1, a2, a3, a4, a5, a6]) (get_set (getn q3 n93))⟩ (by show _ < y; omega)
  · obtain rfl : y = 0 := by omega
    have hss : ss.length ≤ 5 := by omega
    repeat' ((conv => whnf); first | (refine Exists.intro ([] : List Nat) ?_) | (refine And.intro rfl ?_) | (refine And.intro (by decide +kernel) ?_) | (refine And.intro trivial ?_) | (refine fS_mk ?_) | (refine d_among (y0 := 4) (ys := [6, 2, 8, 1, 0, 12, 40, 41]) (hL := getl) (hys := by decide) (hcd := hcd) (hc := hc.app) (hbl := by have := hc.lt; omega) (hn := by omega) (h0 := fun g U hxx hc1 hk1 => ?_) ..; have q := hk1.2 _ _ n2b (getx1 q); have q9 := hk1.2 _ _ n9b (getx1 q9); have q10 := hk1.2 _ _ n10b (getx1 q10); have q3 := hk1.2 _ _ n3b (getx1 q3); have hk := hk.trans hk1.snoc; have hc := hc1) | (refine Exists.intro _ (And.intro rfl (And.intro rfl (And.intro (Nat.le_of_ble_eq_true rfl) ?_)))) | (refine Exists.intro _ (And.intro rfl (And.intro rfl (And.intro rfl (And.intro (Nat.le_of_ble_eq_true rfl) ?_))))) | (refine And.intro (Exists.intro _ (And.intro rfl rfl)) ?_) | (exact fun hW => absurd hW (by decide +kernel)) | (intro hW; (try simp only [Bool.not_true, Bool.not_false, Bool.not_eq_true', Bool.not_eq_false', decide_eq_true_eq, decide_eq_false_iff_not, reduceCtorEq, Bool.true_eq_false, Bool.false_eq_true, mk_size, List.size_toArray, ByteArray.size_append, ByteArray.size_extract, List.length_cons, List.length_nil, ba_get, ba_empty, Int.toNat_natCast] at hW)) | (refine And.intro (?_ : _ → _) (?_ : _ → _)) | (refine FinR.drop 0 (Nat.zero_le _) (Closed.zero _) rfl ?_) | (refine FinR.keep ?_) | (refine And.intro (det3_agg rfl) ?_) | (refine fL_mk ?_) | (refine And.intro (by (try simp only [mk_size, List.size_toArray, ByteArray.size_append, ByteArray.size_extract, List.length_cons, List.length_nil]); omega) ?_) | (refine And.intro (by (try simp only [mk_size, List.size_toArray, ByteArray.size_append, ByteArray.size_extract, List.length_cons, List.length_nil, wrap64_eq]); omega) ?_) | fail)
    all_goals first | (exfalso; omega) | skip
    obtain ⟨g, rfl⟩ : ∃ k : Nat, g = k := ⟨g.toNat, by have := mem9 hxx; omega⟩
    have hg41 : g ≤ 41 := by have := mem9 hxx; omega
    clear hxx hc1 hk1
    refine LoopR.live (fun y : Nat × List (List Int) × Nat × List Blk => [(0, .ptr b 0 0), (2, .ptr σ.length 0 0), (3, .ptr R.length 0 0), (4, Bo tog), (7, I y.1)]) (fun y => y.2.2.2) (fun y => y.1 ≤ g ∧ (∀ x ∈ y.2.1, x.length = 4) ∧ y.2.1.length ≤ 2 * (g - y.1) ∧ CurAt b v (n + 600 + 32 * (g - y.1)) y.2.2.2 ∧ Keeps b σ y.2.2.2 ∧ y.2.2.2[σ.length]? = some (plBx 0 0 0 0 0 0 nilA nilA 67) ∧ y.2.2.2[(σ ++ [plBx 0 0 0 0 0 0 nilA nilA 67]).length]? = some (shK ss ss.length) ∧ y.2.2.2[(σ ++ [plBx 0 0 0 0 0 0 nilA nilA 67] ++ [shK [] 0]).length]? = some (stK y.2.1 y.2.1.length) ∧ y.2.2.2[R.length]? = some (plBx 0 0 0 0 0 0 (.sl (σ ++ [plBx 0 0 0 0 0 0 nilA nilA 67]).length ss.length 0 ss.length cp) (.sl (σ ++ [plBx 0 0 0 0 0 0 nilA nilA 67] ++ [shK [] 0]).length y.2.1.length 0 y.2.1.length y.2.2.1) 67)) (fun y => y.1) (g, [], 0, U) ⟨rfl, rfl, rfl, rfl, rfl, trivial⟩ (.keep rfl) ⟨Nat.le_refl _, (fun x hx => by cases hx), Nat.zero_le _, hc.mono (by omega), hk, q, q9, q10, q3⟩ ?_
    clear hc hk q q9 q10 q3
    rintro ⟨y, ts, cq, T⟩ ⟨hy, ht4, htl, hc, hk, q, q9, q10, q3⟩
    replace hy : y ≤ g := hy
    replace ht4 : ∀ x ∈ ts, x.length = 4 := ht4
    replace htl : ts.length ≤ 2 * (g - y) := htl
    replace hc : CurAt b v (n + 600 + 32 * (g - y)) T := hc
    replace hk : Keeps b σ T := hk
    replace q : T[σ.length]? = some (plBx 0 0 0 0 0 0 nilA nilA 67) := q
    replace q9 : T[(σ ++ [plBx 0 0 0 0 0 0 nilA nilA 67]).length]? = some (shK ss ss.length) := q9
    replace q10 : T[(σ ++ [plBx 0 0 0 0 0 0 nilA nilA 67] ++ [shK [] 0]).length]? = some (stK ts ts.length) := q10
    replace q3 : T[R.length]? = some (plBx 0 0 0 0 0 0 (.sl (σ ++ [plBx 0 0 0 0 0 0 nilA nilA 67]).length ss.length 0 ss.length cp) (.sl (σ ++ [plBx 0 0 0 0 0 0 nilA nilA 67] ++ [shK [] 0]).length ts.length 0 ts.length cq) 67) := q3
    have hml : ts.length * 4 = (jc ts).length := (jc_len (s := 4) ht4).symm
    by_cases hy0 : 0 < y ∧ 0 < ss.length
    · obtain ⟨hy0, hs0⟩ := hy0
      repeat' ((conv => whnf); first | (refine Exists.intro ([] : List Nat) ?_) | (refine And.intro rfl ?_) | (refine And.intro (by decide +kernel) ?_) | (refine And.intro trivial ?_) | (refine fS_mk ?_) | (refine And.intro ⟨_, q3, rfl⟩ ?_) | (refine Exists.intro _ (And.intro (q3) (And.intro rfl (And.intro (Nat.le_of_ble_eq_true rfl) ?_)))) | (refine And.intro ⟨_, q9, rfl⟩ ?_) | (refine d_step (hst := by omega) (hcd := hcd) (hc := hc) (hn := by omega) (h0 := fun k s x y' S hc1 hk1 => ?_) ..; have q := hk1.2 _ _ n2b q; have q9 := hk1.2 _ _ n9b q9; have q10 := hk1.2 _ _ n10b q10; have q3 := hk1.2 _ _ n3b q3; have hk := hk.trans hk1; have hc := hc1) | (refine Exists.intro _ (And.intro getl (And.intro rfl (And.intro rfl (And.intro (Nat.le_of_ble_eq_true rfl) ?_)))); rw [set_last]) | (refine Exists.intro _ (And.intro rfl (And.intro rfl (And.intro (Nat.le_of_ble_eq_true rfl) ?_)))) | (refine Exists.intro _ (And.intro rfl (And.intro rfl (And.intro rfl (And.intro (Nat.le_of_ble_eq_true rfl) ?_))))) | (refine And.intro (Exists.intro _ (And.intro rfl rfl)) ?_) | (exact fun hW => absurd hW (by decide +kernel)) | (intro hW; (try simp only [Bool.not_true, Bool.not_false, Bool.not_eq_true', Bool.not_eq_false', decide_eq_true_eq, decide_eq_false_iff_not, reduceCtorEq, Bool.true_eq_false, Bool.false_eq_true, mk_size, List.size_toArray, ByteArray.size_append, ByteArray.size_extract, List.length_cons, List.length_nil, ba_get, ba_empty, Int.toNat_natCast] at hW)) | (refine And.intro (?_ : _ → _) (?_ : _ → _)) | (refine FinR.drop 0 (Nat.zero_le _) (Closed.zero _) rfl ?_) | (refine FinR.keep ?_) | (refine And.intro (det3_agg rfl) ?_) | (refine fL_mk ?_) | (refine And.intro (by (try simp only [mk_size, List.size_toArray, ByteArray.size_append, ByteArray.size_extract, List.length_cons, List.length_nil]); omega) ?_) | (refine And.intro (by (try simp only [mk_size, List.size_toArray, ByteArray.size_append, ByteArray.size_extract, List.length_cons, List.length_nil, wrap64_eq]); omega) ?_) | fail)
      all_goals first | (exfalso; omega) | skip
      all_goals
        have l9 := getElem?_lt q9
        have l10 := getElem?_lt q10
        have l3 := getElem?_lt q3
        have l2 := getElem?_lt q
        have q8 : (S ++ [stC k s x y'])[S.length]? = some (stC k s x y') := getl
        have q := getx1 (τ := [stC k s x y']) q
        have q9 := getx1 (τ := [stC k s x y']) q9
        have q10 := getx1 (τ := [stC k s x y']) q10
        have q3 := getx1 (τ := [stC k s x y']) q3
        have hk := hk.trans (.app (τ := [stC k s x y']))
        have hc := hc.app (τ := [stC k s x y'])
        have n8b : S.length ≠ b := by omega
        have n89 : S.length ≠ (σ ++ [plBx 0 0 0 0 0 0 nilA nilA 67]).length := Nat.ne_of_gt l9
        have n810 : S.length ≠ (σ ++ [plBx 0 0 0 0 0 0 nilA nilA 67] ++ [shK [] 0]).length := Nat.ne_of_gt l10
        have n108 : (σ ++ [plBx 0 0 0 0 0 0 nilA nilA 67] ++ [shK [] 0]).length ≠ S.length := Ne.symm n810
        have n83 : S.length ≠ R.length := Nat.ne_of_gt l3
        have n38 : R.length ≠ S.length := Ne.symm n83
        have n82 : S.length ≠ σ.length := Nat.ne_of_gt l2
        have o8 : σ.length ≤ S.length := by omega
        clear hc1 hk1
      all_goals
        repeat' ((conv => whnf); first | (refine Exists.intro ([] : List Nat) ?_) | (refine And.intro rfl ?_) | (refine And.intro (by decide +kernel) ?_) | (refine And.intro trivial ?_) | (refine fS_mk ?_) | (refine Exists.intro _ (And.intro q10 (And.intro rfl (And.intro rfl (And.intro rfl (And.intro rfl (And.intro rfl (And.intro (by decide) (And.intro hml2 (And.intro rfl (And.intro hmx2 (And.intro hby2 (fun cap2 hcap3 hcap4 => ?_))))))))))))) | (refine d_one (hcd := hcd) (hc := ((hc.set n8b).set n10b).set n3b) (hn := by omega) (hm := by decide) (h0 := fun w V hc1 hk1 => ?_) ..; have q := hk1.2 _ _ n2b (getn (getn (getn q n82) n102) n32); have q9 := hk1.2 _ _ n9b (getn (getn (getn q9 n89) n109) n39); have q10 := hk1.2 _ _ n10b (getn (st_round (l := ts) (x := [1, s, x, y']) (getn q10 n810) rfl rfl) n310); have q3 := hk1.2 _ _ n3b (plR2 (l := ts) (x := [1, s, x, y']) (get_set (getn (getn q3 n83) n103))); have q8 := hk1.2 _ _ n8b (getn (getn (get_set q8) n108) n38); have hk := Keeps.trans (((hk.setO o8).setO o10).setO o3) hk1; have hc := hc1; have ht5 := rows_snoc (x := [1, s, x, y']) ht4 rfl; have hml2 : (ts ++ [[1, s, x, y']]).length * 4 = (jc (ts ++ [[1, s, x, y']])).length := (jc_len (s := 4) ht5).symm; have hl5 : (ts ++ [[1, s, x, y']]).length = ts.length + 1 := List.length_append; have hmx2 : (ts ++ [[1, s, x, y']]).length + 1 ≤ maxLen := (by rw [hl5]; unfold maxLen; omega); have hby2 : ((ts ++ [[1, s, x, y']]).length + 1) * 32 ≤ 140737488355328 := (by rw [hl5]; omega)) | (refine d_one (hcd := hcd) (hc := (hc.set n10b).set n3b) (hn := by omega) (hm := by decide) (h0 := fun w V hc1 hk1 => ?_) ..; have q := hk1.2 _ _ n2b (getn (getn q n102) n32); have q9 := hk1.2 _ _ n9b (getn (getn q9 n109) n39); have q10 := hk1.2 _ _ n10b (getn (st_round (l := ts) (x := [k, s, x, y']) q10 rfl rfl) n310); have q3 := hk1.2 _ _ n3b (plR2 (l := ts) (x := [k, s, x, y']) (get_set (getn q3 n103))); have q8 := hk1.2 _ _ n8b (getn (getn q8 n108) n38); have hk := Keeps.trans ((hk.setO o10).setO o3) hk1; have hc := hc1; have ht5 := rows_snoc (x := [k, s, x, y']) ht4 rfl; have hml2 : (ts ++ [[k, s, x, y']]).length * 4 = (jc (ts ++ [[k, s, x, y']])).length := (jc_len (s := 4) ht5).symm; have hl5 : (ts ++ [[k, s, x, y']]).length = ts.length + 1 := List.length_append; have hmx2 : (ts ++ [[k, s, x, y']]).length + 1 ≤ maxLen := (by rw [hl5]; unfold maxLen; omega); have hby2 : ((ts ++ [[k, s, x, y']]).length + 1) * 32 ≤ 140737488355328 := (by rw [hl5]; omega)) | (refine And.intro ⟨_, q8, rfl⟩ ?_) | (refine Exists.intro _ (And.intro (q8) (And.intro rfl (And.intro rfl (And.intro (Nat.le_of_ble_eq_true rfl) ?_))))) | (refine And.intro ⟨_, getn q3 n83, rfl⟩ ?_) | (refine Exists.intro _ (And.intro (getn q3 n83) (And.intro rfl (And.intro (Nat.le_of_ble_eq_true rfl) ?_)))) | (refine Exists.intro _ (And.intro (get_set q8) (And.intro rfl (And.intro (Nat.le_of_ble_eq_true rfl) ?_)))) | (refine Exists.intro _ (And.intro (getn q10 n810) (And.intro rfl (And.intro rfl (And.intro rfl (And.intro rfl (And.intro rfl (And.intro (by decide) (And.intro hml (And.intro rfl (And.intro (show ts.length + 1 ≤ maxLen by unfold maxLen; omega) (And.intro (show (ts.length + 1) * 32 ≤ 140737488355328 by omega) (fun cap' hcap1 hcap2 => ?_))))))))))))) | (refine And.intro ⟨_, getn (getn q3 n83) n103, rfl⟩ ?_) | (refine Exists.intro _ (And.intro (getn (getn q3 n83) n103) (And.intro rfl (And.intro rfl (And.intro (Nat.le_of_ble_eq_true rfl) ?_))))) | (refine And.intro ⟨_, q3, rfl⟩ ?_) | (refine Exists.intro _ (And.intro (q3) (And.intro rfl (And.intro (Nat.le_of_ble_eq_true rfl) ?_)))) | (refine Exists.intro _ (And.intro (q8) (And.intro rfl (And.intro (Nat.le_of_ble_eq_true rfl) ?_)))) | (refine Exists.intro _ (And.intro (q10) (And.intro rfl (And.intro rfl (And.intro rfl (And.intro rfl (And.intro rfl (And.intro (by decide) (And.intro hml (And.intro rfl (And.intro (show ts.length + 1 ≤ maxLen by unfold maxLen; omega) (And.intro (show (ts.length + 1) * 32 ≤ 140737488355328 by omega) (fun cap' hcap1 hcap2 => ?_))))))))))))) | (refine And.intro ⟨_, getn q3 n103, rfl⟩ ?_) | (refine Exists.intro _ (And.intro (getn q3 n103) (And.intro rfl (And.intro rfl (And.intro (Nat.le_of_ble_eq_true rfl) ?_))))) | (refine Exists.intro _ (And.intro rfl (And.intro rfl (And.intro (Nat.le_of_ble_eq_true rfl) ?_)))) | (refine Exists.intro _ (And.intro rfl (And.intro rfl (And.intro rfl (And.intro (Nat.le_of_ble_eq_true rfl) ?_))))) | (refine And.intro (Exists.intro _ (And.intro rfl rfl)) ?_) | (exact fun hW => absurd hW (by decide +kernel)) | (intro hW; (try simp only [Bool.not_true, Bool.not_false, Bool.not_eq_true', Bool.not_eq_false', decide_eq_true_eq, decide_eq_false_iff_not, reduceCtorEq, Bool.true_eq_false, Bool.false_eq_true, mk_size, List.size_toArray, ByteArray.size_append, ByteArray.size_extract, List.length_cons, List.length_nil, ba_get, ba_empty, Int.toNat_natCast] at hW)) | (refine And.intro (?_ : _ → _) (?_ : _ → _)) | (refine FinR.drop 0 (Nat.zero_le _) (Closed.zero _) rfl ?_) | (refine FinR.keep ?_) | (refine And.intro (det3_agg rfl) ?_) | (refine fL_mk ?_) | (refine And.intro (by (try simp only [mk_size, List.size_toArray, ByteArray.size_append, ByteArray.size_extract, List.length_cons, List.length_nil]); omega) ?_) | (refine And.intro (by (try simp only [mk_size, List.size_toArray, ByteArray.size_append, ByteArray.size_extract, List.length_cons, List.length_nil, wrap64_eq]); omega) ?_) | fail)
      all_goals first
        | exact Again.go (y - 1, (ts ++ [[1, s, x, y']]) ++ [[1, s, x, y']], cap2, _) ⟨rfl, rfl, rfl, rfl, slI' (wpred y (by omega) hy0), trivial⟩ (.keep rfl) ⟨by show _ ≤ g; omega, rows_snoc ht5 rfl, (by show ((ts ++ [[1, s, x, y']]) ++ [[1, s, x, y']]).length ≤ 2 * (g - (y - 1)); rw [List.length_append, hl5]; show ts.length + 1 + 1 ≤ _; omega), ((hc.set n10b).set n3b).mono (by show _ ≤ n + 600 + 32 * (g - (y - 1)); omega), (hk.setO o10).setO o3, getn (getn q n102) n32, getn (getn q9 n109) n39, getn (st_round (l := (ts ++ [[1, s, x, y']])) (x := [1, s, x, y']) q10 rfl rfl) n310, plR2 (l := (ts ++ [[1, s, x, y']])) (x := [1, s, x, y']) (get_set (getn q3 n103))⟩ (by show _ < y; omega)
        | exact Again.go (y - 1, (ts ++ [[1, s, x, y']]), cap', _) ⟨rfl, rfl, rfl, rfl, slI' (wpred y (by omega) hy0), trivial⟩ (.keep rfl) ⟨by show _ ≤ g; omega, ht5, (by show (ts ++ [[1, s, x, y']]).length ≤ 2 * (g - (y - 1)); rw [hl5]; omega), hc.mono (by show _ ≤ n + 600 + 32 * (g - (y - 1)); omega), hk, q, q9, q10, q3⟩ (by show _ < y; omega)
        | exact Again.go (y - 1, (ts ++ [[k, s, x, y']]) ++ [[k, s, x, y']], cap2, _) ⟨rfl, rfl, rfl, rfl, slI' (wpred y (by omega) hy0), trivial⟩ (.keep rfl) ⟨by show _ ≤ g; omega, rows_snoc ht5 rfl, (by show ((ts ++ [[k, s, x, y']]) ++ [[k, s, x, y']]).length ≤ 2 * (g - (y - 1)); rw [List.length_append, hl5]; show ts.length + 1 + 1 ≤ _; omega), ((hc.set n10b).set n3b).mono (by show _ ≤ n + 600 + 32 * (g - (y - 1)); omega), (hk.setO o10).setO o3, getn (getn q n102) n32, getn (getn q9 n109) n39, getn (st_round (l := (ts ++ [[k, s, x, y']])) (x := [k, s, x, y']) q10 rfl rfl) n310, plR2 (l := (ts ++ [[k, s, x, y']])) (x := [k, s, x, y']) (get_set (getn q3 n103))⟩ (by show _ < y; omega)
        | exact Again.go (y - 1, (ts ++ [[k, s, x, y']]), cap', _) ⟨rfl, rfl, rfl, rfl, slI' (wpred y (by omega) hy0), trivial⟩ (.keep rfl) ⟨by show _ ≤ g; omega, ht5, (by show (ts ++ [[k, s, x, y']]).length ≤ 2 * (g - (y - 1)); rw [hl5]; omega), hc.mono (by show _ ≤ n + 600 + 32 * (g - (y - 1)); omega), hk, q, q9, q10, q3⟩ (by show _ < y; omega)
        | skip
    · skip
      repeat' ((conv => whnf); first | (refine Exists.intro ([] : List Nat) ?_) | (refine And.intro rfl ?_) | (refine And.intro (by decide +kernel) ?_) | (refine And.intro trivial ?_) | (refine fS_mk ?_) | (refine And.intro ⟨_, q3, rfl⟩ ?_) | (refine Exists.intro _ (And.intro (q3) (And.intro rfl (And.intro (Nat.le_of_ble_eq_true rfl) ?_)))) | (refine And.intro ⟨_, q9, rfl⟩ ?_) | (refine Exists.intro _ (And.intro rfl (And.intro rfl (And.intro (Nat.le_of_ble_eq_true rfl) ?_)))) | (refine Exists.intro _ (And.intro rfl (And.intro rfl (And.intro rfl (And.intro (Nat.le_of_ble_eq_true rfl) ?_))))) | (refine And.intro (Exists.intro _ (And.intro rfl rfl)) ?_) | (exact fun hW => absurd hW (by decide +kernel)) | (intro hW; (try simp only [Bool.not_true, Bool.not_false, Bool.not_eq_true', Bool.not_eq_false', decide_eq_true_eq, decide_eq_false_iff_not, reduceCtorEq, Bool.true_eq_false, Bool.false_eq_true, mk_size, List.size_toArray, ByteArray.size_append, ByteArray.size_extract, List.length_cons, List.length_nil, ba_get, ba_empty, Int.toNat_natCast] at hW)) | (refine And.intro (?_ : _ → _) (?_ : _ → _)) | (refine FinR.drop 0 (Nat.zero_le _) (Closed.zero _) rfl ?_) | (refine FinR.keep ?_) | (refine And.intro (det3_agg rfl) ?_) | (refine fL_mk ?_) | (refine And.intro (by (try simp only [mk_size, List.size_toArray, ByteArray.size_append, ByteArray.size_extract, List.length_cons, List.length_nil]); omega) ?_) | (refine And.intro (by (try simp only [mk_size, List.size_toArray, ByteArray.size_append, ByteArray.size_extract, List.length_cons, List.length_nil, wrap64_eq]); omega) ?_) | fail)
      all_goals first | (exfalso; omega) | skip
      all_goals
        repeat' ((conv => whnf); first | (refine Exists.intro ([] : List Nat) ?_) | (refine And.intro rfl ?_) | (refine And.intro (by decide +kernel) ?_) | (refine And.intro trivial ?_) | (refine fS_mk ?_) | (refine d_sheetC (hcd := hcd) (hc := hc) (hn := by omega) (h0 := fun a1 a2 a3 a4 a5 a6 S hc1 hk1 => ?_) ..; have q := hk1.2 _ _ n2b q; have q9 := hk1.2 _ _ n9b q9; have q10 := hk1.2 _ _ n10b q10; have q3 := hk1.2 _ _ n3b q3; have hk := hk.trans hk1; have hc := hc1) | (refine And.intro ⟨_, q3, rfl⟩ ?_) | (refine Exists.intro _ (And.intro (q3) (And.intro rfl (And.intro rfl (And.intro (Nat.le_of_ble_eq_true rfl) ?_))))) | (refine Exists.intro _ (And.intro (get_set q3) (And.intro rfl (And.intro (Nat.le_of_ble_eq_true rfl) ?_)))) | (refine Exists.intro _ (And.intro (getn q n32) (And.intro rfl (And.intro rfl (And.intro (Nat.le_of_ble_eq_true rfl) ?_))))) | (refine Exists.intro _ (And.intro (get_set (getn q n32)) (And.intro rfl (And.intro (Nat.le_of_ble_eq_true rfl) ?_)))) | (refine Exists.intro _ (And.intro rfl (And.intro rfl (And.intro (Nat.le_of_ble_eq_true rfl) ?_)))) | (refine Exists.intro _ (And.intro rfl (And.intro rfl (And.intro rfl (And.intro (Nat.le_of_ble_eq_true rfl) ?_))))) | (refine And.intro (Exists.intro _ (And.intro rfl rfl)) ?_) | (exact fun hW => absurd hW (by decide +kernel)) | (intro hW; (try simp only [Bool.not_true, Bool.not_false, Bool.not_eq_true', Bool.not_eq_false', decide_eq_true_eq, decide_eq_false_iff_not, reduceCtorEq, Bool.true_eq_false, Bool.false_eq_true, mk_size, List.size_toArray, ByteArray.size_append, ByteArray.size_extract, List.length_cons, List.length_nil, ba_get, ba_empty, Int.toNat_natCast] at hW)) | (refine And.intro (?_ : _ → _) (?_ : _ → _)) | (refine FinR.drop 0 (Nat.zero_le _) (Closed.zero _) rfl ?_) | (refine FinR.keep ?_) | (refine And.intro (det3_agg rfl) ?_) | (refine fL_mk ?_) | (refine And.intro (by (try simp only [mk_size, List.size_toArray, ByteArray.size_append, ByteArray.size_extract, List.length_cons, List.length_nil]); omega) ?_) | (refine And.intro (by (try simp only [mk_size, List.size_toArray, ByteArray.size_append, ByteArray.size_extract, List.length_cons, List.length_nil, wrap64_eq]); omega) ?_) | fail)
      all_goals exact h0 _ _ _ _ _ _ ss ts _ cp _ cq _ (((hc.set n3b).set n2b).mono (by omega)) ((hk.setO o3).setO (Nat.le_refl _)) (getn (getn q9 n39) (Ne.symm n92)) (getn (getn q10 n310) (Ne.symm n102)) (by omega) o9 hs6 ht4 (by omega) (by omega)
end Go.Proofs.Ytkcbhdjhbnnlgaa
end

section
/- Contracts: DoJobs. -/
set_option linter.unusedVariables false
set_option linter.unusedSimpArgs false
set_option maxRecDepth 100000
set_option maxHeartbeats 4000000
namespace Go.Proofs.Ytkcbhdjhbnnlgaa
open Go Go.RowKit Go.Proofs.Ytkcbhdjhbnnlgaa.Abs
variable {W0 : World} {σ : List Blk}
structure ShopN where
  n : Nat
  m : Nat
  p : Int
  q : Int
def ShopN.ok (s : ShopN) : Prop := s.n < 2 ^ 36 ∧ s.m < 2 ^ 36 ∧ (0 ≤ s.p ∧ s.p ≤ 1000) ∧ (0 ≤ s.q ∧ s.q ≤ 1000)
abbrev ShopN.av (s : ShopN) : AV := SpN s.n s.m s.p s.q
end Go.Proofs.Ytkcbhdjhbnnlgaa
end

section
/- Contracts: jobs drawn from bytes. -/
set_option linter.unusedVariables false
set_option linter.unusedSimpArgs false
set_option maxRecDepth 100000
set_option maxHeartbeats 4000000
namespace Go.Proofs.Ytkcbhdjhbnnlgaa
open Go Go.RowKit Go.Proofs.Ytkcbhdjhbnnlgaa.Abs
variable {W0 : World} {σ : List Blk}
abbrev jbC (k a b : Int) : Blk := ⟨[I k, I a, I b], 0, 52, 0, false, false⟩
end Go.Proofs.Ytkcbhdjhbnnlgaa
end

section
/- Contracts: what is drawn for presses, shifts, flips. -/
set_option linter.unusedVariables false
set_option linter.unusedSimpArgs false
set_option maxRecDepth 100000
set_option maxHeartbeats 4000000
namespace Go.Proofs.Ytkcbhdjhbnnlgaa
open Go Go.RowKit Go.Proofs.Ytkcbhdjhbnnlgaa.Abs
variable {W0 : World} {σ : List Blk}
theorem Code.below {W1 : World} {v : Value} {xs : List Int} (h : Code W0 v xs) (hb : Below W0.heap.size W0 W1) : Code W1 v xs := by
  have hh : HRel W0 [] [] W1 := ⟨hb, rfl, fun i j c t t' h => by simp at h, fun i c t h => by simp at h, fun i B c t h => by simp at h⟩
  obtain ⟨a', ha, hs⟩ := h.sli.conc hh ⟨v, (rfl : rel3 [] [] (.lit v) v)⟩
  obtain ⟨u, rfl⟩ := sli_lit hs
  have e : u = v := (ha v (rfl : rel3 [] [] (.lit v) v)).symm
  subst e
  exact ⟨hs, h.rng, h.len⟩
theorem varC_of {F : List Nat} {R : Prop} : ∀ {σ σ' : List Blk} {k : Nat}, (∀ (j : Nat) (B : Blk), σ[j]? = some B → ∃ B', σ'[j]? = some B' ∧ B'.ver = B.ver ∧ B'.esz = B.esz ∧ B'.row = B.row ∧ (memB (k + j) F = false → B' = B)) → R → varC F σ R k σ'
  | [], σ', k, _, h => h
  | B :: σ, [], k, hk, h => by obtain ⟨B', h1, _⟩ := hk 0 B rfl; cases h1
  | B :: σ, B' :: σ', k, hk, h => by
    obtain ⟨B0, h1, h2, h3, h4, h5⟩ := hk 0 B rfl
    cases h1
    have ih : varC F σ R (k + 1) σ' := varC_of (fun j C hC => by
      obtain ⟨C', g1, g2, g3, g4, g5⟩ := hk (j + 1) C hC
      exact ⟨C', g1, g2, g3, g4, fun e => g5 (by rw [show k + (j + 1) = k + 1 + j by omega]; exact e)⟩) h
    show (match memB k F with
      | true => B'.ver = B.ver ∧ B'.esz = B.esz ∧ B'.row = B.row ∧ varC F σ R (k + 1) σ'
      | false => B' = B ∧ varC F σ R (k + 1) σ' : Prop)
    cases hm : memB k F with
    | true => exact ⟨h2, h3, h4, ih⟩
    | false => exact ⟨h5 hm, ih⟩
/-- blocks but those of F are as they were -/
def VarK (F : List Nat) (S T : List Blk) : Prop := ∀ (j : Nat) (B : Blk), S[j]? = some B → ∃ B', T[j]? = some B' ∧ B'.ver = B.ver ∧ B'.esz = B.esz ∧ B'.row = B.row ∧ (memB j F = false → B' = B)
theorem varC_k {F : List Nat} {S T : List Blk} {R : Prop} (h : VarK F S T) (k : VarK F S T → R) : varC F S R 0 T :=
  varC_of (fun j B hB => by rw [Nat.zero_add]; exact h j B hB) (k h)
theorem VarK.cur {F : List Nat} {b n n' : Nat} {v : Value} {S T : List Blk} (hb : memB b F = true) (hc : CurAt b v n S) (hc1 : CurAt b v n' T) (hk : Keeps b S T) : VarK F S T := fun j B hB => by
  by_cases hj : j = b
  · subst hj
    obtain ⟨a, sd, _, h1⟩ := hc
    obtain ⟨a', sd', _, h2⟩ := hc1
    rw [h1] at hB; cases hB
    exact ⟨_, h2, rfl, rfl, rfl, fun e => by rw [hb] at e; cases e⟩
  · exact ⟨B, hk.2 j B hj hB, rfl, rfl, rfl, fun _ => rfl⟩
theorem VarK.set {F : List Nat} {i : Nat} {B0 X : Blk} {S T : List Blk} (h : VarK F S T) (hi : T[i]? = some B0) (h1 : X.ver = B0.ver) (h2 : X.esz = B0.esz) (h3 : X.row = B0.row) (hm : memB i F = true) : VarK F S (T.set i X) := fun j B hB => by
  obtain ⟨B', g1, g2, g3, g4, g5⟩ := h j B hB
  by_cases hj : i = j
  · subst hj
    rw [hi] at g1; cases g1
    exact ⟨X, get_set hi, h1.trans g2, h2.trans g3, h3.trans g4, fun e => by rw [hm] at e; cases e⟩
  · exact ⟨B', getn g1 hj, g2, g3, g4, g5⟩
theorem memB_no {k : Nat} : ∀ {l : List Nat}, (∀ x ∈ l, x ≠ k) → memB k l = false
  | [], _ => rfl
  | x :: l, h => by
    show cond (Nat.beq k x) true (memB k l) = false
    have e : Nat.beq k x = false := by
      cases hb : Nat.beq k x with
      | false => rfl
      | true => exact absurd (Nat.eq_of_beq_eq_true hb).symm (h x (by simp))
    rw [e]; exact memB_no fun y hy => h y (by simp [hy])
theorem memB_lt {k m : Nat} {l : List Nat} (h : (l.all fun x => Nat.ble x m) = true) (hm : m < k) : memB k l = false :=
  memB_no fun x hx e => by
    have := Nat.le_of_ble_eq_true (List.all_eq_true.1 h x hx)
    omega
abbrev ceC (x y : Int) : Blk := ⟨[I x, I y], 0, 27, 0, false, false⟩
end Go.Proofs.Ytkcbhdjhbnnlgaa
end

section
/- Contracts: shops drawn from bytes. -/
set_option linter.unusedVariables false
set_option linter.unusedSimpArgs false
set_option maxRecDepth 100000
set_option maxHeartbeats 8000000
namespace Go.Proofs.Ytkcbhdjhbnnlgaa
open Go Go.RowKit Go.Proofs.Ytkcbhdjhbnnlgaa.Abs
variable {W0 : World} {σ : List Blk}
theorem VarK.refl {F : List Nat} {S : List Blk} : VarK F S S := fun j B hB => ⟨B, hB, rfl, rfl, rfl, fun _ => rfl⟩
theorem VarK.app {F : List Nat} {S T τ : List Blk} (h : VarK F S T) : VarK F S (T ++ τ) := fun j B hB => by
  obtain ⟨B', g1, g2⟩ := h j B hB
  exact ⟨B', getx1 g1, g2⟩
theorem VarK.setN {F : List Nat} {S T : List Blk} {i : Nat} {X : Blk} (h : VarK F S T) (hi : S.length ≤ i) : VarK F S (T.set i X) := fun j B hB => by
  obtain ⟨B', g1, g2⟩ := h j B hB
  exact ⟨B', getn g1 (by have := getElem?_lt hB; omega), g2⟩
end Go.Proofs.Ytkcbhdjhbnnlgaa
end

section
/- Contracts: what is drawn for shops; a code cut. -/
set_option linter.unusedVariables false
set_option linter.unusedSimpArgs false
set_option maxRecDepth 100000
set_option maxHeartbeats 4000000
namespace Go.Proofs.Ytkcbhdjhbnnlgaa
open Go Go.RowKit Go.Proofs.Ytkcbhdjhbnnlgaa.Abs
variable {W0 : World} {σ : List Blk}
/-- bytes in own memory -/
abbrev byK (ys : List Int) (r : Nat) : Blk := ⟨ys.map fun y => AV.lit (.int .u8 y), r, 5, 1, true, true⟩
/-- a list of jobs in own memory -/
abbrev jbK (ys : List (List Int)) (r : Nat) : Blk := ⟨jc ys, r, 52, 3, true, true⟩
abbrev spC (c0 c1 c2 c3 c4 c5 c6 c7 c8 c9 c10 c11 c12 c13 : Int) : Blk := ⟨[I c0, I c1, I c2, I c3, I c4, I c5, I c6, I c7, I c8, I c9, I c10, I c11, I c12, I c13], 0, 48, 0, false, false⟩
end Go.Proofs.Ytkcbhdjhbnnlgaa
end

section
/- Contracts: drawn shops and jobs beside any blocks. -/
set_option linter.unusedVariables false
set_option linter.unusedSimpArgs false
set_option maxRecDepth 100000
set_option maxHeartbeats 4000000
namespace Go.Proofs.Ytkcbhdjhbnnlgaa
open Go Go.RowKit Go.Proofs.Ytkcbhdjhbnnlgaa.Abs
variable {W0 : World} {σ : List Blk}
theorem rels_lit {ι ι' : Abs.Loc} {S S' : List Blk} {cs : List AV} {vs : List Value} (hl : ∀ c ∈ cs, ∃ u, c = .lit u) (h : Rels (crel ι S) cs vs) : Rels (crel ι' S') cs vs := h.mono' fun a ha b hab => by
  obtain ⟨u, rfl⟩ := hl a ha
  exact hab
theorem slRel.one {ι : Abs.Loc} {S : List Blk} {b ver off len cap : Nat} {x : Value} {B : Blk} {q : Nat × Nat} (hB : S[b]? = some B) (hq : ι[b]? = some q) (h : slRel ι S b ver off len cap x) : slRel [q] [B] 0 ver off len cap x := by
  obtain ⟨B', h1, h2, h3, h4⟩ := h
  rw [hB] at h1; cases h1
  refine ⟨B, rfl, h2, h3, fun e => ?_⟩
  obtain ⟨c, t, k1, k2⟩ := h4 e
  rw [hq] at k1; cases k1
  exact ⟨c, t, rfl, k2⟩
theorem jc_lits (l : List (List Int)) : ∀ c ∈ jc l, ∃ u, c = AV.lit u := by
  intro c hc
  unfold jc at hc
  obtain ⟨y, hy, hcy⟩ := List.mem_flatten.1 hc
  obtain ⟨x, _, rfl⟩ := List.mem_map.1 hy
  obtain ⟨z, _, rfl⟩ := List.mem_map.1 hcy
  exact ⟨_, rfl⟩
structure DJ1 where
  (c0 c1 c2 c3 c4 c5 c6 c7 c8 c9 c10 c11 c12 c13 k a b : Int)
structure DJ2 where
  (c0 c1 c2 c3 c4 c5 c6 c7 c8 c9 c10 c11 c12 c13 : Int)
  ys : List (List Int)
  cap : Nat
  h3 : ∀ x ∈ ys, x.length = 3
  hl : ys.length ≤ 10
end Go.Proofs.Ytkcbhdjhbnnlgaa
end

section
/- Contracts: of the new blocks those of the result are kept; plans drawn. -/
set_option linter.unusedVariables false
set_option linter.unusedSimpArgs false
set_option maxRecDepth 100000
set_option maxHeartbeats 4000000
namespace Go.Proofs.Ytkcbhdjhbnnlgaa
open Go Go.RowKit Go.Proofs.Ytkcbhdjhbnnlgaa.Abs
variable {W0 : World} {σ : List Blk}
abbrev locs (ι : Abs.Loc) (bs : List Nat) : Abs.Loc := bs.map fun b => ι.getD b (0, 0)
theorem locs_get {ι : Abs.Loc} {bs : List Nat} {i : Nat} {q : Nat × Nat} (hb : ∀ b ∈ bs, b < ι.length) (h : (locs ι bs)[i]? = some q) : ∃ b, bs[i]? = some b ∧ ι[b]? = some q := by
  unfold locs at h
  rw [List.getElem?_map, Option.map_eq_some_iff] at h
  obtain ⟨b, h1, h2⟩ := h
  refine ⟨b, h1, ?_⟩
  have hlt := hb b (List.mem_of_getElem? h1)
  rw [List.getD_eq_getElem?_getD, List.getElem?_eq_getElem hlt] at h2
  rw [List.getElem?_eq_getElem hlt]; exact congrArg some h2
theorem locs_at {ι : Abs.Loc} {bs : List Nat} {i b : Nat} {q : Nat × Nat} (h1 : bs[i]? = some b) (h2 : ι[b]? = some q) : (locs ι bs)[i]? = some q := by
  unfold locs
  rw [List.getElem?_map, h1]
  show some (ι.getD b (0, 0)) = _
  rw [List.getD_eq_getElem?_getD, h2]; rfl
/-- of all new blocks some are kept -/
theorem onlyL {P : Program} {g : FuncId} {args : List AV} {K0 K : Cont} (h : ACall P W0 g args [] K0) (hk : ∀ v S, K0 v S → ∃ (bs : List Nat) (Bs : List Blk) (v' : AV), bs.Nodup ∧ Bs.length = bs.length ∧ (∀ (i b : Nat) (B : Blk), bs[i]? = some b → Bs[i]? = some B → S[b]? = some B) ∧ (∀ B ∈ Bs, ∀ c ∈ B.cells, ∃ u, c = .lit u) ∧ (∀ (ι : Abs.Loc) x, rel3 ι S v x → rel3 (locs ι bs) Bs v' x) ∧ K v' Bs) : ACall P W0 g args [] K := by
  refine ⟨h.ok, fun ι w vs hh hr => (h.run ι w vs hh hr).mono fun e w' ⟨v, ι', S, av, he, hk0, h3, h4, h5⟩ => ?_⟩
  obtain ⟨bs, Bs, v', hnd, hlen, hBs, hl, hrel, hK⟩ := hk _ _ hk0
  have hb : ∀ b ∈ bs, b < ι'.length := by
    intro b hb
    obtain ⟨i, hi⟩ := List.mem_iff_getElem?.1 hb
    have hlt := getElem?_lt hi
    rw [h3.len]
    exact getElem?_lt (hBs i b _ hi (List.getElem?_eq_getElem (by rw [hlen]; exact hlt)))
  refine ⟨v, locs ι' bs, Bs, v', he, hK, ⟨h3.below, by simp [hlen], fun i j c t t' hi hj => ?_, fun i c t hi => ?_, fun i B' c t hi hj => ?_⟩, ⟨Nat.zero_le _, fun i C C' hi => by simp at hi, fun i C C' hi => by simp at hi⟩, hrel ι' v h5⟩
  · obtain ⟨b, k1, k2⟩ := locs_get hb hi
    obtain ⟨b', k3, k4⟩ := locs_get hb hj
    have e := h3.inj b b' c t t' k2 k4
    subst e
    exact (List.getElem?_inj (getElem?_lt k1) hnd).1 (k1.trans k3.symm)
  · obtain ⟨b, k1, k2⟩ := locs_get hb hi
    exact h3.dom b c t k2
  · obtain ⟨b, k1, k2⟩ := locs_get hb hj
    obtain ⟨vs', rest, m1, m2, m3, m4⟩ := h3.blk b _ c t (hBs i b B' k1 hi) k2
    exact ⟨vs', rest, m1, m2, rels_lit (hl B' (List.mem_of_getElem? hi)) m3, m4⟩
theorem slRel.kept {ι : Abs.Loc} {S Bs : List Blk} {bs : List Nat} {i b ver off len cap : Nat} {x : Value} {B : Blk} (h1 : bs[i]? = some b) (h2 : Bs[i]? = some B) (hB : S[b]? = some B) (h : slRel ι S b ver off len cap x) : slRel (locs ι bs) Bs i ver off len cap x := by
  obtain ⟨B', k1, k2, k3, k4⟩ := h
  rw [hB] at k1; cases k1
  refine ⟨B, h2, k2, k3, fun e => ?_⟩
  obtain ⟨c, t, m1, m2⟩ := k4 e
  exact ⟨c, t, locs_at h1 m1, m2⟩
theorem plA_kept {ι : Abs.Loc} {S Bs : List Blk} {bs : List Nat} {i j b1 b2 v1 v2 o1 o2 n1 n2 c1 c2 : Nat} {a b c d e f : Int} {x : Value} {B1 B2 : Blk} (h1 : bs[i]? = some b1) (h2 : Bs[i]? = some B1) (hB1 : S[b1]? = some B1) (k1 : bs[j]? = some b2) (k2 : Bs[j]? = some B2) (hB2 : S[b2]? = some B2) (h : rel2 ι S (PlA a b c d e f (.sl b1 v1 o1 n1 c1) (.sl b2 v2 o2 n2 c2)) x) : rel2 (locs ι bs) Bs (PlA a b c d e f (.sl i v1 o1 n1 c1) (.sl j v2 o2 n2 c2)) x := by
  obtain ⟨l, rfl, hl⟩ := h
  obtain ⟨x1, l, rfl, r1, hl⟩ := Rels.uncons hl
  obtain ⟨x2, l, rfl, r2, hl⟩ := Rels.uncons hl
  obtain ⟨x3, l, rfl, r3, hl⟩ := Rels.uncons hl
  obtain ⟨x4, l, rfl, r4, hl⟩ := Rels.uncons hl
  obtain ⟨x5, l, rfl, r5, hl⟩ := Rels.uncons hl
  obtain ⟨x6, l, rfl, r6, hl⟩ := Rels.uncons hl
  obtain ⟨x7, l, rfl, r7, hl⟩ := Rels.uncons hl
  obtain ⟨x8, l, rfl, r8, hl⟩ := Rels.uncons hl
  obtain rfl := hl.nil_inv
  exact ⟨_, rfl, Rels.cons r1 (Rels.cons r2 (Rels.cons r3 (Rels.cons r4 (Rels.cons r5 (Rels.cons r6 (Rels.cons ⟨slRel.kept h1 h2 hB1 r7.1, r7.2⟩ (Rels.cons ⟨slRel.kept k1 k2 hB2 r8.1, r8.2⟩ Rels.nil)))))))⟩
theorem c_DrawIsPlan0 (v : Value) (xs : List Int) (hcd : Code W0 v xs) (K : Cont) (h0 : ∀ a1 a2 a3 a4 a5 a6 ss ts b1 c1 b2 c2 R, R[b1]? = some (shK ss ss.length) → R[b2]? = some (stK ts ts.length) → b1 < b2 → (∀ x ∈ ss, x.length = 6) → (∀ x ∈ ts, x.length = 4) → ss.length ≤ 100 → ts.length ≤ 100 → K (PlA a1 a2 a3 a4 a5 a6 (.sl b1 ss.length 0 ss.length c1) (.sl b2 ts.length 0 ts.length c2)) R) : ACall Try.prog W0 94 [.lit v] [] K := by
  refine by94 (Nat.le_of_ble_eq_true rfl) ?_
  obtain ⟨o, m, cap, hv, -, -, -, -⟩ := sli_form hcd.sli
  cases hv
  have hc : CurAt 1 (.slice o m cap) 0 [plBx 0 0 0 0 0 0 nilA nilA 67, CurB (.slice o m cap) 0 0] := ⟨0, 0, Nat.le_refl _, rfl⟩
  repeat' ((conv => whnf); first | (refine Exists.intro ([] : List Nat) ?_) | (refine And.intro rfl ?_) | (refine And.intro (by decide +kernel) ?_) | (refine And.intro trivial ?_) | (refine fS_mk ?_) | (refine d_planC (hcd := hcd) (hc := hc) (hn := by omega) (h0 := fun a1 a2 a3 a4 a5 a6 ss ts b1 c1 b2 c2 R hc1 hk1 k1 k2 k3 k4 k5 k6 k7 k8 => ?_) ..; have q0 := hk1.2 0 _ (by decide) rfl; have l4 : 2 ≤ b1 := k4) | (refine Exists.intro _ (And.intro q0 (And.intro rfl (And.intro rfl (And.intro (Nat.le_of_ble_eq_true rfl) ?_))))) | (refine Exists.intro _ (And.intro (get_set q0) (And.intro rfl (And.intro (Nat.le_of_ble_eq_true rfl) ?_)))) | (refine Exists.intro _ (And.intro rfl (And.intro rfl (And.intro (Nat.le_of_ble_eq_true rfl) ?_)))) | (refine Exists.intro _ (And.intro rfl (And.intro rfl (And.intro rfl (And.intro (Nat.le_of_ble_eq_true rfl) ?_))))) | (refine And.intro (Exists.intro _ (And.intro rfl rfl)) ?_) | (exact fun hW => absurd hW (by decide +kernel)) | (intro hW; (try simp only [Bool.not_true, Bool.not_false, Bool.not_eq_true', Bool.not_eq_false', decide_eq_true_eq, decide_eq_false_iff_not, reduceCtorEq, Bool.true_eq_false, Bool.false_eq_true, mk_size, List.size_toArray, ByteArray.size_append, ByteArray.size_extract, List.length_cons, List.length_nil, ba_get, ba_empty, Int.toNat_natCast] at hW)) | (refine And.intro (?_ : _ → _) (?_ : _ → _)) | (refine FinR.drop 0 (Nat.zero_le _) (Closed.zero _) rfl ?_) | (refine FinR.keep ?_) | (refine And.intro (det3_agg rfl) ?_) | (refine fL_mk ?_) | (refine And.intro (by (try simp only [mk_size, List.size_toArray, ByteArray.size_append, ByteArray.size_extract, List.length_cons, List.length_nil]); omega) ?_) | (refine And.intro (by (try simp only [mk_size, List.size_toArray, ByteArray.size_append, ByteArray.size_extract, List.length_cons, List.length_nil, wrap64_eq]); omega) ?_) | fail)
  have n1 : 0 ≠ b1 := by omega
  have n2 : 0 ≠ b2 := by omega
  all_goals exact h0 _ _ _ _ _ _ ss ts b1 c1 b2 c2 _ (getn k1 n1) (getn k2 n2) k3 k5 k6 k7 k8
/-- a plan that came of a draw, with a number beside it -/
structure PD where
  (a1 a2 a3 a4 a5 a6 k : Int)
  (ss ts : List (List Int))
  (c1 c2 : Nat)
  h6 : ∀ x ∈ ss, x.length = 6
  h4 : ∀ x ∈ ts, x.length = 4
  l1 : ss.length ≤ 100
  l2 : ts.length ≤ 100
abbrev PD.av (d : PD) (b1 b2 : Nat) : AV := PlA d.a1 d.a2 d.a3 d.a4 d.a5 d.a6 (.sl b1 d.ss.length 0 d.ss.length d.c1) (.sl b2 d.ts.length 0 d.ts.length d.c2)
abbrev PD.bl (d : PD) : List Blk := [shK d.ss d.ss.length, stK d.ts d.ts.length]
theorem planOnly {P : Program} {g : FuncId} {args : List AV} (wrap : Int → AV → AV) (hw : ∀ (k : Int) (ι ι' : Abs.Loc) (S S' : List Blk) (p p' : AV) x, (∀ y, rel2 ι S p y → rel2 ι' S' p' y) → (∃ l, p = .agg l) → (∃ l, p' = .agg l) → rel3 ι S (wrap k p) x → rel3 ι' S' (wrap k p') x)
    (h : ∀ K : Cont, (∀ (d : PD) b1 b2 R, R[b1]? = some (shK d.ss d.ss.length) → R[b2]? = some (stK d.ts d.ts.length) → b1 < b2 → K (wrap d.k (d.av b1 b2)) R) → ACall P W0 g args [] K) (K : Cont) (h0 : ∀ d : PD, K (wrap d.k (d.av 0 1)) d.bl) : ACall P W0 g args [] K := by
  refine onlyL (h (fun v S => ∃ (d : PD) (b1 b2 : Nat), S[b1]? = some (shK d.ss d.ss.length) ∧ S[b2]? = some (stK d.ts d.ts.length) ∧ b1 < b2 ∧ v = wrap d.k (d.av b1 b2)) fun d b1 b2 R k1 k2 k3 => ⟨d, b1, b2, k1, k2, k3, rfl⟩) ?_
  rintro v S ⟨d, b1, b2, k1, k2, k3, rfl⟩
  refine ⟨[b1, b2], d.bl, _, by simp; omega, rfl, ?_, ?_, ?_, h0 d⟩
  · intro i b B h1 h2
    match i with
    | 0 => cases h1; cases h2; exact k1
    | 1 => cases h1; cases h2; exact k2
    | i + 2 => simp at h1
  · intro B hB
    rcases List.mem_cons.1 hB with rfl | hB
    · exact jc_lits d.ss
    · rw [List.mem_singleton.1 hB]; exact jc_lits d.ts
  · intro ι x hr
    exact hw d.k _ _ _ _ _ _ x (fun y hy => plA_kept (i := 0) (j := 1) rfl rfl k1 rfl rfl k2 hy) ⟨_, rfl⟩ ⟨_, rfl⟩ hr
theorem wrapId : ∀ (k : Int) (ι ι' : Abs.Loc) (S S' : List Blk) (p p' : AV) x, (∀ y, rel2 ι S p y → rel2 ι' S' p' y) → (∃ l, p = .agg l) → (∃ l, p' = .agg l) → rel3 ι S ((fun (_ : Int) p => p) k p) x → rel3 ι' S' ((fun (_ : Int) p => p) k p') x := by
  rintro k ι ι' S S' p p' x h ⟨l, rfl⟩ ⟨l', rfl⟩ hr
  exact h x hr
theorem wrapT : ∀ (k : Int) (ι ι' : Abs.Loc) (S S' : List Blk) (p p' : AV) x, (∀ y, rel2 ι S p y → rel2 ι' S' p' y) → (∃ l, p = .agg l) → (∃ l, p' = .agg l) → rel3 ι S ((fun (k : Int) p => AV.tup [p, I k]) k p) x → rel3 ι' S' ((fun (k : Int) p => AV.tup [p, I k]) k p') x := by
  rintro k ι ι' S S' p p' x h - - hr
  obtain ⟨l, rfl, hl⟩ := hr
  obtain ⟨x1, l, rfl, r1, hl⟩ := Rels.uncons hl
  obtain ⟨x2, l, rfl, r2, hl⟩ := Rels.uncons hl
  obtain rfl := hl.nil_inv
  exact ⟨_, rfl, Rels.cons (h _ r1) (Rels.cons r2 Rels.nil)⟩
theorem c_DrawIsPlan (v : Value) (xs : List Int) (hcd : Code W0 v xs) (K : Cont) (h0 : ∀ d : PD, K (d.av 0 1) d.bl) : ACall Try.prog W0 94 [.lit v] [] K :=
  planOnly (fun _ p => p) wrapId (fun K hK => c_DrawIsPlan0 v xs hcd K fun a1 a2 a3 a4 a5 a6 ss ts b1 c1 b2 c2 R k1 k2 k3 k4 k5 k6 k7 => hK ⟨a1, a2, a3, a4, a5, a6, 0, ss, ts, c1, c2, k4, k5, k6, k7⟩ b1 b2 R k1 k2 k3) K h0
theorem pl_shB (k : Nat) (d : PD) : shB k d.bl = d.bl := by
  show [(⟨(jc d.ss).map (sh1 k), _, _, _, _, _⟩ : Blk), ⟨(jc d.ts).map (sh1 k), _, _, _, _, _⟩] = _
  rw [jc_sh, jc_sh]
theorem d_DrawIsPlan (v : Value) (xs : List Int) (hcd : Code W0 v xs) (K : Cont) (h0 : ∀ d : PD, K (d.av (σ.length + 0) (σ.length + 1)) (σ ++ d.bl)) : ACall Try.prog W0 94 [.lit v] σ K := by
  refine ACall.frame (K0 := fun w σ' => ∃ d : PD, w = d.av 0 1 ∧ σ' = d.bl) rfl (fun W1 hb => c_DrawIsPlan v xs (hcd.below hb) _ fun d => ⟨d, rfl, rfl⟩) ?_
  rintro w σ' ⟨d, rfl, rfl⟩
  rw [pl_shB]; exact h0 d
theorem c_DrawEffectsOf (v : Value) (xs : List Int) (hcd : Code W0 v xs) (K : Cont) (h0 : ∀ d : PD, K (d.av 0 1) d.bl) : ACall Try.prog W0 41 [.lit v] [] K :=
  planOnly (fun _ p => p) wrapId (fun K hK => by
    refine by41 (Nat.le_of_ble_eq_true rfl) ?_
    repeat' ((conv => whnf); first | (refine Exists.intro ([] : List Nat) ?_) | (refine And.intro rfl ?_) | (refine And.intro (by decide +kernel) ?_) | (refine And.intro trivial ?_) | (refine d_DrawIsPlan (hcd := hcd) (h0 := fun d => ?_) ..) | (refine fS_mk ?_) | (refine Exists.intro _ (And.intro rfl (And.intro rfl (And.intro (Nat.le_of_ble_eq_true rfl) ?_)))) | (refine Exists.intro _ (And.intro rfl (And.intro rfl (And.intro rfl (And.intro (Nat.le_of_ble_eq_true rfl) ?_))))) | (refine And.intro (Exists.intro _ (And.intro rfl rfl)) ?_) | (exact fun hW => absurd hW (by decide +kernel)) | (intro hW; (try simp only [Bool.not_true, Bool.not_false, Bool.not_eq_true', Bool.not_eq_false', decide_eq_true_eq, decide_eq_false_iff_not, reduceCtorEq, Bool.true_eq_false, Bool.false_eq_true, mk_size, List.size_toArray, ByteArray.size_append, ByteArray.size_extract, List.length_cons, List.length_nil, ba_get, ba_empty, Int.toNat_natCast] at hW)) | (refine And.intro (?_ : _ → _) (?_ : _ → _)) | (refine FinR.drop 0 (Nat.zero_le _) (Closed.zero _) rfl ?_) | (refine FinR.keep ?_) | (refine And.intro (det3_agg rfl) ?_) | (refine fL_mk ?_) | (refine And.intro (by (try simp only [mk_size, List.size_toArray, ByteArray.size_append, ByteArray.size_extract, List.length_cons, List.length_nil]); omega) ?_) | (refine And.intro (by (try simp only [mk_size, List.size_toArray, ByteArray.size_append, ByteArray.size_extract, List.length_cons, List.length_nil, wrap64_eq]); omega) ?_) | fail)
    all_goals exact hK d 1 2 _ rfl rfl (by decide)) K h0
theorem c_DrawSheetAt (v : Value) (xs : List Int) (hcd : Code W0 v xs) (K : Cont) (h0 : ∀ d : PD, K (.tup [d.av 0 1, I d.k]) d.bl) : ACall Try.prog W0 107 [.lit v] [] K :=
  planOnly (fun k p => .tup [p, I k]) wrapT (fun K hK => by
    refine by107 (Nat.le_of_ble_eq_true rfl) ?_
    obtain ⟨o, m, cap, hv, -, -, -, -⟩ := sli_form hcd.sli
    cases hv
    have hc : CurAt 1 (.slice o m cap) 0 [plBx 0 0 0 0 0 0 nilA nilA 67, CurB (.slice o m cap) 0 0, ⟨[I 0, I 1, I 2, I 4, I 6, I (-1), I 40, I 41], 0, 3, 1, true, true⟩] := ⟨0, 0, Nat.le_refl _, rfl⟩
    have hL : ([plBx 0 0 0 0 0 0 nilA nilA 67, CurB (.slice o m cap) 0 0, ⟨[I 0, I 1, I 2, I 4, I 6, I (-1), I 40, I 41], 0, 3, 1, true, true⟩] : List Blk)[2]? = some ⟨((0 : Int) :: [1, 2, 4, 6, -1, 40, 41]).map I, 0, 3, 1, true, true⟩ := rfl
    repeat' ((conv => whnf); first | (refine Exists.intro ([] : List Nat) ?_) | (refine And.intro rfl ?_) | (refine And.intro (by decide +kernel) ?_) | (refine And.intro trivial ?_) | (refine fS_mk ?_) | (refine d_among (y0 := 0) (ys := [1, 2, 4, 6, -1, 40, 41]) (hL := hL) (hys := by decide) (hcd := hcd) (hc := hc) (hbl := by decide) (hn := by omega) (h0 := fun z U hxx hc1 hk1 => ?_) ..; have q0 := hk1.2 0 _ (by decide) rfl; have hc := hc1) | (refine d_planC (hcd := hcd) (hc := hc) (hn := by omega) (h0 := fun a1 a2 a3 a4 a5 a6 ss ts b1 c1 b2 c2 R hc1 hk1 k1 k2 k3 k4 k5 k6 k7 k8 => ?_) ..; have l0 := getElem?_lt q0; have q0 := hk1.2 0 _ (by decide) q0; have l4 := k4) | (refine Exists.intro _ (And.intro q0 (And.intro rfl (And.intro rfl (And.intro (Nat.le_of_ble_eq_true rfl) ?_))))) | (refine Exists.intro _ (And.intro (get_set q0) (And.intro rfl (And.intro (Nat.le_of_ble_eq_true rfl) ?_)))) | (refine Exists.intro _ (And.intro rfl (And.intro rfl (And.intro (Nat.le_of_ble_eq_true rfl) ?_)))) | (refine Exists.intro _ (And.intro rfl (And.intro rfl (And.intro rfl (And.intro (Nat.le_of_ble_eq_true rfl) ?_))))) | (refine And.intro (Exists.intro _ (And.intro rfl rfl)) ?_) | (exact fun hW => absurd hW (by decide +kernel)) | (intro hW; (try simp only [Bool.not_true, Bool.not_false, Bool.not_eq_true', Bool.not_eq_false', decide_eq_true_eq, decide_eq_false_iff_not, reduceCtorEq, Bool.true_eq_false, Bool.false_eq_true, mk_size, List.size_toArray, ByteArray.size_append, ByteArray.size_extract, List.length_cons, List.length_nil, ba_get, ba_empty, Int.toNat_natCast] at hW)) | (refine And.intro (?_ : _ → _) (?_ : _ → _)) | (refine FinR.drop 0 (Nat.zero_le _) (Closed.zero _) rfl ?_) | (refine FinR.keep ?_) | (refine And.intro (det3_agg rfl) ?_) | (refine fL_mk ?_) | (refine And.intro (by (try simp only [mk_size, List.size_toArray, ByteArray.size_append, ByteArray.size_extract, List.length_cons, List.length_nil]); omega) ?_) | (refine And.intro (by (try simp only [mk_size, List.size_toArray, ByteArray.size_append, ByteArray.size_extract, List.length_cons, List.length_nil, wrap64_eq]); omega) ?_) | fail)
    have n1 : 0 ≠ b1 := by omega
    have n2 : 0 ≠ b2 := by omega
    all_goals exact hK ⟨a1, a2, a3, a4, a5, a6, z, ss, ts, c1, c2, k5, k6, k7, k8⟩ b1 b2 _ (getn k1 n1) (getn k2 n2) k3) K h0
theorem d_DrawSheetAt (v : Value) (xs : List Int) (hcd : Code W0 v xs) (K : Cont) (h0 : ∀ d : PD, K (.tup [d.av (σ.length + 0) (σ.length + 1), I d.k]) (σ ++ d.bl)) : ACall Try.prog W0 107 [.lit v] σ K := by
  refine ACall.frame (K0 := fun w σ' => ∃ d : PD, w = .tup [d.av 0 1, I d.k] ∧ σ' = d.bl) rfl (fun W1 hb => c_DrawSheetAt v xs (hcd.below hb) _ fun d => ⟨d, rfl, rfl⟩) ?_
  rintro w σ' ⟨d, rfl, rfl⟩
  rw [pl_shB]; exact h0 d
theorem c_DrawCanSwap (v : Value) (xs : List Int) (hcd : Code W0 v xs) (K : Cont) (h0 : ∀ d : PD, K (.tup [d.av 0 1, I d.k]) d.bl) : ACall Try.prog W0 54 [.lit v] [] K :=
  planOnly (fun k p => .tup [p, I k]) wrapT (fun K hK => by
    refine by54 (Nat.le_of_ble_eq_true rfl) ?_
    repeat' ((conv => whnf); first | (refine Exists.intro ([] : List Nat) ?_) | (refine And.intro rfl ?_) | (refine And.intro (by decide +kernel) ?_) | (refine And.intro trivial ?_) | (refine d_DrawSheetAt (hcd := hcd) (h0 := fun d => ?_) ..) | (refine fS_mk ?_) | (refine Exists.intro _ (And.intro rfl (And.intro rfl (And.intro (Nat.le_of_ble_eq_true rfl) ?_)))) | (refine Exists.intro _ (And.intro rfl (And.intro rfl (And.intro rfl (And.intro (Nat.le_of_ble_eq_true rfl) ?_))))) | (refine And.intro (Exists.intro _ (And.intro rfl rfl)) ?_) | (exact fun hW => absurd hW (by decide +kernel)) | (intro hW; (try simp only [Bool.not_true, Bool.not_false, Bool.not_eq_true', Bool.not_eq_false', decide_eq_true_eq, decide_eq_false_iff_not, reduceCtorEq, Bool.true_eq_false, Bool.false_eq_true, mk_size, List.size_toArray, ByteArray.size_append, ByteArray.size_extract, List.length_cons, List.length_nil, ba_get, ba_empty, Int.toNat_natCast] at hW)) | (refine And.intro (?_ : _ → _) (?_ : _ → _)) | (refine FinR.drop 0 (Nat.zero_le _) (Closed.zero _) rfl ?_) | (refine FinR.keep ?_) | (refine And.intro (det3_agg rfl) ?_) | (refine fL_mk ?_) | (refine And.intro (by (try simp only [mk_size, List.size_toArray, ByteArray.size_append, ByteArray.size_extract, List.length_cons, List.length_nil]); omega) ?_) | (refine And.intro (by (try simp only [mk_size, List.size_toArray, ByteArray.size_append, ByteArray.size_extract, List.length_cons, List.length_nil, wrap64_eq]); omega) ?_) | fail)
    all_goals exact hK d 1 2 _ rfl rfl (by decide)) K h0
theorem d_DrawCanSwap (v : Value) (xs : List Int) (hcd : Code W0 v xs) (K : Cont) (h0 : ∀ d : PD, K (.tup [d.av (σ.length + 0) (σ.length + 1), I d.k]) (σ ++ d.bl)) : ACall Try.prog W0 54 [.lit v] σ K := by
  refine ACall.frame (K0 := fun w σ' => ∃ d : PD, w = .tup [d.av 0 1, I d.k] ∧ σ' = d.bl) rfl (fun W1 hb => c_DrawCanSwap v xs (hcd.below hb) _ fun d => ⟨d, rfl, rfl⟩) ?_
  rintro w σ' ⟨d, rfl, rfl⟩
  rw [pl_shB]; exact h0 d
end Go.Proofs.Ytkcbhdjhbnnlgaa
end

section
/- Contracts: the ends and the effects of a plan by sets. -/
set_option linter.unusedVariables false
set_option linter.unusedSimpArgs false
set_option maxRecDepth 100000
set_option maxHeartbeats 4000000
namespace Go.Proofs.Ytkcbhdjhbnnlgaa
open Go Go.RowKit Go.Proofs.Ytkcbhdjhbnnlgaa.Abs
variable {W0 : World} {σ : List Blk}
theorem set3 {σ : List Blk} {A B C A' : Blk} : (σ ++ [A] ++ [B] ++ [C]).set σ.length A' = σ ++ [A'] ++ [B] ++ [C] := by simp
theorem d_end (p n x : Nat) (fs : List (Nat × Nat)) (hp : PlanSt σ p n fs) (hf : FsOk fs) (hl : fs.length ≤ 1048576) (hx : x < 2 ^ 36) (K : Cont) (h0 : K (U (runN fs x : Nat)) (σ ++ [ruB (runL fs x)])) : ACall Try.prog W0 122 [.ptr p 0 0, U x] σ K := by
  refine by122 (Nat.le_of_ble_eq_true rfl) ?_
  have hver : (ruB (runL fs x)).ver = fs.length := by show (runL fs x).length - 1 = _; rw [runL_len]; rfl
  have hle : ∀ off, off ≤ fs.length → off + 1 ≤ (ruB (runL fs x)).cells.length := fun off ho => by show _ ≤ (List.map _ _).length; rw [List.length_map, runL_len]; omega
  have hget : ∀ off, off = fs.length → mkAV false (((ruB (runL fs x)).cells.drop off).take 1) = U (runN fs x : Nat) := fun off ho => by
    have := runL_get fs x (Nat.le_refl _)
    rw [List.take_length] at this
    exact stB_get this ho
  obtain ⟨s, h1, hs⟩ := hp.ex
  cases hs with
  | nil =>
    repeat' ((conv => whnf); first | (refine Exists.intro _ (And.intro getl (And.intro hver (And.intro (hle _ (by simp)) ?_))); rw [hget _ (by simp)]) | (refine Exists.intro ([] : List Nat) ?_) | (refine And.intro rfl ?_) | (refine And.intro (by decide +kernel) ?_) | (refine And.intro trivial ?_) | (refine fS_mk ?_) | (refine And.intro ⟨_, h1, rfl⟩ ?_) | (refine And.intro rfl (Exists.intro _ (And.intro h1 (And.intro rfl (And.intro (Nat.le_of_ble_eq_true rfl) ?_))))) | (refine Exists.intro _ (And.intro h1 (And.intro rfl (And.intro (Nat.le_of_ble_eq_true rfl) ?_)))) | (refine d_run (hp := hp) (hf := hf) (hl := hl) (hx := hx) (h0 := fun cap => varC_app ?_) ..) | (refine And.intro ⟨_, getl, hver⟩ ?_) | (refine Exists.intro _ (And.intro rfl (And.intro rfl (And.intro (Nat.le_of_ble_eq_true rfl) ?_)))) | (refine Exists.intro _ (And.intro rfl (And.intro rfl (And.intro rfl (And.intro (Nat.le_of_ble_eq_true rfl) ?_))))) | (refine And.intro (Exists.intro _ (And.intro rfl rfl)) ?_) | (exact fun hW => absurd hW (by decide +kernel)) | (intro hW; (try simp only [Bool.not_true, Bool.not_false, Bool.not_eq_true', Bool.not_eq_false', decide_eq_true_eq, decide_eq_false_iff_not, reduceCtorEq, Bool.true_eq_false, Bool.false_eq_true, mk_size, List.size_toArray, ByteArray.size_append, ByteArray.size_extract, List.length_cons, List.length_nil, ba_get, ba_empty, Int.toNat_natCast] at hW)) | (refine And.intro (?_ : _ → _) (?_ : _ → _)) | (refine FinR.drop 0 (Nat.zero_le _) (Closed.zero _) rfl ?_) | (refine FinR.keep ?_) | (refine And.intro (det3_agg rfl) ?_) | (refine fL_mk ?_) | (refine And.intro (by (try simp only [mk_size, List.size_toArray, ByteArray.size_append, ByteArray.size_extract, List.length_cons, List.length_nil]); omega) ?_) | (refine And.intro (by (try simp only [mk_size, List.size_toArray, ByteArray.size_append, ByteArray.size_extract, List.length_cons, List.length_nil, wrap64_eq]); omega) ?_) | fail)
    all_goals first | exact h0 | exact FinR.keep h0 | (exfalso; omega) | skip
  | own r ver cap cs fs hr hlc hc =>
    repeat' ((conv => whnf); first | (refine Exists.intro _ (And.intro getl (And.intro hver (And.intro (hle _ (by rw [Int.toNat_natCast]; omega)) ?_))); rw [hget _ (by rw [Int.toNat_natCast]; omega)]) | (refine Exists.intro ([] : List Nat) ?_) | (refine And.intro rfl ?_) | (refine And.intro (by decide +kernel) ?_) | (refine And.intro trivial ?_) | (refine fS_mk ?_) | (refine And.intro ⟨_, h1, rfl⟩ ?_) | (refine And.intro rfl (Exists.intro _ (And.intro h1 (And.intro rfl (And.intro (Nat.le_of_ble_eq_true rfl) ?_))))) | (refine Exists.intro _ (And.intro h1 (And.intro rfl (And.intro (Nat.le_of_ble_eq_true rfl) ?_)))) | (refine And.intro ⟨_, hr, rfl⟩ ?_) | (refine d_run (hp := hp) (hf := hf) (hl := hl) (hx := hx) (h0 := fun cap => varC_app ?_) ..) | (refine And.intro ⟨_, getl, hver⟩ ?_) | (refine Exists.intro _ (And.intro rfl (And.intro rfl (And.intro (Nat.le_of_ble_eq_true rfl) ?_)))) | (refine Exists.intro _ (And.intro rfl (And.intro rfl (And.intro rfl (And.intro (Nat.le_of_ble_eq_true rfl) ?_))))) | (refine And.intro (Exists.intro _ (And.intro rfl rfl)) ?_) | (exact fun hW => absurd hW (by decide +kernel)) | (intro hW; (try simp only [Bool.not_true, Bool.not_false, Bool.not_eq_true', Bool.not_eq_false', decide_eq_true_eq, decide_eq_false_iff_not, reduceCtorEq, Bool.true_eq_false, Bool.false_eq_true, mk_size, List.size_toArray, ByteArray.size_append, ByteArray.size_extract, List.length_cons, List.length_nil, ba_get, ba_empty, Int.toNat_natCast] at hW)) | (refine And.intro (?_ : _ → _) (?_ : _ → _)) | (refine FinR.drop 0 (Nat.zero_le _) (Closed.zero _) rfl ?_) | (refine FinR.keep ?_) | (refine And.intro (det3_agg rfl) ?_) | (refine fL_mk ?_) | (refine And.intro (by (try simp only [mk_size, List.size_toArray, ByteArray.size_append, ByteArray.size_extract, List.length_cons, List.length_nil]); omega) ?_) | (refine And.intro (by (try simp only [mk_size, List.size_toArray, ByteArray.size_append, ByteArray.size_extract, List.length_cons, List.length_nil, wrap64_eq]); omega) ?_) | fail)
    all_goals first | exact h0 | exact FinR.keep h0 | (exfalso; omega) | skip
theorem d_effects (p n : Nat) (fs : List (Nat × Nat)) (hp : PlanSt σ p n fs) (hf : FsOk fs) (hl : fs.length ≤ 1048576) (K : Cont) (h0 : ∀ A B C, K (.agg [U (runN fs 0 : Nat), U (runN fs fullN : Nat)]) (σ ++ [A] ++ [B] ++ [C])) : ACall Try.prog W0 96 [.ptr p 0 0] σ K := by
  refine by96 (Nat.le_of_ble_eq_true rfl) ?_
  repeat' ((conv => whnf); first | (refine Exists.intro ([] : List Nat) ?_) | (refine And.intro rfl ?_) | (refine And.intro (by decide +kernel) ?_) | (refine And.intro trivial ?_) | (refine fS_mk ?_) | (refine d_end (x := fullN) (hp := (hp.add).add) (hf := hf) (hl := hl) (hx := by decide) (h0 := ?_) ..) | (refine d_end (x := 0) (hp := hp.add) (hf := hf) (hl := hl) (hx := by decide) (h0 := ?_) ..) | (refine Exists.intro _ (And.intro (getx1 (getx1 getl)) (And.intro rfl (And.intro rfl (And.intro (Nat.le_of_ble_eq_true rfl) ?_)))); rw [set3]) | (refine Exists.intro _ (And.intro (getx1 (getx1 getl)) (And.intro rfl (And.intro (Nat.le_of_ble_eq_true rfl) ?_)))) | (refine Exists.intro _ (And.intro rfl (And.intro rfl (And.intro (Nat.le_of_ble_eq_true rfl) ?_)))) | (refine Exists.intro _ (And.intro rfl (And.intro rfl (And.intro rfl (And.intro (Nat.le_of_ble_eq_true rfl) ?_))))) | (refine And.intro (Exists.intro _ (And.intro rfl rfl)) ?_) | (exact fun hW => absurd hW (by decide +kernel)) | (intro hW; (try simp only [Bool.not_true, Bool.not_false, Bool.not_eq_true', Bool.not_eq_false', decide_eq_true_eq, decide_eq_false_iff_not, reduceCtorEq, Bool.true_eq_false, Bool.false_eq_true, mk_size, List.size_toArray, ByteArray.size_append, ByteArray.size_extract, List.length_cons, List.length_nil, ba_get, ba_empty, Int.toNat_natCast] at hW)) | (refine And.intro (?_ : _ → _) (?_ : _ → _)) | (refine FinR.drop 0 (Nat.zero_le _) (Closed.zero _) rfl ?_) | (refine FinR.keep ?_) | (refine And.intro (det3_agg rfl) ?_) | (refine fL_mk ?_) | (refine And.intro (by (try simp only [mk_size, List.size_toArray, ByteArray.size_append, ByteArray.size_extract, List.length_cons, List.length_nil]); omega) ?_) | (refine And.intro (by (try simp only [mk_size, List.size_toArray, ByteArray.size_append, ByteArray.size_extract, List.length_cons, List.length_nil, wrap64_eq]); omega) ?_) | fail)
  all_goals first | exact h0 _ _ _ | exact FinR.keep (h0 _ _ _) | (exfalso; omega) | skip
end Go.Proofs.Ytkcbhdjhbnnlgaa
end

section
/- Contracts: effects of a plan by the reference. -/
set_option linter.unusedVariables false
set_option linter.unusedSimpArgs false
set_option maxRecDepth 100000
set_option maxHeartbeats 4000000
namespace Go.Proofs.Ytkcbhdjhbnnlgaa
open Go Go.RowKit Go.Proofs.Ytkcbhdjhbnnlgaa.Abs
variable {W0 : World} {σ : List Blk}
/-- what becomes of a cell: by the ends of the empty and of the full sheet -/
def efv (w b k : Nat) : Int := if w.testBit k then (if b.testBit k then 2 else 1) else if b.testBit k then 0 else 3
def effN (w b k : Nat) : List Int := (List.range k).map (efv w b) ++ List.replicate (36 - k) 0
theorem effN_len (w b : Nat) {k : Nat} (h : k ≤ 36) : (effN w b k).length = 36 := by simp [effN]; omega
theorem effN_set (w b : Nat) {k : Nat} (h : k < 36) : (effN w b k).set k (efv w b k) = effN w b (k + 1) := by
  have e : 36 - k = (36 - (k + 1)) + 1 := by omega
  have hl : ((List.range k).map (efv w b)).length = k := by simp
  rw [effN, e, List.replicate_succ, List.set_append_right _ _ (by omega), hl, Nat.sub_self, List.set_cons_zero, effN, List.range_succ, List.map_append, List.append_assoc]; rfl
theorem effN_keep (w b : Nat) {k : Nat} (h : k < 36) (h0 : efv w b k = 0) : effN w b (k + 1) = effN w b k := by
  have e : 36 - k = (36 - (k + 1)) + 1 := by omega
  rw [effN, effN, e, List.replicate_succ, List.range_succ, List.map_append, List.append_assoc, List.map_cons, List.map_nil, h0]; rfl
abbrev efL (xs ys : List (List Int)) : List Int := effN (runN (fsOf xs ys) 0) (runN (fsOf xs ys) fullN) 36
theorem c_l11Effects (a b c d e f : Int) (v1 v2 : Value) (xs ys : List (List Int)) (h1 : Sli W0 [] 6 enI (.lit v1) xs) (h2 : Sli W0 [] 4 enI (.lit v2) ys) (hx : ∀ x ∈ xs, x.length = 6) (hy : ∀ x ∈ ys, x.length = 4) (hxa : xs.all shRow = true) (hya : ys.all (stOk xs.length) = true) (hl2 : ys.length ≤ 1048576) (K : Cont) (h0 : K (Pi (efL xs ys)) []) : ACall Try.prog W0 98 [PlA a b c d e f (.lit v1) (.lit v2)] [] K := by
  refine by98 (Nat.le_of_ble_eq_true rfl) ?_
  obtain ⟨o2, n2, cap2, hv2, hn2, hc2, hm2, hf2⟩ := sli_form h2
  cases hv2
  subst hn2
  have hff : fullN ^^^ 0 = fullN := by decide
  have htk : (fsOf xs ys).take ys.length = fsOf xs ys := by rw [← fsOf_len xs ys, List.take_length]
  repeat' ((conv => whnf); first | (refine Exists.intro ([] : List Nat) ?_) | (refine And.intro rfl ?_) | (refine And.intro (by decide +kernel) ?_) | (refine And.intro trivial ?_) | (refine d_l11At (n := 0) (k := ys.length) (h1 := sli_up h1) (h2 := sli_up h2) (hx := hx) (hy := hy) (hxa := hxa) (hya := hya) (hl2 := hl2) (hk := Nat.le_refl _) (h0 := ?_) ..; rw [htk]) | (refine Exists.intro _ (And.intro (fun τ => callW_fn (d_l2NotN (n := 0) (h0 := And.intro rfl rfl) ..)) ?_)) | (refine Exists.intro _ (And.intro (fun τ => callW_fn (d_l11At (n := fullN) (k := ys.length) (h1 := sli_up h1) (h2 := sli_up h2) (hx := hx) (hy := hy) (hxa := hxa) (hya := hya) (hl2 := hl2) (hk := Nat.le_refl _) (h0 := And.intro rfl rfl) ..)) ?_); rw [htk]) | (refine Exists.intro _ (And.intro rfl (And.intro rfl (And.intro (Nat.le_of_ble_eq_true rfl) ?_)))) | (refine Exists.intro _ (And.intro rfl (And.intro rfl (And.intro rfl (And.intro (Nat.le_of_ble_eq_true rfl) ?_))))) | (refine And.intro (Exists.intro _ (And.intro rfl rfl)) ?_) | (exact fun hW => absurd hW (by decide +kernel)) | (intro hW; (try simp only [Bool.not_true, Bool.not_false, Bool.not_eq_true', Bool.not_eq_false', decide_eq_true_eq, decide_eq_false_iff_not, reduceCtorEq, Bool.true_eq_false, Bool.false_eq_true, mk_size, List.size_toArray, ByteArray.size_append, ByteArray.size_extract, List.length_cons, List.length_nil, ba_get, ba_empty, Int.toNat_natCast] at hW)) | (refine And.intro (?_ : _ → _) (?_ : _ → _)) | (refine FinR.drop 0 (Nat.zero_le _) (Closed.zero _) rfl ?_) | (refine FinR.keep ?_) | (refine And.intro (det3_agg rfl) ?_) | (refine fL_mk ?_) | (refine And.intro (by (try simp only [mk_size, List.size_toArray, ByteArray.size_append, ByteArray.size_extract, List.length_cons, List.length_nil]); omega) ?_) | (refine And.intro (by (try simp only [mk_size, List.size_toArray, ByteArray.size_append, ByteArray.size_extract, List.length_cons, List.length_nil, wrap64_eq]); omega) ?_) | fail)
  have h0 : K (Pi (effN (runN (fsOf xs ys) 0) (runN (fsOf xs ys) fullN) 36)) [] := h0
  generalize runN (fsOf xs ys) 0 = w at h0 ⊢
  generalize runN (fsOf xs ys) fullN = bb at h0 ⊢
  refine LoopR.live (fun y : Nat => [(2, .ptr 1 0 0), (3, .ptr 2 0 0), (4, .ptr 3 0 0), (5, .ptr 4 0 0), (6, I y)]) (fun y => [plBx a b c d e f (.lit v1) (.lit (.slice o2 ys.length cap2)) 67, bQ z36 69, bQ (effN w bb (6 * y)) 69, bl w, bl bb]) (fun y => y ≤ 6) (fun y => 6 - y) 0 ⟨rfl, rfl, rfl, rfl, rfl, trivial⟩ (.keep rfl) (Nat.zero_le _) ?_
  intro y hy
  by_cases hlt : y < 6
  · skip
    repeat' ((conv => whnf); first | (refine Exists.intro ([] : List Nat) ?_) | (refine And.intro rfl ?_) | (refine And.intro (by decide +kernel) ?_) | (refine And.intro trivial ?_) | (refine Exists.intro _ (And.intro rfl (And.intro rfl (And.intro (Nat.le_of_ble_eq_true rfl) ?_)))) | (refine Exists.intro _ (And.intro rfl (And.intro rfl (And.intro rfl (And.intro (Nat.le_of_ble_eq_true rfl) ?_))))) | (refine And.intro (Exists.intro _ (And.intro rfl rfl)) ?_) | (exact fun hW => absurd hW (by decide +kernel)) | (intro hW; (try simp only [Bool.not_true, Bool.not_false, Bool.not_eq_true', Bool.not_eq_false', decide_eq_true_eq, decide_eq_false_iff_not, reduceCtorEq, Bool.true_eq_false, Bool.false_eq_true, mk_size, List.size_toArray, ByteArray.size_append, ByteArray.size_extract, List.length_cons, List.length_nil, ba_get, ba_empty, Int.toNat_natCast] at hW)) | (refine And.intro (?_ : _ → _) (?_ : _ → _)) | (refine FinR.drop 0 (Nat.zero_le _) (Closed.zero _) rfl ?_) | (refine FinR.keep ?_) | (refine And.intro (det3_agg rfl) ?_) | (refine fL_mk ?_) | (refine And.intro (by (try simp only [mk_size, List.size_toArray, ByteArray.size_append, ByteArray.size_extract, List.length_cons, List.length_nil]); omega) ?_) | (refine And.intro (by (try simp only [mk_size, List.size_toArray, ByteArray.size_append, ByteArray.size_extract, List.length_cons, List.length_nil, wrap64_eq]); omega) ?_) | fail)
    all_goals first | (exfalso; omega) | skip
    refine LoopR.live (fun x : Nat => [(2, .ptr 1 0 0), (3, .ptr 2 0 0), (4, .ptr 3 0 0), (5, .ptr 4 0 0), (6, I y), (7, I x)]) (fun x => [plBx a b c d e f (.lit v1) (.lit (.slice o2 ys.length cap2)) 67, bQ z36 69, bQ (effN w bb (6 * y + x)) 69, bl w, bl bb]) (fun x => x ≤ 6) (fun x => 6 - x) 0 ⟨rfl, rfl, rfl, rfl, rfl, rfl, trivial⟩ (.keep rfl) (Nat.zero_le _) ?_
    intro x hx
    by_cases hlt2 : x < 6
    · have hk : 6 * y + x < 36 := by omega
      have hml : (effN w bb (6 * y + x)).length = 36 := effN_len w bb (by omega)
      have hle : ∀ off, off = 6 * y + x → off + 1 ≤ ((effN w bb (6 * y + x)).map I).length := fun off ho => cell_le (by omega)
      have hoff : 0 + 0 + ((y : Nat) : Int).toNat * 6 + ((x : Nat) : Int).toNat * 1 = 6 * y + x := by simp only [Int.toNat_natCast]; omega
      have hst : ∀ v : Int, ((effN w bb (6 * y + x)).map I).take (0 + 0 + ((y : Nat) : Int).toNat * 6 + ((x : Nat) : Int).toNat * 1) ++ [I v] ++ ((effN w bb (6 * y + x)).map I).drop (0 + 0 + ((y : Nat) : Int).toNat * 6 + ((x : Nat) : Int).toNat * 1 + 1) = ((effN w bb (6 * y + x)).set (6 * y + x) v).map I := fun v => by
        rw [hoff]; exact cell_st v (by omega)
      repeat' ((conv => whnf); first | (refine Exists.intro (bQ (effN w bb (6 * y + x)) 69) (And.intro rfl (And.intro rfl (And.intro rfl (And.intro (hle _ hoff) ?_))))) | (refine Exists.intro ([] : List Nat) ?_) | (refine And.intro rfl ?_) | (refine And.intro (by decide +kernel) ?_) | (refine And.intro trivial ?_) | (refine d_l2GetN (hx := hlt2) (hy := hlt) (h0 := ?_) ..) | (refine Exists.intro _ (And.intro (fun τ => callW_fn (d_l2GetN (hx := hlt2) (hy := hlt) (h0 := And.intro rfl rfl) ..)) ?_)) | (refine Exists.intro _ (And.intro (callW_fn (d_l2GetN (hx := hlt2) (hy := hlt) (h0 := And.intro rfl rfl) ..)) (And.intro trivial ?_))) | (refine Exists.intro _ (And.intro (callW_fn (d_l2GetN (hx := hlt2) (hy := hlt) (h0 := And.intro rfl rfl) ..)) ?_)) | (refine Exists.intro _ (And.intro (fun τ _ => callW_fn (d_l2GetN (hx := hlt2) (hy := hlt) (h0 := And.intro rfl rfl) ..)) ?_)) | (refine Exists.intro _ (And.intro rfl (And.intro rfl (And.intro (Nat.le_of_ble_eq_true rfl) ?_)))) | (refine Exists.intro _ (And.intro rfl (And.intro rfl (And.intro rfl (And.intro (Nat.le_of_ble_eq_true rfl) ?_))))) | (refine And.intro (Exists.intro _ (And.intro rfl rfl)) ?_) | (exact fun hW => absurd hW (by decide +kernel)) | (intro hW; (try simp only [Bool.not_true, Bool.not_false, Bool.not_eq_true', Bool.not_eq_false', decide_eq_true_eq, decide_eq_false_iff_not, reduceCtorEq, Bool.true_eq_false, Bool.false_eq_true, mk_size, List.size_toArray, ByteArray.size_append, ByteArray.size_extract, List.length_cons, List.length_nil, ba_get, ba_empty, Int.toNat_natCast] at hW)) | (refine And.intro (?_ : _ → _) (?_ : _ → _)) | (refine FinR.drop 0 (Nat.zero_le _) (Closed.zero _) rfl ?_) | (refine FinR.keep ?_) | (refine And.intro (det3_agg rfl) ?_) | (refine fL_mk ?_) | (refine And.intro (by (try simp only [mk_size, List.size_toArray, ByteArray.size_append, ByteArray.size_extract, List.length_cons, List.length_nil]); omega) ?_) | (refine And.intro (by (try simp only [mk_size, List.size_toArray, ByteArray.size_append, ByteArray.size_extract, List.length_cons, List.length_nil, wrap64_eq]); omega) ?_) | fail)
      all_goals first | (exfalso; omega) | (exfalso; simp_all; done) | skip
      all_goals first
        | (refine Again.go (x + 1) ⟨rfl, rfl, rfl, rfl, rfl, slI' (wsucc' x (by omega)), trivial⟩ (.keep ?_) (by omega) (by omega); rw [← Nat.add_assoc, ← effN_set w bb hk, show efv w bb (6 * y + x) = 2 by simp_all [efv]]; dsimp only [bQ]; rw [← hst]; rfl)
        | (refine Again.go (x + 1) ⟨rfl, rfl, rfl, rfl, rfl, slI' (wsucc' x (by omega)), trivial⟩ (.keep ?_) (by omega) (by omega); rw [← Nat.add_assoc, ← effN_set w bb hk, show efv w bb (6 * y + x) = 1 by simp_all [efv]]; dsimp only [bQ]; rw [← hst]; rfl)
        | (refine Again.go (x + 1) ⟨rfl, rfl, rfl, rfl, rfl, slI' (wsucc' x (by omega)), trivial⟩ (.keep ?_) (by omega) (by omega); rw [← Nat.add_assoc, ← effN_set w bb hk, show efv w bb (6 * y + x) = 3 by simp_all [efv]]; dsimp only [bQ]; rw [← hst]; rfl)
        | (refine Again.go (x + 1) ⟨rfl, rfl, rfl, rfl, rfl, slI' (wsucc' x (by omega)), trivial⟩ (.keep ?_) (by omega) (by omega); rw [← Nat.add_assoc, effN_keep w bb hk (by simp_all [efv])])
    · obtain rfl : x = 6 := by omega
      repeat' ((conv => whnf); first | (refine Exists.intro ([] : List Nat) ?_) | (refine And.intro rfl ?_) | (refine And.intro (by decide +kernel) ?_) | (refine And.intro trivial ?_) | (refine Exists.intro _ (And.intro rfl (And.intro rfl (And.intro (Nat.le_of_ble_eq_true rfl) ?_)))) | (refine Exists.intro _ (And.intro rfl (And.intro rfl (And.intro rfl (And.intro (Nat.le_of_ble_eq_true rfl) ?_))))) | (refine And.intro (Exists.intro _ (And.intro rfl rfl)) ?_) | (exact fun hW => absurd hW (by decide +kernel)) | (intro hW; (try simp only [Bool.not_true, Bool.not_false, Bool.not_eq_true', Bool.not_eq_false', decide_eq_true_eq, decide_eq_false_iff_not, reduceCtorEq, Bool.true_eq_false, Bool.false_eq_true, mk_size, List.size_toArray, ByteArray.size_append, ByteArray.size_extract, List.length_cons, List.length_nil, ba_get, ba_empty, Int.toNat_natCast] at hW)) | (refine And.intro (?_ : _ → _) (?_ : _ → _)) | (refine FinR.drop 0 (Nat.zero_le _) (Closed.zero _) rfl ?_) | (refine FinR.keep ?_) | (refine And.intro (det3_agg rfl) ?_) | (refine fL_mk ?_) | (refine And.intro (by (try simp only [mk_size, List.size_toArray, ByteArray.size_append, ByteArray.size_extract, List.length_cons, List.length_nil]); omega) ?_) | (refine And.intro (by (try simp only [mk_size, List.size_toArray, ByteArray.size_append, ByteArray.size_extract, List.length_cons, List.length_nil, wrap64_eq]); omega) ?_) | fail)
      all_goals first | (exfalso; omega) | skip
      exact Again.go (y + 1) ⟨rfl, rfl, rfl, rfl, slI' (wsucc' y (by omega)), trivial⟩ (.keep (by rw [Nat.mul_add])) (by omega) (by omega)
  · obtain rfl : y = 6 := by omega
    have hml : (effN w bb (6 * 6)).length = 36 := effN_len w bb (by omega)
    repeat' ((conv => whnf); first | (refine Exists.intro (bQ (effN w bb (6 * 6)) 69) (And.intro rfl (And.intro rfl (And.intro (pic_le hml rfl) ?_))); rw [show (bQ (effN w bb (6 * 6)) 69).cells = (effN w bb (6 * 6)).map I from rfl, pic_ld hml _ rfl]) | (refine Exists.intro _ (And.intro rfl (And.intro rfl (And.intro (pic_len hml) (And.intro (Nat.le_of_ble_eq_true rfl) ?_))))) | (refine Exists.intro _ (And.intro rfl (And.intro rfl (And.intro (pic_rle hml _) ?_))); rw [pic_res hml _]) | (refine FinR.drop 0 (Nat.zero_le _) (Closed.zero _) (belPi 0 _) ?_) | (refine Exists.intro ([] : List Nat) ?_) | (refine And.intro rfl ?_) | (refine And.intro (by decide +kernel) ?_) | (refine And.intro trivial ?_) | (refine Exists.intro _ (And.intro rfl (And.intro rfl (And.intro (Nat.le_of_ble_eq_true rfl) ?_)))) | (refine Exists.intro _ (And.intro rfl (And.intro rfl (And.intro rfl (And.intro (Nat.le_of_ble_eq_true rfl) ?_))))) | (refine And.intro (Exists.intro _ (And.intro rfl rfl)) ?_) | (exact fun hW => absurd hW (by decide +kernel)) | (intro hW; (try simp only [Bool.not_true, Bool.not_false, Bool.not_eq_true', Bool.not_eq_false', decide_eq_true_eq, decide_eq_false_iff_not, reduceCtorEq, Bool.true_eq_false, Bool.false_eq_true, mk_size, List.size_toArray, ByteArray.size_append, ByteArray.size_extract, List.length_cons, List.length_nil, ba_get, ba_empty, Int.toNat_natCast] at hW)) | (refine And.intro (?_ : _ → _) (?_ : _ → _)) | (refine FinR.drop 0 (Nat.zero_le _) (Closed.zero _) rfl ?_) | (refine FinR.keep ?_) | (refine And.intro (det3_agg rfl) ?_) | (refine fL_mk ?_) | (refine And.intro (by (try simp only [mk_size, List.size_toArray, ByteArray.size_append, ByteArray.size_extract, List.length_cons, List.length_nil]); omega) ?_) | (refine And.intro (by (try simp only [mk_size, List.size_toArray, ByteArray.size_append, ByteArray.size_extract, List.length_cons, List.length_nil, wrap64_eq]); omega) ?_) | fail)
    all_goals first | (exfalso; omega) | exact h0
theorem d_l11Effects (a b c d e f : Int) (s1 s2 : AV) (xs ys : List (List Int)) (h1 : Sli W0 σ 6 enI s1 xs) (h2 : Sli W0 σ 4 enI s2 ys) (hx : ∀ x ∈ xs, x.length = 6) (hy : ∀ x ∈ ys, x.length = 4) (hxa : xs.all shRow = true) (hya : ys.all (stOk xs.length) = true) (hl2 : ys.length ≤ 1048576) (K : Cont) (h0 : K (Pi (efL xs ys)) σ) : ACall Try.prog W0 98 [PlA a b c d e f s1 s2] σ K :=
  lift_Pl (rest := []) (ι := Unit) (fun _ => Pi (efL xs ys)) (fun τ => []) (by kernel_rfl) rfl h1 h2 (fun W1 v1 v2 q1 q2 K hK => c_l11Effects a b c d e f v1 v2 xs ys q1 q2 hx hy hxa hya hl2 K (hK ())) K (fun _ => by
    rw [show shB σ.length [] = [] from rfl, List.append_nil, sh_Pi]; exact h0)
end Go.Proofs.Ytkcbhdjhbnnlgaa
end

section
/- Contracts: effects of plans, the same effects, by both sides. -/
set_option linter.unusedVariables false
set_option linter.unusedSimpArgs false
set_option maxRecDepth 100000
set_option maxHeartbeats 4000000
namespace Go.Proofs.Ytkcbhdjhbnnlgaa
open Go Go.RowKit Go.Proofs.Ytkcbhdjhbnnlgaa.Abs
variable {W0 : World} {σ : List Blk}
/-- effects agree when the ends do -/
theorem efv_inj {w b w' b' k : Nat} (h : efv w b k = efv w' b' k) : w.testBit k = w'.testBit k ∧ b.testBit k = b'.testBit k := by
  unfold efv at h
  cases h1 : w.testBit k <;> cases h2 : b.testBit k <;> cases h3 : w'.testBit k <;> cases h4 : b'.testBit k <;> simp_all
theorem effN_36 (w b : Nat) : effN w b 36 = (List.range 36).map (efv w b) := by rw [effN, Nat.sub_self, List.replicate_zero, List.append_nil]
theorem effN_eq {w b w' b' : Nat} (hw : w < 2 ^ 36) (hb : b < 2 ^ 36) (hw' : w' < 2 ^ 36) (hb' : b' < 2 ^ 36) : effN w b 36 = effN w' b' 36 ↔ w = w' ∧ b = b' := by
  rw [effN_36, effN_36]
  constructor
  · intro h
    have hk : ∀ k, k < 36 → efv w b k = efv w' b' k := fun k hk => List.map_inj_left.1 h k (List.mem_range.2 hk)
    constructor
    · apply Nat.eq_of_testBit_eq; intro j
      by_cases hj : j < 36
      · exact (efv_inj (hk j hj)).1
      · rw [Nat.testBit_lt_two_pow (Nat.lt_of_lt_of_le hw (Nat.pow_le_pow_right (by decide) (by omega))), Nat.testBit_lt_two_pow (Nat.lt_of_lt_of_le hw' (Nat.pow_le_pow_right (by decide) (by omega)))]
    · apply Nat.eq_of_testBit_eq; intro j
      by_cases hj : j < 36
      · exact (efv_inj (hk j hj)).2
      · rw [Nat.testBit_lt_two_pow (Nat.lt_of_lt_of_le hb (Nat.pow_le_pow_right (by decide) (by omega))), Nat.testBit_lt_two_pow (Nat.lt_of_lt_of_le hb' (Nat.pow_le_pow_right (by decide) (by omega)))]
  · rintro ⟨rfl, rfl⟩; rfl
def efR (a b c d e f : Int) (xs ys : List (List Int)) : AV := if planB a b c d e f xs ys then .tup [Pi (efL xs ys), Bo true] else .tup [Pi z36, Bo false]
theorem c_sEffectsOf (a b c d e f : Int) (v1 v2 : Value) (xs ys : List (List Int)) (h1 : Sli W0 [] 6 enI (.lit v1) xs) (h2 : Sli W0 [] 4 enI (.lit v2) ys) (hx : ∀ x ∈ xs, x.length = 6) (hy : ∀ x ∈ ys, x.length = 4) (hl : xs.length ≤ 1048576) (hl2 : ys.length ≤ 1048576) (K : Cont) (h0 : K (efR a b c d e f xs ys) []) : ACall Try.prog W0 43 [PlA a b c d e f (.lit v1) (.lit v2)] [] K := by
  refine by43 (Nat.le_of_ble_eq_true rfl) ?_
  cases hg : planB a b c d e f xs ys with
  | false =>
    rw [efR, hg] at h0
    have h0 : K (.tup [Pi z36, Bo false]) [] := h0
    repeat' ((conv => whnf); first | (refine Exists.intro ([] : List Nat) ?_) | (refine And.intro rfl ?_) | (refine And.intro (by decide +kernel) ?_) | (refine And.intro trivial ?_) | (refine d_l11Plan (h1 := sli_up h1) (h2 := sli_up h2) (hx := hx) (hy := hy) (hl := hl) (hl2 := hl2) (h0 := ?_) ..; rw [hg]) | (refine Exists.intro _ (And.intro rfl (And.intro rfl (And.intro (Nat.le_of_ble_eq_true rfl) ?_)))) | (refine Exists.intro _ (And.intro rfl (And.intro rfl (And.intro rfl (And.intro (Nat.le_of_ble_eq_true rfl) ?_))))) | (refine And.intro (Exists.intro _ (And.intro rfl rfl)) ?_) | (exact fun hW => absurd hW (by decide +kernel)) | (intro hW; (try simp only [Bool.not_true, Bool.not_false, Bool.not_eq_true', Bool.not_eq_false', decide_eq_true_eq, decide_eq_false_iff_not, reduceCtorEq, Bool.true_eq_false, Bool.false_eq_true, mk_size, List.size_toArray, ByteArray.size_append, ByteArray.size_extract, List.length_cons, List.length_nil, ba_get, ba_empty, Int.toNat_natCast] at hW)) | (refine And.intro (?_ : _ → _) (?_ : _ → _)) | (refine FinR.drop 0 (Nat.zero_le _) (Closed.zero _) rfl ?_) | (refine FinR.keep ?_) | (refine And.intro (det3_agg rfl) ?_) | (refine fL_mk ?_) | (refine And.intro (by (try simp only [mk_size, List.size_toArray, ByteArray.size_append, ByteArray.size_extract, List.length_cons, List.length_nil]); omega) ?_) | (refine And.intro (by (try simp only [mk_size, List.size_toArray, ByteArray.size_append, ByteArray.size_extract, List.length_cons, List.length_nil, wrap64_eq]); omega) ?_) | fail)
    all_goals first | exact h0 | (exfalso; omega) | (exfalso; simp_all; done)
  | true =>
    obtain ⟨hs, hx4, hy40, hxa, hya⟩ := planB_iff.1 hg
    rw [efR, hg] at h0
    have h0 : K (.tup [Pi (efL xs ys), Bo true]) [] := h0
    have hq : (efL xs ys).length = 36 := effN_len _ _ (Nat.le_refl _)
    have hc := fun (W : World) (σ : List Blk) K h => d_l11Effects (W0 := W) (σ := σ) (s1 := .lit v1) (s2 := .lit v2) (xs := xs) (ys := ys) (K := K) (h0 := h) (a := a) (b := b) (c := c) (d := d) (e := e) (f := f) (hx := hx) (hy := hy) (hxa := hxa) (hya := hya) (hl2 := hl2)
    generalize efL xs ys = q at h0 hq hc
    repeat' ((conv => whnf); first | (refine Exists.intro _ (And.intro rfl (And.intro rfl (And.intro (pic_len hq) (And.intro (Nat.le_of_ble_eq_true rfl) ?_))))) | (refine Exists.intro _ (And.intro rfl (And.intro rfl (And.intro (pic_rle hq _) ?_))); rw [pic_res hq _]) | (refine FinR.drop 0 (Nat.zero_le _) (Closed.zero _) (by show (bel3 0 (Pi q) && (bel3 0 (Bo true) && true)) = true; rw [belPi]; rfl) ?_) | (refine Exists.intro ([] : List Nat) ?_) | (refine And.intro rfl ?_) | (refine And.intro (by decide +kernel) ?_) | (refine And.intro trivial ?_) | (refine d_l11Plan (h1 := sli_up h1) (h2 := sli_up h2) (hx := hx) (hy := hy) (hl := hl) (hl2 := hl2) (h0 := ?_) ..; rw [hg]) | (refine hc _ _ _ ?_ (sli_up h1) (sli_up h2)) | (refine Exists.intro _ (And.intro rfl (And.intro rfl (And.intro (Nat.le_of_ble_eq_true rfl) ?_)))) | (refine Exists.intro _ (And.intro rfl (And.intro rfl (And.intro rfl (And.intro (Nat.le_of_ble_eq_true rfl) ?_))))) | (refine And.intro (Exists.intro _ (And.intro rfl rfl)) ?_) | (exact fun hW => absurd hW (by decide +kernel)) | (intro hW; (try simp only [Bool.not_true, Bool.not_false, Bool.not_eq_true', Bool.not_eq_false', decide_eq_true_eq, decide_eq_false_iff_not, reduceCtorEq, Bool.true_eq_false, Bool.false_eq_true, mk_size, List.size_toArray, ByteArray.size_append, ByteArray.size_extract, List.length_cons, List.length_nil, ba_get, ba_empty, Int.toNat_natCast] at hW)) | (refine And.intro (?_ : _ → _) (?_ : _ → _)) | (refine FinR.drop 0 (Nat.zero_le _) (Closed.zero _) rfl ?_) | (refine FinR.keep ?_) | (refine And.intro (det3_agg rfl) ?_) | (refine fL_mk ?_) | (refine And.intro (by (try simp only [mk_size, List.size_toArray, ByteArray.size_append, ByteArray.size_extract, List.length_cons, List.length_nil]); omega) ?_) | (refine And.intro (by (try simp only [mk_size, List.size_toArray, ByteArray.size_append, ByteArray.size_extract, List.length_cons, List.length_nil, wrap64_eq]); omega) ?_) | fail)
    all_goals first | exact h0 | (exfalso; omega) | (exfalso; simp_all; done)
end Go.Proofs.Ytkcbhdjhbnnlgaa
end

section
/- Contracts: the same effects, by the program. -/
set_option linter.unusedVariables false
set_option linter.unusedSimpArgs false
set_option maxRecDepth 100000
set_option maxHeartbeats 4000000
namespace Go.Proofs.Ytkcbhdjhbnnlgaa
open Go Go.RowKit Go.Proofs.Ytkcbhdjhbnnlgaa.Abs
variable {W0 : World} {σ : List Blk}
theorem d_planOfS (a b c d e f : Int) (s1 s2 : AV) (xs ys : List (List Int)) (h1 : Sli W0 σ 6 enI s1 xs) (h2 : Sli W0 σ 4 enI s2 ys) (hx : ∀ x ∈ xs, x.length = 6) (hy : ∀ x ∈ ys, x.length = 4) (hg : planB a b c d e f xs ys = true) (K : Cont)
    (h0 : ∀ (S : List Blk) (p : Nat), PlanSt S p (stN [a, b, c, d, e, f]) (fsOf xs ys) → (∀ (j : Nat) (B : Blk), σ[j]? = some B → S[j]? = some B) → σ.length ≤ S.length → K (.tup [.ptr p 0 0, Bo true]) S) : ACall Try.prog W0 95 [PlA a b c d e f s1 s2] σ K :=
  d_planOf a b c d e f s1 s2 xs ys h1 h2 hx hy K (fun _ τ hp => h0 _ _ hp (fun j B hj => getx1 hj) (by simp)) (fun h => by rw [hg] at h; cases h)
theorem d_planOfF (a b c d e f : Int) (s1 s2 : AV) (xs ys : List (List Int)) (h1 : Sli W0 σ 6 enI s1 xs) (h2 : Sli W0 σ 4 enI s2 ys) (hx : ∀ x ∈ xs, x.length = 6) (hy : ∀ x ∈ ys, x.length = 4) (hg : planB a b c d e f xs ys = false) (K : Cont) (h0 : K (.tup [nilP, Bo false]) σ) : ACall Try.prog W0 95 [PlA a b c d e f s1 s2] σ K :=
  d_planOf a b c d e f s1 s2 xs ys h1 h2 hx hy K (fun h => by rw [hg] at h; cases h) (fun _ => h0)
def sameR (g g' : Bool) (xs ys xs' ys' : List (List Int)) : AV := if g && g' then .tup [Bo (decide (((runN (fsOf xs ys) 0 : Nat) : Int) = (runN (fsOf xs' ys') 0 : Nat)) && (decide (((runN (fsOf xs ys) fullN : Nat) : Int) = (runN (fsOf xs' ys') fullN : Nat)) && true)), Bo true] else .tup [Bo false, Bo false]
theorem c_SameEffects (a b c d e f a' b' c' d' e' f' : Int) (v1 v2 u1 u2 : Value) (xs ys xs' ys' : List (List Int)) (h1 : Sli W0 [] 6 enI (.lit v1) xs) (h2 : Sli W0 [] 4 enI (.lit v2) ys) (g1 : Sli W0 [] 6 enI (.lit u1) xs') (g2 : Sli W0 [] 4 enI (.lit u2) ys') (hx : ∀ x ∈ xs, x.length = 6) (hy : ∀ x ∈ ys, x.length = 4) (hx' : ∀ x ∈ xs', x.length = 6) (hy' : ∀ x ∈ ys', x.length = 4) (K : Cont) (h0 : K (sameR (planB a b c d e f xs ys) (planB a' b' c' d' e' f' xs' ys') xs ys xs' ys') []) : ACall Try.prog W0 52 [PlA a b c d e f (.lit v1) (.lit v2), PlA a' b' c' d' e' f' (.lit u1) (.lit u2)] [] K := by
  refine by52 (Nat.le_of_ble_eq_true rfl) ?_
  cases hg : planB a b c d e f xs ys with
  | false =>
    rw [hg] at h0
    have h0 : K (.tup [Bo false, Bo false]) [] := h0
    cases hg' : planB a' b' c' d' e' f' xs' ys' with
    | false =>
      repeat' ((conv => whnf); first | (refine Exists.intro ([] : List Nat) ?_) | (refine And.intro rfl ?_) | (refine And.intro (by decide +kernel) ?_) | (refine And.intro trivial ?_) | (refine d_planOfF (h1 := sli_up h1) (h2 := sli_up h2) (hx := hx) (hy := hy) (hg := hg) (h0 := ?_) ..) | (refine d_planOfF (h1 := sli_up g1) (h2 := sli_up g2) (hx := hx') (hy := hy') (hg := hg') (h0 := ?_) ..) | (refine Exists.intro _ (And.intro rfl (And.intro rfl (And.intro (Nat.le_of_ble_eq_true rfl) ?_)))) | (refine Exists.intro _ (And.intro rfl (And.intro rfl (And.intro rfl (And.intro (Nat.le_of_ble_eq_true rfl) ?_))))) | (refine And.intro (Exists.intro _ (And.intro rfl rfl)) ?_) | (exact fun hW => absurd hW (by decide +kernel)) | (intro hW; (try simp only [Bool.not_true, Bool.not_false, Bool.not_eq_true', Bool.not_eq_false', decide_eq_true_eq, decide_eq_false_iff_not, reduceCtorEq, Bool.true_eq_false, Bool.false_eq_true, mk_size, List.size_toArray, ByteArray.size_append, ByteArray.size_extract, List.length_cons, List.length_nil, ba_get, ba_empty, Int.toNat_natCast] at hW)) | (refine And.intro (?_ : _ → _) (?_ : _ → _)) | (refine FinR.drop 0 (Nat.zero_le _) (Closed.zero _) rfl ?_) | (refine FinR.keep ?_) | (refine And.intro (det3_agg rfl) ?_) | (refine fL_mk ?_) | (refine And.intro (by (try simp only [mk_size, List.size_toArray, ByteArray.size_append, ByteArray.size_extract, List.length_cons, List.length_nil]); omega) ?_) | (refine And.intro (by (try simp only [mk_size, List.size_toArray, ByteArray.size_append, ByteArray.size_extract, List.length_cons, List.length_nil, wrap64_eq]); omega) ?_) | fail)
      all_goals first | exact h0 | (exfalso; omega) | (exfalso; simp_all; done)
    | true =>
      repeat' ((conv => whnf); first | (refine Exists.intro ([] : List Nat) ?_) | (refine And.intro rfl ?_) | (refine And.intro (by decide +kernel) ?_) | (refine And.intro trivial ?_) | (refine d_planOfF (h1 := sli_up h1) (h2 := sli_up h2) (hx := hx) (hy := hy) (hg := hg) (h0 := ?_) ..) | (refine d_planOfS (h1 := sli_up g1) (h2 := sli_up g2) (hx := hx') (hy := hy') (hg := hg') (h0 := fun S p hp hk hl => ?_) ..) | (refine Exists.intro _ (And.intro rfl (And.intro rfl (And.intro (Nat.le_of_ble_eq_true rfl) ?_)))) | (refine Exists.intro _ (And.intro rfl (And.intro rfl (And.intro rfl (And.intro (Nat.le_of_ble_eq_true rfl) ?_))))) | (refine And.intro (Exists.intro _ (And.intro rfl rfl)) ?_) | (exact fun hW => absurd hW (by decide +kernel)) | (intro hW; (try simp only [Bool.not_true, Bool.not_false, Bool.not_eq_true', Bool.not_eq_false', decide_eq_true_eq, decide_eq_false_iff_not, reduceCtorEq, Bool.true_eq_false, Bool.false_eq_true, mk_size, List.size_toArray, ByteArray.size_append, ByteArray.size_extract, List.length_cons, List.length_nil, ba_get, ba_empty, Int.toNat_natCast] at hW)) | (refine And.intro (?_ : _ → _) (?_ : _ → _)) | (refine FinR.drop 0 (Nat.zero_le _) (Closed.zero _) rfl ?_) | (refine FinR.keep ?_) | (refine And.intro (det3_agg rfl) ?_) | (refine fL_mk ?_) | (refine And.intro (by (try simp only [mk_size, List.size_toArray, ByteArray.size_append, ByteArray.size_extract, List.length_cons, List.length_nil]); omega) ?_) | (refine And.intro (by (try simp only [mk_size, List.size_toArray, ByteArray.size_append, ByteArray.size_extract, List.length_cons, List.length_nil, wrap64_eq]); omega) ?_) | fail)
      all_goals first | exact h0 | (exfalso; omega) | (exfalso; simp_all; done)
  | true =>
    obtain ⟨_, hx4, hy40, hxa, hya⟩ := planB_iff.1 hg
    have hfo := fsOf_ok hx hy hxa hya
    have hfl := fsOf_len xs ys
    cases hg' : planB a' b' c' d' e' f' xs' ys' with
    | false =>
      rw [hg, hg'] at h0
      have h0 : K (.tup [Bo false, Bo false]) [] := h0
      repeat' ((conv => whnf); first | (refine Exists.intro ([] : List Nat) ?_) | (refine And.intro rfl ?_) | (refine And.intro (by decide +kernel) ?_) | (refine And.intro trivial ?_) | (refine d_planOfS (h1 := sli_up h1) (h2 := sli_up h2) (hx := hx) (hy := hy) (hg := hg) (h0 := fun S p hp hk hl => ?_) ..; have k1 := hk 1 _ rfl) | (refine Exists.intro _ (And.intro k1 (And.intro rfl (And.intro (Nat.le_of_ble_eq_true rfl) ?_)))) | (refine d_planOfF (h1 := sli_up g1) (h2 := sli_up g2) (hx := hx') (hy := hy') (hg := hg') (h0 := ?_) ..) | (refine Exists.intro _ (And.intro rfl (And.intro rfl (And.intro (Nat.le_of_ble_eq_true rfl) ?_)))) | (refine Exists.intro _ (And.intro rfl (And.intro rfl (And.intro rfl (And.intro (Nat.le_of_ble_eq_true rfl) ?_))))) | (refine And.intro (Exists.intro _ (And.intro rfl rfl)) ?_) | (exact fun hW => absurd hW (by decide +kernel)) | (intro hW; (try simp only [Bool.not_true, Bool.not_false, Bool.not_eq_true', Bool.not_eq_false', decide_eq_true_eq, decide_eq_false_iff_not, reduceCtorEq, Bool.true_eq_false, Bool.false_eq_true, mk_size, List.size_toArray, ByteArray.size_append, ByteArray.size_extract, List.length_cons, List.length_nil, ba_get, ba_empty, Int.toNat_natCast] at hW)) | (refine And.intro (?_ : _ → _) (?_ : _ → _)) | (refine FinR.drop 0 (Nat.zero_le _) (Closed.zero _) rfl ?_) | (refine FinR.keep ?_) | (refine And.intro (det3_agg rfl) ?_) | (refine fL_mk ?_) | (refine And.intro (by (try simp only [mk_size, List.size_toArray, ByteArray.size_append, ByteArray.size_extract, List.length_cons, List.length_nil]); omega) ?_) | (refine And.intro (by (try simp only [mk_size, List.size_toArray, ByteArray.size_append, ByteArray.size_extract, List.length_cons, List.length_nil, wrap64_eq]); omega) ?_) | fail)
      all_goals first | exact h0 | (exfalso; omega) | (exfalso; simp_all; done)
    | true =>
      obtain ⟨_, hx4', hy40', hxa', hya'⟩ := planB_iff.1 hg'
      have hfo' := fsOf_ok hx' hy' hxa' hya'
      have hfl' := fsOf_len xs' ys'
      rw [hg, hg'] at h0
      have h0 : K (.tup [Bo (decide (((runN (fsOf xs ys) 0 : Nat) : Int) = (runN (fsOf xs' ys') 0 : Nat)) && (decide (((runN (fsOf xs ys) fullN : Nat) : Int) = (runN (fsOf xs' ys') fullN : Nat)) && true)), Bo true]) [] := h0
      repeat' ((conv => whnf); first | (refine Exists.intro ([] : List Nat) ?_) | (refine And.intro rfl ?_) | (refine And.intro (by decide +kernel) ?_) | (refine And.intro trivial ?_) | (have kz := hp2; refine d_effects (hp := hp2.add.add.add) (hf := hfo') (hl := by omega) (h0 := fun A B C => ?_) ..) | (refine d_effects (hp := hp.add) (hf := hfo) (hl := by omega) (h0 := fun A B C => ?_) ..) | (refine d_planOfS (h1 := sli_up h1) (h2 := sli_up h2) (hx := hx) (hy := hy) (hg := hg) (h0 := fun S p hp hk hl => ?_) ..; have k1 := hk 1 _ rfl) | (refine Exists.intro _ (And.intro k1 (And.intro rfl (And.intro (Nat.le_of_ble_eq_true rfl) ?_)))) | (refine d_planOf (h1 := sli_up g1) (h2 := sli_up g2) (hx := hx') (hy := hy') (h0 := fun _ τ2 hp2 => ?_) (h00 := fun h => by rw [hg'] at h; cases h) ..) | (refine Exists.intro _ (And.intro rfl (And.intro rfl (And.intro (Nat.le_of_ble_eq_true rfl) ?_)))) | (refine Exists.intro _ (And.intro rfl (And.intro rfl (And.intro rfl (And.intro (Nat.le_of_ble_eq_true rfl) ?_))))) | (refine And.intro (Exists.intro _ (And.intro rfl rfl)) ?_) | (exact fun hW => absurd hW (by decide +kernel)) | (intro hW; (try simp only [Bool.not_true, Bool.not_false, Bool.not_eq_true', Bool.not_eq_false', decide_eq_true_eq, decide_eq_false_iff_not, reduceCtorEq, Bool.true_eq_false, Bool.false_eq_true, mk_size, List.size_toArray, ByteArray.size_append, ByteArray.size_extract, List.length_cons, List.length_nil, ba_get, ba_empty, Int.toNat_natCast] at hW)) | (refine And.intro (?_ : _ → _) (?_ : _ → _)) | (refine FinR.drop 0 (Nat.zero_le _) (Closed.zero _) rfl ?_) | (refine FinR.keep ?_) | (refine And.intro (det3_agg rfl) ?_) | (refine fL_mk ?_) | (refine And.intro (by (try simp only [mk_size, List.size_toArray, ByteArray.size_append, ByteArray.size_extract, List.length_cons, List.length_nil]); omega) ?_) | (refine And.intro (by (try simp only [mk_size, List.size_toArray, ByteArray.size_append, ByteArray.size_extract, List.length_cons, List.length_nil, wrap64_eq]); omega) ?_) | fail)
      all_goals first | exact h0 | (exfalso; omega) | skip
end Go.Proofs.Ytkcbhdjhbnnlgaa
end
