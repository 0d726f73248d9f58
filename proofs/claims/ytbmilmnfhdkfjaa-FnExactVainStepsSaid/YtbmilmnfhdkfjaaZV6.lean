import Derived.Test.YtbmilmnfhdkfjaaZV5
section
/- Contracts: vain steps, by both sides. -/
set_option linter.unusedVariables false
set_option linter.unusedSimpArgs false
set_option maxRecDepth 100000
set_option maxHeartbeats 4000000
namespace Go.Proofs.Ytbmilmnfhdkfjaa
open Go Go.RowKit Go.Proofs.Ytbmilmnfhdkfjaa.Abs
variable {W0 : World} {σ : List Blk}
theorem d_l11Vain (s1 s2 : AV) (xs ys : List (List Int)) (h1 : Sli W0 σ 6 enI s1 xs) (h2 : Sli W0 σ 4 enI s2 ys) (hx : ∀ x ∈ xs, x.length = 6) (hy : ∀ x ∈ ys, x.length = 4) (hxa : xs.all shRow = true) (hya : ys.all (stOk xs.length) = true) (hl2 : ys.length ≤ 1048576) (n : Nat) (hn : n < 2 ^ 36) (K : Cont)
    (h0 : ∀ b cap τ, (σ ++ τ)[b]? = some (outB (vainL xs ys n)) → σ.length ≤ b → K (.sl b (vainL xs ys n).length 0 (vainL xs ys n).length cap) (σ ++ τ)) : ACall Try.prog W0 77 [PlA (rowN n 0 : Nat) (rowN n 1 : Nat) (rowN n 2 : Nat) (rowN n 3 : Nat) (rowN n 4 : Nat) (rowN n 5 : Nat) s1 s2] σ K :=
  lift_Pl (rest := []) (ι := NewL (vainL xs ys n)) (fun x => .sl x.b (vainL xs ys n).length 0 (vainL xs ys n).length x.cap) (fun x => x.τ) (by kernel_rfl) rfl h1 h2
    (fun W1 v1 v2 q1 q2 K hK => c_l11Vain v1 v2 xs ys q1 q2 hx hy hxa hya hl2 n hn K (fun b cap τ h => hK ⟨b, cap, τ, h⟩)) K (fun x => h0 _ _ _ (newL_sh x) (Nat.le_add_right _ _))
theorem c_sVainT (a b c d e f : Int) (v1 v2 : Value) (xs ys : List (List Int)) (h1 : Sli W0 [] 6 enI (.lit v1) xs) (h2 : Sli W0 [] 4 enI (.lit v2) ys) (hx : ∀ x ∈ xs, x.length = 6) (hy : ∀ x ∈ ys, x.length = 4) (hl : xs.length ≤ 1048576) (hl2 : ys.length ≤ 1048576) (hg : planB a b c d e f xs ys = true) (L : List Int) (hL : L = vainL xs ys (stN [a, b, c, d, e, f])) (K : Cont)
    (h0 : ∀ r cap τ, τ[r]? = some (outB L) → K (.tup [.sl r L.length 0 L.length cap, Bo true]) τ) : ACall Try.prog W0 39 [PlA a b c d e f (.lit v1) (.lit v2)] [] K := by
  refine by39 (Nat.le_of_ble_eq_true rfl) ?_
  obtain ⟨hs, hx4, hy40, hxa, hya⟩ := planB_iff.1 hg
  obtain ⟨n, hn, rfl, rfl, rfl, rfl, rfl, rfl, hst⟩ := st_parts hs
  rw [hst] at hL
  subst hL
  repeat' ((conv => whnf); first
    | (refine And.intro rfl ?_)
    | (refine And.intro (by decide +kernel) ?_)
    | (refine And.intro trivial ?_)
    | (refine d_l11Plan (h1 := sli_up h1) (h2 := sli_up h2) (hx := hx) (hy := hy) (hl := hl) (hl2 := hl2) (h0 := ?_) ..; rw [hg])
    | (refine d_l11Vain (h1 := sli_up h1) (h2 := sli_up h2) (hx := hx) (hy := hy) (hxa := hxa) (hya := hya) (hl2 := hl2) (hn := hn) (h0 := fun b cap τ e l => ?_) ..)
    | (refine Exists.intro _ (And.intro rfl (And.intro rfl (And.intro (Nat.le_of_ble_eq_true rfl) ?_))))
    | (refine Exists.intro _ (And.intro rfl (And.intro rfl (And.intro rfl (And.intro (Nat.le_of_ble_eq_true rfl) ?_)))))
    | (refine And.intro (Exists.intro _ (And.intro rfl rfl)) ?_)
    | (exact fun hW => absurd hW (by decide +kernel))
    | (intro hW; (try simp only [Bool.not_true, Bool.not_false, Bool.not_eq_true', Bool.not_eq_false', decide_eq_true_eq, decide_eq_false_iff_not, reduceCtorEq, Bool.true_eq_false, Bool.false_eq_true, mk_size, List.size_toArray, ByteArray.size_append, ByteArray.size_extract, List.length_cons, List.length_nil, ba_get, ba_empty, Int.toNat_natCast] at hW))
    | (refine And.intro (?_ : _ → _) (?_ : _ → _))
    | (refine FinR.drop 0 (Nat.zero_le _) (Closed.zero _) rfl ?_)
    | (refine FinR.keep ?_)
    | (refine And.intro (det3_agg rfl) ?_)
    | (refine fL_mk ?_)
    | (refine And.intro (by (try simp only [mk_size, List.size_toArray, ByteArray.size_append, ByteArray.size_extract, List.length_cons, List.length_nil]); omega) ?_)
    | (refine And.intro (by (try simp only [mk_size, List.size_toArray, ByteArray.size_append, ByteArray.size_extract, List.length_cons, List.length_nil, wrap64_eq]); omega) ?_)
    | fail)
  all_goals first | exact h0 _ _ _ (by assumption) | (exfalso; omega) | (exfalso; simp_all; done)
theorem c_sVainF (a b c d e f : Int) (v1 v2 : Value) (xs ys : List (List Int)) (h1 : Sli W0 [] 6 enI (.lit v1) xs) (h2 : Sli W0 [] 4 enI (.lit v2) ys) (hx : ∀ x ∈ xs, x.length = 6) (hy : ∀ x ∈ ys, x.length = 4) (hl : xs.length ≤ 1048576) (hl2 : ys.length ≤ 1048576) (hg : planB a b c d e f xs ys = false) (K : Cont)
    (h0 : ∀ A, K (.tup [.sl 1 0 0 0 0, Bo false]) [A, outB []]) : ACall Try.prog W0 39 [PlA a b c d e f (.lit v1) (.lit v2)] [] K := by
  refine by39 (Nat.le_of_ble_eq_true rfl) ?_
  repeat' ((conv => whnf); first
    | (refine And.intro rfl ?_)
    | (refine And.intro (by decide +kernel) ?_)
    | (refine And.intro trivial ?_)
    | (refine d_l11Plan (h1 := sli_up h1) (h2 := sli_up h2) (hx := hx) (hy := hy) (hl := hl) (hl2 := hl2) (h0 := ?_) ..; rw [hg])
    | (refine Exists.intro _ (And.intro rfl (And.intro rfl (And.intro (Nat.le_of_ble_eq_true rfl) ?_))))
    | (refine Exists.intro _ (And.intro rfl (And.intro rfl (And.intro rfl (And.intro (Nat.le_of_ble_eq_true rfl) ?_)))))
    | (refine And.intro (Exists.intro _ (And.intro rfl rfl)) ?_)
    | (exact fun hW => absurd hW (by decide +kernel))
    | (intro hW; (try simp only [Bool.not_true, Bool.not_false, Bool.not_eq_true', Bool.not_eq_false', decide_eq_true_eq, decide_eq_false_iff_not, reduceCtorEq, Bool.true_eq_false, Bool.false_eq_true, mk_size, List.size_toArray, ByteArray.size_append, ByteArray.size_extract, List.length_cons, List.length_nil, ba_get, ba_empty, Int.toNat_natCast] at hW))
    | (refine And.intro (?_ : _ → _) (?_ : _ → _))
    | (refine FinR.drop 0 (Nat.zero_le _) (Closed.zero _) rfl ?_)
    | (refine FinR.keep ?_)
    | (refine And.intro (det3_agg rfl) ?_)
    | (refine fL_mk ?_)
    | (refine And.intro (by (try simp only [mk_size, List.size_toArray, ByteArray.size_append, ByteArray.size_extract, List.length_cons, List.length_nil]); omega) ?_)
    | (refine And.intro (by (try simp only [mk_size, List.size_toArray, ByteArray.size_append, ByteArray.size_extract, List.length_cons, List.length_nil, wrap64_eq]); omega) ?_)
    | fail)
  all_goals first | exact h0 _ | (exfalso; omega) | (exfalso; simp_all; done)
theorem c_VainF (a b c d e f : Int) (v1 v2 : Value) (xs ys : List (List Int)) (h1 : Sli W0 [] 6 enI (.lit v1) xs) (h2 : Sli W0 [] 4 enI (.lit v2) ys) (hx : ∀ x ∈ xs, x.length = 6) (hy : ∀ x ∈ ys, x.length = 4) (hg : planB a b c d e f xs ys = false) (K : Cont)
    (h0 : K (.tup [nilA, Bo false]) []) : ACall Try.prog W0 40 [PlA a b c d e f (.lit v1) (.lit v2)] [] K := by
  refine by40 (Nat.le_of_ble_eq_true rfl) ?_
  repeat' ((conv => whnf); first
    | (refine And.intro rfl ?_)
    | (refine And.intro (by decide +kernel) ?_)
    | (refine And.intro trivial ?_)
    | (refine d_planOf (h1 := sli_up h1) (h2 := sli_up h2) (hx := hx) (hy := hy) (h0 := fun h τ hp => by rw [hg] at h; cases h) (h00 := fun _ => ?_) ..)
    | (refine Exists.intro _ (And.intro rfl (And.intro rfl (And.intro (Nat.le_of_ble_eq_true rfl) ?_))))
    | (refine Exists.intro _ (And.intro rfl (And.intro rfl (And.intro rfl (And.intro (Nat.le_of_ble_eq_true rfl) ?_)))))
    | (refine And.intro (Exists.intro _ (And.intro rfl rfl)) ?_)
    | (exact fun hW => absurd hW (by decide +kernel))
    | (intro hW; (try simp only [Bool.not_true, Bool.not_false, Bool.not_eq_true', Bool.not_eq_false', decide_eq_true_eq, decide_eq_false_iff_not, reduceCtorEq, Bool.true_eq_false, Bool.false_eq_true, mk_size, List.size_toArray, ByteArray.size_append, ByteArray.size_extract, List.length_cons, List.length_nil, ba_get, ba_empty, Int.toNat_natCast] at hW))
    | (refine And.intro (?_ : _ → _) (?_ : _ → _))
    | (refine FinR.drop 0 (Nat.zero_le _) (Closed.zero _) rfl ?_)
    | (refine FinR.keep ?_)
    | (refine And.intro (det3_agg rfl) ?_)
    | (refine fL_mk ?_)
    | (refine And.intro (by (try simp only [mk_size, List.size_toArray, ByteArray.size_append, ByteArray.size_extract, List.length_cons, List.length_nil]); omega) ?_)
    | (refine And.intro (by (try simp only [mk_size, List.size_toArray, ByteArray.size_append, ByteArray.size_extract, List.length_cons, List.length_nil, wrap64_eq]); omega) ?_)
    | fail)
  all_goals first | exact h0 | (exfalso; omega) | (exfalso; simp_all; done)
theorem c_VainT (a b c d e f : Int) (v1 v2 : Value) (xs ys : List (List Int)) (h1 : Sli W0 [] 6 enI (.lit v1) xs) (h2 : Sli W0 [] 4 enI (.lit v2) ys) (hx : ∀ x ∈ xs, x.length = 6) (hy : ∀ x ∈ ys, x.length = 4) (hg : planB a b c d e f xs ys = true) (L : List Int) (hL : L = vainL xs ys (stN [a, b, c, d, e, f])) (K : Cont)
    (h0 : ∀ r cap τ, τ[r]? = some (outB L) → K (.tup [.sl r L.length 0 L.length cap, Bo true]) τ) : ACall Try.prog W0 40 [PlA a b c d e f (.lit v1) (.lit v2)] [] K := by
  refine by40 (Nat.le_of_ble_eq_true rfl) ?_
  obtain ⟨o2, n2, cap2, hv2, hn2, hc2, hm2, hf2⟩ := sli_form h2
  cases hv2
  subst hn2
  obtain ⟨hs, hx4, hy40, hxa, hya⟩ := planB_iff.1 hg
  have hfo := fsOf_ok hx hy hxa hya
  have hfl := fsOf_len xs ys
  obtain ⟨n, hn, rfl, rfl, rfl, rfl, rfl, rfl, hst⟩ := st_parts hs
  rw [hst] at hL
  subst hL
  have hver : (ruB (runL (fsOf xs ys) n)).ver = (fsOf xs ys).length := by show (runL (fsOf xs ys) n).length - 1 = _; rw [runL_len]; rfl
  repeat' ((conv => whnf); first
    | (refine And.intro rfl ?_)
    | (refine And.intro (by decide +kernel) ?_)
    | (refine And.intro trivial ?_)
    | (refine d_planOf (h1 := sli_up h1) (h2 := sli_up h2) (hx := hx) (hy := hy) (h0 := fun h τ hp => ?_) (h00 := fun h => by rw [hg] at h; cases h) ..; rw [hst] at hp; obtain ⟨sq, hq1, hq2⟩ := hp.ex)
    | (refine And.intro ⟨_, hq1, rfl⟩ ?_)
    | (refine Exists.intro _ (And.intro hq1 (And.intro rfl (And.intro (Nat.le_of_ble_eq_true rfl) ?_))))
    | (refine d_run (hp := hp) (hf := hfo) (hl := by omega) (hx := hn) (h0 := fun cap => ?_) ..)
    | (refine fS_mk ?_)
    | (refine Exists.intro _ (And.intro rfl (And.intro rfl (And.intro (Nat.le_of_ble_eq_true rfl) ?_))))
    | (refine Exists.intro _ (And.intro rfl (And.intro rfl (And.intro rfl (And.intro (Nat.le_of_ble_eq_true rfl) ?_)))))
    | (refine And.intro (Exists.intro _ (And.intro rfl rfl)) ?_)
    | (exact fun hW => absurd hW (by decide +kernel))
    | (intro hW; (try simp only [Bool.not_true, Bool.not_false, Bool.not_eq_true', Bool.not_eq_false', decide_eq_true_eq, decide_eq_false_iff_not, reduceCtorEq, Bool.true_eq_false, Bool.false_eq_true, mk_size, List.size_toArray, ByteArray.size_append, ByteArray.size_extract, List.length_cons, List.length_nil, ba_get, ba_empty, Int.toNat_natCast] at hW))
    | (refine And.intro (?_ : _ → _) (?_ : _ → _))
    | (refine FinR.drop 0 (Nat.zero_le _) (Closed.zero _) rfl ?_)
    | (refine FinR.keep ?_)
    | (refine And.intro (det3_agg rfl) ?_)
    | (refine fL_mk ?_)
    | (refine And.intro (by (try simp only [mk_size, List.size_toArray, ByteArray.size_append, ByteArray.size_extract, List.length_cons, List.length_nil]); omega) ?_)
    | (refine And.intro (by (try simp only [mk_size, List.size_toArray, ByteArray.size_append, ByteArray.size_extract, List.length_cons, List.length_nil, wrap64_eq]); omega) ?_)
    | fail)
  all_goals first | (exfalso; omega) | (exfalso; simp_all; done) | skip
  obtain ⟨S, hS⟩ : ∃ S : List Blk, S = [plBx (rowN n 0 : Nat) (rowN n 1 : Nat) (rowN n 2 : Nat) (rowN n 3 : Nat) (rowN n 4 : Nat) (rowN n 5 : Nat) (.lit v1) (.lit (.slice o2 ys.length cap2)) 35] ++ τ := ⟨_, rfl⟩
  refine LoopR.live (fun y : Nat × Nat => [(6, .sl S.length (fsOf xs ys).length 0 ((fsOf xs ys).length + 1) cap), (7, .sl (S ++ [ruB (runL (fsOf xs ys) n)]).length (selN (vainQ (fsOf xs ys) n) y.1).length 0 (selN (vainQ (fsOf xs ys) n) y.1).length y.2), (25, I ys.length), (26, I y.1)]) (fun y => S ++ [ruB (runL (fsOf xs ys) n)] ++ [outB (selN (vainQ (fsOf xs ys) n) y.1)]) (fun y => y.1 ≤ ys.length) (fun y => ys.length - y.1) (0, 0) ⟨by rw [hS]; rfl, by rw [hS]; rfl, rfl, rfl, trivial⟩ (.keep (by rw [hS]; rfl)) (Nat.zero_le _) ?_
  rintro ⟨i, cp⟩ hi
  dsimp only at hi
  have hsl := selN_len (vainQ (fsOf xs ys) n) i
  by_cases hlt : i < ys.length
  · have hq := selN_succ (vainQ (fsOf xs ys) n) i
    have hw1 : IntKind.i64.wrap ((i : Int) + 1) = ((i + 1 : Nat) : Int) := wsucc' i (by omega)
    have hle : ∀ off, off ≤ ys.length → off + 1 ≤ (ruB (runL (fsOf xs ys) n)).cells.length := fun off ho => by show _ ≤ (List.map _ _).length; rw [List.length_map, runL_len]; omega
    have hg0 : ∀ off, off = i → mkAV false (((ruB (runL (fsOf xs ys) n)).cells.drop off).take 1) = U (runN ((fsOf xs ys).take i) n : Nat) := fun off ho => stB_get (runL_get _ _ (by omega)) ho
    have hg1 : ∀ off, off = i + 1 → mkAV false (((ruB (runL (fsOf xs ys) n)).cells.drop off).take 1) = U (runN ((fsOf xs ys).take (i + 1)) n : Nat) := fun off ho => stB_get (runL_get _ _ (by omega)) ho
    have hml : ∀ l : List Int, l.length * 1 = (l.map I).length := fun l => by rw [List.length_map, Nat.mul_one]
    by_cases hv : runN ((fsOf xs ys).take (i + 1)) n = runN ((fsOf xs ys).take i) n
    · have hqd : vainQ (fsOf xs ys) n i = true := decide_eq_true hv
      rw [hqd, if_pos rfl] at hq
      have hla : (selN (vainQ (fsOf xs ys) n) i ++ [(i : Int)]).length = (selN (vainQ (fsOf xs ys) n) i).length + 1 := List.length_append
      repeat' ((conv => whnf); first
        | (refine Exists.intro _ (And.intro (getx1 getl) (And.intro hver (And.intro (hle _ (by rw [Int.toNat_natCast]; omega)) ?_))); rw [hg0 _ (by rw [Int.toNat_natCast]; omega)])
        | (refine Exists.intro _ (And.intro (getx1 getl) (And.intro hver (And.intro (hle _ (by rw [hw1, Int.toNat_natCast]; omega)) ?_))); rw [hg1 _ (by rw [hw1, Int.toNat_natCast]; omega)])
        | (refine Exists.intro _ (And.intro getl (And.intro rfl (And.intro rfl (And.intro rfl (And.intro rfl (And.intro rfl (And.intro (by decide) (And.intro (hml _) (And.intro rfl (And.intro (by dsimp only; unfold maxLen; omega) (And.intro (by dsimp only; omega) (fun cap' hcap1 hcap2 => ?_)))))))))))); rw [set_last])
        | (refine And.intro rfl ?_)
        | (refine And.intro (by decide +kernel) ?_)
        | (refine And.intro trivial ?_)
        | (refine fS_mk ?_)
        | (refine And.intro ⟨_, getx1 getl, hver⟩ ?_)
        | (refine Exists.intro _ (And.intro rfl (And.intro rfl (And.intro (Nat.le_of_ble_eq_true rfl) ?_))))
        | (refine Exists.intro _ (And.intro rfl (And.intro rfl (And.intro rfl (And.intro (Nat.le_of_ble_eq_true rfl) ?_)))))
        | (refine And.intro (Exists.intro _ (And.intro rfl rfl)) ?_)
        | (exact fun hW => absurd hW (by decide +kernel))
        | (intro hW; (try simp only [Bool.not_true, Bool.not_false, Bool.not_eq_true', Bool.not_eq_false', decide_eq_true_eq, decide_eq_false_iff_not, reduceCtorEq, Bool.true_eq_false, Bool.false_eq_true, mk_size, List.size_toArray, ByteArray.size_append, ByteArray.size_extract, List.length_cons, List.length_nil, ba_get, ba_empty, Int.toNat_natCast] at hW))
        | (refine And.intro (?_ : _ → _) (?_ : _ → _))
        | (refine FinR.drop 0 (Nat.zero_le _) (Closed.zero _) rfl ?_)
        | (refine FinR.keep ?_)
        | (refine And.intro (det3_agg rfl) ?_)
        | (refine fL_mk ?_)
        | (refine And.intro (by (try simp only [mk_size, List.size_toArray, ByteArray.size_append, ByteArray.size_extract, List.length_cons, List.length_nil]); omega) ?_)
        | (refine And.intro (by (try simp only [mk_size, List.size_toArray, ByteArray.size_append, ByteArray.size_extract, List.length_cons, List.length_nil, wrap64_eq]); omega) ?_)
        | fail)
      all_goals first | (exfalso; omega) | (exfalso; simp_all; done) | skip
      refine Again.go (i + 1, _) ⟨rfl, (by show AV.sl _ _ _ _ _ = AV.sl _ _ _ _ _; rw [hq, hla]), rfl, slI' (wsucc' i (by omega)), trivial⟩ (.keep ?_) (by dsimp only; omega) (by dsimp only; omega)
      dsimp only [outB]
      rw [hq, hla, List.map_append]; rfl
    · have hqd : vainQ (fsOf xs ys) n i = false := decide_eq_false hv
      rw [hqd, if_neg (by decide), List.append_nil] at hq
      repeat' ((conv => whnf); first
        | (refine Exists.intro _ (And.intro (getx1 getl) (And.intro hver (And.intro (hle _ (by rw [Int.toNat_natCast]; omega)) ?_))); rw [hg0 _ (by rw [Int.toNat_natCast]; omega)])
        | (refine Exists.intro _ (And.intro (getx1 getl) (And.intro hver (And.intro (hle _ (by rw [hw1, Int.toNat_natCast]; omega)) ?_))); rw [hg1 _ (by rw [hw1, Int.toNat_natCast]; omega)])
        | (refine Exists.intro _ (And.intro getl (And.intro rfl (And.intro rfl (And.intro rfl (And.intro rfl (And.intro rfl (And.intro (by decide) (And.intro (hml _) (And.intro rfl (And.intro (by dsimp only; unfold maxLen; omega) (And.intro (by dsimp only; omega) (fun cap' hcap1 hcap2 => ?_)))))))))))); rw [set_last])
        | (refine And.intro rfl ?_)
        | (refine And.intro (by decide +kernel) ?_)
        | (refine And.intro trivial ?_)
        | (refine fS_mk ?_)
        | (refine And.intro ⟨_, getx1 getl, hver⟩ ?_)
        | (refine Exists.intro _ (And.intro rfl (And.intro rfl (And.intro (Nat.le_of_ble_eq_true rfl) ?_))))
        | (refine Exists.intro _ (And.intro rfl (And.intro rfl (And.intro rfl (And.intro (Nat.le_of_ble_eq_true rfl) ?_)))))
        | (refine And.intro (Exists.intro _ (And.intro rfl rfl)) ?_)
        | (exact fun hW => absurd hW (by decide +kernel))
        | (intro hW; (try simp only [Bool.not_true, Bool.not_false, Bool.not_eq_true', Bool.not_eq_false', decide_eq_true_eq, decide_eq_false_iff_not, reduceCtorEq, Bool.true_eq_false, Bool.false_eq_true, mk_size, List.size_toArray, ByteArray.size_append, ByteArray.size_extract, List.length_cons, List.length_nil, ba_get, ba_empty, Int.toNat_natCast] at hW))
        | (refine And.intro (?_ : _ → _) (?_ : _ → _))
        | (refine FinR.drop 0 (Nat.zero_le _) (Closed.zero _) rfl ?_)
        | (refine FinR.keep ?_)
        | (refine And.intro (det3_agg rfl) ?_)
        | (refine fL_mk ?_)
        | (refine And.intro (by (try simp only [mk_size, List.size_toArray, ByteArray.size_append, ByteArray.size_extract, List.length_cons, List.length_nil]); omega) ?_)
        | (refine And.intro (by (try simp only [mk_size, List.size_toArray, ByteArray.size_append, ByteArray.size_extract, List.length_cons, List.length_nil, wrap64_eq]); omega) ?_)
        | fail)
      all_goals first | (exfalso; omega) | (exfalso; simp_all; done) | skip
      refine Again.go (i + 1, cp) ⟨rfl, (by show AV.sl _ _ _ _ _ = AV.sl _ _ _ _ _; rw [hq]), rfl, slI' (wsucc' i (by omega)), trivial⟩ (.keep ?_) (by dsimp only; omega) (by dsimp only; omega)
      dsimp only [outB]
      rw [hq]
  · obtain rfl : i = ys.length := by omega
    have h0 := fun τ => h0 (S ++ [ruB (runL (fsOf xs ys) n)]).length cp τ
    repeat' ((conv => whnf); first
      | (refine FinR.keep ?_)
      | (refine And.intro rfl ?_)
      | (refine And.intro (by decide +kernel) ?_)
      | (refine And.intro trivial ?_)
      | (refine Exists.intro _ (And.intro rfl (And.intro rfl (And.intro (Nat.le_of_ble_eq_true rfl) ?_))))
      | (refine Exists.intro _ (And.intro rfl (And.intro rfl (And.intro rfl (And.intro (Nat.le_of_ble_eq_true rfl) ?_)))))
      | (refine And.intro (Exists.intro _ (And.intro rfl rfl)) ?_)
      | (exact fun hW => absurd hW (by decide +kernel))
      | (intro hW; (try simp only [Bool.not_true, Bool.not_false, Bool.not_eq_true', Bool.not_eq_false', decide_eq_true_eq, decide_eq_false_iff_not, reduceCtorEq, Bool.true_eq_false, Bool.false_eq_true, mk_size, List.size_toArray, ByteArray.size_append, ByteArray.size_extract, List.length_cons, List.length_nil, ba_get, ba_empty, Int.toNat_natCast] at hW))
      | (refine And.intro (?_ : _ → _) (?_ : _ → _))
      | (refine FinR.drop 0 (Nat.zero_le _) (Closed.zero _) rfl ?_)
      | (refine FinR.keep ?_)
      | (refine And.intro (det3_agg rfl) ?_)
      | (refine fL_mk ?_)
      | (refine And.intro (by (try simp only [mk_size, List.size_toArray, ByteArray.size_append, ByteArray.size_extract, List.length_cons, List.length_nil]); omega) ?_)
      | (refine And.intro (by (try simp only [mk_size, List.size_toArray, ByteArray.size_append, ByteArray.size_extract, List.length_cons, List.length_nil, wrap64_eq]); omega) ?_)
      | fail)
    all_goals first | (exfalso; omega) | exact h0 _ getl
theorem d_sVainT (a b c d e f : Int) (s1 s2 : AV) (xs ys : List (List Int)) (h1 : Sli W0 σ 6 enI s1 xs) (h2 : Sli W0 σ 4 enI s2 ys) (hx : ∀ x ∈ xs, x.length = 6) (hy : ∀ x ∈ ys, x.length = 4) (hl : xs.length ≤ 1048576) (hl2 : ys.length ≤ 1048576) (hg : planB a b c d e f xs ys = true) (L : List Int) (hL : L = vainL xs ys (stN [a, b, c, d, e, f])) (K : Cont)
    (h0 : ∀ b cap τ, (σ ++ τ)[b]? = some (outB L) → σ.length ≤ b → K (.tup [.sl b L.length 0 L.length cap, Bo true]) (σ ++ τ)) : ACall Try.prog W0 39 [PlA a b c d e f s1 s2] σ K :=
  lift_Pl (rest := []) (ι := NewL L) (fun x => .tup [.sl x.b L.length 0 L.length x.cap, Bo true]) (fun x => x.τ) (by kernel_rfl) rfl h1 h2
    (fun W1 v1 v2 q1 q2 K hK => c_sVainT a b c d e f v1 v2 xs ys q1 q2 hx hy hl hl2 hg L hL K (fun b cap τ h => hK ⟨b, cap, τ, h⟩)) K (fun x => h0 _ _ _ (newL_sh x) (Nat.le_add_right _ _))
theorem d_VainT (a b c d e f : Int) (s1 s2 : AV) (xs ys : List (List Int)) (h1 : Sli W0 σ 6 enI s1 xs) (h2 : Sli W0 σ 4 enI s2 ys) (hx : ∀ x ∈ xs, x.length = 6) (hy : ∀ x ∈ ys, x.length = 4) (hg : planB a b c d e f xs ys = true) (L : List Int) (hL : L = vainL xs ys (stN [a, b, c, d, e, f])) (K : Cont)
    (h0 : ∀ b cap τ, (σ ++ τ)[b]? = some (outB L) → σ.length ≤ b → K (.tup [.sl b L.length 0 L.length cap, Bo true]) (σ ++ τ)) : ACall Try.prog W0 40 [PlA a b c d e f s1 s2] σ K :=
  lift_Pl (rest := []) (ι := NewL L) (fun x => .tup [.sl x.b L.length 0 L.length x.cap, Bo true]) (fun x => x.τ) (by kernel_rfl) rfl h1 h2
    (fun W1 v1 v2 q1 q2 K hK => c_VainT a b c d e f v1 v2 xs ys q1 q2 hx hy hg L hL K (fun b cap τ h => hK ⟨b, cap, τ, h⟩)) K (fun x => h0 _ _ _ (newL_sh x) (Nat.le_add_right _ _))
theorem d_sVainF (a b c d e f : Int) (s1 s2 : AV) (xs ys : List (List Int)) (h1 : Sli W0 σ 6 enI s1 xs) (h2 : Sli W0 σ 4 enI s2 ys) (hx : ∀ x ∈ xs, x.length = 6) (hy : ∀ x ∈ ys, x.length = 4) (hl : xs.length ≤ 1048576) (hl2 : ys.length ≤ 1048576) (hg : planB a b c d e f xs ys = false) (K : Cont)
    (h0 : ∀ A, K (.tup [.sl (σ.length + 1) 0 0 0 0, Bo false]) (σ ++ [A, outB []])) : ACall Try.prog W0 39 [PlA a b c d e f s1 s2] σ K :=
  lift_Pl (rest := []) (ι := Blk) (fun _ => .tup [.sl 1 0 0 0 0, Bo false]) (fun A => [A, outB []]) (by kernel_rfl) rfl h1 h2
    (fun W1 v1 v2 q1 q2 K hK => c_sVainF a b c d e f v1 v2 xs ys q1 q2 hx hy hl hl2 hg K hK) K (fun A => h0 _)
theorem d_VainF (a b c d e f : Int) (s1 s2 : AV) (xs ys : List (List Int)) (h1 : Sli W0 σ 6 enI s1 xs) (h2 : Sli W0 σ 4 enI s2 ys) (hx : ∀ x ∈ xs, x.length = 6) (hy : ∀ x ∈ ys, x.length = 4) (hg : planB a b c d e f xs ys = false) (K : Cont)
    (h0 : K (.tup [nilA, Bo false]) σ) : ACall Try.prog W0 40 [PlA a b c d e f s1 s2] σ K :=
  lift_Pl (rest := []) (ι := Unit) (fun _ => .tup [nilA, Bo false]) (fun _ => []) (by kernel_rfl) rfl h1 h2
    (fun W1 v1 v2 q1 q2 K hK => c_VainF a b c d e f v1 v2 xs ys q1 q2 hx hy hg K (hK ())) K (fun _ => by
      rw [show shB σ.length [] = [] from rfl, List.append_nil]; exact h0)
end Go.Proofs.Ytbmilmnfhdkfjaa
end

section
/- Contracts: the law of vain steps. -/
set_option linter.unusedVariables false
set_option linter.unusedSimpArgs false
set_option maxRecDepth 100000
set_option maxHeartbeats 4000000
namespace Go.Proofs.Ytbmilmnfhdkfjaa
open Go Go.RowKit Go.Proofs.Ytbmilmnfhdkfjaa.Abs
variable {W0 : World} {σ : List Blk}
theorem shSB_len {xs : List (List Int)} (hx : ∀ x ∈ xs, x.length = 6) : xs.length * 6 ≤ (shSB xs).cells.length := by rw [jc_len (s := 6) hx]; exact Nat.le_refl _
theorem stSB_len {xs : List (List Int)} (hx : ∀ x ∈ xs, x.length = 4) : xs.length * 4 ≤ (stSB xs).cells.length := by rw [jc_len (s := 4) hx]; exact Nat.le_refl _
theorem c_law_VainF (a b c d e f : Int) (v1 v2 : Value) (xs ys : List (List Int)) (h1 : Sli W0 [] 6 enI (.lit v1) xs) (h2 : Sli W0 [] 4 enI (.lit v2) ys) (hx : ∀ x ∈ xs, x.length = 6) (hy : ∀ x ∈ ys, x.length = 4) (hl : xs.length ≤ 1048576) (hl2 : ys.length ≤ 1048576) (hz : ¬ ((1048576 : Int) - xs.length - ys.length < 0)) (hg : planB a b c d e f xs ys = false) (K : Cont) (h0 : K (Bo true) []) : ACall Try.prog W0 11 [PlA a b c d e f (.lit v1) (.lit v2)] [] K := by
  have hm' : xs.length ≤ 9223372036854775807 := by omega
  have hm2' : ys.length ≤ 9223372036854775807 := by omega
  have h6 := shSB_len hx
  have h4 := stSB_len hy
  refine by11 (Nat.le_of_ble_eq_true rfl) ?_
  repeat' ((conv => whnf); first
    | (refine And.intro rfl ?_)
    | (refine And.intro (by decide +kernel) ?_)
    | (refine And.intro trivial ?_)
    | (refine d_szPlan (h1 := sli_up h1) (h2 := sli_up h2) (hl := hm') (hl2 := hm2') (hm := by decide) (h0 := fun h => ?_) (h00 := fun h => absurd h hz) ..)
    | (refine d_toPlan (h1 := sli_up h1) (h2 := sli_up h2) (hx := hx) (hy := hy) (hl := hl) (hl2 := hl2) (h0 := fun A B C => ?_) ..)
    | (refine d_sVainF (h1 := sli_rows hx rfl) (h2 := sli_rows hy rfl) (hx := hx) (hy := hy) (hl := hl) (hl2 := hl2) (hg := hg) (h0 := fun A => ?_) ..)
    | (refine d_VainF (h1 := sli_rows hx rfl) (h2 := sli_rows hy rfl) (hx := hx) (hy := hy) (hg := hg) (h0 := ?_) ..)
    | (refine d_eqIntS (xs := []) (ha := .nil) (hb' := sli_ints rfl) (hl := by decide) (h0 := ?_) ..)
    | (refine Exists.intro _ (And.intro (callW_fn (d_eqPlan (h1 := sli_rows hx rfl) (h2 := sli_rows hy rfl) (g1 := sli_rows hx rfl) (g2 := sli_rows hy rfl) (hx := hx) (hy := hy) (hl := hl) (hl2 := hl2) (h0 := And.intro rfl rfl) ..)) ?_))
    | (refine d_markPlan (B1 := shSB xs) (B2 := stSB ys) (hB1 := rfl) (hB2 := rfl) (hv1 := rfl) (hv2 := rfl) (hne := by simp) (hn1 := h6) (hn2 := h4) (hm1 := hl) (hm2 := hl2) (hk := by omega) (h0 := fun A => ?_) ..)
    | (refine d_markIntS0 (h0 := ?_) ..)
    | (refine d_heldIntS (n := 0) (ha := .nil) (hn2 := by omega) (hk := by omega) (h0 := ?_) ..)
    | (refine Exists.intro _ (And.intro rfl (And.intro rfl (And.intro (Nat.le_of_ble_eq_true rfl) ?_))))
    | (refine Exists.intro _ (And.intro rfl (And.intro rfl (And.intro rfl (And.intro (Nat.le_of_ble_eq_true rfl) ?_)))))
    | (refine And.intro (Exists.intro _ (And.intro rfl rfl)) ?_)
    | (exact fun hW => absurd hW (by decide +kernel))
    | (intro hW; (try simp only [Bool.not_true, Bool.not_false, Bool.not_eq_true', Bool.not_eq_false', decide_eq_true_eq, decide_eq_false_iff_not, reduceCtorEq, Bool.true_eq_false, Bool.false_eq_true, mk_size, List.size_toArray, ByteArray.size_append, ByteArray.size_extract, List.length_cons, List.length_nil, ba_get, ba_empty, Int.toNat_natCast] at hW))
    | (refine And.intro (?_ : _ → _) (?_ : _ → _))
    | (refine FinR.drop 0 (Nat.zero_le _) (Closed.zero _) rfl ?_)
    | (refine FinR.keep ?_)
    | (refine And.intro (det3_agg rfl) ?_)
    | (refine fL_mk ?_)
    | (refine And.intro (by (try simp only [mk_size, List.size_toArray, ByteArray.size_append, ByteArray.size_extract, List.length_cons, List.length_nil]); omega) ?_)
    | (refine And.intro (by (try simp only [mk_size, List.size_toArray, ByteArray.size_append, ByteArray.size_extract, List.length_cons, List.length_nil, wrap64_eq]); omega) ?_)
    | fail)
  all_goals first | exact h0 | (exfalso; omega) | (exfalso; simp_all; done) | skip
theorem varC_app {F : List Nat} {R : Prop} {τ : List Blk} : ∀ {σ : List Blk} {k : Nat}, R → varC F σ R k (σ ++ τ)
  | [], _, h => h
  | B :: σ, k, h => by
    show (match memB k F with
      | true => B.ver = B.ver ∧ B.esz = B.esz ∧ B.row = B.row ∧ varC F σ R (k + 1) (σ ++ τ)
      | false => B = B ∧ varC F σ R (k + 1) (σ ++ τ) : Prop)
    cases memB k F with
    | true => exact ⟨rfl, rfl, rfl, varC_app h⟩
    | false => exact ⟨rfl, varC_app h⟩
theorem g5a {σ : List Blk} {A B C X Y : Blk} : (σ ++ [A, B, C, X, Y])[σ.length + 3]? = some X := by rw [List.getElem?_append_right (by omega), Nat.add_sub_cancel_left]; rfl
theorem g5b {σ : List Blk} {A B C X Y : Blk} : (σ ++ [A, B, C, X, Y])[σ.length + 4]? = some Y := by rw [List.getElem?_append_right (by omega), Nat.add_sub_cancel_left]; rfl
theorem d_sVainT1 (a b c d e f : Int) (s1 s2 : AV) (xs ys : List (List Int)) (lb : Blk) (hlb : σ[0]? = some lb) (h1 : Sli W0 σ 6 enI s1 xs) (h2 : Sli W0 σ 4 enI s2 ys) (hx : ∀ x ∈ xs, x.length = 6) (hy : ∀ x ∈ ys, x.length = 4) (hl : xs.length ≤ 1048576) (hl2 : ys.length ≤ 1048576) (hg : planB a b c d e f xs ys = true) (L : List Int) (hL : L = vainL xs ys (stN [a, b, c, d, e, f])) (K : Cont)
    (h0 : ∀ b cap S, S[b]? = some (outB L) → S[0]? = some lb → 1 ≤ b → K (.tup [.sl b L.length 0 L.length cap, Bo true]) S) : ACall Try.prog W0 39 [PlA a b c d e f s1 s2] σ K :=
  d_sVainT a b c d e f s1 s2 xs ys h1 h2 hx hy hl hl2 hg L hL K (fun b cap τ e l => h0 b cap _ e (getx1 hlb) (Nat.le_trans (getElem?_lt hlb) l))
theorem c_law_VainT (a b c d e f : Int) (v1 v2 : Value) (xs ys : List (List Int)) (h1 : Sli W0 [] 6 enI (.lit v1) xs) (h2 : Sli W0 [] 4 enI (.lit v2) ys) (hx : ∀ x ∈ xs, x.length = 6) (hy : ∀ x ∈ ys, x.length = 4) (hl : xs.length ≤ 1048576) (hl2 : ys.length ≤ 1048576) (hz : ¬ ((1048576 : Int) - xs.length - ys.length < 0)) (hg : planB a b c d e f xs ys = true) (K : Cont) (h0 : K (Bo true) []) : ACall Try.prog W0 11 [PlA a b c d e f (.lit v1) (.lit v2)] [] K := by
  have hm' : xs.length ≤ 9223372036854775807 := by omega
  have hm2' : ys.length ≤ 9223372036854775807 := by omega
  have h6 := shSB_len hx
  have h4 := stSB_len hy
  refine by11 (Nat.le_of_ble_eq_true rfl) ?_
  have hsl : (vainL xs ys (stN [a, b, c, d, e, f])).length ≤ ys.length := selN_len _ _
  generalize hL : vainL xs ys (stN [a, b, c, d, e, f]) = L at hsl
  have hlm : L.length ≤ (L.map I).length := by rw [List.length_map]; exact Nat.le_refl _
  repeat' ((conv => whnf); first
    | (refine And.intro rfl ?_)
    | (refine And.intro (by decide +kernel) ?_)
    | (refine And.intro trivial ?_)
    | (refine fS_mk ?_)
    | (refine d_szPlan (h1 := sli_up h1) (h2 := sli_up h2) (hl := hm') (hl2 := hm2') (hm := by decide) (h0 := fun h => ?_) (h00 := fun h => absurd h hz) ..)
    | (refine d_toPlan (h1 := sli_up h1) (h2 := sli_up h2) (hx := hx) (hy := hy) (hl := hl) (hl2 := hl2) (h0 := fun A B C => varC_app ?_) ..)
    | (refine d_toPlan (h1 := sli_up h1) (h2 := sli_up h2) (hx := hx) (hy := hy) (hl := hl) (hl2 := hl2) (h0 := fun A B C => ?_) ..)
    | (refine d_sVainT1 (hlb := rfl) (h1 := sli_rows hx rfl) (h2 := sli_rows hy rfl) (hx := hx) (hy := hy) (hl := hl) (hl2 := hl2) (hg := hg) (hL := hL.symm) (h0 := fun b1 cap1 S1 e1 z1 l1 => ?_) ..)
    | (have hz2 := e2; refine d_VainT (h1 := sli_rows hx g5a) (h2 := sli_rows hy g5b) (hx := hx) (hy := hy) (hg := hg) (hL := hL.symm) (h0 := fun b3 cap3 τ3 e3 l3 => ?_) ..)
    | (refine d_VainT (h1 := sli_rows hx (getx1 g5a)) (h2 := sli_rows hy (getx1 g5b)) (hx := hx) (hy := hy) (hg := hg) (hL := hL.symm) (h0 := fun b2 cap2 τ2 e2 l2 => ?_) ..)
    | (refine Exists.intro _ (And.intro getl (And.intro rfl (And.intro rfl (And.intro (Nat.le_of_ble_eq_true rfl) ?_)))); rw [set_last])
    | (refine Exists.intro _ (And.intro z1 (And.intro rfl (And.intro (Nat.le_of_ble_eq_true rfl) ?_))))
    | (refine Exists.intro _ (And.intro (getx1 (getx1 (getx1 z1))) (And.intro rfl (And.intro (Nat.le_of_ble_eq_true rfl) ?_))))
    | (refine Exists.intro _ (And.intro getl (And.intro rfl (And.intro (Nat.le_of_ble_eq_true rfl) ?_))))
    | (refine Exists.intro _ (And.intro (getx1 getl) (And.intro rfl (And.intro (Nat.le_of_ble_eq_true rfl) ?_))))
    | (refine Exists.intro _ (And.intro (getx1 (getx1 getl)) (And.intro rfl (And.intro (Nat.le_of_ble_eq_true rfl) ?_))))
    | (refine d_eqIntS (ha := sli_ints e2) (hb' := sli_ints (getx1 (getx1 (getx1 e1)))) (hl := by omega) (h0 := ?_) ..)
    | (refine Exists.intro _ (And.intro (callW_fn (d_eqPlan (h1 := sli_rows hx (getx1 (getx1 (getx1 g5a)))) (h2 := sli_rows hy (getx1 (getx1 (getx1 g5b)))) (g1 := sli_rows hx g5a) (g2 := sli_rows hy g5b) (hx := hx) (hy := hy) (hl := hl) (hl2 := hl2) (h0 := And.intro rfl rfl) ..)) ?_))
    | (refine d_markPlan (B1 := shSB xs) (B2 := stSB ys) (hB1 := (getx1 (getx1 (getx1 g5a)))) (hB2 := (getx1 (getx1 (getx1 g5b)))) (hv1 := rfl) (hv2 := rfl) (hne := by omega) (hn1 := h6) (hn2 := h4) (hm1 := hl) (hm2 := hl2) (hk := by omega) (h0 := fun A => ?_) ..)
    | (refine d_eqIntS (ha := sli_ints (get_ne (get_ne (getx1 (getx1 e2)) (by have q1 := getElem?_lt e1; simp only [List.length_append, List.length_cons, List.length_nil] at *; omega)) (by have q1 := getElem?_lt e1; simp only [List.length_append, List.length_cons, List.length_nil] at *; omega))) (hb' := sli_ints (get_ne (get_ne (getx1 (getx1 (getx1 (getx1 (getx1 e1))))) (by have q1 := getElem?_lt e1; simp only [List.length_append, List.length_cons, List.length_nil] at *; omega)) (by have q1 := getElem?_lt e1; simp only [List.length_append, List.length_cons, List.length_nil] at *; omega))) (hl := by omega) (h0 := ?_) ..)
    | (refine d_markIntS (B := outB L) (hB := (get_ne (get_ne (getx1 (getx1 e2)) (by have q1 := getElem?_lt e1; simp only [List.length_append, List.length_cons, List.length_nil] at *; omega)) (by have q1 := getElem?_lt e1; simp only [List.length_append, List.length_cons, List.length_nil] at *; omega))) (hv := rfl) (hn := hlm) (hn2 := by omega) (hk := by omega) (h0 := ?_) ..)
    | (refine d_heldIntS (ha := sli_marks2 (B := outB L) (get_set (get_ne (get_ne (getx1 (getx1 e2)) (by have q1 := getElem?_lt e1; simp only [List.length_append, List.length_cons, List.length_nil] at *; omega)) (by have q1 := getElem?_lt e1; simp only [List.length_append, List.length_cons, List.length_nil] at *; omega))) rfl) (hn2 := by omega) (hk := by omega) (h0 := ?_) ..)
    | (refine Exists.intro _ (And.intro (get_ne (get_ne (get_ne (getx1 (getx1 (getx1 (getx1 (getx1 z1))))) (by have q1 := getElem?_lt e1; simp only [List.length_append, List.length_cons, List.length_nil] at *; omega)) (by have q1 := getElem?_lt e1; simp only [List.length_append, List.length_cons, List.length_nil] at *; omega)) (by have q1 := getElem?_lt e1; simp only [List.length_append, List.length_cons, List.length_nil] at *; omega)) (And.intro rfl (And.intro (Nat.le_of_ble_eq_true rfl) ?_))))
    | (refine d_eqIntS (ha := sli_ints e3) (hb' := sli_ints (getx1 (getx1 (get_ne (get_ne (get_ne (getx1 (getx1 (getx1 (getx1 (getx1 e1))))) (by have q1 := getElem?_lt e1; simp only [List.length_append, List.length_cons, List.length_nil] at *; omega)) (by have q1 := getElem?_lt e1; simp only [List.length_append, List.length_cons, List.length_nil] at *; omega)) (by have q1 := getElem?_lt e1; simp only [List.length_append, List.length_cons, List.length_nil] at *; omega))))) (hl := by omega) (h0 := ?_) ..)
    | (refine d_heldIntS (ha := sli_marks2 (B := outB L) (getx1 (getx1 (get_set (get_ne (get_ne (getx1 (getx1 e2)) (by have q1 := getElem?_lt e1; simp only [List.length_append, List.length_cons, List.length_nil] at *; omega)) (by have q1 := getElem?_lt e1; simp only [List.length_append, List.length_cons, List.length_nil] at *; omega))))) rfl) (hn2 := by omega) (hk := by omega) (h0 := ?_) ..)
    | (refine Exists.intro _ (And.intro rfl (And.intro rfl (And.intro (Nat.le_of_ble_eq_true rfl) ?_))))
    | (refine Exists.intro _ (And.intro rfl (And.intro rfl (And.intro rfl (And.intro (Nat.le_of_ble_eq_true rfl) ?_)))))
    | (refine And.intro (Exists.intro _ (And.intro rfl rfl)) ?_)
    | (exact fun hW => absurd hW (by decide +kernel))
    | (intro hW; (try simp only [Bool.not_true, Bool.not_false, Bool.not_eq_true', Bool.not_eq_false', decide_eq_true_eq, decide_eq_false_iff_not, reduceCtorEq, Bool.true_eq_false, Bool.false_eq_true, mk_size, List.size_toArray, ByteArray.size_append, ByteArray.size_extract, List.length_cons, List.length_nil, ba_get, ba_empty, Int.toNat_natCast] at hW))
    | (refine And.intro (?_ : _ → _) (?_ : _ → _))
    | (refine FinR.drop 0 (Nat.zero_le _) (Closed.zero _) rfl ?_)
    | (refine FinR.keep ?_)
    | (refine And.intro (det3_agg rfl) ?_)
    | (refine fL_mk ?_)
    | (refine And.intro (by (try simp only [mk_size, List.size_toArray, ByteArray.size_append, ByteArray.size_extract, List.length_cons, List.length_nil]); omega) ?_)
    | (refine And.intro (by (try simp only [mk_size, List.size_toArray, ByteArray.size_append, ByteArray.size_extract, List.length_cons, List.length_nil, wrap64_eq]); omega) ?_)
    | fail)
  all_goals first | exact h0 | (exfalso; omega) | (exfalso; simp_all; done) | skip
end Go.Proofs.Ytbmilmnfhdkfjaa
end

section
/- Contracts: the law VainSteps. -/
set_option linter.unusedVariables false
set_option linter.unusedSimpArgs false
set_option maxRecDepth 100000
set_option maxHeartbeats 4000000
namespace Go.Proofs.Ytbmilmnfhdkfjaa
open Go Go.RowKit Go.Proofs.Ytbmilmnfhdkfjaa.Abs
variable {W0 : World} {σ : List Blk}
theorem c_law_VainStepsQ (a b c d e f : Int) (v1 v2 : Value) (xs ys : List (List Int)) (h1 : Sli W0 [] 6 enI (.lit v1) xs) (h2 : Sli W0 [] 4 enI (.lit v2) ys) (hx : ∀ x ∈ xs, x.length = 6) (hy : ∀ x ∈ ys, x.length = 4) (hm : xs.length ≤ maxLen) (hm2 : ys.length ≤ maxLen) (K : Cont) (h0 : K (Bo true) []) : ACall Try.prog W0 11 [PlA a b c d e f (.lit v1) (.lit v2)] [] K := by
  have hm' : xs.length ≤ 9223372036854775807 := hm
  have hm2' : ys.length ≤ 9223372036854775807 := hm2
  by_cases hz : (1048576 : Int) - xs.length - ys.length < 0
  · refine by11 (Nat.le_of_ble_eq_true rfl) ?_
    repeat' ((conv => whnf); first
      | (refine And.intro rfl ?_)
      | (refine And.intro (by decide +kernel) ?_)
      | (refine And.intro trivial ?_)
      | (refine d_szPlan (h1 := sli_up h1) (h2 := sli_up h2) (hl := hm') (hl2 := hm2') (hm := by decide) (h0 := fun h => ?_) (h00 := fun h => ?_) ..)
      | (refine Exists.intro _ (And.intro rfl (And.intro rfl (And.intro (Nat.le_of_ble_eq_true rfl) ?_))))
      | (refine Exists.intro _ (And.intro rfl (And.intro rfl (And.intro rfl (And.intro (Nat.le_of_ble_eq_true rfl) ?_)))))
      | (refine And.intro (Exists.intro _ (And.intro rfl rfl)) ?_)
      | (exact fun hW => absurd hW (by decide +kernel))
      | (intro hW; (try simp only [Bool.not_true, Bool.not_false, Bool.not_eq_true', Bool.not_eq_false', decide_eq_true_eq, decide_eq_false_iff_not, reduceCtorEq, Bool.true_eq_false, Bool.false_eq_true, mk_size, List.size_toArray, ByteArray.size_append, ByteArray.size_extract, List.length_cons, List.length_nil, ba_get, ba_empty, Int.toNat_natCast] at hW))
      | (refine And.intro (?_ : _ → _) (?_ : _ → _))
      | (refine FinR.drop 0 (Nat.zero_le _) (Closed.zero _) rfl ?_)
      | (refine FinR.keep ?_)
      | (refine And.intro (det3_agg rfl) ?_)
      | (refine fL_mk ?_)
      | (refine And.intro (by (try simp only [mk_size, List.size_toArray, ByteArray.size_append, ByteArray.size_extract, List.length_cons, List.length_nil]); omega) ?_)
      | (refine And.intro (by (try simp only [mk_size, List.size_toArray, ByteArray.size_append, ByteArray.size_extract, List.length_cons, List.length_nil, wrap64_eq]); omega) ?_)
      | fail)
    all_goals first | exact h0 | (exfalso; omega) | (exfalso; simp_all; done)
  · cases hg : planB a b c d e f xs ys with
    | true => exact c_law_VainT a b c d e f v1 v2 xs ys h1 h2 hx hy (by omega) (by omega) hz hg K h0
    | false => exact c_law_VainF a b c d e f v1 v2 xs ys h1 h2 hx hy (by omega) (by omega) hz hg K h0
theorem c_law_VainSteps (a0 : Int) (ha0 : IntKind.i64.has a0) (a1 : Int) (ha1 : IntKind.i64.has a1) (a2 : Int) (ha2 : IntKind.i64.has a2) (a3 : Int) (ha3 : IntKind.i64.has a3) (a4 : Int) (ha4 : IntKind.i64.has a4) (a5 : Int) (ha5 : IntKind.i64.has a5) (v : Value) (xs : List (List Int)) (sv : Sli W0 [] 6 enI (.lit v) xs) (hv : ∀ x ∈ xs, x.length = 6 ∧ ∀ n ∈ x, IntKind.i64.has n) (mv : xs.length ≤ maxLen) (u : Value) (ys : List (List Int)) (su : Sli W0 [] 4 enI (.lit u) ys) (hu : ∀ x ∈ ys, x.length = 4 ∧ ∀ n ∈ x, IntKind.i64.has n) (mu : ys.length ≤ maxLen) (K : Cont) (h0 : K (Bo true) []) : ACall Try.prog W0 11 [PlA a0 a1 a2 a3 a4 a5 (.lit v) (.lit u)] [] K :=
  c_law_VainStepsQ a0 a1 a2 a3 a4 a5 v u xs ys sv su (fun x h => (hv x h).1) (fun x h => (hu x h).1) mv mu K h0
end Go.Proofs.Ytbmilmnfhdkfjaa
end
