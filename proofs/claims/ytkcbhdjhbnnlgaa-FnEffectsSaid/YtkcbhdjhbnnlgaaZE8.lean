import Derived.Test.YtkcbhdjhbnnlgaaZE7
section
/- Contracts: two steps exchanged, by the program. -/
set_option linter.unusedVariables false
set_option linter.unusedSimpArgs false
set_option maxRecDepth 100000
set_option maxHeartbeats 4000000
namespace Go.Proofs.Ytkcbhdjhbnnlgaa
open Go Go.RowKit Go.Proofs.Ytkcbhdjhbnnlgaa.Abs
variable {W0 : World} {σ : List Blk}
theorem swap_get {α : Type} {l : List α} {k : Nat} {x y : α} (hx : l[k]? = some x) (hy : l[k + 1]? = some y) (j : Nat) : ((l.set k y).set (k + 1) x)[j]? = l[if j = k then k + 1 else if j = k + 1 then k else j]? := by
  have h1 := getElem?_lt hy
  rw [List.getElem?_set]
  by_cases e1 : k + 1 = j
  · rw [if_pos e1, if_pos (by rw [List.length_set]; omega), if_neg (by omega), if_pos e1.symm, hx]
  · rw [if_neg e1, List.getElem?_set]
    by_cases e2 : k = j
    · rw [if_pos e2, if_pos (by omega), if_pos e2.symm, hy]
    · rw [if_neg e2, if_neg (by omega), if_neg (by omega)]
theorem varC_app2 {F : List Nat} {R : Prop} {σ τ ρ : List Blk} {k : Nat} (h : R) : varC F σ R k (σ ++ τ ++ ρ) := by rw [List.append_assoc]; exact varC_app h
theorem stepsOwn {s : AV} {fs : List (Nat × Nat)} (h : StepsSt σ s fs) (hn : fs ≠ []) : ∃ r ver cap cs, s = .sl r ver 0 fs.length cap ∧ σ[r]? = some ⟨cs, ver, 137, 1, true, true⟩ ∧ cs.length = fs.length ∧
    ∀ (j k m : Nat), fs[j]? = some (k, m) → ∃ a b, cs[j]? = some (cloA a b) ∧ σ[a]? = some (doB k) ∧ σ[b]? = some (uB m) := by
  cases h with
  | nil => exact absurd rfl hn
  | own r ver cap cs fs hr hl hc => exact ⟨r, ver, cap, cs, rfl, hr, hl, hc⟩
theorem d_CloneFn (r ver cap n : Nat) (cs : List AV) (hr : σ[r]? = some ⟨cs, ver, 137, 1, true, true⟩) (hn : n = cs.length) (hl : cs.length ≤ 1048576) (K : Cont) (h0 : ∀ c', K (.sl σ.length 1 0 n c') (σ ++ [⟨cs, 1, 137, 1, true, true⟩])) : ACall Try.prog W0 108 [.sl r ver 0 n cap] σ K := by
  subst hn
  refine by108 (Nat.le_of_ble_eq_true rfl) ?_
  have hle : ∀ off, off = 0 + cs.length * 1 → off ≤ (⟨cs, ver, 137, 1, true, true⟩ : Blk).cells.length := fun off ho => by show off ≤ cs.length; omega
  have hct : (cs.drop 0).take (cs.length * 1) = cs := by rw [List.drop_zero, Nat.mul_one, List.take_length]
  have hj : ((cs.drop 0).take (cs.length * 1)).length = cs.length * 1 := by rw [hct, Nat.mul_one]
  repeat' ((conv => whnf); first | (refine Exists.intro ([] : List Nat) ?_) | (refine And.intro rfl ?_) | (refine And.intro (by decide +kernel) ?_) | (refine And.intro trivial ?_) | (refine fS_mk ?_) | (refine And.intro ⟨_, hr, rfl⟩ ?_) | (refine Exists.intro _ (And.intro (getx1 hr) (And.intro rfl (And.intro (hle _ rfl) ?_)))) | (refine Exists.intro _ (And.intro getl (And.intro rfl (And.intro rfl (And.intro rfl (And.intro rfl (And.intro rfl (And.intro (by decide) (And.intro rfl (And.intro hj (And.intro (by unfold maxLen; omega) (And.intro (by omega) (fun cap' hcap1 hcap2 => ?_))))))))))))) | (refine Exists.intro _ (And.intro rfl (And.intro rfl (And.intro (Nat.le_of_ble_eq_true rfl) ?_)))) | (refine Exists.intro _ (And.intro rfl (And.intro rfl (And.intro rfl (And.intro (Nat.le_of_ble_eq_true rfl) ?_))))) | (refine And.intro (Exists.intro _ (And.intro rfl rfl)) ?_) | (exact fun hW => absurd hW (by decide +kernel)) | (intro hW; (try simp only [Bool.not_true, Bool.not_false, Bool.not_eq_true', Bool.not_eq_false', decide_eq_true_eq, decide_eq_false_iff_not, reduceCtorEq, Bool.true_eq_false, Bool.false_eq_true, mk_size, List.size_toArray, ByteArray.size_append, ByteArray.size_extract, List.length_cons, List.length_nil, ba_get, ba_empty, Int.toNat_natCast] at hW)) | (refine And.intro (?_ : _ → _) (?_ : _ → _)) | (refine FinR.drop 0 (Nat.zero_le _) (Closed.zero _) rfl ?_) | (refine FinR.keep ?_) | (refine And.intro (det3_agg rfl) ?_) | (refine fL_mk ?_) | (refine And.intro (by (try simp only [mk_size, List.size_toArray, ByteArray.size_append, ByteArray.size_extract, List.length_cons, List.length_nil]); omega) ?_) | (refine And.intro (by (try simp only [mk_size, List.size_toArray, ByteArray.size_append, ByteArray.size_extract, List.length_cons, List.length_nil, wrap64_eq]); omega) ?_) | fail)
  all_goals first | (exfalso; simp_all; done) | skip
  all_goals
    rw [Nat.zero_add cs.length, set_last]
    have e : (⟨[] ++ (cs.drop 0).take (cs.length * 1), 0 + 1, 137, 1, true, true⟩ : Blk) = ⟨cs, 1, 137, 1, true, true⟩ := by rw [List.nil_append, hct]
    exact Eq.mpr (congrArg (fun B => K (.sl σ.length 1 0 cs.length cap') (σ ++ [B])) e) (h0 cap')
theorem steps_swap {r ver cap cap' k : Nat} {cs : List AV} {fs : List (Nat × Nat)} {x y : AV} {u v : Nat × Nat} {r' ver' : Nat} (hcl : cs.length = fs.length) (hc : ∀ (j k m : Nat), fs[j]? = some (k, m) → ∃ a b, cs[j]? = some (cloA a b) ∧ σ[a]? = some (doB k) ∧ σ[b]? = some (uB m))
    (hx : cs[k]? = some x) (hy : cs[k + 1]? = some y) (hu : fs[k]? = some u) (hv : fs[k + 1]? = some v) (hr : σ[r']? = some ⟨(cs.set k y).set (k + 1) x, ver', 137, 1, true, true⟩) : StepsSt σ (.sl r' ver' 0 fs.length cap') ((fs.set k v).set (k + 1) u) := by
  have e : ((fs.set k v).set (k + 1) u).length = fs.length := by rw [List.length_set, List.length_set]
  rw [← e]
  refine .own r' ver' cap' _ _ hr (by rw [List.length_set, List.length_set, e]; exact hcl) fun j k0 m hj => ?_
  rw [swap_get hu hv] at hj
  rw [swap_get hx hy]
  exact hc _ _ _ hj
theorem getlq {S : List Blk} {A B Y : Blk} : (S ++ [A] ++ [Y])[(S ++ [B]).length]? = some Y := by
  rw [show (S ++ [B]).length = (S ++ [A]).length by simp]; exact getl
theorem st_clo {C : List Blk → Prop} {S : List Blk} {cs : List AV} {v : Nat} {e : TypeId} {Y : Blk} {off i : Nat} {z : AV} (y : AV) (hi : cs[i]? = some z) (ho : off = i) (h : C (S ++ [(⟨cs.set i y, v, e, 1, true, true⟩ : Blk)] ++ [Y])) :
    ∃ B', (S ++ [(⟨cs, v, e, 1, true, true⟩ : Blk)] ++ [Y])[S.length]? = some B' ∧ B'.ver = v ∧ [y].length = 1 ∧ off + 1 ≤ B'.cells.length ∧ fS ((S ++ [(⟨cs, v, e, 1, true, true⟩ : Blk)] ++ [Y]).set S.length { B' with cells := B'.cells.take off ++ [y] ++ B'.cells.drop (off + 1) }) C := by
  subst ho
  have hlt := getElem?_lt hi
  refine ⟨_, getx1 getl, rfl, rfl, by show off + 1 ≤ cs.length; omega, ?_⟩
  rw [fS_eq, List.set_append_left _ _ (by simp), set_last]
  show C (S ++ [(⟨cs.take off ++ [y] ++ cs.drop (off + 1), v, e, 1, true, true⟩ : Blk)] ++ [Y])
  rw [show cs.take off ++ [y] ++ cs.drop (off + 1) = cs.set off y by rw [List.set_eq_take_append_cons_drop, if_pos hlt, List.append_assoc]; rfl]
  exact h
theorem clo_ld {cs : List AV} {i off : Nat} {y : AV} (h : cs[i]? = some y) (ho : off = i) : mkAV false ((cs.drop off).take 1) = y := by
  subst ho
  have hlt := getElem?_lt h
  rw [List.drop_eq_getElem_cons hlt]
  rw [List.getElem?_eq_getElem hlt] at h
  cases h; rfl
theorem c_SwapT (a b c d e f : Int) (v1 v2 : Value) (xs ys : List (List Int)) (k : Nat) (fs' : List (Nat × Nat)) (u v : Nat × Nat) (hu : (fsOf xs ys)[k]? = some u) (hv : (fsOf xs ys)[k + 1]? = some v) (hfs : fs' = ((fsOf xs ys).set k v).set (k + 1) u) (h1 : Sli W0 [] 6 enI (.lit v1) xs) (h2 : Sli W0 [] 4 enI (.lit v2) ys) (hx : ∀ x ∈ xs, x.length = 6) (hy : ∀ x ∈ ys, x.length = 4) (hg : planB a b c d e f xs ys = true) (hk : k + 2 ≤ ys.length) (K : Cont)
    (h0 : K (.tup [Bo (decide (((runN (fsOf xs ys) 0 : Nat) : Int) = (runN fs' 0 : Nat)) && (decide (((runN (fsOf xs ys) fullN : Nat) : Int) = (runN fs' fullN : Nat)) && true)), Bo true]) []) : ACall Try.prog W0 55 [PlA a b c d e f (.lit v1) (.lit v2), I k] [] K := by
  refine by55 (Nat.le_of_ble_eq_true rfl) ?_
  obtain ⟨_, hx4, hy40, hxa, hya⟩ := planB_iff.1 hg
  obtain ⟨o2, n2, cap2, hv2, hn2, hc2, hm2, hf2⟩ := sli_form h2
  cases hv2
  subst hn2
  have hfo := fsOf_ok hx hy hxa hya
  have hfl := fsOf_len xs ys
  have hfo' : FsOk fs' := by
    subst hfs
    intro s hs
    rcases List.mem_or_eq_of_mem_set hs with h | rfl
    · rcases List.mem_or_eq_of_mem_set h with h | rfl
      · exact hfo s h
      · exact hfo _ (List.mem_of_getElem? hv)
    · exact hfo _ (List.mem_of_getElem? hu)
  have hfl' : fs'.length = ys.length := by rw [hfs, List.length_set, List.length_set, hfl]
  have hne : fsOf xs ys ≠ [] := by intro h; rw [h] at hfl; simp at hfl; omega
  have ew : IntKind.i64.wrap ((k : Nat) + 1 : Int) = ((k + 1 : Nat) : Int) := wsucc' k (by omega)
  have ew2 : IntKind.i64.wrap ((ys.length : Nat) - 2 : Int) = (ys.length : Nat) - 2 := wrap_i64 _ (by omega) (by omega)
  generalize hF : fsOf xs ys = fs at hu hv hfs hfo hfl hne h0
  repeat' ((conv => whnf); first | (refine Exists.intro ([] : List Nat) ?_) | (refine And.intro rfl ?_) | (refine And.intro (by decide +kernel) ?_) | (refine And.intro trivial ?_) | (refine fS_mk ?_) | (refine d_planOfS (h1 := sli_up h1) (h2 := sli_up h2) (hx := hx) (hy := hy) (hg := hg) (h0 := fun S p hp hkk hl => ?_) ..; rw [hF] at hp; have k0 := hkk 0 _ rfl; obtain ⟨s, z1, hs⟩ := hp.ex; obtain ⟨r, ver, cap, cs, rfl, hr, hcl, hc⟩ := stepsOwn hs hne) | (refine And.intro ⟨_, z1, rfl⟩ ?_) | (refine And.intro ⟨_, k0, rfl⟩ ?_) | (refine Exists.intro _ (And.intro k0 (And.intro rfl (And.intro (Nat.le_of_ble_eq_true rfl) ?_)))) | (refine Exists.intro _ (And.intro z1 (And.intro rfl (And.intro (Nat.le_of_ble_eq_true rfl) ?_)))) | (refine And.intro rfl (Exists.intro _ (And.intro z1 (And.intro rfl (And.intro (Nat.le_of_ble_eq_true rfl) ?_))))) | (refine d_CloneFn (hr := hr) (hn := hcl.symm) (hl := by omega) (h0 := fun c' => varC_app ?_) ..) | (refine varC_app2 ?_) | (refine Exists.intro _ (And.intro rfl (And.intro rfl (And.intro (Nat.le_of_ble_eq_true rfl) ?_)))) | (refine Exists.intro _ (And.intro rfl (And.intro rfl (And.intro rfl (And.intro (Nat.le_of_ble_eq_true rfl) ?_))))) | (refine And.intro (Exists.intro _ (And.intro rfl rfl)) ?_) | (exact fun hW => absurd hW (by decide +kernel)) | (intro hW; (try simp only [Bool.not_true, Bool.not_false, Bool.not_eq_true', Bool.not_eq_false', decide_eq_true_eq, decide_eq_false_iff_not, reduceCtorEq, Bool.true_eq_false, Bool.false_eq_true, mk_size, List.size_toArray, ByteArray.size_append, ByteArray.size_extract, List.length_cons, List.length_nil, ba_get, ba_empty, Int.toNat_natCast] at hW)) | (refine And.intro (?_ : _ → _) (?_ : _ → _)) | (refine FinR.drop 0 (Nat.zero_le _) (Closed.zero _) rfl ?_) | (refine FinR.keep ?_) | (refine And.intro (det3_agg rfl) ?_) | (refine fL_mk ?_) | (refine And.intro (by (try simp only [mk_size, List.size_toArray, ByteArray.size_append, ByteArray.size_extract, List.length_cons, List.length_nil]); omega) ?_) | (refine And.intro (by (try simp only [mk_size, List.size_toArray, ByteArray.size_append, ByteArray.size_extract, List.length_cons, List.length_nil, wrap64_eq]); omega) ?_) | fail)
  all_goals first | (exfalso; omega) | (exfalso; simp_all; done) | skip
  all_goals (refine varC_app2 ?_)
  all_goals
    obtain ⟨xa, xb, hx1, _, _⟩ := hc k u.1 u.2 hu
    obtain ⟨ya, yb, hy1, _, _⟩ := hc (k + 1) v.1 v.2 hv
    have hle : ∀ off i, off = i → i < ys.length → off + 1 ≤ (⟨cs, 1, 137, 1, true, true⟩ : Blk).cells.length := fun off i ho hi => by show off + 1 ≤ cs.length; omega
    have ho1 : 0 + (IntKind.i64.wrap ((k : Nat) + 1 : Int)).toNat * 1 = k + 1 := by rw [ew]; omega
    have ho0 : 0 + ((k : Nat) : Int).toNat * 1 = k := by omega
    have hy2 : (cs.set k (cloA ya yb))[k + 1]? = some (cloA ya yb) := by rw [List.getElem?_set_ne (by omega)]; exact hy1
    have hc2 := fun (τ ρ : List Blk) (j k0 m : Nat) (hj : fs[j]? = some (k0, m)) => let ⟨a, b, q1, q2, q3⟩ := hc j k0 m hj; (⟨a, b, q1, getx1 (getx1 q2), getx1 (getx1 q3)⟩ : ∃ a b, cs[j]? = some (cloA a b) ∧ (S ++ τ ++ ρ)[a]? = some (doB k0) ∧ (S ++ τ ++ ρ)[b]? = some (uB m))
  all_goals
    have hp2 : PlanSt (S ++ [(⟨(cs.set k (cloA ya yb)).set (k + 1) (cloA xa xb), 1, 137, 1, true, true⟩ : Blk)] ++ [plB (stN [a, b, c, d, e, f]) (.sl S.length 1 0 fs.length c')]) (S ++ [(⟨cs, 1, 137, 1, true, true⟩ : Blk)]).length (stN [a, b, c, d, e, f]) fs' :=
      ⟨_, getlq, by rw [hfs]; exact steps_swap (cap := cap) (r := r) (ver := ver) hcl (hc2 _ _) hx1 hy1 hu hv (getx1 getl)⟩
  repeat' ((conv => whnf); first | (refine Exists.intro _ (And.intro (getx1 getl) (And.intro rfl (And.intro (hle _ _ ho1 (by omega)) ?_))); rw [show (⟨cs, 1, 137, 1, true, true⟩ : Blk).cells = cs from rfl, clo_ld hy1 ho1]) | (refine Exists.intro _ (And.intro (getx1 getl) (And.intro rfl (And.intro (hle _ _ ho0 (by omega)) ?_))); rw [show (⟨cs, 1, 137, 1, true, true⟩ : Blk).cells = cs from rfl, clo_ld hx1 ho0]) | (refine Exists.intro ([] : List Nat) ?_) | (refine And.intro rfl ?_) | (refine And.intro (by decide +kernel) ?_) | (refine And.intro trivial ?_) | (refine fS_mk ?_) | (refine d_effects (hp := hp.add.add) (hf := hfo) (hl := by omega) (h0 := fun A B D => ?_) ..) | (refine d_effects (hp := hp2.add.add.add) (hf := hfo') (hl := by omega) (h0 := fun A B D => ?_) ..) | (refine And.intro ⟨_, getl, rfl⟩ ?_) | (refine And.intro ⟨_, getx1 getl, rfl⟩ ?_) | (refine Exists.intro _ (And.intro getl (And.intro rfl (And.intro (Nat.le_of_ble_eq_true rfl) ?_)))) | (refine st_clo _ hx1 ho0 ?_) | (refine st_clo _ hy2 ho1 ?_) | (refine Exists.intro _ (And.intro rfl (And.intro rfl (And.intro (Nat.le_of_ble_eq_true rfl) ?_)))) | (refine Exists.intro _ (And.intro rfl (And.intro rfl (And.intro rfl (And.intro (Nat.le_of_ble_eq_true rfl) ?_))))) | (refine And.intro (Exists.intro _ (And.intro rfl rfl)) ?_) | (exact fun hW => absurd hW (by decide +kernel)) | (intro hW; (try simp only [Bool.not_true, Bool.not_false, Bool.not_eq_true', Bool.not_eq_false', decide_eq_true_eq, decide_eq_false_iff_not, reduceCtorEq, Bool.true_eq_false, Bool.false_eq_true, mk_size, List.size_toArray, ByteArray.size_append, ByteArray.size_extract, List.length_cons, List.length_nil, ba_get, ba_empty, Int.toNat_natCast] at hW)) | (refine And.intro (?_ : _ → _) (?_ : _ → _)) | (refine FinR.drop 0 (Nat.zero_le _) (Closed.zero _) rfl ?_) | (refine FinR.keep ?_) | (refine And.intro (det3_agg rfl) ?_) | (refine fL_mk ?_) | (refine And.intro (by (try simp only [mk_size, List.size_toArray, ByteArray.size_append, ByteArray.size_extract, List.length_cons, List.length_nil]); omega) ?_) | (refine And.intro (by (try simp only [mk_size, List.size_toArray, ByteArray.size_append, ByteArray.size_extract, List.length_cons, List.length_nil, wrap64_eq]); omega) ?_) | fail)
  all_goals first | (exfalso; omega) | exact h0 | skip
end Go.Proofs.Ytkcbhdjhbnnlgaa
end

section
/- Contracts: pictures compared. -/
set_option linter.unusedVariables false
set_option linter.unusedSimpArgs false
set_option maxRecDepth 100000
set_option maxHeartbeats 4000000
namespace Go.Proofs.Ytkcbhdjhbnnlgaa
open Go Go.RowKit Go.Proofs.Ytkcbhdjhbnnlgaa.Abs
variable {W0 : World} {σ : List Blk}
theorem c_EffectsOfF (a b c d e f : Int) (v1 v2 : Value) (xs ys : List (List Int)) (h1 : Sli W0 [] 6 enI (.lit v1) xs) (h2 : Sli W0 [] 4 enI (.lit v2) ys) (hx : ∀ x ∈ xs, x.length = 6) (hy : ∀ x ∈ ys, x.length = 4) (hg : planB a b c d e f xs ys = false) (K : Cont) (h0 : K (.tup [Pi z36, Bo false]) []) : ACall Try.prog W0 42 [PlA a b c d e f (.lit v1) (.lit v2)] [] K := by
  refine by42 (Nat.le_of_ble_eq_true rfl) ?_
  repeat' ((conv => whnf); first | (refine Exists.intro ([] : List Nat) ?_) | (refine And.intro rfl ?_) | (refine And.intro (by decide +kernel) ?_) | (refine And.intro trivial ?_) | (refine d_planOfF (h1 := sli_up h1) (h2 := sli_up h2) (hx := hx) (hy := hy) (hg := hg) (h0 := ?_) ..) | (refine Exists.intro _ (And.intro rfl (And.intro rfl (And.intro (Nat.le_of_ble_eq_true rfl) ?_)))) | (refine Exists.intro _ (And.intro rfl (And.intro rfl (And.intro rfl (And.intro (Nat.le_of_ble_eq_true rfl) ?_))))) | (refine And.intro (Exists.intro _ (And.intro rfl rfl)) ?_) | (exact fun hW => absurd hW (by decide +kernel)) | (intro hW; (try simp only [Bool.not_true, Bool.not_false, Bool.not_eq_true', Bool.not_eq_false', decide_eq_true_eq, decide_eq_false_iff_not, reduceCtorEq, Bool.true_eq_false, Bool.false_eq_true, mk_size, List.size_toArray, ByteArray.size_append, ByteArray.size_extract, List.length_cons, List.length_nil, ba_get, ba_empty, Int.toNat_natCast] at hW)) | (refine And.intro (?_ : _ → _) (?_ : _ → _)) | (refine FinR.drop 0 (Nat.zero_le _) (Closed.zero _) rfl ?_) | (refine FinR.keep ?_) | (refine And.intro (det3_agg rfl) ?_) | (refine fL_mk ?_) | (refine And.intro (by (try simp only [mk_size, List.size_toArray, ByteArray.size_append, ByteArray.size_extract, List.length_cons, List.length_nil]); omega) ?_) | (refine And.intro (by (try simp only [mk_size, List.size_toArray, ByteArray.size_append, ByteArray.size_extract, List.length_cons, List.length_nil, wrap64_eq]); omega) ?_) | fail)
  all_goals first | exact h0 | (exfalso; omega) | (exfalso; simp_all; done)
end Go.Proofs.Ytkcbhdjhbnnlgaa
end

section
/- Contracts: the same effects, by the reference. -/
set_option linter.unusedVariables false
set_option linter.unusedSimpArgs false
set_option maxRecDepth 100000
set_option maxHeartbeats 4000000
namespace Go.Proofs.Ytkcbhdjhbnnlgaa
open Go Go.RowKit Go.Proofs.Ytkcbhdjhbnnlgaa.Abs
variable {W0 : World} {σ : List Blk}
theorem c_sSameEffectsF (a b c d e f a' b' c' d' e' f' : Int) (v1 v2 u1 u2 : Value) (xs ys xs' ys' : List (List Int)) (h1 : Sli W0 [] 6 enI (.lit v1) xs) (h2 : Sli W0 [] 4 enI (.lit v2) ys) (g1 : Sli W0 [] 6 enI (.lit u1) xs') (g2 : Sli W0 [] 4 enI (.lit u2) ys') (hx : ∀ x ∈ xs, x.length = 6) (hy : ∀ x ∈ ys, x.length = 4) (hx' : ∀ x ∈ xs', x.length = 6) (hy' : ∀ x ∈ ys', x.length = 4) (hl : xs.length ≤ 1048576) (hl2 : ys.length ≤ 1048576) (hl' : xs'.length ≤ 1048576) (hl2' : ys'.length ≤ 1048576) (hg : (planB a b c d e f xs ys && planB a' b' c' d' e' f' xs' ys') = false) (K : Cont) (h0 : K (.tup [Bo false, Bo false]) []) : ACall Try.prog W0 53 [PlA a b c d e f (.lit v1) (.lit v2), PlA a' b' c' d' e' f' (.lit u1) (.lit u2)] [] K := by
  refine by53 (Nat.le_of_ble_eq_true rfl) ?_
  cases hg1 : planB a b c d e f xs ys with
  | false =>
    repeat' ((conv => whnf); first | (refine Exists.intro ([] : List Nat) ?_) | (refine And.intro rfl ?_) | (refine And.intro (by decide +kernel) ?_) | (refine And.intro trivial ?_) | (refine d_l11Plan (h1 := sli_up h1) (h2 := sli_up h2) (hx := hx) (hy := hy) (hl := hl) (hl2 := hl2) (h0 := ?_) ..; rw [hg1]) | (refine Exists.intro _ (And.intro rfl (And.intro rfl (And.intro (Nat.le_of_ble_eq_true rfl) ?_)))) | (refine Exists.intro _ (And.intro rfl (And.intro rfl (And.intro rfl (And.intro (Nat.le_of_ble_eq_true rfl) ?_))))) | (refine And.intro (Exists.intro _ (And.intro rfl rfl)) ?_) | (exact fun hW => absurd hW (by decide +kernel)) | (intro hW; (try simp only [Bool.not_true, Bool.not_false, Bool.not_eq_true', Bool.not_eq_false', decide_eq_true_eq, decide_eq_false_iff_not, reduceCtorEq, Bool.true_eq_false, Bool.false_eq_true, mk_size, List.size_toArray, ByteArray.size_append, ByteArray.size_extract, List.length_cons, List.length_nil, ba_get, ba_empty, Int.toNat_natCast] at hW)) | (refine And.intro (?_ : _ → _) (?_ : _ → _)) | (refine FinR.drop 0 (Nat.zero_le _) (Closed.zero _) rfl ?_) | (refine FinR.keep ?_) | (refine And.intro (det3_agg rfl) ?_) | (refine fL_mk ?_) | (refine And.intro (by (try simp only [mk_size, List.size_toArray, ByteArray.size_append, ByteArray.size_extract, List.length_cons, List.length_nil]); omega) ?_) | (refine And.intro (by (try simp only [mk_size, List.size_toArray, ByteArray.size_append, ByteArray.size_extract, List.length_cons, List.length_nil, wrap64_eq]); omega) ?_) | fail)
    all_goals first | exact h0 | (exfalso; omega) | (exfalso; simp_all; done)
  | true =>
    have hg2 : planB a' b' c' d' e' f' xs' ys' = false := by simpa [hg1] using hg
    repeat' ((conv => whnf); first | (refine Exists.intro ([] : List Nat) ?_) | (refine And.intro rfl ?_) | (refine And.intro (by decide +kernel) ?_) | (refine And.intro trivial ?_) | (refine d_l11Plan (h1 := sli_up h1) (h2 := sli_up h2) (hx := hx) (hy := hy) (hl := hl) (hl2 := hl2) (h0 := ?_) ..; rw [hg1]) | (refine d_l11Plan (h1 := sli_up g1) (h2 := sli_up g2) (hx := hx') (hy := hy') (hl := hl') (hl2 := hl2') (h0 := ?_) ..; rw [hg2]) | (refine Exists.intro _ (And.intro rfl (And.intro rfl (And.intro (Nat.le_of_ble_eq_true rfl) ?_)))) | (refine Exists.intro _ (And.intro rfl (And.intro rfl (And.intro rfl (And.intro (Nat.le_of_ble_eq_true rfl) ?_))))) | (refine And.intro (Exists.intro _ (And.intro rfl rfl)) ?_) | (exact fun hW => absurd hW (by decide +kernel)) | (intro hW; (try simp only [Bool.not_true, Bool.not_false, Bool.not_eq_true', Bool.not_eq_false', decide_eq_true_eq, decide_eq_false_iff_not, reduceCtorEq, Bool.true_eq_false, Bool.false_eq_true, mk_size, List.size_toArray, ByteArray.size_append, ByteArray.size_extract, List.length_cons, List.length_nil, ba_get, ba_empty, Int.toNat_natCast] at hW)) | (refine And.intro (?_ : _ → _) (?_ : _ → _)) | (refine FinR.drop 0 (Nat.zero_le _) (Closed.zero _) rfl ?_) | (refine FinR.keep ?_) | (refine And.intro (det3_agg rfl) ?_) | (refine fL_mk ?_) | (refine And.intro (by (try simp only [mk_size, List.size_toArray, ByteArray.size_append, ByteArray.size_extract, List.length_cons, List.length_nil]); omega) ?_) | (refine And.intro (by (try simp only [mk_size, List.size_toArray, ByteArray.size_append, ByteArray.size_extract, List.length_cons, List.length_nil, wrap64_eq]); omega) ?_) | fail)
    all_goals first | exact h0 | (exfalso; omega) | (exfalso; simp_all; done)
end Go.Proofs.Ytkcbhdjhbnnlgaa
end

section
/- Contracts: effects of plans by the program. -/
set_option linter.unusedVariables false
set_option linter.unusedSimpArgs false
set_option maxRecDepth 100000
set_option maxHeartbeats 4000000
namespace Go.Proofs.Ytkcbhdjhbnnlgaa
open Go Go.RowKit Go.Proofs.Ytkcbhdjhbnnlgaa.Abs
variable {W0 : World} {σ : List Blk}
theorem eff_round {Q : List Blk} {q q' : List Int} {cs : List AV} {e : TypeId} (h : cs = q'.map I) : Q.set 2 (bQ q' e) = (Q.set 2 (bQ q e)).set 2 ⟨cs, 0, e, 0, false, false⟩ := by rw [List.set_set, h]; rfl
theorem c_EffectsOfT (a b c d e f : Int) (v1 v2 : Value) (xs ys : List (List Int)) (h1 : Sli W0 [] 6 enI (.lit v1) xs) (h2 : Sli W0 [] 4 enI (.lit v2) ys) (hx : ∀ x ∈ xs, x.length = 6) (hy : ∀ x ∈ ys, x.length = 4) (hg : planB a b c d e f xs ys = true) (K : Cont) (h0 : K (.tup [Pi (efL xs ys), Bo true]) []) : ACall Try.prog W0 42 [PlA a b c d e f (.lit v1) (.lit v2)] [] K := by
  refine by42 (Nat.le_of_ble_eq_true rfl) ?_
  obtain ⟨hs, hx4, hy40, hxa, hya⟩ := planB_iff.1 hg
  have hfo := fsOf_ok hx hy hxa hya
  have hfl := fsOf_len xs ys
  repeat' ((conv => whnf); first | (refine Exists.intro ([] : List Nat) ?_) | (refine And.intro rfl ?_) | (refine And.intro (by decide +kernel) ?_) | (refine And.intro trivial ?_) | (refine fS_mk ?_) | (refine d_planOfS (h1 := sli_up h1) (h2 := sli_up h2) (hx := hx) (hy := hy) (hg := hg) (h0 := fun S p hp hk hl => ?_) ..; have k1 := hk 1 _ rfl; have k2 := hk 2 _ rfl) | (refine d_effects (hp := hp) (hf := hfo) (hl := by omega) (h0 := fun A B C => ?_) ..) | (refine Exists.intro _ (And.intro getl (And.intro rfl (And.intro rfl (And.intro (Nat.le_of_ble_eq_true rfl) ?_)))); rw [set_last]) | (refine Exists.intro _ (And.intro rfl (And.intro rfl (And.intro (Nat.le_of_ble_eq_true rfl) ?_)))) | (refine Exists.intro _ (And.intro rfl (And.intro rfl (And.intro rfl (And.intro (Nat.le_of_ble_eq_true rfl) ?_))))) | (refine And.intro (Exists.intro _ (And.intro rfl rfl)) ?_) | (exact fun hW => absurd hW (by decide +kernel)) | (intro hW; (try simp only [Bool.not_true, Bool.not_false, Bool.not_eq_true', Bool.not_eq_false', decide_eq_true_eq, decide_eq_false_iff_not, reduceCtorEq, Bool.true_eq_false, Bool.false_eq_true, mk_size, List.size_toArray, ByteArray.size_append, ByteArray.size_extract, List.length_cons, List.length_nil, ba_get, ba_empty, Int.toNat_natCast] at hW)) | (refine And.intro (?_ : _ → _) (?_ : _ → _)) | (refine FinR.drop 0 (Nat.zero_le _) (Closed.zero _) rfl ?_) | (refine FinR.keep ?_) | (refine And.intro (det3_agg rfl) ?_) | (refine fL_mk ?_) | (refine And.intro (by (try simp only [mk_size, List.size_toArray, ByteArray.size_append, ByteArray.size_extract, List.length_cons, List.length_nil]); omega) ?_) | (refine And.intro (by (try simp only [mk_size, List.size_toArray, ByteArray.size_append, ByteArray.size_extract, List.length_cons, List.length_nil, wrap64_eq]); omega) ?_) | fail)
  have hw := runN_lt hfo (show 0 < 2 ^ 36 by decide)
  have hb := runN_lt hfo (show fullN < 2 ^ 36 by decide)
  have h0 : K (.tup [Pi (effN (runN (fsOf xs ys) 0) (runN (fsOf xs ys) fullN) 36), Bo true]) [] := h0
  generalize runN (fsOf xs ys) 0 = w at h0 hw ⊢
  generalize runN (fsOf xs ys) fullN = bb at h0 hb ⊢
  obtain ⟨R, hR⟩ : ∃ R : List Blk, R = S ++ [A] ++ [B] ++ [C] := ⟨_, rfl⟩
  have kk2 : R[2]? = some (bQ z36 69) := by rw [hR]; exact getx1 (getx1 (getx1 k2))
  have kk1 : R[1]? = some (bQ z36 69) := by rw [hR]; exact getx1 (getx1 (getx1 k1))
  rw [← hR]
  obtain ⟨Q, hQ⟩ : ∃ Q : List Blk, Q = R ++ [⟨[U (w : Nat), U (bb : Nat)], 0, 122, 0, false, false⟩] := ⟨_, rfl⟩
  have q2 : Q[2]? = some (bQ z36 69) := by rw [hQ]; exact getx1 kk2
  have q1 : Q[1]? = some (bQ z36 69) := by rw [hQ]; exact getx1 kk1
  have qp : Q[R.length]? = some ⟨[U (w : Nat), U (bb : Nat)], 0, 122, 0, false, false⟩ := by rw [hQ]; exact getl
  have hr : 2 < R.length := getElem?_lt kk2
  conv => rhs; change R ++ [⟨[U (w : Nat), U (bb : Nat)], 0, 122, 0, false, false⟩]; rw [← hQ]
  clear hQ hR kk2 kk1
  generalize R.length = r at qp hr ⊢
  have e0 : effN w bb 0 = z36 := rfl
  refine LoopR.live (fun i : Nat => [(2, .ptr 1 0 0), (4, .ptr 2 0 0), (7, .ptr r 0 0), (23, I i)]) (fun i => Q.set 2 (bQ (effN w bb i) 69)) (fun i => i ≤ 36) (fun i => 36 - i) 0 ⟨rfl, rfl, rfl, rfl, trivial⟩ (.keep (by rw [e0, set_self q2])) (Nat.zero_le _) ?_
  intro i hi
  by_cases hlt : i < 36
  · have hml : (effN w bb i).length = 36 := effN_len w bb (by omega)
    have p2 : (Q.set 2 (bQ (effN w bb i) 69))[2]? = some (bQ (effN w bb i) 69) := get_set q2
    have pp : (Q.set 2 (bQ (effN w bb i) 69))[r]? = some ⟨[U (w : Nat), U (bb : Nat)], 0, 122, 0, false, false⟩ := get_ne qp (by omega)
    have e1 : ((i : Nat) : Int).tmod 6 = ((i % 6 : Nat) : Int) := by rw [Int.tmod_eq_emod_of_nonneg (by omega)]; rfl
    have e2 : IntKind.i64.wrap (((i : Nat) : Int).tdiv 6) = ((i / 6 : Nat) : Int) := by rw [Int.tdiv_eq_ediv_of_nonneg (by omega), wrap_i64 _ (by omega) (by omega)]; rfl
    have hle : ∀ off, off = i → off + 1 ≤ (bQ (effN w bb i) 69).cells.length := fun off ho => cell_le (by omega)
    have hoff : 0 + ((i / 6 : Nat) : Int).toNat * 6 + ((i % 6 : Nat) : Int).toNat * 1 = i := by simp only [Int.toNat_natCast]; omega
    have hst : ∀ v : Int, ((effN w bb i).map I).take (0 + ((i / 6 : Nat) : Int).toNat * 6 + ((i % 6 : Nat) : Int).toNat * 1) ++ [I v] ++ ((effN w bb i).map I).drop (0 + ((i / 6 : Nat) : Int).toNat * 6 + ((i % 6 : Nat) : Int).toNat * 1 + 1) = ((effN w bb i).set i v).map I := fun v => by
      rw [hoff]; exact cell_st v (by omega)
    repeat' ((conv => whnf); first | (refine Exists.intro (bQ (effN w bb i) 69) (And.intro p2 (And.intro rfl (And.intro rfl (And.intro (hle _ hoff) ?_))))) | (rw [e1]) | (rw [e2]) | (refine Exists.intro ([] : List Nat) ?_) | (refine And.intro rfl ?_) | (refine And.intro (by decide +kernel) ?_) | (refine And.intro trivial ?_) | (refine fS_mk ?_) | (refine And.intro ⟨_, pp, rfl⟩ ?_) | (refine And.intro ⟨_, p2, rfl⟩ ?_) | (refine Exists.intro _ (And.intro pp (And.intro rfl (And.intro (Nat.le_of_ble_eq_true rfl) ?_)))) | (refine d_has (hn := by omega) (hk := by omega) (h0 := ?_) ..) | (refine Exists.intro _ (And.intro (fun τ => callW_fn (d_has (hn := by omega) (hk := by omega) (h0 := And.intro rfl rfl) ..)) ?_)) | (refine Exists.intro _ (And.intro (callW_fn (d_has (hn := by omega) (hk := by omega) (h0 := And.intro rfl rfl) ..)) (And.intro trivial ?_))) | (refine Exists.intro _ (And.intro (callW_fn (d_has (hn := by omega) (hk := by omega) (h0 := And.intro rfl rfl) ..)) ?_)) | (refine Exists.intro _ (And.intro (fun τ _ => callW_fn (d_has (hn := by omega) (hk := by omega) (h0 := And.intro rfl rfl) ..)) ?_)) | (refine Exists.intro _ (And.intro rfl (And.intro rfl (And.intro (Nat.le_of_ble_eq_true rfl) ?_)))) | (refine Exists.intro _ (And.intro rfl (And.intro rfl (And.intro rfl (And.intro (Nat.le_of_ble_eq_true rfl) ?_))))) | (refine And.intro (Exists.intro _ (And.intro rfl rfl)) ?_) | (exact fun hW => absurd hW (by decide +kernel)) | (intro hW; (try simp only [Bool.not_true, Bool.not_false, Bool.not_eq_true', Bool.not_eq_false', decide_eq_true_eq, decide_eq_false_iff_not, reduceCtorEq, Bool.true_eq_false, Bool.false_eq_true, mk_size, List.size_toArray, ByteArray.size_append, ByteArray.size_extract, List.length_cons, List.length_nil, ba_get, ba_empty, Int.toNat_natCast] at hW)) | (refine And.intro (?_ : _ → _) (?_ : _ → _)) | (refine FinR.drop 0 (Nat.zero_le _) (Closed.zero _) rfl ?_) | (refine FinR.keep ?_) | (refine And.intro (det3_agg rfl) ?_) | (refine fL_mk ?_) | (refine And.intro (by (try simp only [mk_size, List.size_toArray, ByteArray.size_append, ByteArray.size_extract, List.length_cons, List.length_nil]); omega) ?_) | (refine And.intro (by (try simp only [mk_size, List.size_toArray, ByteArray.size_append, ByteArray.size_extract, List.length_cons, List.length_nil, wrap64_eq]); omega) ?_) | fail)
    all_goals first | (exfalso; omega) | skip
    all_goals (refine Again.go (i + 1) ⟨rfl, rfl, rfl, slI' (wsucc' i (by omega)), trivial⟩ (.keep ?_) (by omega) (by omega))
    all_goals first
      | (refine eff_round (Eq.trans (hst 2) ?_); rw [← effN_set w bb hlt, show efv w bb i = 2 by simp_all [efv]])
      | (refine eff_round (Eq.trans (hst 1) ?_); rw [← effN_set w bb hlt, show efv w bb i = 1 by simp_all [efv]])
      | (refine eff_round (Eq.trans (hst 0) ?_); rw [← effN_set w bb hlt, show efv w bb i = 0 by simp_all [efv]])
      | (refine eff_round (Eq.trans (hst 3) ?_); rw [← effN_set w bb hlt, show efv w bb i = 3 by simp_all [efv]])
      | skip
  · obtain rfl : i = 36 := by omega
    have hml : (effN w bb 36).length = 36 := effN_len w bb (by omega)
    have p2 : (Q.set 2 (bQ (effN w bb 36) 69))[2]? = some (bQ (effN w bb 36) 69) := get_set q2
    have p1 : (Q.set 2 (bQ (effN w bb 36) 69))[1]? = some (bQ z36 69) := get_ne q1 (by omega)
    generalize effN w bb 36 = q at h0 hml p1 p2 ⊢
    repeat' ((conv => whnf); first | (refine Exists.intro (bQ q 69) (And.intro p2 (And.intro rfl (And.intro (pic_le hml rfl) ?_))); rw [show (bQ q 69).cells = q.map I from rfl, pic_ld hml _ rfl]) | (refine Exists.intro _ (And.intro p1 (And.intro rfl (And.intro (pic_len hml) (And.intro (Nat.le_of_ble_eq_true rfl) ?_))))) | (refine Exists.intro _ (And.intro (get_set p1) (And.intro rfl (And.intro (pic_rle hml _) ?_))); rw [pic_res hml _]) | (refine FinR.drop 0 (Nat.zero_le _) (Closed.zero _) (by show (bel3 0 (Pi q) && (bel3 0 (Bo true) && true)) = true; rw [belPi]; rfl) ?_) | (refine Exists.intro ([] : List Nat) ?_) | (refine And.intro rfl ?_) | (refine And.intro (by decide +kernel) ?_) | (refine And.intro trivial ?_) | (refine fS_mk ?_) | (refine Exists.intro _ (And.intro rfl (And.intro rfl (And.intro (Nat.le_of_ble_eq_true rfl) ?_)))) | (refine Exists.intro _ (And.intro rfl (And.intro rfl (And.intro rfl (And.intro (Nat.le_of_ble_eq_true rfl) ?_))))) | (refine And.intro (Exists.intro _ (And.intro rfl rfl)) ?_) | (exact fun hW => absurd hW (by decide +kernel)) | (intro hW; (try simp only [Bool.not_true, Bool.not_false, Bool.not_eq_true', Bool.not_eq_false', decide_eq_true_eq, decide_eq_false_iff_not, reduceCtorEq, Bool.true_eq_false, Bool.false_eq_true, mk_size, List.size_toArray, ByteArray.size_append, ByteArray.size_extract, List.length_cons, List.length_nil, ba_get, ba_empty, Int.toNat_natCast] at hW)) | (refine And.intro (?_ : _ → _) (?_ : _ → _)) | (refine FinR.drop 0 (Nat.zero_le _) (Closed.zero _) rfl ?_) | (refine FinR.keep ?_) | (refine And.intro (det3_agg rfl) ?_) | (refine fL_mk ?_) | (refine And.intro (by (try simp only [mk_size, List.size_toArray, ByteArray.size_append, ByteArray.size_extract, List.length_cons, List.length_nil]); omega) ?_) | (refine And.intro (by (try simp only [mk_size, List.size_toArray, ByteArray.size_append, ByteArray.size_extract, List.length_cons, List.length_nil, wrap64_eq]); omega) ?_) | fail)
    all_goals first | (exfalso; omega) | exact h0 | skip
end Go.Proofs.Ytkcbhdjhbnnlgaa
end

section
/- Contracts: the law EffectsOf. -/
set_option linter.unusedVariables false
set_option linter.unusedSimpArgs false
set_option maxRecDepth 100000
set_option maxHeartbeats 4000000
namespace Go.Proofs.Ytkcbhdjhbnnlgaa
open Go Go.RowKit Go.Proofs.Ytkcbhdjhbnnlgaa.Abs
variable {W0 : World} {σ : List Blk}
theorem efR_form (a b c d e f : Int) (xs ys : List (List Int)) : ∃ q bb, q.length = 36 ∧ efR a b c d e f xs ys = .tup [Pi q, Bo bb] := by
  unfold efR
  cases planB a b c d e f xs ys with
  | true => exact ⟨_, true, effN_len _ _ (Nat.le_refl _), rfl⟩
  | false => exact ⟨z36, false, rfl, rfl⟩
theorem efR_sh (k : Nat) (a b c d e f : Int) (xs ys : List (List Int)) : sh3 k (efR a b c d e f xs ys) = efR a b c d e f xs ys := by
  obtain ⟨q, bb, hq, e⟩ := efR_form a b c d e f xs ys
  rw [e]
  show AV.tup [AV.agg ((q.map I).map (sh1 k)), Bo bb] = _
  rw [sh_I]
theorem c_EffectsOf (a b c d e f : Int) (v1 v2 : Value) (xs ys : List (List Int)) (h1 : Sli W0 [] 6 enI (.lit v1) xs) (h2 : Sli W0 [] 4 enI (.lit v2) ys) (hx : ∀ x ∈ xs, x.length = 6) (hy : ∀ x ∈ ys, x.length = 4) (K : Cont) (h0 : K (efR a b c d e f xs ys) []) : ACall Try.prog W0 42 [PlA a b c d e f (.lit v1) (.lit v2)] [] K := by
  cases hg : planB a b c d e f xs ys with
  | false => rw [efR, hg] at h0; exact c_EffectsOfF a b c d e f v1 v2 xs ys h1 h2 hx hy hg K h0
  | true => rw [efR, hg] at h0; exact c_EffectsOfT a b c d e f v1 v2 xs ys h1 h2 hx hy hg K h0
theorem d_sEffectsOf (a b c d e f : Int) (s1 s2 : AV) (xs ys : List (List Int)) (h1 : Sli W0 σ 6 enI s1 xs) (h2 : Sli W0 σ 4 enI s2 ys) (hx : ∀ x ∈ xs, x.length = 6) (hy : ∀ x ∈ ys, x.length = 4) (hl : xs.length ≤ 1048576) (hl2 : ys.length ≤ 1048576) (K : Cont) (h0 : K (efR a b c d e f xs ys) σ) : ACall Try.prog W0 43 [PlA a b c d e f s1 s2] σ K :=
  lift_Pl (rest := []) (ι := Unit) (fun _ => efR a b c d e f xs ys) (fun τ => []) (by kernel_rfl) rfl h1 h2 (fun W1 v1 v2 q1 q2 K hK => c_sEffectsOf a b c d e f v1 v2 xs ys q1 q2 hx hy hl hl2 K (hK ())) K (fun _ => by
    rw [show shB σ.length [] = [] from rfl, List.append_nil, efR_sh]; exact h0)
theorem d_EffectsOf (a b c d e f : Int) (s1 s2 : AV) (xs ys : List (List Int)) (h1 : Sli W0 σ 6 enI s1 xs) (h2 : Sli W0 σ 4 enI s2 ys) (hx : ∀ x ∈ xs, x.length = 6) (hy : ∀ x ∈ ys, x.length = 4) (K : Cont) (h0 : K (efR a b c d e f xs ys) σ) : ACall Try.prog W0 42 [PlA a b c d e f s1 s2] σ K :=
  lift_Pl (rest := []) (ι := Unit) (fun _ => efR a b c d e f xs ys) (fun τ => []) (by kernel_rfl) rfl h1 h2 (fun W1 v1 v2 q1 q2 K hK => c_EffectsOf a b c d e f v1 v2 xs ys q1 q2 hx hy K (hK ())) K (fun _ => by
    rw [show shB σ.length [] = [] from rfl, List.append_nil, efR_sh]; exact h0)
end Go.Proofs.Ytkcbhdjhbnnlgaa
end

section
/- Contracts: the law SameEffects. -/
set_option linter.unusedVariables false
set_option linter.unusedSimpArgs false
set_option maxRecDepth 100000
set_option maxHeartbeats 4000000
namespace Go.Proofs.Ytkcbhdjhbnnlgaa
open Go Go.RowKit Go.Proofs.Ytkcbhdjhbnnlgaa.Abs
variable {W0 : World} {σ : List Blk}
theorem litsA_pic : ∀ q : List Int, litsA (q.map I) = some (q.map (Value.int .i64))
  | [] => rfl
  | x :: q => by
    show litsA (I x :: q.map I) = _
    unfold litsA
    rw [litsA_pic q]; rfl
theorem eqC_pic : ∀ (q q' : List Int), q.length = q'.length → eqC (List.replicate q.length .int) (q.map (Value.int .i64)) (q'.map (Value.int .i64)) = some (decide (q = q'))
  | [], [], _ => rfl
  | x :: q, y :: q', h => by
    have ih := eqC_pic q q' (by simpa using h)
    show eqC (.int :: List.replicate q.length .int) (.int .i64 x :: q.map (Value.int .i64)) (.int .i64 y :: q'.map (Value.int .i64)) = _
    unfold eqC
    rw [if_pos rfl, ih]
    show some (decide (x = y) && decide (q = q')) = _
    rw [← Bool.decide_and]
    congr 1
    simp
theorem eqC36b {q q' : List Int} (hq : q.length = 36) (hq' : q'.length = 36) : eqC [.int, .int, .int, .int, .int, .int, .int, .int, .int, .int, .int, .int, .int, .int, .int, .int, .int, .int, .int, .int, .int, .int, .int, .int, .int, .int, .int, .int, .int, .int, .int, .int, .int, .int, .int, .int] (q.map (Value.int .i64)) (q'.map (Value.int .i64)) = some (decide (q = q')) := by
  have := eqC_pic q q' (by omega)
  rw [hq] at this
  exact this
theorem c_sSameEffectsT (a b c d e f a' b' c' d' e' f' : Int) (v1 v2 u1 u2 : Value) (xs ys xs' ys' : List (List Int)) (h1 : Sli W0 [] 6 enI (.lit v1) xs) (h2 : Sli W0 [] 4 enI (.lit v2) ys) (g1 : Sli W0 [] 6 enI (.lit u1) xs') (g2 : Sli W0 [] 4 enI (.lit u2) ys') (hx : ∀ x ∈ xs, x.length = 6) (hy : ∀ x ∈ ys, x.length = 4) (hx' : ∀ x ∈ xs', x.length = 6) (hy' : ∀ x ∈ ys', x.length = 4) (hl : xs.length ≤ 1048576) (hl2 : ys.length ≤ 1048576) (hl' : xs'.length ≤ 1048576) (hl2' : ys'.length ≤ 1048576) (hg1 : planB a b c d e f xs ys = true) (hg2 : planB a' b' c' d' e' f' xs' ys' = true) (K : Cont) (h0 : K (.tup [Bo (decide (efL xs ys = efL xs' ys')), Bo true]) []) : ACall Try.prog W0 53 [PlA a b c d e f (.lit v1) (.lit v2), PlA a' b' c' d' e' f' (.lit u1) (.lit u2)] [] K := by
  refine by53 (Nat.le_of_ble_eq_true rfl) ?_
  obtain ⟨_, hx4, hy40, hxa, hya⟩ := planB_iff.1 hg1
  obtain ⟨_, hx4', hy40', hxa', hya'⟩ := planB_iff.1 hg2
  have hq : (efL xs ys).length = 36 := effN_len _ _ (Nat.le_refl _)
  have hq' : (efL xs' ys').length = 36 := effN_len _ _ (Nat.le_refl _)
  have hc := fun (W : World) (σ : List Blk) K h => d_l11Effects (W0 := W) (σ := σ) (s1 := .lit v1) (s2 := .lit v2) (xs := xs) (ys := ys) (K := K) (h0 := h) (a := a) (b := b) (c := c) (d := d) (e := e) (f := f) (hx := hx) (hy := hy) (hxa := hxa) (hya := hya) (hl2 := hl2)
  have hc' := fun (W : World) (σ : List Blk) K h => d_l11Effects (W0 := W) (σ := σ) (s1 := .lit u1) (s2 := .lit u2) (xs := xs') (ys := ys') (K := K) (h0 := h) (a := a') (b := b') (c := c') (d := d') (e := e') (f := f') (hx := hx') (hy := hy') (hxa := hxa') (hya := hya') (hl2 := hl2')
  generalize efL xs ys = q at h0 hq hc
  generalize efL xs' ys' = q' at h0 hq' hc'
  repeat' ((conv => whnf); first | (refine Exists.intro ([] : List Nat) ?_) | (refine And.intro rfl ?_) | (refine And.intro (by decide +kernel) ?_) | (refine And.intro trivial ?_) | (refine d_l11Plan (h1 := sli_up h1) (h2 := sli_up h2) (hx := hx) (hy := hy) (hl := hl) (hl2 := hl2) (h0 := ?_) ..; rw [hg1]) | (refine d_l11Plan (h1 := sli_up g1) (h2 := sli_up g2) (hx := hx') (hy := hy') (hl := hl') (hl2 := hl2') (h0 := ?_) ..; rw [hg2]) | (refine Exists.intro _ (And.intro (fun τ => callW_fn (hc _ _ _ (And.intro rfl rfl) (sli_up h1) (sli_up h2))) ?_)) | (refine Exists.intro _ (And.intro (fun τ => callW_fn (hc' _ _ _ (And.intro rfl rfl) (sli_up g1) (sli_up g2))) ?_)) | (rw [litsA_pic, litsA_pic]) | (rw [eqC36b hq hq']) | (refine Exists.intro _ (And.intro rfl (And.intro rfl (And.intro (Nat.le_of_ble_eq_true rfl) ?_)))) | (refine Exists.intro _ (And.intro rfl (And.intro rfl (And.intro rfl (And.intro (Nat.le_of_ble_eq_true rfl) ?_))))) | (refine And.intro (Exists.intro _ (And.intro rfl rfl)) ?_) | (exact fun hW => absurd hW (by decide +kernel)) | (intro hW; (try simp only [Bool.not_true, Bool.not_false, Bool.not_eq_true', Bool.not_eq_false', decide_eq_true_eq, decide_eq_false_iff_not, reduceCtorEq, Bool.true_eq_false, Bool.false_eq_true, mk_size, List.size_toArray, ByteArray.size_append, ByteArray.size_extract, List.length_cons, List.length_nil, ba_get, ba_empty, Int.toNat_natCast] at hW)) | (refine And.intro (?_ : _ → _) (?_ : _ → _)) | (refine FinR.drop 0 (Nat.zero_le _) (Closed.zero _) rfl ?_) | (refine FinR.keep ?_) | (refine And.intro (det3_agg rfl) ?_) | (refine fL_mk ?_) | (refine And.intro (by (try simp only [mk_size, List.size_toArray, ByteArray.size_append, ByteArray.size_extract, List.length_cons, List.length_nil]); omega) ?_) | (refine And.intro (by (try simp only [mk_size, List.size_toArray, ByteArray.size_append, ByteArray.size_extract, List.length_cons, List.length_nil, wrap64_eq]); omega) ?_) | fail)
  all_goals first | exact h0 | (exfalso; omega) | (exfalso; simp_all; done) | skip
theorem same_eq (xs ys xs' ys' : List (List Int)) (hx : ∀ x ∈ xs, x.length = 6) (hy : ∀ x ∈ ys, x.length = 4) (hx' : ∀ x ∈ xs', x.length = 6) (hy' : ∀ x ∈ ys', x.length = 4) {m m' : Nat} (hxa : xs.all shRow = true) (hya : ys.all (stOk xs.length) = true) (hxa' : xs'.all shRow = true) (hya' : ys'.all (stOk xs'.length) = true) :
    decide (efL xs ys = efL xs' ys') = (decide (((runN (fsOf xs ys) 0 : Nat) : Int) = (runN (fsOf xs' ys') 0 : Nat)) && (decide (((runN (fsOf xs ys) fullN : Nat) : Int) = (runN (fsOf xs' ys') fullN : Nat)) && true)) := by
  have hfo := fsOf_ok hx hy hxa hya
  have hfo' := fsOf_ok hx' hy' hxa' hya'
  have hh := effN_eq (runN_lt hfo (show 0 < 2 ^ 36 by decide)) (runN_lt hfo (show fullN < 2 ^ 36 by decide)) (runN_lt hfo' (show 0 < 2 ^ 36 by decide)) (runN_lt hfo' (show fullN < 2 ^ 36 by decide))
  rw [Bool.and_true, ← Bool.decide_and]
  refine decide_eq_decide.2 (hh.trans ?_)
  rw [Int.ofNat_inj, Int.ofNat_inj]
theorem sameR_sh (k : Nat) (g g' : Bool) (xs ys xs' ys' : List (List Int)) : sh3 k (sameR g g' xs ys xs' ys') = sameR g g' xs ys xs' ys' := by unfold sameR; split <;> rfl
theorem c_sSameEffects (a b c d e f a' b' c' d' e' f' : Int) (v1 v2 u1 u2 : Value) (xs ys xs' ys' : List (List Int)) (h1 : Sli W0 [] 6 enI (.lit v1) xs) (h2 : Sli W0 [] 4 enI (.lit v2) ys) (g1 : Sli W0 [] 6 enI (.lit u1) xs') (g2 : Sli W0 [] 4 enI (.lit u2) ys') (hx : ∀ x ∈ xs, x.length = 6) (hy : ∀ x ∈ ys, x.length = 4) (hx' : ∀ x ∈ xs', x.length = 6) (hy' : ∀ x ∈ ys', x.length = 4) (hl : xs.length ≤ 1048576) (hl2 : ys.length ≤ 1048576) (hl' : xs'.length ≤ 1048576) (hl2' : ys'.length ≤ 1048576) (K : Cont) (h0 : K (sameR (planB a b c d e f xs ys) (planB a' b' c' d' e' f' xs' ys') xs ys xs' ys') []) : ACall Try.prog W0 53 [PlA a b c d e f (.lit v1) (.lit v2), PlA a' b' c' d' e' f' (.lit u1) (.lit u2)] [] K := by
  cases hg1 : planB a b c d e f xs ys with
  | false => exact c_sSameEffectsF a b c d e f a' b' c' d' e' f' v1 v2 u1 u2 xs ys xs' ys' h1 h2 g1 g2 hx hy hx' hy' hl hl2 hl' hl2' (by rw [hg1]; rfl) K (by rw [hg1] at h0; exact h0)
  | true =>
    cases hg2 : planB a' b' c' d' e' f' xs' ys' with
    | false => exact c_sSameEffectsF a b c d e f a' b' c' d' e' f' v1 v2 u1 u2 xs ys xs' ys' h1 h2 g1 g2 hx hy hx' hy' hl hl2 hl' hl2' (by rw [hg1, hg2]; rfl) K (by rw [hg1, hg2] at h0; exact h0)
    | true =>
      obtain ⟨_, hx4, hy40, hxa, hya⟩ := planB_iff.1 hg1
      obtain ⟨_, hx4', hy40', hxa', hya'⟩ := planB_iff.1 hg2
      rw [hg1, hg2] at h0
      refine c_sSameEffectsT a b c d e f a' b' c' d' e' f' v1 v2 u1 u2 xs ys xs' ys' h1 h2 g1 g2 hx hy hx' hy' hl hl2 hl' hl2' hg1 hg2 K ?_
      rw [same_eq (m := 0) (m' := 0) xs ys xs' ys' hx hy hx' hy' hxa hya hxa' hya']
      exact h0
theorem d_sSameEffects (a b c d e f a' b' c' d' e' f' : Int) (s1 s2 t1 t2 : AV) (xs ys xs' ys' : List (List Int)) (h1 : Sli W0 σ 6 enI s1 xs) (h2 : Sli W0 σ 4 enI s2 ys) (g1 : Sli W0 σ 6 enI t1 xs') (g2 : Sli W0 σ 4 enI t2 ys') (hx : ∀ x ∈ xs, x.length = 6) (hy : ∀ x ∈ ys, x.length = 4) (hx' : ∀ x ∈ xs', x.length = 6) (hy' : ∀ x ∈ ys', x.length = 4) (hl : xs.length ≤ 1048576) (hl2 : ys.length ≤ 1048576) (hl' : xs'.length ≤ 1048576) (hl2' : ys'.length ≤ 1048576) (K : Cont) (h0 : K (sameR (planB a b c d e f xs ys) (planB a' b' c' d' e' f' xs' ys') xs ys xs' ys') σ) : ACall Try.prog W0 53 [PlA a b c d e f s1 s2, PlA a' b' c' d' e' f' t1 t2] σ K :=
  lift_PlPl (by kernel_rfl) (fun k => sameR_sh k _ _ _ _ _ _) h1 h2 g1 g2 (fun W1 v1 v2 u1 u2 q1 q2 q3 q4 K hK => c_sSameEffects a b c d e f a' b' c' d' e' f' v1 v2 u1 u2 xs ys xs' ys' q1 q2 q3 q4 hx hy hx' hy' hl hl2 hl' hl2' K hK) K h0
theorem d_SameEffects (a b c d e f a' b' c' d' e' f' : Int) (s1 s2 t1 t2 : AV) (xs ys xs' ys' : List (List Int)) (h1 : Sli W0 σ 6 enI s1 xs) (h2 : Sli W0 σ 4 enI s2 ys) (g1 : Sli W0 σ 6 enI t1 xs') (g2 : Sli W0 σ 4 enI t2 ys') (hx : ∀ x ∈ xs, x.length = 6) (hy : ∀ x ∈ ys, x.length = 4) (hx' : ∀ x ∈ xs', x.length = 6) (hy' : ∀ x ∈ ys', x.length = 4) (K : Cont) (h0 : K (sameR (planB a b c d e f xs ys) (planB a' b' c' d' e' f' xs' ys') xs ys xs' ys') σ) : ACall Try.prog W0 52 [PlA a b c d e f s1 s2, PlA a' b' c' d' e' f' t1 t2] σ K :=
  lift_PlPl (by kernel_rfl) (fun k => sameR_sh k _ _ _ _ _ _) h1 h2 g1 g2 (fun W1 v1 v2 u1 u2 q1 q2 q3 q4 K hK => c_SameEffects a b c d e f a' b' c' d' e' f' v1 v2 u1 u2 xs ys xs' ys' q1 q2 q3 q4 hx hy hx' hy' K hK) K h0
end Go.Proofs.Ytkcbhdjhbnnlgaa
end

section
/- Contracts: lists of steps turned round. -/
set_option linter.unusedVariables false
set_option linter.unusedSimpArgs false
set_option maxRecDepth 100000
set_option maxHeartbeats 4000000
namespace Go.Proofs.Ytkcbhdjhbnnlgaa
open Go Go.RowKit Go.Proofs.Ytkcbhdjhbnnlgaa.Abs
variable {W0 : World} {σ : List Blk}
theorem jc_appB (l m : List (List Int)) : jc (l ++ m) = jc l ++ jc m := by simp [jc]
theorem jc_split {l : List (List Int)} {i : Nat} {x : List Int} (h : l[i]? = some x) : jc l = jc (l.take i) ++ (x.map I ++ jc (l.drop (i + 1))) := by
  have hlt := getElem?_lt h
  have hx : l[i] = x := by rw [List.getElem?_eq_getElem hlt] at h; exact Option.some.inj h
  have e : l = l.take i ++ (x :: l.drop (i + 1)) := by rw [← hx, ← List.drop_eq_getElem_cons hlt, List.take_append_drop]
  conv => lhs; rw [e]
  rw [jc_appB]; rfl
theorem jc_pre {s : Nat} {l : List (List Int)} (hl : ∀ x ∈ l, x.length = s) {i : Nat} (hi : i ≤ l.length) : (jc (l.take i)).length = i * s := by
  rw [jc_len (s := s) fun x h => hl x (List.mem_of_mem_take h), List.length_take, Nat.min_eq_left hi]
theorem jc_rowB {s : Nat} {l : List (List Int)} (hl : ∀ x ∈ l, x.length = s) {i : Nat} {x : List Int} (h : l[i]? = some x) : ((jc l).drop (i * s)).take s = x.map I := by
  have hlt := getElem?_lt h
  have hp := jc_pre hl (Nat.le_of_lt hlt)
  have hx := hl x (List.mem_of_getElem? h)
  rw [jc_split h, List.drop_left' hp, List.take_left' (by rw [List.length_map]; exact hx)]
theorem jc_setB {s : Nat} {l : List (List Int)} (hl : ∀ x ∈ l, x.length = s) {i : Nat} {x : List Int} (y : List Int) (h : l[i]? = some x) : (jc l).take (i * s) ++ y.map I ++ (jc l).drop (i * s + s) = jc (l.set i y) := by
  have hlt := getElem?_lt h
  have hp := jc_pre hl (Nat.le_of_lt hlt)
  have hx := hl x (List.mem_of_getElem? h)
  have e : l.set i y = l.take i ++ (y :: l.drop (i + 1)) := List.set_eq_take_append_cons_drop .. |>.trans (by rw [if_pos hlt])
  rw [e, jc_appB, jc_split h, List.take_left' hp, ← List.drop_drop, List.drop_left' hp, List.drop_left' (by rw [List.length_map]; exact hx)]
  simp [jc]
theorem st_rowB {C : List Blk → Prop} {b r off : Nat} {l : List (List Int)} {i : Nat} {x : List Int} (y : List Int) (hB : σ[b]? = some (stK l r)) (hl : ∀ x ∈ l, x.length = 4) (hi : l[i]? = some x) (hy : y.length = 4) (ho : off = i * 4) (h : C (σ.set b (stK (l.set i y) r))) :
    ∃ B', σ[b]? = some B' ∧ B'.ver = r ∧ (y.map I).length = 4 ∧ off + 4 ≤ B'.cells.length ∧ fS (σ.set b { B' with cells := B'.cells.take off ++ y.map I ++ B'.cells.drop (off + 4) }) C := by
  subst ho
  have hlt := getElem?_lt hi
  refine ⟨_, hB, rfl, by rw [List.length_map]; exact hy, ?_, ?_⟩
  · show i * 4 + 4 ≤ (jc l).length
    rw [jc_len (s := 4) hl]; omega
  · rw [fS_eq]
    show C (σ.set b ⟨(jc l).take (i * 4) ++ y.map I ++ (jc l).drop (i * 4 + 4), r, _, 4, true, true⟩)
    rw [jc_setB hl y hi]
    exact h
end Go.Proofs.Ytkcbhdjhbnnlgaa
end

section
/- Contracts: BackPlan by the reference. -/
set_option linter.unusedVariables false
set_option linter.unusedSimpArgs false
set_option maxRecDepth 100000
set_option maxHeartbeats 4000000
namespace Go.Proofs.Ytkcbhdjhbnnlgaa
open Go Go.RowKit Go.Proofs.Ytkcbhdjhbnnlgaa.Abs
variable {W0 : World} {σ : List Blk}
theorem sli_rowsE {xs : List (List Int)} {b ver s n cap : Nat} {C : List AV} {e : TypeId} {z : Nat} {r m : Bool} (hx : ∀ x ∈ xs, x.length = s) (hb : σ[b]? = some ⟨C, ver, e, z, r, m⟩) (hC : C = jc xs) (hn : n = xs.length) : Sli W0 σ s enI (.sl b ver 0 n cap) xs := by
  subst hC; subst hn; exact sli_rows hx hb
end Go.Proofs.Ytkcbhdjhbnnlgaa
end

section
/- Contracts: the law CanSwap. -/
set_option linter.unusedVariables false
set_option linter.unusedSimpArgs false
set_option maxRecDepth 100000
set_option maxHeartbeats 4000000
namespace Go.Proofs.Ytkcbhdjhbnnlgaa
open Go Go.RowKit Go.Proofs.Ytkcbhdjhbnnlgaa.Abs
variable {W0 : World} {σ : List Blk}
def swL (ys : List (List Int)) (k : Nat) : List (List Int) := (ys.set k (ys.getD (k + 1) [])).set (k + 1) (ys.getD k [])
theorem swL_len (ys : List (List Int)) (k : Nat) : (swL ys k).length = ys.length := by unfold swL; rw [List.length_set, List.length_set]
theorem swL_eq {ys : List (List Int)} {k : Nat} {r0 r1 : List Int} (h0 : ys[k]? = some r0) (h1 : ys[k + 1]? = some r1) : swL ys k = (ys.set k r1).set (k + 1) r0 := by
  unfold swL; rw [List.getD_eq_getElem?_getD, List.getD_eq_getElem?_getD, h0, h1]; rfl
theorem swL_mem {ys : List (List Int)} {k : Nat} (hk : k + 2 ≤ ys.length) {x : List Int} (h : x ∈ swL ys k) : x ∈ ys := by
  have e0 : ys[k]? = some ys[k] := List.getElem?_eq_getElem (by omega)
  have e1 : ys[k + 1]? = some ys[k + 1] := List.getElem?_eq_getElem (by omega)
  rw [swL_eq e0 e1] at h
  rcases List.mem_or_eq_of_mem_set h with h | rfl
  · rcases List.mem_or_eq_of_mem_set h with h | rfl
    · exact h
    · exact List.getElem_mem _
  · exact List.getElem_mem _
theorem swL_fs {xs ys : List (List Int)} {k : Nat} {u v : Nat × Nat} (hk : k + 2 ≤ ys.length) (hu : (fsOf xs ys)[k]? = some u) (hv : (fsOf xs ys)[k + 1]? = some v) : fsOf xs (swL ys k) = ((fsOf xs ys).set k v).set (k + 1) u := by
  have e0 : ys[k]? = some ys[k] := List.getElem?_eq_getElem (by omega)
  have e1 : ys[k + 1]? = some ys[k + 1] := List.getElem?_eq_getElem (by omega)
  rw [swL_eq e0 e1]
  unfold fsOf at hu hv ⊢
  rw [List.getElem?_map, e0] at hu
  rw [List.getElem?_map, e1] at hv
  rw [List.map_set, List.map_set, ← Option.some.inj hu, ← Option.some.inj hv]
def canR (a b c d e f : Int) (xs ys : List (List Int)) (k : Int) : AV := if planB a b c d e f xs ys = true ∧ 0 ≤ k ∧ k + 2 ≤ ys.length then .tup [Bo (decide (efL xs ys = efL xs (swL ys k.toNat))), Bo true] else .tup [Bo false, Bo false]
theorem canR_sh (j : Nat) (a b c d e f : Int) (xs ys : List (List Int)) (k : Int) : sh3 j (canR a b c d e f xs ys k) = canR a b c d e f xs ys k := by unfold canR; split <;> rfl
theorem c_CanSwap (a b c d e f : Int) (v1 v2 : Value) (xs ys : List (List Int)) (h1 : Sli W0 [] 6 enI (.lit v1) xs) (h2 : Sli W0 [] 4 enI (.lit v2) ys) (hx : ∀ x ∈ xs, x.length = 6) (hy : ∀ x ∈ ys, x.length = 4) (k : Int) (K : Cont) (h0 : K (canR a b c d e f xs ys k) []) : ACall Try.prog W0 55 [PlA a b c d e f (.lit v1) (.lit v2), I k] [] K := by
  by_cases hg : planB a b c d e f xs ys = true ∧ 0 ≤ k ∧ k + 2 ≤ ys.length
  · rw [canR, if_pos hg] at h0
    obtain ⟨hg, hk0, hk2⟩ := hg
    obtain ⟨m, rfl⟩ := Int.eq_ofNat_of_zero_le hk0
    rw [show ((m : Nat) : Int).toNat = m from rfl] at h0
    have hm2 : m + 2 ≤ ys.length := by omega
    have hfl := fsOf_len xs ys
    have hu : (fsOf xs ys)[m]? = some (fsOf xs ys)[m] := List.getElem?_eq_getElem (by omega)
    have hv : (fsOf xs ys)[m + 1]? = some (fsOf xs ys)[m + 1] := List.getElem?_eq_getElem (by omega)
    obtain ⟨_, hx4, hy40, hxa, hya⟩ := planB_iff.1 hg
    have hy' : ∀ x ∈ swL ys m, x.length = 4 := fun x h => hy x (swL_mem hm2 h)
    have hya' : (swL ys m).all (stOk xs.length) = true := List.all_eq_true.2 fun x h => List.all_eq_true.1 hya x (swL_mem hm2 h)
    rw [same_eq (m := 0) (m' := 0) xs ys xs (swL ys m) hx hy hx hy' hxa hya hxa hya'] at h0
    exact c_SwapT a b c d e f v1 v2 xs ys m (fsOf xs (swL ys m)) _ _ hu hv (swL_fs hm2 hu hv) h1 h2 hx hy hg hm2 K h0
  · rw [canR, if_neg hg] at h0
    refine by55 (Nat.le_of_ble_eq_true rfl) ?_
    obtain ⟨o2, n2, cap2, hv2, hn2, hc2, hm2, hf2⟩ := sli_form h2
    cases hv2
    subst hn2
    cases hp : planB a b c d e f xs ys with
    | false =>
      repeat' ((conv => whnf); first | (refine Exists.intro ([] : List Nat) ?_) | (refine And.intro rfl ?_) | (refine And.intro (by decide +kernel) ?_) | (refine And.intro trivial ?_) | (refine d_planOfF (h1 := sli_up h1) (h2 := sli_up h2) (hx := hx) (hy := hy) (hg := hp) (h0 := ?_) ..) | (refine Exists.intro _ (And.intro rfl (And.intro rfl (And.intro (Nat.le_of_ble_eq_true rfl) ?_)))) | (refine Exists.intro _ (And.intro rfl (And.intro rfl (And.intro rfl (And.intro (Nat.le_of_ble_eq_true rfl) ?_))))) | (refine And.intro (Exists.intro _ (And.intro rfl rfl)) ?_) | (exact fun hW => absurd hW (by decide +kernel)) | (intro hW; (try simp only [Bool.not_true, Bool.not_false, Bool.not_eq_true', Bool.not_eq_false', decide_eq_true_eq, decide_eq_false_iff_not, reduceCtorEq, Bool.true_eq_false, Bool.false_eq_true, mk_size, List.size_toArray, ByteArray.size_append, ByteArray.size_extract, List.length_cons, List.length_nil, ba_get, ba_empty, Int.toNat_natCast] at hW)) | (refine And.intro (?_ : _ → _) (?_ : _ → _)) | (refine FinR.drop 0 (Nat.zero_le _) (Closed.zero _) rfl ?_) | (refine FinR.keep ?_) | (refine And.intro (det3_agg rfl) ?_) | (refine fL_mk ?_) | (refine And.intro (by (try simp only [mk_size, List.size_toArray, ByteArray.size_append, ByteArray.size_extract, List.length_cons, List.length_nil]); omega) ?_) | (refine And.intro (by (try simp only [mk_size, List.size_toArray, ByteArray.size_append, ByteArray.size_extract, List.length_cons, List.length_nil, wrap64_eq]); omega) ?_) | fail)
      all_goals first | exact h0 | (exfalso; omega) | (exfalso; simp_all; done)
    | true =>
      obtain ⟨_, hx4, hy40, hxa, hya⟩ := planB_iff.1 hp
      have ew2 : IntKind.i64.wrap ((ys.length : Nat) - 2 : Int) = (ys.length : Nat) - 2 := wrap_i64 _ (by omega) (by omega)
      have hk : ¬ (0 ≤ k ∧ k + 2 ≤ ys.length) := fun h => hg ⟨hp, h⟩
      repeat' ((conv => whnf); first | (rw [ew2]) | (refine Exists.intro ([] : List Nat) ?_) | (refine And.intro rfl ?_) | (refine And.intro (by decide +kernel) ?_) | (refine And.intro trivial ?_) | (refine fS_mk ?_) | (refine d_planOfS (h1 := sli_up h1) (h2 := sli_up h2) (hx := hx) (hy := hy) (hg := hp) (h0 := fun S p hpp hkk hl => ?_) ..; have k0 := hkk 0 _ rfl) | (refine And.intro ⟨_, k0, rfl⟩ ?_) | (refine Exists.intro _ (And.intro k0 (And.intro rfl (And.intro (Nat.le_of_ble_eq_true rfl) ?_)))) | (refine Exists.intro _ (And.intro rfl (And.intro rfl (And.intro (Nat.le_of_ble_eq_true rfl) ?_)))) | (refine Exists.intro _ (And.intro rfl (And.intro rfl (And.intro rfl (And.intro (Nat.le_of_ble_eq_true rfl) ?_))))) | (refine And.intro (Exists.intro _ (And.intro rfl rfl)) ?_) | (exact fun hW => absurd hW (by decide +kernel)) | (intro hW; (try simp only [Bool.not_true, Bool.not_false, Bool.not_eq_true', Bool.not_eq_false', decide_eq_true_eq, decide_eq_false_iff_not, reduceCtorEq, Bool.true_eq_false, Bool.false_eq_true, mk_size, List.size_toArray, ByteArray.size_append, ByteArray.size_extract, List.length_cons, List.length_nil, ba_get, ba_empty, Int.toNat_natCast] at hW)) | (refine And.intro (?_ : _ → _) (?_ : _ → _)) | (refine FinR.drop 0 (Nat.zero_le _) (Closed.zero _) rfl ?_) | (refine FinR.keep ?_) | (refine And.intro (det3_agg rfl) ?_) | (refine fL_mk ?_) | (refine And.intro (by (try simp only [mk_size, List.size_toArray, ByteArray.size_append, ByteArray.size_extract, List.length_cons, List.length_nil]); omega) ?_) | (refine And.intro (by (try simp only [mk_size, List.size_toArray, ByteArray.size_append, ByteArray.size_extract, List.length_cons, List.length_nil, wrap64_eq]); omega) ?_) | fail)
      all_goals first | exact h0 | (exfalso; omega) | (exfalso; simp_all; omega) | skip
theorem c_sSwapT (a b c d e f : Int) (o1 : Addr) (m1 c1 : Nat) (o2 : Addr) (m2 c2 : Nat) (xs ys : List (List Int)) (h1 : Sli W0 [] 6 enI (.lit (.slice (some o1) m1 c1)) xs) (h2 : Sli W0 [] 4 enI (.lit (.slice (some o2) m2 c2)) ys) (hx : ∀ x ∈ xs, x.length = 6) (hy : ∀ x ∈ ys, x.length = 4) (hl : xs.length ≤ 1048576) (hl2 : ys.length ≤ 1048576) (k : Nat) (hg : planB a b c d e f xs ys = true) (hk : k + 2 ≤ ys.length) (K : Cont) (h0 : K (.tup [Bo (decide (efL xs ys = efL xs (swL ys k))), Bo true]) []) : ACall Try.prog W0 56 [PlA a b c d e f (.lit (.slice (some o1) m1 c1)) (.lit (.slice (some o2) m2 c2)), I k] [] K := by
  refine by56 (Nat.le_of_ble_eq_true rfl) ?_
  obtain ⟨_, hx4, hy40, hxa, hya⟩ := planB_iff.1 hg
  obtain ⟨o2', n2, cap2, hv2, hn2, hc2, hm2, hf2⟩ := sli_form h2
  cases hv2
  subst hn2
  obtain ⟨x0, x1, x2, x3, hr0⟩ := row4x hy (show k < ys.length by omega)
  obtain ⟨y0, y1, y2, y3, hr1⟩ := row4x hy (show k + 1 < ys.length by omega)
  obtain ⟨ad, e, hb, hxx⟩ := hf2 _ _ hr0
  cases e
  have hld0 := fun C h => ldIn (W0 := W0) (s := 4) (enc := enI) hb hxx hr0 rfl (C := C) h
  have hld1 := fun C h => ldIn (W0 := W0) (s := 4) (enc := enI) hb hxx hr1 rfl (C := C) h
  have ew : IntKind.i64.wrap ((k : Nat) + 1 : Int) = ((k + 1 : Nat) : Int) := wsucc' k (by omega)
  have ew2 : IntKind.i64.wrap ((ys.length : Nat) - 2 : Int) = (ys.length : Nat) - 2 := wrap_i64 _ (by omega) (by omega)
  have hin : inB k 0 ((ys.length : Nat) - 2 : Int) = true := by simp [inB]; omega
  have hy' : ∀ x ∈ swL ys k, x.length = 4 := fun x h => hy x (swL_mem hk h)
  have hya' : (swL ys k).all (stOk xs.length) = true := List.all_eq_true.2 fun x h => List.all_eq_true.1 hya x (swL_mem hk h)
  have hsl := swL_len ys k
  have hsw := swL_eq hr0 hr1
  have hq : (efL xs ys).length = 36 := effN_len _ _ (Nat.le_refl _)
  have hq' : (efL xs (swL ys k)).length = 36 := effN_len _ _ (Nat.le_refl _)
  have hc := fun (W : World) (σ : List Blk) K h => d_l11Effects (W0 := W) (σ := σ) (s1 := .lit (.slice (some o1) m1 c1)) (s2 := .lit (.slice (some o2) ys.length c2)) (xs := xs) (ys := ys) (K := K) (h0 := h) (a := a) (b := b) (c := c) (d := d) (e := e) (f := f) (hx := hx) (hy := hy) (hxa := hxa) (hya := hya) (hl2 := hl2)
  have hc' := fun (σ : List Blk) (s1 s2 : AV) q1 q2 K h => d_l11Effects (W0 := W0) (σ := σ) (s1 := s1) (s2 := s2) (xs := xs) (ys := swL ys k) (K := K) (h0 := h) (a := a) (b := b) (c := c) (d := d) (e := e) (f := f) (h1 := q1) (h2 := q2) (hx := hx) (hy := hy') (hxa := hxa) (hya := hya') (hl2 := by omega)
  generalize efL xs ys = q at h0 hq hc
  generalize efL xs (swL ys k) = q' at h0 hq' hc'
  rw [hsw] at hc' hsl hy'
  have hl41 : ∀ x ∈ ys.set k [y0, y1, y2, y3], x.length = 4 := fun x h => by
    rcases List.mem_or_eq_of_mem_set h with h | rfl
    · exact hy x h
    · rfl
  have hr1' : (ys.set k [y0, y1, y2, y3])[k + 1]? = some [y0, y1, y2, y3] := by rw [List.getElem?_set_ne (by omega)]; exact hr1
  have ho0 : 0 + ((k : Nat) : Int).toNat * 4 = k * 4 := by rw [Int.toNat_natCast]; omega
  have ho1 : 0 + ((k + 1 : Nat) : Int).toNat * 4 = (k + 1) * 4 := by rw [Int.toNat_natCast]; omega
  repeat' ((conv => whnf); first | (rw [ew]) | (rw [ew2]) | (refine Exists.intro ([] : List Nat) ?_) | (refine And.intro rfl ?_) | (refine And.intro (by decide +kernel) ?_) | (refine And.intro trivial ?_) | (refine fS_mk ?_) | (refine d_l11Plan (h1 := sli_up h1) (h2 := sli_up h2) (hx := hx) (hy := hy) (hl := hl) (hl2 := hl2) (h0 := ?_) ..; rw [hg]) | (refine d_l1In (h0 := ?_) ..) | (refine Exists.intro _ (And.intro (fun τ => callW_fn (d_l1In (h0 := And.intro rfl rfl) ..)) ?_)) | (refine Exists.intro _ (And.intro (callW_fn (d_l1In (h0 := And.intro rfl rfl) ..)) (And.intro trivial ?_))) | (refine Exists.intro _ (And.intro (callW_fn (d_l1In (h0 := And.intro rfl rfl) ..)) ?_)) | (refine Exists.intro _ (And.intro (fun τ _ => callW_fn (d_l1In (h0 := And.intro rfl rfl) ..)) ?_)) | (refine d_l11Own (h1 := sli_up h1) (h2 := sli_up h2) (h3 := sli_up h2) (n1 := lit_nn) (n2 := lit_nn) (n3 := lit_nn) (hx := hx) (hz := hy) (hl := by omega) (hl2 := by omega) (h0 := fun S b1 w1 z1 b2 w2 z2 e1 e2 g1 g2 hkk => ?_) ..; have k0 := hkk 0 _ rfl; have l1 := getElem?_lt e1; have l2 := getElem?_lt e2; simp only [List.length_cons, List.length_nil] at g1 g2; have hb12 := ne_of_64 e1 e2) | (refine And.intro ⟨_, getl, rfl⟩ ?_) | (refine And.intro ⟨_, get_ne getl (by omega), rfl⟩ ?_) | (refine And.intro ⟨_, getx1 e2, rfl⟩ ?_) | (refine And.intro ⟨_, get_set (getx1 e2), rfl⟩ ?_) | (refine And.intro ⟨_, getx1 k0, rfl⟩ ?_) | (refine And.intro ⟨_, get_ne (getx1 k0) (show b2 ≠ 0 by omega), rfl⟩ ?_) | (refine hld1 _ ?_) | (refine hld0 _ ?_) | (refine st_rowB [y0, y1, y2, y3] (getx1 e2) hy hr0 rfl ho0 ?_) | (refine st_rowB [x0, x1, x2, x3] (get_set (getx1 e2)) hl41 hr1' rfl ho1 ?_) | (refine Exists.intro _ (And.intro (fun τ => callW_fn (hc _ _ _ (And.intro rfl rfl) (sli_up h1) (sli_up h2))) ?_)) | (refine Exists.intro _ (And.intro (fun τ => callW_fn (hc' _ _ _ (sli_box (sli_rows hx (get_ne (get_ne (getx1 e1) hb12.symm) hb12.symm))) (sli_box (sli_rowsE hy' (get_set (get_set (getx1 e2))) rfl hsl.symm)) _ (And.intro rfl rfl))) ?_)) | (rw [litsA_pic, litsA_pic]) | (rw [eqC36b hq hq']) | (refine Exists.intro _ (And.intro getl (And.intro rfl (And.intro rfl (And.intro (Nat.le_of_ble_eq_true rfl) ?_)))); rw [set_last]) | (refine Exists.intro _ (And.intro getl (And.intro rfl (And.intro (Nat.le_of_ble_eq_true rfl) ?_)))) | (refine Exists.intro _ (And.intro (get_ne getl (by omega)) (And.intro rfl (And.intro (Nat.le_of_ble_eq_true rfl) ?_)))) | (refine Exists.intro _ (And.intro (get_ne (get_ne getl (by omega)) (by omega)) (And.intro rfl (And.intro (Nat.le_of_ble_eq_true rfl) ?_)))) | (refine Exists.intro _ (And.intro (getx1 k0) (And.intro rfl (And.intro (Nat.le_of_ble_eq_true rfl) ?_)))) | (refine Exists.intro _ (And.intro (get_ne (getx1 k0) (show b2 ≠ 0 by omega)) (And.intro rfl (And.intro (Nat.le_of_ble_eq_true rfl) ?_)))) | (refine Exists.intro _ (And.intro (get_ne (get_ne (getx1 k0) (show b2 ≠ 0 by omega)) (show b2 ≠ 0 by omega)) (And.intro rfl (And.intro (Nat.le_of_ble_eq_true rfl) ?_)))) | (refine Exists.intro _ (And.intro rfl (And.intro rfl (And.intro (Nat.le_of_ble_eq_true rfl) ?_)))) | (refine Exists.intro _ (And.intro rfl (And.intro rfl (And.intro rfl (And.intro (Nat.le_of_ble_eq_true rfl) ?_))))) | (refine And.intro (Exists.intro _ (And.intro rfl rfl)) ?_) | (exact fun hW => absurd hW (by decide +kernel)) | (intro hW; (try simp only [Bool.not_true, Bool.not_false, Bool.not_eq_true', Bool.not_eq_false', decide_eq_true_eq, decide_eq_false_iff_not, reduceCtorEq, Bool.true_eq_false, Bool.false_eq_true, mk_size, List.size_toArray, ByteArray.size_append, ByteArray.size_extract, List.length_cons, List.length_nil, ba_get, ba_empty, Int.toNat_natCast] at hW)) | (refine And.intro (?_ : _ → _) (?_ : _ → _)) | (refine FinR.drop 0 (Nat.zero_le _) (Closed.zero _) rfl ?_) | (refine FinR.keep ?_) | (refine And.intro (det3_agg rfl) ?_) | (refine fL_mk ?_) | (refine And.intro (by (try simp only [mk_size, List.size_toArray, ByteArray.size_append, ByteArray.size_extract, List.length_cons, List.length_nil]); omega) ?_) | (refine And.intro (by (try simp only [mk_size, List.size_toArray, ByteArray.size_append, ByteArray.size_extract, List.length_cons, List.length_nil, wrap64_eq]); omega) ?_) | fail)
  all_goals first | (exfalso; omega) | (exfalso; simp_all; done) | exact h0 | skip
theorem c_sCanSwap (a b c d e f : Int) (o1 : Addr) (m1 c1 : Nat) (o2 : Addr) (m2 c2 : Nat) (xs ys : List (List Int)) (h1 : Sli W0 [] 6 enI (.lit (.slice (some o1) m1 c1)) xs) (h2 : Sli W0 [] 4 enI (.lit (.slice (some o2) m2 c2)) ys) (hx : ∀ x ∈ xs, x.length = 6) (hy : ∀ x ∈ ys, x.length = 4) (hl : xs.length ≤ 1048576) (hl2 : ys.length ≤ 1048576) (k : Int) (K : Cont) (h0 : K (canR a b c d e f xs ys k) []) : ACall Try.prog W0 56 [PlA a b c d e f (.lit (.slice (some o1) m1 c1)) (.lit (.slice (some o2) m2 c2)), I k] [] K := by
  by_cases hg : planB a b c d e f xs ys = true ∧ 0 ≤ k ∧ k + 2 ≤ ys.length
  · rw [canR, if_pos hg] at h0
    obtain ⟨hg, hk0, hk2⟩ := hg
    obtain ⟨m, rfl⟩ := Int.eq_ofNat_of_zero_le hk0
    rw [show ((m : Nat) : Int).toNat = m from rfl] at h0
    exact c_sSwapT a b c d e f o1 m1 c1 o2 m2 c2 xs ys h1 h2 hx hy hl hl2 m hg (by omega) K h0
  · rw [canR, if_neg hg] at h0
    refine by56 (Nat.le_of_ble_eq_true rfl) ?_
    have hn2 : m2 = ys.length := by cases h2 with | inn ad n cap xs hn hc hm hb hxx => exact hn
    subst hn2
    have ew2 : IntKind.i64.wrap ((ys.length : Nat) - 2 : Int) = (ys.length : Nat) - 2 := wrap_i64 _ (by omega) (by omega)
    cases hp : planB a b c d e f xs ys with
    | false =>
      repeat' ((conv => whnf); first | (refine Exists.intro ([] : List Nat) ?_) | (refine And.intro rfl ?_) | (refine And.intro (by decide +kernel) ?_) | (refine And.intro trivial ?_) | (refine d_l11Plan (h1 := sli_up h1) (h2 := sli_up h2) (hx := hx) (hy := hy) (hl := hl) (hl2 := hl2) (h0 := ?_) ..; rw [hp]) | (refine Exists.intro _ (And.intro rfl (And.intro rfl (And.intro (Nat.le_of_ble_eq_true rfl) ?_)))) | (refine Exists.intro _ (And.intro rfl (And.intro rfl (And.intro rfl (And.intro (Nat.le_of_ble_eq_true rfl) ?_))))) | (refine And.intro (Exists.intro _ (And.intro rfl rfl)) ?_) | (exact fun hW => absurd hW (by decide +kernel)) | (intro hW; (try simp only [Bool.not_true, Bool.not_false, Bool.not_eq_true', Bool.not_eq_false', decide_eq_true_eq, decide_eq_false_iff_not, reduceCtorEq, Bool.true_eq_false, Bool.false_eq_true, mk_size, List.size_toArray, ByteArray.size_append, ByteArray.size_extract, List.length_cons, List.length_nil, ba_get, ba_empty, Int.toNat_natCast] at hW)) | (refine And.intro (?_ : _ → _) (?_ : _ → _)) | (refine FinR.drop 0 (Nat.zero_le _) (Closed.zero _) rfl ?_) | (refine FinR.keep ?_) | (refine And.intro (det3_agg rfl) ?_) | (refine fL_mk ?_) | (refine And.intro (by (try simp only [mk_size, List.size_toArray, ByteArray.size_append, ByteArray.size_extract, List.length_cons, List.length_nil]); omega) ?_) | (refine And.intro (by (try simp only [mk_size, List.size_toArray, ByteArray.size_append, ByteArray.size_extract, List.length_cons, List.length_nil, wrap64_eq]); omega) ?_) | fail)
      all_goals first | exact h0 | (exfalso; omega) | (exfalso; simp_all; done)
    | true =>
      have hk : ¬ (0 ≤ k ∧ k + 2 ≤ ys.length) := fun h => hg ⟨hp, h⟩
      have hin : inB k 0 ((ys.length : Nat) - 2 : Int) = false := by rw [Bool.eq_false_iff]; intro h; simp [inB] at h; omega
      repeat' ((conv => whnf); first | (rw [ew2]) | (refine Exists.intro ([] : List Nat) ?_) | (refine And.intro rfl ?_) | (refine And.intro (by decide +kernel) ?_) | (refine And.intro trivial ?_) | (refine d_l11Plan (h1 := sli_up h1) (h2 := sli_up h2) (hx := hx) (hy := hy) (hl := hl) (hl2 := hl2) (h0 := ?_) ..; rw [hp]) | (refine d_l1In (h0 := ?_) ..) | (refine Exists.intro _ (And.intro (fun τ => callW_fn (d_l1In (h0 := And.intro rfl rfl) ..)) ?_)) | (refine Exists.intro _ (And.intro (callW_fn (d_l1In (h0 := And.intro rfl rfl) ..)) (And.intro trivial ?_))) | (refine Exists.intro _ (And.intro (callW_fn (d_l1In (h0 := And.intro rfl rfl) ..)) ?_)) | (refine Exists.intro _ (And.intro (fun τ _ => callW_fn (d_l1In (h0 := And.intro rfl rfl) ..)) ?_)) | (refine Exists.intro _ (And.intro rfl (And.intro rfl (And.intro (Nat.le_of_ble_eq_true rfl) ?_)))) | (refine Exists.intro _ (And.intro rfl (And.intro rfl (And.intro rfl (And.intro (Nat.le_of_ble_eq_true rfl) ?_))))) | (refine And.intro (Exists.intro _ (And.intro rfl rfl)) ?_) | (exact fun hW => absurd hW (by decide +kernel)) | (intro hW; (try simp only [Bool.not_true, Bool.not_false, Bool.not_eq_true', Bool.not_eq_false', decide_eq_true_eq, decide_eq_false_iff_not, reduceCtorEq, Bool.true_eq_false, Bool.false_eq_true, mk_size, List.size_toArray, ByteArray.size_append, ByteArray.size_extract, List.length_cons, List.length_nil, ba_get, ba_empty, Int.toNat_natCast] at hW)) | (refine And.intro (?_ : _ → _) (?_ : _ → _)) | (refine FinR.drop 0 (Nat.zero_le _) (Closed.zero _) rfl ?_) | (refine FinR.keep ?_) | (refine And.intro (det3_agg rfl) ?_) | (refine fL_mk ?_) | (refine And.intro (by (try simp only [mk_size, List.size_toArray, ByteArray.size_append, ByteArray.size_extract, List.length_cons, List.length_nil]); omega) ?_) | (refine And.intro (by (try simp only [mk_size, List.size_toArray, ByteArray.size_append, ByteArray.size_extract, List.length_cons, List.length_nil, wrap64_eq]); omega) ?_) | fail)
      all_goals first | exact h0 | (exfalso; omega) | (exfalso; simp_all; done)
theorem d_sCanSwap (a b c d e f : Int) (s1 s2 : AV) (xs ys : List (List Int)) (h1 : Sli W0 σ 6 enI s1 xs) (h2 : Sli W0 σ 4 enI s2 ys) (n1 : s1 ≠ nilA) (n2 : s2 ≠ nilA) (hx : ∀ x ∈ xs, x.length = 6) (hy : ∀ x ∈ ys, x.length = 4) (hl : xs.length ≤ 1048576) (hl2 : ys.length ≤ 1048576) (k : Int) (K : Cont) (h0 : K (canR a b c d e f xs ys k) σ) : ACall Try.prog W0 56 [PlA a b c d e f s1 s2, I k] σ K :=
  lift_PlN (rest := [I k]) (ι := Unit) (fun _ => canR a b c d e f xs ys k) (fun _ => []) (by kernel_rfl) rfl h1 h2 n1 n2 (fun W1 o1 m1 c1 o2 m2 c2 q1 q2 K hK => c_sCanSwap a b c d e f o1 m1 c1 o2 m2 c2 xs ys q1 q2 hx hy hl hl2 k K (hK ())) K (fun _ => by
    rw [show shB σ.length [] = [] from rfl, List.append_nil, canR_sh]; exact h0)
theorem d_CanSwap (a b c d e f : Int) (s1 s2 : AV) (xs ys : List (List Int)) (h1 : Sli W0 σ 6 enI s1 xs) (h2 : Sli W0 σ 4 enI s2 ys) (hx : ∀ x ∈ xs, x.length = 6) (hy : ∀ x ∈ ys, x.length = 4) (k : Int) (K : Cont) (h0 : K (canR a b c d e f xs ys k) σ) : ACall Try.prog W0 55 [PlA a b c d e f s1 s2, I k] σ K :=
  lift_Pl (rest := [I k]) (ι := Unit) (fun _ => canR a b c d e f xs ys k) (fun _ => []) (by kernel_rfl) rfl h1 h2 (fun W1 v1 v2 q1 q2 K hK => c_CanSwap a b c d e f v1 v2 xs ys q1 q2 hx hy k K (hK ())) K (fun _ => by
    rw [show shB σ.length [] = [] from rfl, List.append_nil, canR_sh]; exact h0)
end Go.Proofs.Ytkcbhdjhbnnlgaa
end

section
/- Contracts: two plans drawn. -/
set_option linter.unusedVariables false
set_option linter.unusedSimpArgs false
set_option maxRecDepth 100000
set_option maxHeartbeats 8000000
namespace Go.Proofs.Ytkcbhdjhbnnlgaa
open Go Go.RowKit Go.Proofs.Ytkcbhdjhbnnlgaa.Abs
variable {W0 : World} {σ : List Blk}
/-- a plan's slices at two blocks -/
structure PDat (S : List Blk) where
  (a1 a2 a3 a4 a5 a6 : Int)
  (ss ts : List (List Int))
  (b1 r1 c1 b2 r2 c2 m2 : Nat)
  hm : m2 = ts.length
  e1 : S[b1]? = some (shK ss r1)
  e2 : S[b2]? = some (stK ts r2)
  h6 : ∀ x ∈ ss, x.length = 6
  h4 : ∀ x ∈ ts, x.length = 4
  l1 : ss.length ≤ 100
  l2 : ts.length ≤ 100
abbrev PDat.av {S : List Blk} (d : PDat S) : AV := PlA d.a1 d.a2 d.a3 d.a4 d.a5 d.a6 (.sl d.b1 d.r1 0 d.ss.length d.c1) (.sl d.b2 d.r2 0 d.m2 d.c2)
theorem CurAt.keep {b n : Nat} {v : Value} {R S : List Blk} (h : CurAt b v n R) (hk : ∀ (j : Nat) (B : Blk), R[j]? = some B → S[j]? = some B) : CurAt b v n S := by
  obtain ⟨a, sd, h1, h2⟩ := h
  exact ⟨a, sd, h1, hk _ _ h2⟩
theorem keep_len {R S : List Blk} (hk : ∀ (j : Nat) (B : Blk), R[j]? = some B → S[j]? = some B) : R.length ≤ S.length := by
  refine Nat.le_of_not_lt fun h => ?_
  have h1 := hk S.length R[S.length] (List.getElem?_eq_getElem h)
  have := getElem?_lt h1
  omega
theorem ldRow {T : List Blk} {b r off i : Nat} {l : List (List Int)} {y0 y1 y2 y3 : Int} (e : T[b]? = some (stK l r)) (hl : ∀ x ∈ l, x.length = 4) (hi : l[i]? = some [y0, y1, y2, y3]) (ho : off = i * 4) {C : AV → Prop} (h : C (StA y0 y1 y2 y3)) : ∃ B, T[b]? = some B ∧ B.ver = r ∧ off + 4 ≤ B.cells.length ∧ C (mkAV true ((B.cells.drop off).take 4)) := by
  subst ho
  have hlt := getElem?_lt hi
  refine ⟨_, e, rfl, ?_, ?_⟩
  · show i * 4 + 4 ≤ (jc l).length
    rw [jc_len (s := 4) hl]; omega
  · show C (mkAV true (((jc l).drop (i * 4)).take 4))
    rw [jc_rowB (s := 4) hl hi]; exact h
theorem c_DrawSame0 (v : Value) (xs : List Int) (hcd : Code W0 v xs) (K : Cont) (h0 : ∀ S (p q : PDat S), p.b1 ≠ p.b2 → q.b1 ≠ q.b2 → p.b1 ≠ q.b1 → p.b1 ≠ q.b2 → p.b2 ≠ q.b1 → p.b2 ≠ q.b2 → K (.tup [p.av, q.av]) S) : ACall Try.prog W0 51 [.lit v] [] K := by
  refine by51 (Nat.le_of_ble_eq_true rfl) ?_
  obtain ⟨o, m, cap, hv, -, -, -, -⟩ := sli_form hcd.sli
  cases hv
  have hc : CurAt 2 (.slice o m cap) 0 [plBx 0 0 0 0 0 0 nilA nilA 67, plBx 0 0 0 0 0 0 nilA nilA 67, CurB (.slice o m cap) 0 0] := ⟨0, 0, Nat.le_refl _, rfl⟩
  repeat' ((conv => whnf); first | (refine Exists.intro ([] : List Nat) ?_) | (refine And.intro rfl ?_) | (refine And.intro (by decide +kernel) ?_) | (refine And.intro trivial ?_) | (refine fS_mk ?_) | (refine d_planC (hcd := hcd) (hc := hc) (hn := by omega) (h0 := fun a1 a2 a3 a4 a5 a6 ss ts b1 c1 b2 c2 R hc1 hk1 k1 k2 k3 k4 k5 k6 k7 k8 => ?_) ..; have q0 := hk1.2 0 _ (by decide) rfl; have q1 := hk1.2 1 _ (by decide) rfl; have l4 : 3 ≤ b1 := k4; have hc := hc1) | (refine Exists.intro _ (And.intro getl (And.intro rfl (And.intro rfl (And.intro (Nat.le_of_ble_eq_true rfl) ?_)))); rw [set_last]) | (refine Exists.intro _ (And.intro rfl (And.intro rfl (And.intro (Nat.le_of_ble_eq_true rfl) ?_)))) | (refine Exists.intro _ (And.intro rfl (And.intro rfl (And.intro rfl (And.intro (Nat.le_of_ble_eq_true rfl) ?_))))) | (refine And.intro (Exists.intro _ (And.intro rfl rfl)) ?_) | (exact fun hW => absurd hW (by decide +kernel)) | (intro hW; (try simp only [Bool.not_true, Bool.not_false, Bool.not_eq_true', Bool.not_eq_false', decide_eq_true_eq, decide_eq_false_iff_not, reduceCtorEq, Bool.true_eq_false, Bool.false_eq_true, mk_size, List.size_toArray, ByteArray.size_append, ByteArray.size_extract, List.length_cons, List.length_nil, ba_get, ba_empty, Int.toNat_natCast] at hW)) | (refine And.intro (?_ : _ → _) (?_ : _ → _)) | (refine FinR.drop 0 (Nat.zero_le _) (Closed.zero _) rfl ?_) | (refine FinR.keep ?_) | (refine And.intro (det3_agg rfl) ?_) | (refine fL_mk ?_) | (refine And.intro (by (try simp only [mk_size, List.size_toArray, ByteArray.size_append, ByteArray.size_extract, List.length_cons, List.length_nil]); omega) ?_) | (refine And.intro (by (try simp only [mk_size, List.size_toArray, ByteArray.size_append, ByteArray.size_extract, List.length_cons, List.length_nil, wrap64_eq]); omega) ?_) | fail)
  generalize hpv : plBx a1 a2 a3 a4 a5 a6 (.sl b1 ss.length 0 ss.length c1) (.sl b2 ts.length 0 ts.length c2) 67 = P5
  have q5 : (R ++ [P5])[R.length]? = some P5 := getl
  have l1 := getElem?_lt k1
  have l2 := getElem?_lt k2
  have k1 := getx1 (τ := [P5]) k1
  have k2 := getx1 (τ := [P5]) k2
  have q0 := getx1 (τ := [P5]) q0
  have q1 := getx1 (τ := [P5]) q1
  have hc := hc.app (τ := [P5])
  subst hpv
  have n52 : R.length ≠ 2 := by have := hc1.lt; omega
  have n50 : R.length ≠ 0 := by omega
  have n51 : R.length ≠ 1 := by omega
  have n10 : 0 ≠ b1 := by omega
  have n11 : 1 ≠ b1 := by omega
  have n12 : b1 ≠ 2 := by omega
  have n20 : 0 ≠ b2 := by omega
  have n21 : 1 ≠ b2 := by omega
  have n22 : b2 ≠ 2 := by omega
  have l5 : 2 < R.length := hc1.lt
  clear hk1 k4
  have lT : R.length < (R ++ [plBx a1 a2 a3 a4 a5 a6 (.sl b1 ss.length 0 ss.length c1) (.sl b2 ts.length 0 ts.length c2) 67]).length := by rw [List.length_append]; exact Nat.lt_succ_self _
  rcases hpb : planB a1 a2 a3 a4 a5 a6 ss ts with _ | _
  · skip
    repeat' ((conv => whnf); first | (refine Exists.intro ([2] : List Nat) ?_) | (refine Exists.intro ([] : List Nat) ?_) | (refine And.intro rfl ?_) | (refine And.intro (by decide +kernel) ?_) | (refine And.intro trivial ?_) | (refine fS_mk ?_) | (refine And.intro (memB_lt (m := 2) rfl l5) ?_) | (refine Exists.intro _ (And.intro (q5) (And.intro rfl (And.intro (Nat.le_of_ble_eq_true rfl) ?_)))) | (refine d_l11Plan (h1 := sli_rows k5 k1) (h2 := sli_rows k6 k2) (hx := k5) (hy := k6) (hl := by omega) (hl2 := by omega) (h0 := ?_) ..; rw [hpb]) | (refine d_planC (hcd := hcd) (hc := hc) (hn := by omega) (h0 := fun d1 d2 d3 d4 d5 d6 ss' ts' b1' c1' b2' c2' T hc1 hk1 m1 m2 m3 m4 m5 m6 m7 m8 => varC_k (VarK.cur (by rfl) hc hc1 hk1) fun hv => ?_) ..; have q0 := hk1.2 _ _ (show (0 : Nat) ≠ 2 by decide) q0; have q1 := hk1.2 _ _ (show (1 : Nat) ≠ 2 by decide) q1; have k1 := hk1.2 _ _ n12 k1; have k2 := hk1.2 _ _ n22 k2) | (refine Exists.intro _ (And.intro (q0) (And.intro rfl (And.intro rfl (And.intro (Nat.le_of_ble_eq_true rfl) (fS_mk (varC_k (hv.set (q0) rfl rfl rfl (by rfl)) fun hv => ?_))))))) | (refine Exists.intro _ (And.intro (getn q1 (show (0 : Nat) ≠ 1 by decide)) (And.intro rfl (And.intro rfl (And.intro (Nat.le_of_ble_eq_true rfl) (fS_mk (varC_k (hv.set (getn q1 (show (0 : Nat) ≠ 1 by decide)) rfl rfl rfl (by rfl)) fun hv => ?_))))))) | (refine Exists.intro _ (And.intro (getn (get_set q0) (show (1 : Nat) ≠ 0 by decide)) (And.intro rfl (And.intro (Nat.le_of_ble_eq_true rfl) ?_)))) | (refine Exists.intro _ (And.intro (get_set (getn q1 (show (0 : Nat) ≠ 1 by decide))) (And.intro rfl (And.intro (Nat.le_of_ble_eq_true rfl) ?_)))) | (refine Exists.intro _ (And.intro rfl (And.intro rfl (And.intro (Nat.le_of_ble_eq_true rfl) ?_)))) | (refine Exists.intro _ (And.intro rfl (And.intro rfl (And.intro rfl (And.intro (Nat.le_of_ble_eq_true rfl) ?_))))) | (refine And.intro (Exists.intro _ (And.intro rfl rfl)) ?_) | (exact fun hW => absurd hW (by decide +kernel)) | (intro hW; (try simp only [Bool.not_true, Bool.not_false, Bool.not_eq_true', Bool.not_eq_false', decide_eq_true_eq, decide_eq_false_iff_not, reduceCtorEq, Bool.true_eq_false, Bool.false_eq_true, mk_size, List.size_toArray, ByteArray.size_append, ByteArray.size_extract, List.length_cons, List.length_nil, ba_get, ba_empty, Int.toNat_natCast] at hW)) | (refine And.intro (?_ : _ → _) (?_ : _ → _)) | (refine FinR.drop 0 (Nat.zero_le _) (Closed.zero _) rfl ?_) | (refine FinR.keep ?_) | (refine And.intro (det3_agg rfl) ?_) | (refine fL_mk ?_) | (refine And.intro (by (try simp only [mk_size, List.size_toArray, ByteArray.size_append, ByteArray.size_extract, List.length_cons, List.length_nil]); omega) ?_) | (refine And.intro (by (try simp only [mk_size, List.size_toArray, ByteArray.size_append, ByteArray.size_extract, List.length_cons, List.length_nil, wrap64_eq]); omega) ?_) | fail)
    all_goals first | (exfalso; simp_all; done) | exact h0 _ ⟨a1, a2, a3, a4, a5, a6, ss, ts, b1, _, c1, b2, _, c2, _, rfl, getn (getn k1 n10) n11, getn (getn k2 n20) n21, k5, k6, k7, k8⟩ ⟨d1, d2, d3, d4, d5, d6, ss', ts', b1', _, c1', b2', _, c2', _, rfl, getn (getn m1 (by omega)) (by omega), getn (getn m2 (by omega)) (by omega), m5, m6, m7, m8⟩ (by show b1 ≠ b2; omega) (by show b1' ≠ b2'; omega) (by show b1 ≠ b1'; omega) (by show b1 ≠ b2'; omega) (by show b2 ≠ b1'; omega) (by show b2 ≠ b2'; omega)
  · skip
    repeat' ((conv => whnf); first | (refine Exists.intro ([2] : List Nat) ?_) | (refine Exists.intro ([] : List Nat) ?_) | (refine And.intro rfl ?_) | (refine And.intro (by decide +kernel) ?_) | (refine And.intro trivial ?_) | (refine fS_mk ?_) | (refine Exists.intro _ (And.intro (q5) (And.intro rfl (And.intro (Nat.le_of_ble_eq_true rfl) ?_)))) | (refine d_l11Plan (h1 := sli_rows k5 k1) (h2 := sli_rows k6 k2) (hx := k5) (hy := k6) (hl := by omega) (hl2 := by omega) (h0 := ?_) ..; rw [hpb]) | (refine d_one (hcd := hcd) (hc := hc) (hn := by omega) (hm := by decide) (h0 := fun w U hc1 hk1 => ?_) ..; have q0 := hk1.2 _ _ (show (0 : Nat) ≠ 2 by decide) q0; have q1 := hk1.2 _ _ (show (1 : Nat) ≠ 2 by decide) q1; have k1 := hk1.2 _ _ n12 k1; have k2 := hk1.2 _ _ n22 k2; have q5 := hk1.2 _ _ n52 q5; have lT := Nat.lt_of_lt_of_le lT hk1.1; have hc := hc1) | (refine Exists.intro _ (And.intro rfl (And.intro rfl (And.intro (Nat.le_of_ble_eq_true rfl) ?_)))) | (refine Exists.intro _ (And.intro rfl (And.intro rfl (And.intro rfl (And.intro (Nat.le_of_ble_eq_true rfl) ?_))))) | (refine And.intro (Exists.intro _ (And.intro rfl rfl)) ?_) | (exact fun hW => absurd hW (by decide +kernel)) | (intro hW; (try simp only [Bool.not_true, Bool.not_false, Bool.not_eq_true', Bool.not_eq_false', decide_eq_true_eq, decide_eq_false_iff_not, reduceCtorEq, Bool.true_eq_false, Bool.false_eq_true, mk_size, List.size_toArray, ByteArray.size_append, ByteArray.size_extract, List.length_cons, List.length_nil, ba_get, ba_empty, Int.toNat_natCast] at hW)) | (refine And.intro (?_ : _ → _) (?_ : _ → _)) | (refine FinR.drop 0 (Nat.zero_le _) (Closed.zero _) rfl ?_) | (refine FinR.keep ?_) | (refine And.intro (det3_agg rfl) ?_) | (refine fL_mk ?_) | (refine And.intro (by (try simp only [mk_size, List.size_toArray, ByteArray.size_append, ByteArray.size_extract, List.length_cons, List.length_nil]); omega) ?_) | (refine And.intro (by (try simp only [mk_size, List.size_toArray, ByteArray.size_append, ByteArray.size_extract, List.length_cons, List.length_nil, wrap64_eq]); omega) ?_) | fail)
    all_goals (try (exfalso; simp_all; done))
    · skip
      repeat' ((conv => whnf); first | (refine Exists.intro ([2] : List Nat) ?_) | (refine Exists.intro ([] : List Nat) ?_) | (refine And.intro rfl ?_) | (refine And.intro (by decide +kernel) ?_) | (refine And.intro trivial ?_) | (refine fS_mk ?_) | (refine And.intro (memB_lt (m := 2) rfl l5) ?_) | (refine Exists.intro _ (And.intro (q5) (And.intro rfl (And.intro (Nat.le_of_ble_eq_true rfl) ?_)))) | (refine d_l11Plan (h1 := sli_rows k5 k1) (h2 := sli_rows k6 k2) (hx := k5) (hy := k6) (hl := by omega) (hl2 := by omega) (h0 := ?_) ..; rw [hpb]) | (refine d_planC (hcd := hcd) (hc := hc) (hn := by omega) (h0 := fun d1 d2 d3 d4 d5 d6 ss' ts' b1' c1' b2' c2' T hc1 hk1 m1 m2 m3 m4 m5 m6 m7 m8 => varC_k (VarK.cur (by rfl) hc hc1 hk1) fun hv => ?_) ..; have q0 := hk1.2 _ _ (show (0 : Nat) ≠ 2 by decide) q0; have q1 := hk1.2 _ _ (show (1 : Nat) ≠ 2 by decide) q1; have k1 := hk1.2 _ _ n12 k1; have k2 := hk1.2 _ _ n22 k2) | (refine Exists.intro _ (And.intro (q0) (And.intro rfl (And.intro rfl (And.intro (Nat.le_of_ble_eq_true rfl) (fS_mk (varC_k (hv.set (q0) rfl rfl rfl (by rfl)) fun hv => ?_))))))) | (refine Exists.intro _ (And.intro (getn q1 (show (0 : Nat) ≠ 1 by decide)) (And.intro rfl (And.intro rfl (And.intro (Nat.le_of_ble_eq_true rfl) (fS_mk (varC_k (hv.set (getn q1 (show (0 : Nat) ≠ 1 by decide)) rfl rfl rfl (by rfl)) fun hv => ?_))))))) | (refine Exists.intro _ (And.intro (getn (get_set q0) (show (1 : Nat) ≠ 0 by decide)) (And.intro rfl (And.intro (Nat.le_of_ble_eq_true rfl) ?_)))) | (refine Exists.intro _ (And.intro (get_set (getn q1 (show (0 : Nat) ≠ 1 by decide))) (And.intro rfl (And.intro (Nat.le_of_ble_eq_true rfl) ?_)))) | (refine Exists.intro _ (And.intro rfl (And.intro rfl (And.intro (Nat.le_of_ble_eq_true rfl) ?_)))) | (refine Exists.intro _ (And.intro rfl (And.intro rfl (And.intro rfl (And.intro (Nat.le_of_ble_eq_true rfl) ?_))))) | (refine And.intro (Exists.intro _ (And.intro rfl rfl)) ?_) | (exact fun hW => absurd hW (by decide +kernel)) | (intro hW; (try simp only [Bool.not_true, Bool.not_false, Bool.not_eq_true', Bool.not_eq_false', decide_eq_true_eq, decide_eq_false_iff_not, reduceCtorEq, Bool.true_eq_false, Bool.false_eq_true, mk_size, List.size_toArray, ByteArray.size_append, ByteArray.size_extract, List.length_cons, List.length_nil, ba_get, ba_empty, Int.toNat_natCast] at hW)) | (refine And.intro (?_ : _ → _) (?_ : _ → _)) | (refine FinR.drop 0 (Nat.zero_le _) (Closed.zero _) rfl ?_) | (refine FinR.keep ?_) | (refine And.intro (det3_agg rfl) ?_) | (refine fL_mk ?_) | (refine And.intro (by (try simp only [mk_size, List.size_toArray, ByteArray.size_append, ByteArray.size_extract, List.length_cons, List.length_nil]); omega) ?_) | (refine And.intro (by (try simp only [mk_size, List.size_toArray, ByteArray.size_append, ByteArray.size_extract, List.length_cons, List.length_nil, wrap64_eq]); omega) ?_) | fail)
      all_goals first | (exfalso; simp_all; done) | exact h0 _ ⟨a1, a2, a3, a4, a5, a6, ss, ts, b1, _, c1, b2, _, c2, _, rfl, getn (getn k1 n10) n11, getn (getn k2 n20) n21, k5, k6, k7, k8⟩ ⟨d1, d2, d3, d4, d5, d6, ss', ts', b1', _, c1', b2', _, c2', _, rfl, getn (getn m1 (by omega)) (by omega), getn (getn m2 (by omega)) (by omega), m5, m6, m7, m8⟩ (by show b1 ≠ b2; omega) (by show b1' ≠ b2'; omega) (by show b1 ≠ b1'; omega) (by show b1 ≠ b2'; omega) (by show b2 ≠ b1'; omega) (by show b2 ≠ b2'; omega)
    · skip
      repeat' ((conv => whnf); first | (refine Exists.intro ([] : List Nat) ?_) | (refine And.intro rfl ?_) | (refine And.intro (by decide +kernel) ?_) | (refine And.intro trivial ?_) | (refine fS_mk ?_) | (refine Exists.intro _ (And.intro (q5) (And.intro rfl (And.intro (Nat.le_of_ble_eq_true rfl) ?_)))) | (refine And.intro ⟨_, q5, rfl⟩ ?_) | (refine d_l11Own (h1 := sli_rows k5 k1) (h2 := sli_rows k6 k2) (h3 := sli_rows k6 k2) (n1 := sl_nn) (n2 := sl_nn) (n3 := sl_nn) (hx := k5) (hz := k6) (hl := by omega) (hl2 := by omega) (h0 := fun S x1 w1 z1 x2 w2 z2 e1 e2 g1 g2 hkk => ?_) ..; have q0 := hkk _ _ q0; have q1 := hkk _ _ q1; have k1 := hkk _ _ k1; have k2 := hkk _ _ k2; have q5 := hkk _ _ q5; have hc := hc.keep hkk) | (refine Exists.intro _ (And.intro getl (And.intro rfl (And.intro rfl (And.intro (Nat.le_of_ble_eq_true rfl) ?_)))); rw [set_last]) | (refine Exists.intro _ (And.intro rfl (And.intro rfl (And.intro (Nat.le_of_ble_eq_true rfl) ?_)))) | (refine Exists.intro _ (And.intro rfl (And.intro rfl (And.intro rfl (And.intro (Nat.le_of_ble_eq_true rfl) ?_))))) | (refine And.intro (Exists.intro _ (And.intro rfl rfl)) ?_) | (exact fun hW => absurd hW (by decide +kernel)) | (intro hW; (try simp only [Bool.not_true, Bool.not_false, Bool.not_eq_true', Bool.not_eq_false', decide_eq_true_eq, decide_eq_false_iff_not, reduceCtorEq, Bool.true_eq_false, Bool.false_eq_true, mk_size, List.size_toArray, ByteArray.size_append, ByteArray.size_extract, List.length_cons, List.length_nil, ba_get, ba_empty, Int.toNat_natCast] at hW)) | (refine And.intro (?_ : _ → _) (?_ : _ → _)) | (refine FinR.drop 0 (Nat.zero_le _) (Closed.zero _) rfl ?_) | (refine FinR.keep ?_) | (refine And.intro (det3_agg rfl) ?_) | (refine fL_mk ?_) | (refine And.intro (by (try simp only [mk_size, List.size_toArray, ByteArray.size_append, ByteArray.size_extract, List.length_cons, List.length_nil]); omega) ?_) | (refine And.intro (by (try simp only [mk_size, List.size_toArray, ByteArray.size_append, ByteArray.size_extract, List.length_cons, List.length_nil, wrap64_eq]); omega) ?_) | fail)
      all_goals (try (exfalso; simp_all; done))
      have lS := Nat.lt_of_lt_of_le lT (keep_len hkk)
      have y1 := getElem?_lt e1
      have y2 := getElem?_lt e2
      have hx12 := ne_of_64 e1 e2
      have q6 : (S ++ [plBx a1 a2 a3 a4 a5 a6 (.sl x1 w1 0 ss.length z1) (.sl x2 w2 0 ts.length z2) 67])[S.length]? = some (plBx a1 a2 a3 a4 a5 a6 (.sl x1 w1 0 ss.length z1) (.sl x2 w2 0 ts.length z2) 67) := getl
      have q0 := getx1 (τ := [plBx a1 a2 a3 a4 a5 a6 (.sl x1 w1 0 ss.length z1) (.sl x2 w2 0 ts.length z2) 67]) q0
      have q1 := getx1 (τ := [plBx a1 a2 a3 a4 a5 a6 (.sl x1 w1 0 ss.length z1) (.sl x2 w2 0 ts.length z2) 67]) q1
      have q5 := getx1 (τ := [plBx a1 a2 a3 a4 a5 a6 (.sl x1 w1 0 ss.length z1) (.sl x2 w2 0 ts.length z2) 67]) q5
      have k1 := getx1 (τ := [plBx a1 a2 a3 a4 a5 a6 (.sl x1 w1 0 ss.length z1) (.sl x2 w2 0 ts.length z2) 67]) k1
      have k2 := getx1 (τ := [plBx a1 a2 a3 a4 a5 a6 (.sl x1 w1 0 ss.length z1) (.sl x2 w2 0 ts.length z2) 67]) k2
      have e1 := getx1 (τ := [plBx a1 a2 a3 a4 a5 a6 (.sl x1 w1 0 ss.length z1) (.sl x2 w2 0 ts.length z2) 67]) e1
      have e2 := getx1 (τ := [plBx a1 a2 a3 a4 a5 a6 (.sl x1 w1 0 ss.length z1) (.sl x2 w2 0 ts.length z2) 67]) e2
      have hc := hc.app (τ := [plBx a1 a2 a3 a4 a5 a6 (.sl x1 w1 0 ss.length z1) (.sl x2 w2 0 ts.length z2) 67])
      have n62 : S.length ≠ 2 := by omega
      have n60 : S.length ≠ 0 := by omega
      have n61 : S.length ≠ 1 := by omega
      have n65 : S.length ≠ R.length := by omega
      have n6e1 : S.length ≠ x1 := by omega
      have n6e2 : S.length ≠ x2 := by omega
      have n6k1 : S.length ≠ b1 := by omega
      have n6k2 : S.length ≠ b2 := by omega
      have nx12 : x1 ≠ 2 := by omega
      have nx22 : x2 ≠ 2 := by omega
      clear hc1 hk1 hkk
      repeat' ((conv => whnf); first | (refine Exists.intro ([] : List Nat) ?_) | (refine And.intro rfl ?_) | (refine And.intro (by decide +kernel) ?_) | (refine And.intro trivial ?_) | (refine fS_mk ?_) | (refine d_sheetC (hcd := hcd) (hc := hc) (hn := by omega) (h0 := fun d1 d2 d3 d4 d5 d6 T hc1 hk1 => ?_) ..; have q0 := hk1.2 _ _ (show (0 : Nat) ≠ 2 by decide) q0; have q1 := hk1.2 _ _ (show (1 : Nat) ≠ 2 by decide) q1; have k1 := hk1.2 _ _ n12 k1; have k2 := hk1.2 _ _ n22 k2; have q5 := hk1.2 _ _ n52 q5; have q6 := hk1.2 _ _ n62 q6; have e1 := hk1.2 _ _ nx12 e1; have e2 := hk1.2 _ _ nx22 e2; have hc := hc1) | (refine And.intro ⟨_, q6, rfl⟩ ?_) | (refine Exists.intro _ (And.intro (q6) (And.intro rfl (And.intro rfl (And.intro (Nat.le_of_ble_eq_true rfl) ?_))))) | (refine And.intro ⟨_, get_set q6, rfl⟩ ?_) | (refine Exists.intro _ (And.intro (get_set q6) (And.intro rfl (And.intro (Nat.le_of_ble_eq_true rfl) ?_)))) | (refine And.intro ⟨_, getn e2 n6e2, rfl⟩ ?_) | (refine Exists.intro _ (And.intro rfl (And.intro rfl (And.intro (Nat.le_of_ble_eq_true rfl) ?_)))) | (refine Exists.intro _ (And.intro rfl (And.intro rfl (And.intro rfl (And.intro (Nat.le_of_ble_eq_true rfl) ?_))))) | (refine And.intro (Exists.intro _ (And.intro rfl rfl)) ?_) | (exact fun hW => absurd hW (by decide +kernel)) | (intro hW; (try simp only [Bool.not_true, Bool.not_false, Bool.not_eq_true', Bool.not_eq_false', decide_eq_true_eq, decide_eq_false_iff_not, reduceCtorEq, Bool.true_eq_false, Bool.false_eq_true, mk_size, List.size_toArray, ByteArray.size_append, ByteArray.size_extract, List.length_cons, List.length_nil, ba_get, ba_empty, Int.toNat_natCast] at hW)) | (refine And.intro (?_ : _ → _) (?_ : _ → _)) | (refine FinR.drop 0 (Nat.zero_le _) (Closed.zero _) rfl ?_) | (refine FinR.keep ?_) | (refine And.intro (det3_agg rfl) ?_) | (refine fL_mk ?_) | (refine And.intro (by (try simp only [mk_size, List.size_toArray, ByteArray.size_append, ByteArray.size_extract, List.length_cons, List.length_nil]); omega) ?_) | (refine And.intro (by (try simp only [mk_size, List.size_toArray, ByteArray.size_append, ByteArray.size_extract, List.length_cons, List.length_nil, wrap64_eq]); omega) ?_) | fail)
      · obtain ⟨n, hn⟩ : ∃ n : Nat, ts.length = n + 2 := ⟨ts.length - 2, by omega⟩
        have ewn : IntKind.i64.wrap (((ts.length : Nat) : Int) - 1) = ((n + 1 : Nat) : Int) := by rw [wrap_i64 _ (by omega) (by omega)]; omega
        repeat' ((conv => whnf); first | (rw [ewn]) | (refine Exists.intro ([] : List Nat) ?_) | (refine And.intro rfl ?_) | (refine And.intro (by decide +kernel) ?_) | (refine And.intro trivial ?_) | (refine fS_mk ?_) | (refine d_pick (hcd := hcd) (hc := hc.set n62) (hn := by omega) (hm := by omega) (h0 := fun g V hg1 hg2 hc1 hk1 => ?_) ..; have q0 := hk1.2 _ _ (show (0 : Nat) ≠ 2 by decide) (getn q0 n60); have q1 := hk1.2 _ _ (show (1 : Nat) ≠ 2 by decide) (getn q1 n61); have k1 := hk1.2 _ _ n12 (getn k1 n6k1); have k2 := hk1.2 _ _ n22 (getn k2 n6k2); have q5 := hk1.2 _ _ n52 (getn q5 n65); have q6 := hk1.2 _ _ n62 (get_set q6); have e1 := hk1.2 _ _ nx12 (getn e1 n6e1); have e2 := hk1.2 _ _ nx22 (getn e2 n6e2); have hc := hc1) | (refine Exists.intro _ (And.intro rfl (And.intro rfl (And.intro (Nat.le_of_ble_eq_true rfl) ?_)))) | (refine Exists.intro _ (And.intro rfl (And.intro rfl (And.intro rfl (And.intro (Nat.le_of_ble_eq_true rfl) ?_))))) | (refine And.intro (Exists.intro _ (And.intro rfl rfl)) ?_) | (exact fun hW => absurd hW (by decide +kernel)) | (intro hW; (try simp only [Bool.not_true, Bool.not_false, Bool.not_eq_true', Bool.not_eq_false', decide_eq_true_eq, decide_eq_false_iff_not, reduceCtorEq, Bool.true_eq_false, Bool.false_eq_true, mk_size, List.size_toArray, ByteArray.size_append, ByteArray.size_extract, List.length_cons, List.length_nil, ba_get, ba_empty, Int.toNat_natCast] at hW)) | (refine And.intro (?_ : _ → _) (?_ : _ → _)) | (refine FinR.drop 0 (Nat.zero_le _) (Closed.zero _) rfl ?_) | (refine FinR.keep ?_) | (refine And.intro (det3_agg rfl) ?_) | (refine fL_mk ?_) | (refine And.intro (by (try simp only [mk_size, List.size_toArray, ByteArray.size_append, ByteArray.size_extract, List.length_cons, List.length_nil]); omega) ?_) | (refine And.intro (by (try simp only [mk_size, List.size_toArray, ByteArray.size_append, ByteArray.size_extract, List.length_cons, List.length_nil, wrap64_eq]); omega) ?_) | fail)
        obtain ⟨k, rfl⟩ : ∃ k : Nat, g = k := ⟨g.toNat, by omega⟩
        have hkn : k + 2 ≤ ts.length := by omega
        clear hg1 hg2 hc1 hk1
        obtain ⟨u0, u1, u2, u3, hr0⟩ := row4x k6 (show k < ts.length by omega)
        obtain ⟨v0, v1, v2, v3, hr1⟩ := row4x k6 (show k + 1 < ts.length by omega)
        have ew : IntKind.i64.wrap ((k : Nat) + 1 : Int) = ((k + 1 : Nat) : Int) := wsucc' k (by omega)
        have ho0 : 0 + ((k : Nat) : Int).toNat * 4 = k * 4 := by rw [Int.toNat_natCast]; omega
        have ho1 : 0 + ((k + 1 : Nat) : Int).toNat * 4 = (k + 1) * 4 := by rw [Int.toNat_natCast]; omega
        replace q6 : V[S.length]? = some (plBx d1 d2 d3 d4 d5 d6 (.sl x1 w1 0 ss.length z1) (.sl x2 w2 0 ts.length z2) 67) := q6
        repeat' ((conv => whnf); first | (rw [ew]) | (refine Exists.intro ([] : List Nat) ?_) | (refine And.intro rfl ?_) | (refine And.intro (by decide +kernel) ?_) | (refine And.intro trivial ?_) | (refine fS_mk ?_) | (refine And.intro ⟨_, q6, rfl⟩ ?_) | (refine Exists.intro _ (And.intro (q6) (And.intro rfl (And.intro (Nat.le_of_ble_eq_true rfl) ?_)))) | (refine And.intro ⟨_, e2, rfl⟩ ?_) | (refine ldRow e2 k6 hr0 ho0 ?_) | (refine ldRow e2 k6 hr1 ho1 ?_) | (refine Exists.intro _ (And.intro rfl (And.intro rfl (And.intro (Nat.le_of_ble_eq_true rfl) ?_)))) | (refine Exists.intro _ (And.intro rfl (And.intro rfl (And.intro rfl (And.intro (Nat.le_of_ble_eq_true rfl) ?_))))) | (refine And.intro (Exists.intro _ (And.intro rfl rfl)) ?_) | (exact fun hW => absurd hW (by decide +kernel)) | (intro hW; (try simp only [Bool.not_true, Bool.not_false, Bool.not_eq_true', Bool.not_eq_false', decide_eq_true_eq, decide_eq_false_iff_not, reduceCtorEq, Bool.true_eq_false, Bool.false_eq_true, mk_size, List.size_toArray, ByteArray.size_append, ByteArray.size_extract, List.length_cons, List.length_nil, ba_get, ba_empty, Int.toNat_natCast] at hW)) | (refine And.intro (?_ : _ → _) (?_ : _ → _)) | (refine FinR.drop 0 (Nat.zero_le _) (Closed.zero _) rfl ?_) | (refine FinR.keep ?_) | (refine And.intro (det3_agg rfl) ?_) | (refine fL_mk ?_) | (refine And.intro (by (try simp only [mk_size, List.size_toArray, ByteArray.size_append, ByteArray.size_extract, List.length_cons, List.length_nil]); omega) ?_) | (refine And.intro (by (try simp only [mk_size, List.size_toArray, ByteArray.size_append, ByteArray.size_extract, List.length_cons, List.length_nil, wrap64_eq]); omega) ?_) | fail)
        conv => whnf
        refine And.intro ?_ ?_
        all_goals
          (conv => whnf)
          refine fS_mk (varC_k (VarK.app (τ := [stC 0 0 0 0]) VarK.refl) fun hv => ?_)
          (conv => whnf)
          refine fS_mk (varC_k (hv.app (τ := [stC 0 0 0 0])) fun hv => ?_)
        all_goals
          have qa : (V ++ [stC 0 0 0 0] ++ [stC 0 0 0 0])[V.length]? = some (stC 0 0 0 0) := getx1 getl
          have qb : (V ++ [stC 0 0 0 0] ++ [stC 0 0 0 0])[(V ++ [stC 0 0 0 0]).length]? = some (stC 0 0 0 0) := getl
          have eb : (V ++ [stC 0 0 0 0]).length = V.length + 1 := by rw [List.length_append]; rfl
          have le_b : V.length ≤ (V ++ [stC 0 0 0 0]).length := by omega
          have ne_a_b : V.length ≠ (V ++ [stC 0 0 0 0]).length := by omega
          have ne_b_a : (V ++ [stC 0 0 0 0]).length ≠ V.length := by omega
          have lq6 := getElem?_lt q6
          have le2 := getElem?_lt e2
          have le1 := getElem?_lt e1
          have lk1 := getElem?_lt k1
          have lk2 := getElem?_lt k2
          have lq5 := getElem?_lt q5
          have lq0 := getElem?_lt q0
          have lq1 := getElem?_lt q1
          have ne_a_q6 : V.length ≠ S.length := by omega
          have ne_b_q6 : (V ++ [stC 0 0 0 0]).length ≠ S.length := by omega
          have ne_e2_q6 : x2 ≠ S.length := by omega
          have ne_q0_q6 : 0 ≠ S.length := by omega
          have ne_q1_q6 : 1 ≠ S.length := by omega
          have ne_a_e2 : V.length ≠ x2 := by omega
          have ne_b_e2 : (V ++ [stC 0 0 0 0]).length ≠ x2 := by omega
          have ne_q0_e2 : 0 ≠ x2 := by omega
          have ne_q1_e2 : 1 ≠ x2 := by omega
          have ne_a_e1 : V.length ≠ x1 := by omega
          have ne_b_e1 : (V ++ [stC 0 0 0 0]).length ≠ x1 := by omega
          have ne_e2_e1 : x2 ≠ x1 := by omega
          have ne_q0_e1 : 0 ≠ x1 := by omega
          have ne_q1_e1 : 1 ≠ x1 := by omega
          have ne_a_k1 : V.length ≠ b1 := by omega
          have ne_b_k1 : (V ++ [stC 0 0 0 0]).length ≠ b1 := by omega
          have ne_e2_k1 : x2 ≠ b1 := by omega
          have ne_q0_k1 : 0 ≠ b1 := by omega
          have ne_q1_k1 : 1 ≠ b1 := by omega
          have ne_a_k2 : V.length ≠ b2 := by omega
          have ne_b_k2 : (V ++ [stC 0 0 0 0]).length ≠ b2 := by omega
          have ne_e2_k2 : x2 ≠ b2 := by omega
          have ne_q0_k2 : 0 ≠ b2 := by omega
          have ne_q1_k2 : 1 ≠ b2 := by omega
          have ne_a_q5 : V.length ≠ R.length := by omega
          have ne_b_q5 : (V ++ [stC 0 0 0 0]).length ≠ R.length := by omega
          have ne_e2_q5 : x2 ≠ R.length := by omega
          have ne_q0_q5 : 0 ≠ R.length := by omega
          have ne_q1_q5 : 1 ≠ R.length := by omega
          have ne_a_q0 : V.length ≠ 0 := by omega
          have ne_b_q0 : (V ++ [stC 0 0 0 0]).length ≠ 0 := by omega
          have ne_e2_q0 : x2 ≠ 0 := by omega
          have ne_q1_q0 : 1 ≠ 0 := by omega
          have ne_a_q1 : V.length ≠ 1 := by omega
          have ne_b_q1 : (V ++ [stC 0 0 0 0]).length ≠ 1 := by omega
          have ne_e2_q1 : x2 ≠ 1 := by omega
          have ne_q0_q1 : 0 ≠ 1 := by omega
          have ne_e2_a : x2 ≠ V.length := by omega
          have ne_e2_b : x2 ≠ (V ++ [stC 0 0 0 0]).length := by omega
          have h41 : ∀ x ∈ ts.set k [v0, v1, v2, v3], x.length = 4 := fun x h => by
            rcases List.mem_or_eq_of_mem_set h with h | rfl
            · exact k6 x h
            · rfl
          have hr1' : (ts.set k [v0, v1, v2, v3])[k + 1]? = some [v0, v1, v2, v3] := by rw [List.getElem?_set_ne (by omega)]; exact hr1
        all_goals
          repeat' ((conv => whnf); first | (rw [ew]) | (refine Exists.intro ([] : List Nat) ?_) | (refine And.intro rfl ?_) | (refine And.intro (by decide +kernel) ?_) | (refine And.intro trivial ?_) | (refine fS_mk ?_) | (refine Exists.intro _ (And.intro (qa) (And.intro rfl (And.intro rfl (And.intro (Nat.le_of_ble_eq_true rfl) (fS_mk (varC_k (hv.setN (Nat.le_refl _)) fun hv => ?_))))))) | (refine Exists.intro _ (And.intro (getn (qb) ne_a_b) (And.intro rfl (And.intro rfl (And.intro (Nat.le_of_ble_eq_true rfl) (fS_mk (varC_k (hv.setN (le_b)) fun hv => ?_))))))) | (refine Exists.intro _ (And.intro (qb) (And.intro rfl (And.intro rfl (And.intro (Nat.le_of_ble_eq_true rfl) (fS_mk (varC_k (hv.setN (le_b)) fun hv => ?_))))))) | (refine Exists.intro _ (And.intro (getn (qa) ne_b_a) (And.intro rfl (And.intro rfl (And.intro (Nat.le_of_ble_eq_true rfl) (fS_mk (varC_k (hv.setN (Nat.le_refl _)) fun hv => ?_))))))) | (refine And.intro ⟨_, getn (getn (getx1 (getx1 q6)) ne_a_q6) ne_b_q6, rfl⟩ ?_) | (refine Exists.intro _ (And.intro (getn (getn (getx1 (getx1 q6)) ne_a_q6) ne_b_q6) (And.intro rfl (And.intro (Nat.le_of_ble_eq_true rfl) ?_)))) | (refine And.intro ⟨_, getn (getn (getx1 (getx1 e2)) ne_a_e2) ne_b_e2, rfl⟩ ?_) | (refine Exists.intro _ (And.intro (get_set (getn (qb) ne_a_b)) (And.intro rfl (And.intro (Nat.le_of_ble_eq_true rfl) ?_)))) | (refine Exists.intro _ (And.intro (getn (get_set (qa)) ne_b_a) (And.intro rfl (And.intro (Nat.le_of_ble_eq_true rfl) ?_)))) | (refine And.intro ⟨_, getn (getn (getn (getx1 (getx1 q6)) ne_a_q6) ne_b_q6) ne_e2_q6, rfl⟩ ?_) | (refine Exists.intro _ (And.intro (getn (getn (getn (getx1 (getx1 q6)) ne_a_q6) ne_b_q6) ne_e2_q6) (And.intro rfl (And.intro (Nat.le_of_ble_eq_true rfl) ?_)))) | (refine And.intro ⟨_, get_set (getn (getn (getx1 (getx1 e2)) ne_a_e2) ne_b_e2), rfl⟩ ?_) | (refine Exists.intro _ (And.intro (getn (get_set (getn (qb) ne_a_b)) ne_e2_b) (And.intro rfl (And.intro (Nat.le_of_ble_eq_true rfl) ?_)))) | (refine Exists.intro _ (And.intro (getn (getn (get_set (qa)) ne_b_a) ne_e2_a) (And.intro rfl (And.intro (Nat.le_of_ble_eq_true rfl) ?_)))) | (refine st_rowB [v0, v1, v2, v3] (getn (getn (getx1 (getx1 e2)) ne_a_e2) ne_b_e2) k6 hr0 rfl ho0 ?_) | (refine st_rowB [u0, u1, u2, u3] (get_set (getn (getn (getx1 (getx1 e2)) ne_a_e2) ne_b_e2)) h41 hr1' rfl ho1 ?_) | (refine And.intro ⟨_, getn (getn (getx1 (getx1 q6)) ne_b_q6) ne_a_q6, rfl⟩ ?_) | (refine Exists.intro _ (And.intro (getn (getn (getx1 (getx1 q6)) ne_b_q6) ne_a_q6) (And.intro rfl (And.intro (Nat.le_of_ble_eq_true rfl) ?_)))) | (refine And.intro ⟨_, getn (getn (getx1 (getx1 e2)) ne_b_e2) ne_a_e2, rfl⟩ ?_) | (refine Exists.intro _ (And.intro (get_set (getn (qa) ne_b_a)) (And.intro rfl (And.intro (Nat.le_of_ble_eq_true rfl) ?_)))) | (refine Exists.intro _ (And.intro (getn (get_set (qb)) ne_a_b) (And.intro rfl (And.intro (Nat.le_of_ble_eq_true rfl) ?_)))) | (refine And.intro ⟨_, getn (getn (getn (getx1 (getx1 q6)) ne_b_q6) ne_a_q6) ne_e2_q6, rfl⟩ ?_) | (refine Exists.intro _ (And.intro (getn (getn (getn (getx1 (getx1 q6)) ne_b_q6) ne_a_q6) ne_e2_q6) (And.intro rfl (And.intro (Nat.le_of_ble_eq_true rfl) ?_)))) | (refine And.intro ⟨_, get_set (getn (getn (getx1 (getx1 e2)) ne_b_e2) ne_a_e2), rfl⟩ ?_) | (refine Exists.intro _ (And.intro (getn (get_set (getn (qa) ne_b_a)) ne_e2_a) (And.intro rfl (And.intro (Nat.le_of_ble_eq_true rfl) ?_)))) | (refine Exists.intro _ (And.intro (getn (getn (get_set (qb)) ne_a_b) ne_e2_b) (And.intro rfl (And.intro (Nat.le_of_ble_eq_true rfl) ?_)))) | (refine st_rowB [v0, v1, v2, v3] (getn (getn (getx1 (getx1 e2)) ne_b_e2) ne_a_e2) k6 hr0 rfl ho0 ?_) | (refine st_rowB [u0, u1, u2, u3] (get_set (getn (getn (getx1 (getx1 e2)) ne_b_e2) ne_a_e2)) h41 hr1' rfl ho1 ?_) | (refine Exists.intro _ (And.intro rfl (And.intro rfl (And.intro (Nat.le_of_ble_eq_true rfl) ?_)))) | (refine Exists.intro _ (And.intro rfl (And.intro rfl (And.intro rfl (And.intro (Nat.le_of_ble_eq_true rfl) ?_))))) | (refine And.intro (Exists.intro _ (And.intro rfl rfl)) ?_) | (exact fun hW => absurd hW (by decide +kernel)) | (intro hW; (try simp only [Bool.not_true, Bool.not_false, Bool.not_eq_true', Bool.not_eq_false', decide_eq_true_eq, decide_eq_false_iff_not, reduceCtorEq, Bool.true_eq_false, Bool.false_eq_true, mk_size, List.size_toArray, ByteArray.size_append, ByteArray.size_extract, List.length_cons, List.length_nil, ba_get, ba_empty, Int.toNat_natCast] at hW)) | (refine And.intro (?_ : _ → _) (?_ : _ → _)) | (refine FinR.drop 0 (Nat.zero_le _) (Closed.zero _) rfl ?_) | (refine FinR.keep ?_) | (refine And.intro (det3_agg rfl) ?_) | (refine fL_mk ?_) | (refine And.intro (by (try simp only [mk_size, List.size_toArray, ByteArray.size_append, ByteArray.size_extract, List.length_cons, List.length_nil]); omega) ?_) | (refine And.intro (by (try simp only [mk_size, List.size_toArray, ByteArray.size_append, ByteArray.size_extract, List.length_cons, List.length_nil, wrap64_eq]); omega) ?_) | fail)
        all_goals
          have l61 : 1 < S.length := by omega
          have hs4 : ∀ x ∈ (ts.set k [v0, v1, v2, v3]).set (k + 1) [u0, u1, u2, u3], x.length = 4 := fun x h => by
            rcases List.mem_or_eq_of_mem_set h with h | rfl
            · exact h41 x h
            · rfl
          have hsl : ((ts.set k [v0, v1, v2, v3]).set (k + 1) [u0, u1, u2, u3]).length = ts.length := by rw [List.length_set, List.length_set]
        all_goals
          repeat' ((conv => whnf); first | (refine Exists.intro ([] : List Nat) ?_) | (refine And.intro rfl ?_) | (refine And.intro (by decide +kernel) ?_) | (refine And.intro trivial ?_) | (refine fS_mk ?_) | (refine And.intro (memB_lt (m := 1) rfl l61) ?_) | (refine Exists.intro _ (And.intro (getn (getn (getn (getn (getx1 (getx1 q5)) ne_a_q5) ne_b_q5) ne_e2_q5) ne_e2_q5) (And.intro rfl (And.intro (Nat.le_of_ble_eq_true rfl) ?_)))) | (refine Exists.intro _ (And.intro (getn (getn (getn (getn (getx1 (getx1 q6)) ne_a_q6) ne_b_q6) ne_e2_q6) ne_e2_q6) (And.intro rfl (And.intro (Nat.le_of_ble_eq_true rfl) ?_)))) | (refine Exists.intro _ (And.intro (getn (getn (getn (getn (getx1 (getx1 q0)) ne_a_q0) ne_b_q0) ne_e2_q0) ne_e2_q0) (And.intro rfl (And.intro rfl (And.intro (Nat.le_of_ble_eq_true rfl) (fS_mk (varC_k (VarK.set VarK.refl (getn (getn (getn (getn (getx1 (getx1 q0)) ne_a_q0) ne_b_q0) ne_e2_q0) ne_e2_q0) rfl rfl rfl (by rfl)) fun hv => ?_))))))) | (refine Exists.intro _ (And.intro (getn (getn (getn (getn (getn (getx1 (getx1 q1)) ne_a_q1) ne_b_q1) ne_e2_q1) ne_e2_q1) ne_q0_q1) (And.intro rfl (And.intro rfl (And.intro (Nat.le_of_ble_eq_true rfl) (fS_mk (varC_k (hv.set (getn (getn (getn (getn (getn (getx1 (getx1 q1)) ne_a_q1) ne_b_q1) ne_e2_q1) ne_e2_q1) ne_q0_q1) rfl rfl rfl (by rfl)) fun hv => ?_))))))) | (refine Exists.intro _ (And.intro (getn (get_set (getn (getn (getn (getn (getx1 (getx1 q0)) ne_a_q0) ne_b_q0) ne_e2_q0) ne_e2_q0)) ne_q1_q0) (And.intro rfl (And.intro (Nat.le_of_ble_eq_true rfl) ?_)))) | (refine Exists.intro _ (And.intro (get_set (getn (getn (getn (getn (getn (getx1 (getx1 q1)) ne_a_q1) ne_b_q1) ne_e2_q1) ne_e2_q1) ne_q0_q1)) (And.intro rfl (And.intro (Nat.le_of_ble_eq_true rfl) ?_)))) | (refine Exists.intro _ (And.intro (getn (getn (getn (getn (getx1 (getx1 q5)) ne_b_q5) ne_a_q5) ne_e2_q5) ne_e2_q5) (And.intro rfl (And.intro (Nat.le_of_ble_eq_true rfl) ?_)))) | (refine Exists.intro _ (And.intro (getn (getn (getn (getn (getx1 (getx1 q6)) ne_b_q6) ne_a_q6) ne_e2_q6) ne_e2_q6) (And.intro rfl (And.intro (Nat.le_of_ble_eq_true rfl) ?_)))) | (refine Exists.intro _ (And.intro (getn (getn (getn (getn (getx1 (getx1 q0)) ne_b_q0) ne_a_q0) ne_e2_q0) ne_e2_q0) (And.intro rfl (And.intro rfl (And.intro (Nat.le_of_ble_eq_true rfl) (fS_mk (varC_k (VarK.set VarK.refl (getn (getn (getn (getn (getx1 (getx1 q0)) ne_b_q0) ne_a_q0) ne_e2_q0) ne_e2_q0) rfl rfl rfl (by rfl)) fun hv => ?_))))))) | (refine Exists.intro _ (And.intro (getn (getn (getn (getn (getn (getx1 (getx1 q1)) ne_b_q1) ne_a_q1) ne_e2_q1) ne_e2_q1) ne_q0_q1) (And.intro rfl (And.intro rfl (And.intro (Nat.le_of_ble_eq_true rfl) (fS_mk (varC_k (hv.set (getn (getn (getn (getn (getn (getx1 (getx1 q1)) ne_b_q1) ne_a_q1) ne_e2_q1) ne_e2_q1) ne_q0_q1) rfl rfl rfl (by rfl)) fun hv => ?_))))))) | (refine Exists.intro _ (And.intro (getn (get_set (getn (getn (getn (getn (getx1 (getx1 q0)) ne_b_q0) ne_a_q0) ne_e2_q0) ne_e2_q0)) ne_q1_q0) (And.intro rfl (And.intro (Nat.le_of_ble_eq_true rfl) ?_)))) | (refine Exists.intro _ (And.intro (get_set (getn (getn (getn (getn (getn (getx1 (getx1 q1)) ne_b_q1) ne_a_q1) ne_e2_q1) ne_e2_q1) ne_q0_q1)) (And.intro rfl (And.intro (Nat.le_of_ble_eq_true rfl) ?_)))) | (refine Exists.intro _ (And.intro rfl (And.intro rfl (And.intro (Nat.le_of_ble_eq_true rfl) ?_)))) | (refine Exists.intro _ (And.intro rfl (And.intro rfl (And.intro rfl (And.intro (Nat.le_of_ble_eq_true rfl) ?_))))) | (refine And.intro (Exists.intro _ (And.intro rfl rfl)) ?_) | (exact fun hW => absurd hW (by decide +kernel)) | (intro hW; (try simp only [Bool.not_true, Bool.not_false, Bool.not_eq_true', Bool.not_eq_false', decide_eq_true_eq, decide_eq_false_iff_not, reduceCtorEq, Bool.true_eq_false, Bool.false_eq_true, mk_size, List.size_toArray, ByteArray.size_append, ByteArray.size_extract, List.length_cons, List.length_nil, ba_get, ba_empty, Int.toNat_natCast] at hW)) | (refine And.intro (?_ : _ → _) (?_ : _ → _)) | (refine FinR.drop 0 (Nat.zero_le _) (Closed.zero _) rfl ?_) | (refine FinR.keep ?_) | (refine And.intro (det3_agg rfl) ?_) | (refine fL_mk ?_) | (refine And.intro (by (try simp only [mk_size, List.size_toArray, ByteArray.size_append, ByteArray.size_extract, List.length_cons, List.length_nil]); omega) ?_) | (refine And.intro (by (try simp only [mk_size, List.size_toArray, ByteArray.size_append, ByteArray.size_extract, List.length_cons, List.length_nil, wrap64_eq]); omega) ?_) | fail)
        all_goals first
          | exact h0 _ ⟨a1, a2, a3, a4, a5, a6, ss, ts, b1, _, c1, b2, _, c2, _, rfl, getn (getn (getn (getn (getn (getn (getx1 (getx1 k1)) ne_a_k1) ne_b_k1) ne_e2_k1) ne_e2_k1) ne_q0_k1) ne_q1_k1, getn (getn (getn (getn (getn (getn (getx1 (getx1 k2)) ne_a_k2) ne_b_k2) ne_e2_k2) ne_e2_k2) ne_q0_k2) ne_q1_k2, k5, k6, k7, k8⟩ ⟨d1, d2, d3, d4, d5, d6, ss, (ts.set k [v0, v1, v2, v3]).set (k + 1) [u0, u1, u2, u3], x1, _, z1, x2, _, z2, ts.length, hsl.symm, getn (getn (getn (getn (getn (getn (getx1 (getx1 e1)) ne_a_e1) ne_b_e1) ne_e2_e1) ne_e2_e1) ne_q0_e1) ne_q1_e1, getn (getn (get_set (get_set (getn (getn (getx1 (getx1 e2)) ne_a_e2) ne_b_e2))) ne_q0_e2) ne_q1_e2, k5, hs4, k7, Nat.le_trans (Nat.le_of_eq hsl) k8⟩ (by show b1 ≠ b2; omega) hx12 (by show b1 ≠ x1; omega) (by show b1 ≠ x2; omega) (by show b2 ≠ x1; omega) (by show b2 ≠ x2; omega)
          | exact h0 _ ⟨a1, a2, a3, a4, a5, a6, ss, ts, b1, _, c1, b2, _, c2, _, rfl, getn (getn (getn (getn (getn (getn (getx1 (getx1 k1)) ne_b_k1) ne_a_k1) ne_e2_k1) ne_e2_k1) ne_q0_k1) ne_q1_k1, getn (getn (getn (getn (getn (getn (getx1 (getx1 k2)) ne_b_k2) ne_a_k2) ne_e2_k2) ne_e2_k2) ne_q0_k2) ne_q1_k2, k5, k6, k7, k8⟩ ⟨d1, d2, d3, d4, d5, d6, ss, (ts.set k [v0, v1, v2, v3]).set (k + 1) [u0, u1, u2, u3], x1, _, z1, x2, _, z2, ts.length, hsl.symm, getn (getn (getn (getn (getn (getn (getx1 (getx1 e1)) ne_b_e1) ne_a_e1) ne_e2_e1) ne_e2_e1) ne_q0_e1) ne_q1_e1, getn (getn (get_set (get_set (getn (getn (getx1 (getx1 e2)) ne_b_e2) ne_a_e2))) ne_q0_e2) ne_q1_e2, k5, hs4, k7, Nat.le_trans (Nat.le_of_eq hsl) k8⟩ (by show b1 ≠ b2; omega) hx12 (by show b1 ≠ x1; omega) (by show b1 ≠ x2; omega) (by show b2 ≠ x1; omega) (by show b2 ≠ x2; omega)
      · have l61 : 1 < S.length := by omega
        repeat' ((conv => whnf); first | (refine Exists.intro ([] : List Nat) ?_) | (refine And.intro rfl ?_) | (refine And.intro (by decide +kernel) ?_) | (refine And.intro trivial ?_) | (refine fS_mk ?_) | (refine And.intro (memB_lt (m := 1) rfl l61) ?_) | (refine Exists.intro _ (And.intro (getn q5 n65) (And.intro rfl (And.intro (Nat.le_of_ble_eq_true rfl) ?_)))) | (refine Exists.intro _ (And.intro (get_set q6) (And.intro rfl (And.intro (Nat.le_of_ble_eq_true rfl) ?_)))) | (refine Exists.intro _ (And.intro (getn q0 n60) (And.intro rfl (And.intro rfl (And.intro (Nat.le_of_ble_eq_true rfl) (fS_mk (varC_k (VarK.set VarK.refl (getn q0 n60) rfl rfl rfl (by rfl)) fun hv => ?_))))))) | (refine Exists.intro _ (And.intro (getn (getn q1 n61) (show (0 : Nat) ≠ 1 by decide)) (And.intro rfl (And.intro rfl (And.intro (Nat.le_of_ble_eq_true rfl) (fS_mk (varC_k (hv.set (getn (getn q1 n61) (show (0 : Nat) ≠ 1 by decide)) rfl rfl rfl (by rfl)) fun hv => ?_))))))) | (refine Exists.intro _ (And.intro (getn (get_set (getn q0 n60)) (show (1 : Nat) ≠ 0 by decide)) (And.intro rfl (And.intro (Nat.le_of_ble_eq_true rfl) ?_)))) | (refine Exists.intro _ (And.intro (get_set (getn (getn q1 n61) (show (0 : Nat) ≠ 1 by decide))) (And.intro rfl (And.intro (Nat.le_of_ble_eq_true rfl) ?_)))) | (refine Exists.intro _ (And.intro rfl (And.intro rfl (And.intro (Nat.le_of_ble_eq_true rfl) ?_)))) | (refine Exists.intro _ (And.intro rfl (And.intro rfl (And.intro rfl (And.intro (Nat.le_of_ble_eq_true rfl) ?_))))) | (refine And.intro (Exists.intro _ (And.intro rfl rfl)) ?_) | (exact fun hW => absurd hW (by decide +kernel)) | (intro hW; (try simp only [Bool.not_true, Bool.not_false, Bool.not_eq_true', Bool.not_eq_false', decide_eq_true_eq, decide_eq_false_iff_not, reduceCtorEq, Bool.true_eq_false, Bool.false_eq_true, mk_size, List.size_toArray, ByteArray.size_append, ByteArray.size_extract, List.length_cons, List.length_nil, ba_get, ba_empty, Int.toNat_natCast] at hW)) | (refine And.intro (?_ : _ → _) (?_ : _ → _)) | (refine FinR.drop 0 (Nat.zero_le _) (Closed.zero _) rfl ?_) | (refine FinR.keep ?_) | (refine And.intro (det3_agg rfl) ?_) | (refine fL_mk ?_) | (refine And.intro (by (try simp only [mk_size, List.size_toArray, ByteArray.size_append, ByteArray.size_extract, List.length_cons, List.length_nil]); omega) ?_) | (refine And.intro (by (try simp only [mk_size, List.size_toArray, ByteArray.size_append, ByteArray.size_extract, List.length_cons, List.length_nil, wrap64_eq]); omega) ?_) | fail)
        all_goals exact h0 _ ⟨a1, a2, a3, a4, a5, a6, ss, ts, b1, _, c1, b2, _, c2, _, rfl, getn (getn (getn k1 n6k1) n10) n11, getn (getn (getn k2 n6k2) n20) n21, k5, k6, k7, k8⟩ ⟨d1, d2, d3, d4, d5, d6, ss, ts, x1, _, z1, x2, _, z2, _, rfl, getn (getn (getn e1 n6e1) (by omega)) (by omega), getn (getn (getn e2 n6e2) (by omega)) (by omega), k5, k6, k7, k8⟩ (by show b1 ≠ b2; omega) hx12 (by show b1 ≠ x1; omega) (by show b1 ≠ x2; omega) (by show b2 ≠ x1; omega) (by show b2 ≠ x2; omega)
end Go.Proofs.Ytkcbhdjhbnnlgaa
end

section
/- Contracts: two plans drawn, beside any blocks. -/
set_option linter.unusedVariables false
set_option linter.unusedSimpArgs false
set_option maxRecDepth 100000
set_option maxHeartbeats 4000000
namespace Go.Proofs.Ytkcbhdjhbnnlgaa
open Go Go.RowKit Go.Proofs.Ytkcbhdjhbnnlgaa.Abs
variable {W0 : World} {σ : List Blk}
/-- a plan with the versions of its two blocks -/
structure PK where
  (a1 a2 a3 a4 a5 a6 : Int)
  (ss ts : List (List Int))
  (r1 c1 r2 c2 m2 : Nat)
  hm : m2 = ts.length
  h6 : ∀ x ∈ ss, x.length = 6
  h4 : ∀ x ∈ ts, x.length = 4
  l1 : ss.length ≤ 100
  l2 : ts.length ≤ 100
abbrev PK.av (d : PK) (b1 b2 : Nat) : AV := PlA d.a1 d.a2 d.a3 d.a4 d.a5 d.a6 (.sl b1 d.r1 0 d.ss.length d.c1) (.sl b2 d.r2 0 d.m2 d.c2)
abbrev PDat.k {S : List Blk} (d : PDat S) : PK := ⟨d.a1, d.a2, d.a3, d.a4, d.a5, d.a6, d.ss, d.ts, d.r1, d.c1, d.r2, d.c2, d.m2, d.hm, d.h6, d.h4, d.l1, d.l2⟩
abbrev twoBl (p q : PK) : List Blk := [shK p.ss p.r1, stK p.ts p.r2, shK q.ss q.r1, stK q.ts q.r2]
theorem c_DrawSame (v : Value) (xs : List Int) (hcd : Code W0 v xs) (K : Cont) (h0 : ∀ p q : PK, K (.tup [p.av 0 1, q.av 2 3]) (twoBl p q)) : ACall Try.prog W0 51 [.lit v] [] K := by
  refine onlyL (c_DrawSame0 v xs hcd (fun v S => ∃ p q : PDat S, p.b1 ≠ p.b2 ∧ q.b1 ≠ q.b2 ∧ p.b1 ≠ q.b1 ∧ p.b1 ≠ q.b2 ∧ p.b2 ≠ q.b1 ∧ p.b2 ≠ q.b2 ∧ v = .tup [p.av, q.av]) fun S p q n1 n2 n3 n4 n5 n6 => ⟨p, q, n1, n2, n3, n4, n5, n6, rfl⟩) ?_
  rintro v S ⟨p, q, n1, n2, n3, n4, n5, n6, rfl⟩
  refine ⟨[p.b1, p.b2, q.b1, q.b2], twoBl p.k q.k, _, by simp [n1, n2, n3, n4, n5, n6], rfl, ?_, ?_, ?_, h0 p.k q.k⟩
  · intro i b B h1 h2
    match i with
    | 0 => cases h1; cases h2; exact p.e1
    | 1 => cases h1; cases h2; exact p.e2
    | 2 => cases h1; cases h2; exact q.e1
    | 3 => cases h1; cases h2; exact q.e2
    | i + 4 => simp at h1
  · intro B hB
    rcases List.mem_cons.1 hB with rfl | hB
    · exact jc_lits p.ss
    rcases List.mem_cons.1 hB with rfl | hB
    · exact jc_lits p.ts
    rcases List.mem_cons.1 hB with rfl | hB
    · exact jc_lits q.ss
    · rw [List.mem_singleton.1 hB]; exact jc_lits q.ts
  · intro ι x hr
    obtain ⟨l, rfl, hl⟩ := hr
    obtain ⟨x1, l, rfl, r1, hl⟩ := Rels.uncons hl
    obtain ⟨x2, l, rfl, r2, hl⟩ := Rels.uncons hl
    obtain rfl := hl.nil_inv
    exact ⟨_, rfl, Rels.cons (plA_kept (i := 0) (j := 1) rfl rfl p.e1 rfl rfl p.e2 r1) (Rels.cons (plA_kept (i := 2) (j := 3) rfl rfl q.e1 rfl rfl q.e2 r2) Rels.nil)⟩
theorem two_shB (k : Nat) (p q : PK) : shB k (twoBl p q) = twoBl p q := by
  show [(⟨(jc p.ss).map (sh1 k), _, _, _, _, _⟩ : Blk), ⟨(jc p.ts).map (sh1 k), _, _, _, _, _⟩, ⟨(jc q.ss).map (sh1 k), _, _, _, _, _⟩, ⟨(jc q.ts).map (sh1 k), _, _, _, _, _⟩] = _
  rw [jc_sh, jc_sh, jc_sh, jc_sh]
theorem d_DrawSame (v : Value) (xs : List Int) (hcd : Code W0 v xs) (K : Cont) (h0 : ∀ p q : PK, K (.tup [p.av (σ.length + 0) (σ.length + 1), q.av (σ.length + 2) (σ.length + 3)]) (σ ++ twoBl p q)) : ACall Try.prog W0 51 [.lit v] σ K := by
  refine ACall.frame (K0 := fun w σ' => ∃ p q : PK, w = .tup [p.av 0 1, q.av 2 3] ∧ σ' = twoBl p q) rfl (fun W1 hb => c_DrawSame v xs (hcd.below hb) _ fun p q => ⟨p, q, rfl, rfl⟩) ?_
  rintro w σ' ⟨p, q, rfl, rfl⟩
  rw [two_shB]; exact h0 p q
end Go.Proofs.Ytkcbhdjhbnnlgaa
end

section
/- Contracts: plans without their vain steps, by both sides. -/
set_option linter.unusedVariables false
set_option linter.unusedSimpArgs false
set_option maxRecDepth 100000
set_option maxHeartbeats 4000000
namespace Go.Proofs.Ytkcbhdjhbnnlgaa
open Go Go.RowKit Go.Proofs.Ytkcbhdjhbnnlgaa.Abs
variable {W0 : World} {σ : List Blk}
/-- the rows whose numbers are not listed -/
def kpL (V : List Int) (ys : List (List Int)) : Nat → List (List Int)
  | 0 => []
  | i + 1 => if ((i : Nat) : Int) ∈ V then kpL V ys i else kpL V ys i ++ [ys.getD i []]
theorem kpL_len (V : List Int) (ys : List (List Int)) : ∀ i, (kpL V ys i).length ≤ i
  | 0 => Nat.le_refl _
  | i + 1 => by
    have := kpL_len V ys i
    unfold kpL
    split
    · omega
    · rw [List.length_append, List.length_cons, List.length_nil]; omega
theorem kpL_rows {V : List Int} {ys : List (List Int)} {s : Nat} (hy : ∀ x ∈ ys, x.length = s) : ∀ i, i ≤ ys.length → ∀ x ∈ kpL V ys i, x.length = s
  | 0, _, x, h => by cases h
  | i + 1, hi, x, h => by
    unfold kpL at h
    split at h
    · exact kpL_rows hy i (by omega) x h
    · rcases List.mem_append.1 h with h | h
      · exact kpL_rows hy i (by omega) x h
      · rw [List.mem_singleton] at h
        rw [h, List.getD_eq_getElem?_getD, List.getElem?_eq_getElem (show i < ys.length by omega)]
        exact hy _ (List.getElem_mem _)
theorem d_l11VainS (s1 s2 : AV) (xs ys : List (List Int)) (h1 : Sli W0 σ 6 enI s1 xs) (h2 : Sli W0 σ 4 enI s2 ys) (hx : ∀ x ∈ xs, x.length = 6) (hy : ∀ x ∈ ys, x.length = 4) (hxa : xs.all shRow = true) (hya : ys.all (stOk xs.length) = true) (hl2 : ys.length ≤ 1048576) (n : Nat) (hn : n < 2 ^ 36) (V : List Int) (hV : V = vainL xs ys n) (K : Cont)
    (h0 : ∀ S b cap, S[b]? = some (outB V) → (∀ (j : Nat) (B : Blk), σ[j]? = some B → S[j]? = some B) → σ.length ≤ b → K (.sl b V.length 0 V.length cap) S) : ACall Try.prog W0 100 [PlA (rowN n 0 : Nat) (rowN n 1 : Nat) (rowN n 2 : Nat) (rowN n 3 : Nat) (rowN n 4 : Nat) (rowN n 5 : Nat) s1 s2] σ K := by
  subst hV
  exact d_l11Vain s1 s2 xs ys h1 h2 hx hy hxa hya hl2 n hn K (fun b cap τ e l => h0 _ _ _ e (fun j B hj => getx1 hj) l)
theorem d_VainS (a b c d e f : Int) (s1 s2 : AV) (xs ys : List (List Int)) (h1 : Sli W0 σ 6 enI s1 xs) (h2 : Sli W0 σ 4 enI s2 ys) (hx : ∀ x ∈ xs, x.length = 6) (hy : ∀ x ∈ ys, x.length = 4) (hg : planB a b c d e f xs ys = true) (V : List Int) (hV : V = vainL xs ys (stN [a, b, c, d, e, f])) (K : Cont)
    (h0 : ∀ S b cap, S[b]? = some (outB V) → (∀ (j : Nat) (B : Blk), σ[j]? = some B → S[j]? = some B) → σ.length ≤ b → K (.tup [.sl b V.length 0 V.length cap, Bo true]) S) : ACall Try.prog W0 45 [PlA a b c d e f s1 s2] σ K :=
  d_VainT a b c d e f s1 s2 xs ys h1 h2 hx hy hg V hV K (fun b cap τ e l => h0 _ _ _ e (fun j B hj => getx1 hj) l)
theorem kp_round {R : List Blk} {b : Nat} {B : Blk} (qb : R[b]? = some B) {l : List (List Int)} {x : List Int} {cs : List AV} {w : Nat} (hc : cs = jc l ++ x.map I) (hw : w = l.length + 1) : (R.set b ⟨cs, w, 87, 4, true, true⟩)[b]? = some (stK (l ++ [x]) (l ++ [x]).length) := by
  rw [get_set qb, hc, hw, ← jc_snoc, List.length_append]; rfl
theorem c_sDropT (a b c d e f : Int) (o1 : Addr) (m1 c1 : Nat) (o2 : Addr) (m2 c2 : Nat) (xs ys : List (List Int)) (h1 : Sli W0 [] 6 enI (.lit (.slice (some o1) m1 c1)) xs) (h2 : Sli W0 [] 4 enI (.lit (.slice (some o2) m2 c2)) ys) (hx : ∀ x ∈ xs, x.length = 6) (hy : ∀ x ∈ ys, x.length = 4) (hl : xs.length ≤ 1048576) (hl2 : ys.length ≤ 1048576) (hg : planB a b c d e f xs ys = true) (V : List Int) (hV : V = vainL xs ys (stN [a, b, c, d, e, f])) (L : List (List Int)) (hL : L = kpL V ys ys.length) (K : Cont) (h0 : ∀ x : NewP xs L, K (.tup [plN a b c d e f x, Bo true]) x.τ) : ACall Try.prog W0 49 [PlA a b c d e f (.lit (.slice (some o1) m1 c1)) (.lit (.slice (some o2) m2 c2))] [] K := by
  refine by49 (Nat.le_of_ble_eq_true rfl) ?_
  obtain ⟨hs, hx4, hy40, hxa, hya⟩ := planB_iff.1 hg
  obtain ⟨o2', n2, cap2, hv2, hn2, hc2, hm2, hf2⟩ := sli_form h2
  cases hv2
  subst hn2
  have hvl : V.length ≤ ys.length := by rw [hV]; exact selN_len _ _
  obtain ⟨n, hn, rfl, rfl, rfl, rfl, rfl, rfl, hst⟩ := st_parts hs
  rw [hst] at hV
  repeat' ((conv => whnf); first | (refine Exists.intro ([] : List Nat) ?_) | (refine And.intro rfl ?_) | (refine And.intro (by decide +kernel) ?_) | (refine And.intro trivial ?_) | (refine d_l11Plan (h1 := sli_up h1) (h2 := sli_up h2) (hx := hx) (hy := hy) (hl := hl) (hl2 := hl2) (h0 := ?_) ..; rw [hg]) | (refine d_l11VainS (h1 := sli_up h1) (h2 := sli_up h2) (hx := hx) (hy := hy) (hxa := hxa) (hya := hya) (hl2 := hl2) (hn := hn) (hV := hV) (h0 := fun S r rc er hk lr => ?_) ..; have k0 := hk 0 _ rfl; have k1 := hk 1 _ rfl) | (refine fS_mk ?_) | (refine Exists.intro _ (And.intro rfl (And.intro rfl (And.intro (Nat.le_of_ble_eq_true rfl) ?_)))) | (refine Exists.intro _ (And.intro rfl (And.intro rfl (And.intro rfl (And.intro (Nat.le_of_ble_eq_true rfl) ?_))))) | (refine And.intro (Exists.intro _ (And.intro rfl rfl)) ?_) | (exact fun hW => absurd hW (by decide +kernel)) | (intro hW; (try simp only [Bool.not_true, Bool.not_false, Bool.not_eq_true', Bool.not_eq_false', decide_eq_true_eq, decide_eq_false_iff_not, reduceCtorEq, Bool.true_eq_false, Bool.false_eq_true, mk_size, List.size_toArray, ByteArray.size_append, ByteArray.size_extract, List.length_cons, List.length_nil, ba_get, ba_empty, Int.toNat_natCast] at hW)) | (refine And.intro (?_ : _ → _) (?_ : _ → _)) | (refine FinR.drop 0 (Nat.zero_le _) (Closed.zero _) rfl ?_) | (refine FinR.keep ?_) | (refine And.intro (det3_agg rfl) ?_) | (refine fL_mk ?_) | (refine And.intro (by (try simp only [mk_size, List.size_toArray, ByteArray.size_append, ByteArray.size_extract, List.length_cons, List.length_nil]); omega) ?_) | (refine And.intro (by (try simp only [mk_size, List.size_toArray, ByteArray.size_append, ByteArray.size_extract, List.length_cons, List.length_nil, wrap64_eq]); omega) ?_) | fail)
  all_goals first | (exfalso; omega) | (exfalso; simp_all; done) | skip
  have lr' : 2 ≤ r := by simp only [List.length_cons, List.length_nil] at lr; omega
  have lS := getElem?_lt er
  have q5 : (S ++ [stK [] 0])[S.length]? = some (stK [] 0) := getl
  have q0 := getx1 (τ := [stK [] 0]) k0
  have q1 := getx1 (τ := [stK [] 0]) k1
  have qr := getx1 (τ := [stK [] 0]) er
  have hrb : r < S.length := lS
  refine LoopR.live (fun y : Nat × Nat × List Blk => [(1, .ptr 0 0 0), (2, .ptr 1 0 0), (4, .sl r V.length 0 V.length rc), (5, .sl S.length (kpL V ys y.1).length 0 (kpL V ys y.1).length y.2.1), (6, I y.1)]) (fun y => y.2.2) (fun y => y.1 ≤ ys.length ∧ y.2.2[S.length]? = some (stK (kpL V ys y.1) (kpL V ys y.1).length) ∧ y.2.2[0]? = some (plBx (rowN n 0 : Nat) (rowN n 1 : Nat) (rowN n 2 : Nat) (rowN n 3 : Nat) (rowN n 4 : Nat) (rowN n 5 : Nat) (.lit (.slice (some o1) m1 c1)) (.lit (.slice (some o2) ys.length c2)) 67) ∧ y.2.2[1]? = some (plBx 0 0 0 0 0 0 nilA nilA 67) ∧ y.2.2[r]? = some (outB V)) (fun y => ys.length - y.1) (0, 0, S ++ [stK [] 0]) ⟨rfl, rfl, rfl, rfl, rfl, trivial⟩ (.keep rfl) ⟨Nat.zero_le _, q5, q0, q1, qr⟩ ?_
  clear q5 q0 q1 qr
  rintro ⟨i, cp, R⟩ ⟨hi, qb, q0, q1, qr⟩
  dsimp only at hi qb q0 q1 qr ⊢
  generalize S.length = b at qb hrb ⊢
  have hkl := kpL_len V ys i
  have hml : (kpL V ys i).length * 4 = (jc (kpL V ys i)).length := (jc_len (s := 4) (kpL_rows hy i hi)).symm
  by_cases hlt : i < ys.length
  · obtain ⟨x0, x1, x2, x3, hyi⟩ := row4x hy hlt
    obtain ⟨ad, e, hb, hxx⟩ := hf2 i _ hyi
    cases e
    have hld := fun C h => ldIn (W0 := W0) (s := 4) (enc := enI) hb hxx (k := i) hyi rfl (C := C) h
    have hgd : ys.getD i [] = [x0, x1, x2, x3] := by rw [List.getD_eq_getElem?_getD, hyi]; rfl
    repeat' ((conv => whnf); first | (refine Exists.intro ([] : List Nat) ?_) | (refine And.intro rfl ?_) | (refine And.intro (by decide +kernel) ?_) | (refine And.intro trivial ?_) | (refine fS_mk ?_) | (refine And.intro ⟨_, q0, rfl⟩ ?_) | (refine Exists.intro _ (And.intro q0 (And.intro rfl (And.intro (Nat.le_of_ble_eq_true rfl) ?_)))) | (refine hld _ ?_) | (refine d_l1Has (ha := sli_ints qr) (hl := by omega) (h0 := ?_) ..) | (refine Exists.intro _ (And.intro qb (And.intro rfl (And.intro rfl (And.intro rfl (And.intro rfl (And.intro rfl (And.intro (by decide) (And.intro hml (And.intro rfl (And.intro (by unfold maxLen; omega) (And.intro (by omega) (fun cap' hcap1 hcap2 => ?_))))))))))))) | (refine Exists.intro _ (And.intro rfl (And.intro rfl (And.intro (Nat.le_of_ble_eq_true rfl) ?_)))) | (refine Exists.intro _ (And.intro rfl (And.intro rfl (And.intro rfl (And.intro (Nat.le_of_ble_eq_true rfl) ?_))))) | (refine And.intro (Exists.intro _ (And.intro rfl rfl)) ?_) | (exact fun hW => absurd hW (by decide +kernel)) | (intro hW; (try simp only [Bool.not_true, Bool.not_false, Bool.not_eq_true', Bool.not_eq_false', decide_eq_true_eq, decide_eq_false_iff_not, reduceCtorEq, Bool.true_eq_false, Bool.false_eq_true, mk_size, List.size_toArray, ByteArray.size_append, ByteArray.size_extract, List.length_cons, List.length_nil, ba_get, ba_empty, Int.toNat_natCast] at hW)) | (refine And.intro (?_ : _ → _) (?_ : _ → _)) | (refine FinR.drop 0 (Nat.zero_le _) (Closed.zero _) rfl ?_) | (refine FinR.keep ?_) | (refine And.intro (det3_agg rfl) ?_) | (refine fL_mk ?_) | (refine And.intro (by (try simp only [mk_size, List.size_toArray, ByteArray.size_append, ByteArray.size_extract, List.length_cons, List.length_nil]); omega) ?_) | (refine And.intro (by (try simp only [mk_size, List.size_toArray, ByteArray.size_append, ByteArray.size_extract, List.length_cons, List.length_nil, wrap64_eq]); omega) ?_) | fail)
    all_goals first | (exfalso; omega) | skip
    all_goals (cases hv : decide (((i : Nat) : Int) ∈ V))
    all_goals first | (exfalso; simp_all; done) | skip
    all_goals first
      | (have hk : kpL V ys (i + 1) = kpL V ys i ++ [[x0, x1, x2, x3]] := by show (if _ then _ else _) = _; rw [if_neg (of_decide_eq_false hv), hgd]
         exact Again.go (i + 1, cap', _) ⟨rfl, rfl, rfl, (by show AV.sl _ _ _ _ _ = AV.sl _ _ _ _ _; rw [hk, List.length_append]; rfl), slI' (wsucc' i (by omega)), trivial⟩ (.keep rfl) ⟨(by show i + 1 ≤ _; omega), (by show (_ : List Blk)[b]? = some (stK (kpL V ys (i + 1)) (kpL V ys (i + 1)).length); rw [hk]; exact kp_round qb rfl rfl), get_ne q0 (by omega), get_ne q1 (by omega), get_ne qr (by omega)⟩ (by show _ - (i + 1) < _ - i; omega))
      | (have hk : kpL V ys (i + 1) = kpL V ys i := by show (if _ then _ else _) = _; rw [if_pos (of_decide_eq_true hv)]
         exact Again.go (i + 1, cp, R) ⟨rfl, rfl, rfl, (by show AV.sl _ _ _ _ _ = AV.sl _ _ _ _ _; rw [hk]), slI' (wsucc' i (by omega)), trivial⟩ (.keep rfl) ⟨(by show i + 1 ≤ _; omega), (by show R[b]? = some (stK (kpL V ys (i + 1)) (kpL V ys (i + 1)).length); rw [hk]; exact qb), q0, q1, qr⟩ (by show _ - (i + 1) < _ - i; omega))
      | skip
  · obtain rfl : i = ys.length := by omega
    rw [← hL] at qb hkl ⊢
    have hL4 : ∀ x ∈ L, x.length = 4 := by rw [hL]; exact kpL_rows hy _ (Nat.le_refl _)
    repeat' ((conv => whnf); first | (refine Exists.intro ([] : List Nat) ?_) | (refine And.intro rfl ?_) | (refine And.intro (by decide +kernel) ?_) | (refine And.intro trivial ?_) | (refine fS_mk ?_) | (refine And.intro ⟨_, q0, rfl⟩ ?_) | (refine Exists.intro _ (And.intro q0 (And.intro rfl (And.intro (Nat.le_of_ble_eq_true rfl) ?_)))) | (refine d_l11Own (h1 := sli_up h1) (h2 := sli_up h2) (h3 := sli_rows hL4 qb) (n1 := lit_nn) (n2 := lit_nn) (n3 := sl_nn) (hx := hx) (hz := hL4) (hl := by omega) (hl2 := by omega) (h0 := fun T b1 r1 c1 b2 r2 c2 e1 e2 g1 g2 hk => ?_) ..; have z1 := hk 1 _ q1; have l1 := getElem?_lt q1) | (refine Exists.intro _ (And.intro z1 (And.intro rfl (And.intro rfl (And.intro (Nat.le_of_ble_eq_true rfl) ?_))))) | (refine Exists.intro _ (And.intro (get_set z1) (And.intro rfl (And.intro (Nat.le_of_ble_eq_true rfl) ?_)))) | (refine Exists.intro _ (And.intro rfl (And.intro rfl (And.intro (Nat.le_of_ble_eq_true rfl) ?_)))) | (refine Exists.intro _ (And.intro rfl (And.intro rfl (And.intro rfl (And.intro (Nat.le_of_ble_eq_true rfl) ?_))))) | (refine And.intro (Exists.intro _ (And.intro rfl rfl)) ?_) | (exact fun hW => absurd hW (by decide +kernel)) | (intro hW; (try simp only [Bool.not_true, Bool.not_false, Bool.not_eq_true', Bool.not_eq_false', decide_eq_true_eq, decide_eq_false_iff_not, reduceCtorEq, Bool.true_eq_false, Bool.false_eq_true, mk_size, List.size_toArray, ByteArray.size_append, ByteArray.size_extract, List.length_cons, List.length_nil, ba_get, ba_empty, Int.toNat_natCast] at hW)) | (refine And.intro (?_ : _ → _) (?_ : _ → _)) | (refine FinR.drop 0 (Nat.zero_le _) (Closed.zero _) rfl ?_) | (refine FinR.keep ?_) | (refine And.intro (det3_agg rfl) ?_) | (refine fL_mk ?_) | (refine And.intro (by (try simp only [mk_size, List.size_toArray, ByteArray.size_append, ByteArray.size_extract, List.length_cons, List.length_nil]); omega) ?_) | (refine And.intro (by (try simp only [mk_size, List.size_toArray, ByteArray.size_append, ByteArray.size_extract, List.length_cons, List.length_nil, wrap64_eq]); omega) ?_) | fail)
    all_goals first | (exfalso; omega) | skip
    all_goals exact h0 ⟨_, _, _, _, _, _, _, get_ne e1 (by omega), get_ne e2 (by omega)⟩
theorem c_DropT (a b c d e f : Int) (o1 : Addr) (m1 c1 : Nat) (o2 : Addr) (m2 c2 : Nat) (xs ys : List (List Int)) (h1 : Sli W0 [] 6 enI (.lit (.slice (some o1) m1 c1)) xs) (h2 : Sli W0 [] 4 enI (.lit (.slice (some o2) m2 c2)) ys) (hx : ∀ x ∈ xs, x.length = 6) (hy : ∀ x ∈ ys, x.length = 4) (hg : planB a b c d e f xs ys = true) (V : List Int) (hV : V = vainL xs ys (stN [a, b, c, d, e, f])) (L : List (List Int)) (hL : L = kpL V ys ys.length) (K : Cont) (h0 : ∀ x : NewP xs L, K (.tup [plN a b c d e f x, Bo true]) x.τ) : ACall Try.prog W0 48 [PlA a b c d e f (.lit (.slice (some o1) m1 c1)) (.lit (.slice (some o2) m2 c2))] [] K := by
  refine by48 (Nat.le_of_ble_eq_true rfl) ?_
  obtain ⟨hs, hx4, hy40, hxa, hya⟩ := planB_iff.1 hg
  obtain ⟨o2', n2, cap2, hv2, hn2, hc2, hm2, hf2⟩ := sli_form h2
  cases hv2
  subst hn2
  have hvl : V.length ≤ ys.length := by rw [hV]; exact selN_len _ _
  repeat' ((conv => whnf); first | (refine Exists.intro ([] : List Nat) ?_) | (refine And.intro rfl ?_) | (refine And.intro (by decide +kernel) ?_) | (refine And.intro trivial ?_) | (refine d_VainS (h1 := sli_up h1) (h2 := sli_up h2) (hx := hx) (hy := hy) (hg := hg) (hV := hV) (h0 := fun S r rc er hk lr => ?_) ..; have k0 := hk 0 _ rfl; have k1 := hk 1 _ rfl) | (refine fS_mk ?_) | (refine And.intro ⟨_, getx1 k0, rfl⟩ ?_) | (refine Exists.intro _ (And.intro (getx1 k0) (And.intro rfl (And.intro (Nat.le_of_ble_eq_true rfl) ?_)))) | (refine Exists.intro _ (And.intro rfl (And.intro rfl (And.intro (Nat.le_of_ble_eq_true rfl) ?_)))) | (refine Exists.intro _ (And.intro rfl (And.intro rfl (And.intro rfl (And.intro (Nat.le_of_ble_eq_true rfl) ?_))))) | (refine And.intro (Exists.intro _ (And.intro rfl rfl)) ?_) | (exact fun hW => absurd hW (by decide +kernel)) | (intro hW; (try simp only [Bool.not_true, Bool.not_false, Bool.not_eq_true', Bool.not_eq_false', decide_eq_true_eq, decide_eq_false_iff_not, reduceCtorEq, Bool.true_eq_false, Bool.false_eq_true, mk_size, List.size_toArray, ByteArray.size_append, ByteArray.size_extract, List.length_cons, List.length_nil, ba_get, ba_empty, Int.toNat_natCast] at hW)) | (refine And.intro (?_ : _ → _) (?_ : _ → _)) | (refine FinR.drop 0 (Nat.zero_le _) (Closed.zero _) rfl ?_) | (refine FinR.keep ?_) | (refine And.intro (det3_agg rfl) ?_) | (refine fL_mk ?_) | (refine And.intro (by (try simp only [mk_size, List.size_toArray, ByteArray.size_append, ByteArray.size_extract, List.length_cons, List.length_nil]); omega) ?_) | (refine And.intro (by (try simp only [mk_size, List.size_toArray, ByteArray.size_append, ByteArray.size_extract, List.length_cons, List.length_nil, wrap64_eq]); omega) ?_) | fail)
  all_goals first | (exfalso; omega) | (exfalso; simp_all; done) | skip
  have lr' : 2 ≤ r := by simp only [List.length_cons, List.length_nil] at lr; omega
  have lS := getElem?_lt er
  have q5 : (S ++ [stK [] 0])[S.length]? = some (stK [] 0) := getl
  have q0 := getx1 (τ := [stK [] 0]) k0
  have q1 := getx1 (τ := [stK [] 0]) k1
  have qr := getx1 (τ := [stK [] 0]) er
  have hrb : r < S.length := lS
  refine LoopR.live (fun y : Nat × Nat × List Blk => [(1, .ptr 0 0 0), (2, .ptr 1 0 0), (4, .sl r V.length 0 V.length rc), (6, .sl S.length (kpL V ys y.1).length 0 (kpL V ys y.1).length y.2.1), (19, .lit (.slice (some o2) ys.length c2)), (20, I ys.length), (21, I y.1)]) (fun y => y.2.2) (fun y => y.1 ≤ ys.length ∧ y.2.2[S.length]? = some (stK (kpL V ys y.1) (kpL V ys y.1).length) ∧ y.2.2[0]? = some (plBx a b c d e f (.lit (.slice (some o1) m1 c1)) (.lit (.slice (some o2) ys.length c2)) 67) ∧ y.2.2[1]? = some (plBx 0 0 0 0 0 0 nilA nilA 67) ∧ y.2.2[r]? = some (outB V)) (fun y => ys.length - y.1) (0, 0, S ++ [stK [] 0]) ⟨rfl, rfl, rfl, rfl, rfl, rfl, rfl, trivial⟩ (.keep rfl) ⟨Nat.zero_le _, q5, q0, q1, qr⟩ ?_
  clear q5 q0 q1 qr
  rintro ⟨i, cp, R⟩ ⟨hi, qb, q0, q1, qr⟩
  dsimp only at hi qb q0 q1 qr ⊢
  generalize S.length = b at qb hrb ⊢
  have hkl := kpL_len V ys i
  have hml : (kpL V ys i).length * 4 = (jc (kpL V ys i)).length := (jc_len (s := 4) (kpL_rows hy i hi)).symm
  by_cases hlt : i < ys.length
  · obtain ⟨x0, x1, x2, x3, hyi⟩ := row4x hy hlt
    obtain ⟨ad, e, hb, hxx⟩ := hf2 i _ hyi
    cases e
    have hld := fun C h => ldIn (W0 := W0) (s := 4) (enc := enI) hb hxx (k := i) hyi rfl (C := C) h
    have hgd : ys.getD i [] = [x0, x1, x2, x3] := by rw [List.getD_eq_getElem?_getD, hyi]; rfl
    repeat' ((conv => whnf); first | (refine Exists.intro ([] : List Nat) ?_) | (refine And.intro rfl ?_) | (refine And.intro (by decide +kernel) ?_) | (refine And.intro trivial ?_) | (refine fS_mk ?_) | (refine hld _ ?_) | (refine Exists.intro _ (And.intro getl (And.intro rfl (And.intro rfl (And.intro (Nat.le_of_ble_eq_true rfl) ?_)))); rw [set_last]) | (refine Exists.intro _ (And.intro getl (And.intro rfl (And.intro (Nat.le_of_ble_eq_true rfl) ?_)))) | (refine d_Contains (ha := sli_ints (getx1 qr)) (hl := by omega) (h0 := ?_) ..) | (refine Exists.intro _ (And.intro (getx1 qb) (And.intro rfl (And.intro rfl (And.intro rfl (And.intro rfl (And.intro rfl (And.intro (by decide) (And.intro hml (And.intro rfl (And.intro (by unfold maxLen; omega) (And.intro (by omega) (fun cap' hcap1 hcap2 => ?_))))))))))))) | (refine Exists.intro _ (And.intro rfl (And.intro rfl (And.intro (Nat.le_of_ble_eq_true rfl) ?_)))) | (refine Exists.intro _ (And.intro rfl (And.intro rfl (And.intro rfl (And.intro (Nat.le_of_ble_eq_true rfl) ?_))))) | (refine And.intro (Exists.intro _ (And.intro rfl rfl)) ?_) | (exact fun hW => absurd hW (by decide +kernel)) | (intro hW; (try simp only [Bool.not_true, Bool.not_false, Bool.not_eq_true', Bool.not_eq_false', decide_eq_true_eq, decide_eq_false_iff_not, reduceCtorEq, Bool.true_eq_false, Bool.false_eq_true, mk_size, List.size_toArray, ByteArray.size_append, ByteArray.size_extract, List.length_cons, List.length_nil, ba_get, ba_empty, Int.toNat_natCast] at hW)) | (refine And.intro (?_ : _ → _) (?_ : _ → _)) | (refine FinR.drop 0 (Nat.zero_le _) (Closed.zero _) rfl ?_) | (refine FinR.keep ?_) | (refine And.intro (det3_agg rfl) ?_) | (refine fL_mk ?_) | (refine And.intro (by (try simp only [mk_size, List.size_toArray, ByteArray.size_append, ByteArray.size_extract, List.length_cons, List.length_nil]); omega) ?_) | (refine And.intro (by (try simp only [mk_size, List.size_toArray, ByteArray.size_append, ByteArray.size_extract, List.length_cons, List.length_nil, wrap64_eq]); omega) ?_) | fail)
    all_goals first | (exfalso; omega) | skip
    all_goals (cases hv : decide (((i : Nat) : Int) ∈ V))
    all_goals first | (exfalso; simp_all; done) | skip
    all_goals first
      | (have hk : kpL V ys (i + 1) = kpL V ys i ++ [[x0, x1, x2, x3]] := by show (if _ then _ else _) = _; rw [if_neg (of_decide_eq_false hv), hgd]
         exact Again.go (i + 1, cap', _) ⟨rfl, rfl, rfl, (by show AV.sl _ _ _ _ _ = AV.sl _ _ _ _ _; rw [hk, List.length_append]; rfl), rfl, rfl, slI' (wsucc' i (by omega)), trivial⟩ (.keep rfl) ⟨(by show i + 1 ≤ _; omega), (by show (_ : List Blk)[b]? = some (stK (kpL V ys (i + 1)) (kpL V ys (i + 1)).length); rw [hk]; exact kp_round (getx1 qb) rfl rfl), get_ne (getx1 q0) (by omega), get_ne (getx1 q1) (by omega), get_ne (getx1 qr) (by omega)⟩ (by show _ - (i + 1) < _ - i; omega))
      | (have hk : kpL V ys (i + 1) = kpL V ys i := by show (if _ then _ else _) = _; rw [if_pos (of_decide_eq_true hv)]
         exact Again.go (i + 1, cp, R ++ _) ⟨rfl, rfl, rfl, (by show AV.sl _ _ _ _ _ = AV.sl _ _ _ _ _; rw [hk]), rfl, rfl, slI' (wsucc' i (by omega)), trivial⟩ (.keep rfl) ⟨(by show i + 1 ≤ _; omega), (by show (_ : List Blk)[b]? = some (stK (kpL V ys (i + 1)) (kpL V ys (i + 1)).length); rw [hk]; exact getx1 qb), getx1 q0, getx1 q1, getx1 qr⟩ (by show _ - (i + 1) < _ - i; omega))
      | skip
  · obtain rfl : i = ys.length := by omega
    rw [← hL] at qb hkl ⊢
    have hL4 : ∀ x ∈ L, x.length = 4 := by rw [hL]; exact kpL_rows hy _ (Nat.le_refl _)
    repeat' ((conv => whnf); first | (refine Exists.intro ([] : List Nat) ?_) | (refine And.intro rfl ?_) | (refine And.intro (by decide +kernel) ?_) | (refine And.intro trivial ?_) | (refine fS_mk ?_) | (refine And.intro ⟨_, q0, rfl⟩ ?_) | (refine Exists.intro _ (And.intro q0 (And.intro rfl (And.intro (Nat.le_of_ble_eq_true rfl) ?_)))) | (refine d_copied (h1 := sli_up h1) (h2 := sli_up h2) (h3 := sli_rows hL4 qb) (n1 := lit_nn) (n2 := lit_nn) (n3 := sl_nn) (hx := hx) (hz := hL4) (hl := by omega) (hl2 := by omega) (h0 := fun T b1 r1 c1 b2 r2 c2 e1 e2 g1 g2 hk => ?_) ..; have z1 := hk 1 _ q1; have l1 := getElem?_lt q1) | (refine Exists.intro _ (And.intro z1 (And.intro rfl (And.intro rfl (And.intro (Nat.le_of_ble_eq_true rfl) ?_))))) | (refine Exists.intro _ (And.intro (get_set z1) (And.intro rfl (And.intro (Nat.le_of_ble_eq_true rfl) ?_)))) | (refine Exists.intro _ (And.intro rfl (And.intro rfl (And.intro (Nat.le_of_ble_eq_true rfl) ?_)))) | (refine Exists.intro _ (And.intro rfl (And.intro rfl (And.intro rfl (And.intro (Nat.le_of_ble_eq_true rfl) ?_))))) | (refine And.intro (Exists.intro _ (And.intro rfl rfl)) ?_) | (exact fun hW => absurd hW (by decide +kernel)) | (intro hW; (try simp only [Bool.not_true, Bool.not_false, Bool.not_eq_true', Bool.not_eq_false', decide_eq_true_eq, decide_eq_false_iff_not, reduceCtorEq, Bool.true_eq_false, Bool.false_eq_true, mk_size, List.size_toArray, ByteArray.size_append, ByteArray.size_extract, List.length_cons, List.length_nil, ba_get, ba_empty, Int.toNat_natCast] at hW)) | (refine And.intro (?_ : _ → _) (?_ : _ → _)) | (refine FinR.drop 0 (Nat.zero_le _) (Closed.zero _) rfl ?_) | (refine FinR.keep ?_) | (refine And.intro (det3_agg rfl) ?_) | (refine fL_mk ?_) | (refine And.intro (by (try simp only [mk_size, List.size_toArray, ByteArray.size_append, ByteArray.size_extract, List.length_cons, List.length_nil]); omega) ?_) | (refine And.intro (by (try simp only [mk_size, List.size_toArray, ByteArray.size_append, ByteArray.size_extract, List.length_cons, List.length_nil, wrap64_eq]); omega) ?_) | fail)
    all_goals first | (exfalso; omega) | skip
    all_goals exact h0 ⟨_, _, _, _, _, _, _, get_ne e1 (by omega), get_ne e2 (by omega)⟩
theorem c_sDropVT (a b c d e f : Int) (o1 : Addr) (m1 c1 : Nat) (o2 : Addr) (m2 c2 : Nat) (xs ys L : List (List Int)) (hL : L = kpL (vainL xs ys (stN [a, b, c, d, e, f])) ys ys.length) (h1 : Sli W0 [] 6 enI (.lit (.slice (some o1) m1 c1)) xs) (h2 : Sli W0 [] 4 enI (.lit (.slice (some o2) m2 c2)) ys) (hx : ∀ x ∈ xs, x.length = 6) (hy : ∀ x ∈ ys, x.length = 4) (hl : xs.length ≤ 1048576) (hl2 : ys.length ≤ 1048576) (hg : planB a b c d e f xs ys = true) (K : Cont) (h0 : ∀ x : NewP xs L, K (.tup [plN a b c d e f x, Bo true]) x.τ) : ACall Try.prog W0 49 [PlA a b c d e f (.lit (.slice (some o1) m1 c1)) (.lit (.slice (some o2) m2 c2))] [] K :=
  c_sDropT a b c d e f o1 m1 c1 o2 m2 c2 xs ys h1 h2 hx hy hl hl2 hg _ rfl L hL K h0
theorem c_DropVT (a b c d e f : Int) (o1 : Addr) (m1 c1 : Nat) (o2 : Addr) (m2 c2 : Nat) (xs ys L : List (List Int)) (hL : L = kpL (vainL xs ys (stN [a, b, c, d, e, f])) ys ys.length) (h1 : Sli W0 [] 6 enI (.lit (.slice (some o1) m1 c1)) xs) (h2 : Sli W0 [] 4 enI (.lit (.slice (some o2) m2 c2)) ys) (hx : ∀ x ∈ xs, x.length = 6) (hy : ∀ x ∈ ys, x.length = 4) (hg : planB a b c d e f xs ys = true) (K : Cont) (h0 : ∀ x : NewP xs L, K (.tup [plN a b c d e f x, Bo true]) x.τ) : ACall Try.prog W0 48 [PlA a b c d e f (.lit (.slice (some o1) m1 c1)) (.lit (.slice (some o2) m2 c2))] [] K :=
  c_DropT a b c d e f o1 m1 c1 o2 m2 c2 xs ys h1 h2 hx hy hg _ rfl L hL K h0
theorem c_sDropVF (a b c d e f : Int) (o1 : Addr) (m1 c1 : Nat) (o2 : Addr) (m2 c2 : Nat) (xs ys : List (List Int)) (h1 : Sli W0 [] 6 enI (.lit (.slice (some o1) m1 c1)) xs) (h2 : Sli W0 [] 4 enI (.lit (.slice (some o2) m2 c2)) ys) (hx : ∀ x ∈ xs, x.length = 6) (hy : ∀ x ∈ ys, x.length = 4) (hl : xs.length ≤ 1048576) (hl2 : ys.length ≤ 1048576) (hg : planB a b c d e f xs ys = false) (K : Cont) (h0 : K (.tup [plZ, Bo false]) []) : ACall Try.prog W0 49 [PlA a b c d e f (.lit (.slice (some o1) m1 c1)) (.lit (.slice (some o2) m2 c2))] [] K := by
  refine by49 (Nat.le_of_ble_eq_true rfl) ?_
  repeat' ((conv => whnf); first | (refine Exists.intro ([] : List Nat) ?_) | (refine And.intro rfl ?_) | (refine And.intro (by decide +kernel) ?_) | (refine And.intro trivial ?_) | (refine d_l11Plan (h1 := sli_up h1) (h2 := sli_up h2) (hx := hx) (hy := hy) (hl := hl) (hl2 := hl2) (h0 := ?_) ..; rw [hg]) | (refine Exists.intro _ (And.intro rfl (And.intro rfl (And.intro (Nat.le_of_ble_eq_true rfl) ?_)))) | (refine Exists.intro _ (And.intro rfl (And.intro rfl (And.intro rfl (And.intro (Nat.le_of_ble_eq_true rfl) ?_))))) | (refine And.intro (Exists.intro _ (And.intro rfl rfl)) ?_) | (exact fun hW => absurd hW (by decide +kernel)) | (intro hW; (try simp only [Bool.not_true, Bool.not_false, Bool.not_eq_true', Bool.not_eq_false', decide_eq_true_eq, decide_eq_false_iff_not, reduceCtorEq, Bool.true_eq_false, Bool.false_eq_true, mk_size, List.size_toArray, ByteArray.size_append, ByteArray.size_extract, List.length_cons, List.length_nil, ba_get, ba_empty, Int.toNat_natCast] at hW)) | (refine And.intro (?_ : _ → _) (?_ : _ → _)) | (refine FinR.drop 0 (Nat.zero_le _) (Closed.zero _) rfl ?_) | (refine FinR.keep ?_) | (refine And.intro (det3_agg rfl) ?_) | (refine fL_mk ?_) | (refine And.intro (by (try simp only [mk_size, List.size_toArray, ByteArray.size_append, ByteArray.size_extract, List.length_cons, List.length_nil]); omega) ?_) | (refine And.intro (by (try simp only [mk_size, List.size_toArray, ByteArray.size_append, ByteArray.size_extract, List.length_cons, List.length_nil, wrap64_eq]); omega) ?_) | fail)
  all_goals first | exact h0 | (exfalso; omega) | (exfalso; simp_all; done)
theorem c_DropVF (a b c d e f : Int) (o1 : Addr) (m1 c1 : Nat) (o2 : Addr) (m2 c2 : Nat) (xs ys : List (List Int)) (h1 : Sli W0 [] 6 enI (.lit (.slice (some o1) m1 c1)) xs) (h2 : Sli W0 [] 4 enI (.lit (.slice (some o2) m2 c2)) ys) (hx : ∀ x ∈ xs, x.length = 6) (hy : ∀ x ∈ ys, x.length = 4) (hg : planB a b c d e f xs ys = false) (K : Cont) (h0 : K (.tup [plZ, Bo false]) []) : ACall Try.prog W0 48 [PlA a b c d e f (.lit (.slice (some o1) m1 c1)) (.lit (.slice (some o2) m2 c2))] [] K := by
  refine by48 (Nat.le_of_ble_eq_true rfl) ?_
  repeat' ((conv => whnf); first | (refine Exists.intro ([] : List Nat) ?_) | (refine And.intro rfl ?_) | (refine And.intro (by decide +kernel) ?_) | (refine And.intro trivial ?_) | (refine d_VainF (h1 := sli_up h1) (h2 := sli_up h2) (hx := hx) (hy := hy) (hg := hg) (h0 := ?_) ..) | (refine Exists.intro _ (And.intro rfl (And.intro rfl (And.intro (Nat.le_of_ble_eq_true rfl) ?_)))) | (refine Exists.intro _ (And.intro rfl (And.intro rfl (And.intro rfl (And.intro (Nat.le_of_ble_eq_true rfl) ?_))))) | (refine And.intro (Exists.intro _ (And.intro rfl rfl)) ?_) | (exact fun hW => absurd hW (by decide +kernel)) | (intro hW; (try simp only [Bool.not_true, Bool.not_false, Bool.not_eq_true', Bool.not_eq_false', decide_eq_true_eq, decide_eq_false_iff_not, reduceCtorEq, Bool.true_eq_false, Bool.false_eq_true, mk_size, List.size_toArray, ByteArray.size_append, ByteArray.size_extract, List.length_cons, List.length_nil, ba_get, ba_empty, Int.toNat_natCast] at hW)) | (refine And.intro (?_ : _ → _) (?_ : _ → _)) | (refine FinR.drop 0 (Nat.zero_le _) (Closed.zero _) rfl ?_) | (refine FinR.keep ?_) | (refine And.intro (det3_agg rfl) ?_) | (refine fL_mk ?_) | (refine And.intro (by (try simp only [mk_size, List.size_toArray, ByteArray.size_append, ByteArray.size_extract, List.length_cons, List.length_nil]); omega) ?_) | (refine And.intro (by (try simp only [mk_size, List.size_toArray, ByteArray.size_append, ByteArray.size_extract, List.length_cons, List.length_nil, wrap64_eq]); omega) ?_) | fail)
  all_goals first | exact h0 | (exfalso; omega) | (exfalso; simp_all; done)
theorem d_sDropVF (a b c d e f : Int) (s1 s2 : AV) (xs ys : List (List Int)) (h1 : Sli W0 σ 6 enI s1 xs) (h2 : Sli W0 σ 4 enI s2 ys) (n1 : s1 ≠ nilA) (n2 : s2 ≠ nilA) (hx : ∀ x ∈ xs, x.length = 6) (hy : ∀ x ∈ ys, x.length = 4) (hl : xs.length ≤ 1048576) (hl2 : ys.length ≤ 1048576) (hg : planB a b c d e f xs ys = false) (K : Cont) (h0 : K (.tup [plZ, Bo false]) σ) : ACall Try.prog W0 49 [PlA a b c d e f s1 s2] σ K :=
  lift_PlN (rest := []) (ι := Unit) (fun _ => .tup [plZ, Bo false]) (fun _ => []) (by kernel_rfl) rfl h1 h2 n1 n2 (fun W1 o1 m1 c1 o2 m2 c2 q1 q2 K hK => c_sDropVF a b c d e f o1 m1 c1 o2 m2 c2 xs ys q1 q2 hx hy hl hl2 hg K (hK ())) K (fun _ => by
    rw [show shB σ.length [] = [] from rfl, List.append_nil]; exact h0)
theorem d_DropVF (a b c d e f : Int) (s1 s2 : AV) (xs ys : List (List Int)) (h1 : Sli W0 σ 6 enI s1 xs) (h2 : Sli W0 σ 4 enI s2 ys) (n1 : s1 ≠ nilA) (n2 : s2 ≠ nilA) (hx : ∀ x ∈ xs, x.length = 6) (hy : ∀ x ∈ ys, x.length = 4) (hg : planB a b c d e f xs ys = false) (K : Cont) (h0 : K (.tup [plZ, Bo false]) σ) : ACall Try.prog W0 48 [PlA a b c d e f s1 s2] σ K :=
  lift_PlN (rest := []) (ι := Unit) (fun _ => .tup [plZ, Bo false]) (fun _ => []) (by kernel_rfl) rfl h1 h2 n1 n2 (fun W1 o1 m1 c1 o2 m2 c2 q1 q2 K hK => c_DropVF a b c d e f o1 m1 c1 o2 m2 c2 xs ys q1 q2 hx hy hg K (hK ())) K (fun _ => by
    rw [show shB σ.length [] = [] from rfl, List.append_nil]; exact h0)
end Go.Proofs.Ytkcbhdjhbnnlgaa
end

section
/- Plans: effects tell the end, vain steps can go, swapped steps. -/
set_option linter.unusedVariables false
set_option linter.unusedSimpArgs false
set_option maxRecDepth 100000
namespace Go.Proofs.Ytkcbhdjhbnnlgaa
open Go Go.RowKit Go.Proofs.Ytkcbhdjhbnnlgaa.Abs
theorem stepF_bit {k m n n' j : Nat} (h : n.testBit j = n'.testBit j) : (stepF k m n).testBit j = (stepF k m n').testBit j := by
  unfold stepF
  split
  · rw [Nat.testBit_xor, Nat.testBit_xor, h]
  · split
    · rw [Nat.testBit_or, Nat.testBit_or, h]
    · rw [Nat.testBit_and, Nat.testBit_and, h]
theorem runN_bit : ∀ (fs : List (Nat × Nat)) {n n' j : Nat}, n.testBit j = n'.testBit j → (runN fs n).testBit j = (runN fs n').testBit j
  | [], _, _, _, h => h
  | s :: fs, n, n', j, h => runN_bit fs (stepF_bit h)
theorem runN_cell (fs : List (Nat × Nat)) (n : Nat) {j : Nat} (hj : j < 36) : (runN fs n).testBit j = if n.testBit j then (runN fs fullN).testBit j else (runN fs 0).testBit j := by
  cases h : n.testBit j with
  | true => exact runN_bit fs (by rw [h, full_bit hj])
  | false => exact runN_bit fs (by rw [h, Nat.zero_testBit])
/-- an effect tells what becomes of a cell -/
def efOk (e : Int) (before after : Bool) : Bool := !(decide (e = 0) && (after != before)) && !(decide (e = 1) && (after == before)) && !(decide (e = 2) && !after) && !(decide (e = 3) && after)
theorem efv_ok (fs : List (Nat × Nat)) (n : Nat) {j : Nat} (hj : j < 36) : efOk (efv (runN fs 0) (runN fs fullN) j) (n.testBit j) ((runN fs n).testBit j) = true := by
  rw [runN_cell fs n hj]
  unfold efOk efv
  cases (runN fs 0).testBit j <;> cases (runN fs fullN).testBit j <;> cases n.testBit j <;> rfl
theorem fsOf_append (xs ys zs : List (List Int)) : fsOf xs (ys ++ zs) = fsOf xs ys ++ fsOf xs zs := by unfold fsOf; rw [List.map_append]
theorem runN_append (fs gs : List (Nat × Nat)) (n : Nat) : runN (fs ++ gs) n = runN gs (runN fs n) := by unfold runN; rw [List.foldl_append]
theorem mem_selN {q : Nat → Bool} : ∀ {n i : Nat}, ((i : Nat) : Int) ∈ selN q n ↔ i < n ∧ q i = true
  | 0, i => by simp [selN]
  | n + 1, i => by
    rw [selN_succ, List.mem_append, mem_selN]
    constructor
    · rintro (⟨h1, h2⟩ | h)
      · exact ⟨by omega, h2⟩
      · split at h
        · rename_i hq
          have e : i = n := by have := List.mem_singleton.1 h; omega
          subst e
          exact ⟨by omega, hq⟩
        · cases h
    · rintro ⟨h1, h2⟩
      by_cases e : i = n
      · subst e; right; rw [if_pos h2]; exact List.mem_singleton.2 rfl
      · exact .inl ⟨by omega, h2⟩
theorem kp_run {xs ys : List (List Int)} {n : Nat} : ∀ i, i ≤ ys.length → runN (fsOf xs (kpL (vainL xs ys n) ys i)) n = runN ((fsOf xs ys).take i) n
  | 0, _ => rfl
  | i + 1, hi => by
    have ih := kp_run (xs := xs) (ys := ys) (n := n) i (by omega)
    have hyi : ys[i]? = some ys[i] := List.getElem?_eq_getElem (by omega)
    have hgd : ys.getD i [] = ys[i] := by rw [List.getD_eq_getElem?_getD, hyi]; rfl
    generalize ys[i] = r at hyi hgd
    obtain ⟨f, hfi, hfe⟩ : ∃ f, (fsOf xs ys)[i]? = some f ∧ fsOf xs [r] = [f] := ⟨_, by unfold fsOf; rw [List.getElem?_map, hyi]; rfl, rfl⟩
    rw [take_snoc hfi, runN_append]
    unfold kpL
    split
    · rename_i hv
      have hq := (mem_selN.1 hv).2
      rw [ih]
      have h2 := of_decide_eq_true hq
      rw [take_snoc hfi, runN_append] at h2
      exact h2.symm
    · rw [fsOf_append, runN_append, ih, hgd, hfe]
theorem kp_count {q : Nat → Bool} {ys : List (List Int)} {n : Nat} : ∀ i, i ≤ n → (kpL (selN q n) ys i).length + (selN q i).length = i
  | 0, _ => rfl
  | i + 1, hi => by
    have ih := kp_count (q := q) (ys := ys) (n := n) i (by omega)
    unfold kpL
    rw [selN_succ, List.length_append]
    by_cases hq : q i = true
    · rw [if_pos (mem_selN.2 ⟨by omega, hq⟩), if_pos hq, List.length_singleton]; omega
    · rw [if_neg (fun h => hq (mem_selN.1 h).2), if_neg hq, List.length_append, List.length_singleton, List.length_nil]; omega
end Go.Proofs.Ytkcbhdjhbnnlgaa
end

section
/- Contracts: lists of both sides compared by the law; plans by both sides. -/
set_option linter.unusedVariables false
set_option linter.unusedSimpArgs false
set_option maxRecDepth 100000
set_option maxHeartbeats 4000000
namespace Go.Proofs.Ytkcbhdjhbnnlgaa
open Go Go.RowKit Go.Proofs.Ytkcbhdjhbnnlgaa.Abs
variable {W0 : World} {σ : List Blk}
theorem c_rInts (a b : AV) (xs : List Int) (ha : Sli W0 [] 1 en1 a xs) (hb' : Sli W0 [] 1 en1 b xs) (hl : xs.length ≤ 1048576) (K : Cont) (h0 : K (Bo true) []) : ACall Try.prog W0 47 [a, b] [] K := by
  refine by47 (Nat.le_of_ble_eq_true rfl) ?_
  cases ha with
  | nil =>
    cases hb' with
    | nil =>
      repeat' ((conv => whnf); first | (refine Exists.intro ([] : List Nat) ?_) | (refine And.intro rfl ?_) | (refine And.intro (by decide +kernel) ?_) | (refine And.intro trivial ?_) | (refine Exists.intro _ (And.intro rfl (And.intro rfl (And.intro (Nat.le_of_ble_eq_true rfl) ?_)))) | (refine Exists.intro _ (And.intro rfl (And.intro rfl (And.intro rfl (And.intro (Nat.le_of_ble_eq_true rfl) ?_))))) | (refine And.intro (Exists.intro _ (And.intro rfl rfl)) ?_) | (exact fun hW => absurd hW (by decide +kernel)) | (intro hW; (try simp only [Bool.not_true, Bool.not_false, Bool.not_eq_true', Bool.not_eq_false', decide_eq_true_eq, decide_eq_false_iff_not, reduceCtorEq, Bool.true_eq_false, Bool.false_eq_true, mk_size, List.size_toArray, ByteArray.size_append, ByteArray.size_extract, List.length_cons, List.length_nil, ba_get, ba_empty, Int.toNat_natCast] at hW)) | (refine And.intro (?_ : _ → _) (?_ : _ → _)) | (refine FinR.drop 0 (Nat.zero_le _) (Closed.zero _) rfl ?_) | (refine FinR.keep ?_) | (refine And.intro (det3_agg rfl) ?_) | (refine fL_mk ?_) | (refine And.intro (by (try simp only [mk_size, List.size_toArray, ByteArray.size_append, ByteArray.size_extract, List.length_cons, List.length_nil]); omega) ?_) | (refine And.intro (by (try simp only [mk_size, List.size_toArray, ByteArray.size_append, ByteArray.size_extract, List.length_cons, List.length_nil, wrap64_eq]); omega) ?_) | fail)
      all_goals first | (exfalso; omega) | skip
      refine LoopR.unroll 1 ?_
      repeat' ((conv => whnf); first | (refine Exists.intro ([] : List Nat) ?_) | (refine And.intro rfl ?_) | (refine And.intro (by decide +kernel) ?_) | (refine And.intro trivial ?_) | (refine Exists.intro _ (And.intro rfl (And.intro rfl (And.intro (Nat.le_of_ble_eq_true rfl) ?_)))) | (refine Exists.intro _ (And.intro rfl (And.intro rfl (And.intro rfl (And.intro (Nat.le_of_ble_eq_true rfl) ?_))))) | (refine And.intro (Exists.intro _ (And.intro rfl rfl)) ?_) | (exact fun hW => absurd hW (by decide +kernel)) | (intro hW; (try simp only [Bool.not_true, Bool.not_false, Bool.not_eq_true', Bool.not_eq_false', decide_eq_true_eq, decide_eq_false_iff_not, reduceCtorEq, Bool.true_eq_false, Bool.false_eq_true, mk_size, List.size_toArray, ByteArray.size_append, ByteArray.size_extract, List.length_cons, List.length_nil, ba_get, ba_empty, Int.toNat_natCast] at hW)) | (refine And.intro (?_ : _ → _) (?_ : _ → _)) | (refine FinR.drop 0 (Nat.zero_le _) (Closed.zero _) rfl ?_) | (refine FinR.keep ?_) | (refine And.intro (det3_agg rfl) ?_) | (refine fL_mk ?_) | (refine And.intro (by (try simp only [mk_size, List.size_toArray, ByteArray.size_append, ByteArray.size_extract, List.length_cons, List.length_nil]); omega) ?_) | (refine And.intro (by (try simp only [mk_size, List.size_toArray, ByteArray.size_append, ByteArray.size_extract, List.length_cons, List.length_nil, wrap64_eq]); omega) ?_) | fail)
      all_goals first | (exfalso; omega) | exact h0
    | inn ad n cap xs hn hc hcm hb hxx =>
      subst hn
      repeat' ((conv => whnf); first | (refine Exists.intro ([] : List Nat) ?_) | (refine And.intro rfl ?_) | (refine And.intro (by decide +kernel) ?_) | (refine And.intro trivial ?_) | (refine Exists.intro _ (And.intro rfl (And.intro rfl (And.intro (Nat.le_of_ble_eq_true rfl) ?_)))) | (refine Exists.intro _ (And.intro rfl (And.intro rfl (And.intro rfl (And.intro (Nat.le_of_ble_eq_true rfl) ?_))))) | (refine And.intro (Exists.intro _ (And.intro rfl rfl)) ?_) | (exact fun hW => absurd hW (by decide +kernel)) | (intro hW; (try simp only [Bool.not_true, Bool.not_false, Bool.not_eq_true', Bool.not_eq_false', decide_eq_true_eq, decide_eq_false_iff_not, reduceCtorEq, Bool.true_eq_false, Bool.false_eq_true, mk_size, List.size_toArray, ByteArray.size_append, ByteArray.size_extract, List.length_cons, List.length_nil, ba_get, ba_empty, Int.toNat_natCast] at hW)) | (refine And.intro (?_ : _ → _) (?_ : _ → _)) | (refine FinR.drop 0 (Nat.zero_le _) (Closed.zero _) rfl ?_) | (refine FinR.keep ?_) | (refine And.intro (det3_agg rfl) ?_) | (refine fL_mk ?_) | (refine And.intro (by (try simp only [mk_size, List.size_toArray, ByteArray.size_append, ByteArray.size_extract, List.length_cons, List.length_nil]); omega) ?_) | (refine And.intro (by (try simp only [mk_size, List.size_toArray, ByteArray.size_append, ByteArray.size_extract, List.length_cons, List.length_nil, wrap64_eq]); omega) ?_) | fail)
      all_goals first | (exfalso; simp_all; done) | skip
      refine LoopR.unroll 1 ?_
      repeat' ((conv => whnf); first | (refine Exists.intro ([] : List Nat) ?_) | (refine And.intro rfl ?_) | (refine And.intro (by decide +kernel) ?_) | (refine And.intro trivial ?_) | (refine Exists.intro _ (And.intro rfl (And.intro rfl (And.intro (Nat.le_of_ble_eq_true rfl) ?_)))) | (refine Exists.intro _ (And.intro rfl (And.intro rfl (And.intro rfl (And.intro (Nat.le_of_ble_eq_true rfl) ?_))))) | (refine And.intro (Exists.intro _ (And.intro rfl rfl)) ?_) | (exact fun hW => absurd hW (by decide +kernel)) | (intro hW; (try simp only [Bool.not_true, Bool.not_false, Bool.not_eq_true', Bool.not_eq_false', decide_eq_true_eq, decide_eq_false_iff_not, reduceCtorEq, Bool.true_eq_false, Bool.false_eq_true, mk_size, List.size_toArray, ByteArray.size_append, ByteArray.size_extract, List.length_cons, List.length_nil, ba_get, ba_empty, Int.toNat_natCast] at hW)) | (refine And.intro (?_ : _ → _) (?_ : _ → _)) | (refine FinR.drop 0 (Nat.zero_le _) (Closed.zero _) rfl ?_) | (refine FinR.keep ?_) | (refine And.intro (det3_agg rfl) ?_) | (refine fL_mk ?_) | (refine And.intro (by (try simp only [mk_size, List.size_toArray, ByteArray.size_append, ByteArray.size_extract, List.length_cons, List.length_nil]); omega) ?_) | (refine And.intro (by (try simp only [mk_size, List.size_toArray, ByteArray.size_append, ByteArray.size_extract, List.length_cons, List.length_nil, wrap64_eq]); omega) ?_) | fail)
      all_goals first | (exfalso; omega) | exact h0
    | own b ver off n cap B xs hB => simp at hB
  | inn ad n cap xs hn hc hcm hb hxx =>
    subst hn
    cases hb' with
    | nil =>
      repeat' ((conv => whnf); first | (refine Exists.intro ([] : List Nat) ?_) | (refine And.intro rfl ?_) | (refine And.intro (by decide +kernel) ?_) | (refine And.intro trivial ?_) | (refine Exists.intro _ (And.intro rfl (And.intro rfl (And.intro (Nat.le_of_ble_eq_true rfl) ?_)))) | (refine Exists.intro _ (And.intro rfl (And.intro rfl (And.intro rfl (And.intro (Nat.le_of_ble_eq_true rfl) ?_))))) | (refine And.intro (Exists.intro _ (And.intro rfl rfl)) ?_) | (exact fun hW => absurd hW (by decide +kernel)) | (intro hW; (try simp only [Bool.not_true, Bool.not_false, Bool.not_eq_true', Bool.not_eq_false', decide_eq_true_eq, decide_eq_false_iff_not, reduceCtorEq, Bool.true_eq_false, Bool.false_eq_true, mk_size, List.size_toArray, ByteArray.size_append, ByteArray.size_extract, List.length_cons, List.length_nil, ba_get, ba_empty, Int.toNat_natCast] at hW)) | (refine And.intro (?_ : _ → _) (?_ : _ → _)) | (refine FinR.drop 0 (Nat.zero_le _) (Closed.zero _) rfl ?_) | (refine FinR.keep ?_) | (refine And.intro (det3_agg rfl) ?_) | (refine fL_mk ?_) | (refine And.intro (by (try simp only [mk_size, List.size_toArray, ByteArray.size_append, ByteArray.size_extract, List.length_cons, List.length_nil]); omega) ?_) | (refine And.intro (by (try simp only [mk_size, List.size_toArray, ByteArray.size_append, ByteArray.size_extract, List.length_cons, List.length_nil, wrap64_eq]); omega) ?_) | fail)
      all_goals first | (exfalso; simp_all; done) | skip
      refine LoopR.unroll 1 ?_
      repeat' ((conv => whnf); first | (refine Exists.intro ([] : List Nat) ?_) | (refine And.intro rfl ?_) | (refine And.intro (by decide +kernel) ?_) | (refine And.intro trivial ?_) | (refine Exists.intro _ (And.intro rfl (And.intro rfl (And.intro (Nat.le_of_ble_eq_true rfl) ?_)))) | (refine Exists.intro _ (And.intro rfl (And.intro rfl (And.intro rfl (And.intro (Nat.le_of_ble_eq_true rfl) ?_))))) | (refine And.intro (Exists.intro _ (And.intro rfl rfl)) ?_) | (exact fun hW => absurd hW (by decide +kernel)) | (intro hW; (try simp only [Bool.not_true, Bool.not_false, Bool.not_eq_true', Bool.not_eq_false', decide_eq_true_eq, decide_eq_false_iff_not, reduceCtorEq, Bool.true_eq_false, Bool.false_eq_true, mk_size, List.size_toArray, ByteArray.size_append, ByteArray.size_extract, List.length_cons, List.length_nil, ba_get, ba_empty, Int.toNat_natCast] at hW)) | (refine And.intro (?_ : _ → _) (?_ : _ → _)) | (refine FinR.drop 0 (Nat.zero_le _) (Closed.zero _) rfl ?_) | (refine FinR.keep ?_) | (refine And.intro (det3_agg rfl) ?_) | (refine fL_mk ?_) | (refine And.intro (by (try simp only [mk_size, List.size_toArray, ByteArray.size_append, ByteArray.size_extract, List.length_cons, List.length_nil]); omega) ?_) | (refine And.intro (by (try simp only [mk_size, List.size_toArray, ByteArray.size_append, ByteArray.size_extract, List.length_cons, List.length_nil, wrap64_eq]); omega) ?_) | fail)
      all_goals first | (exfalso; simp_all; done) | (exfalso; omega) | exact h0
    | inn ad2 n2 cap2 xs2 hn2 hc2 hcm2 hb2 hxx2 =>
      have hnl : xs.length = n2 := hn2.symm
      subst hn2
      repeat' ((conv => whnf); first | (refine Exists.intro ([] : List Nat) ?_) | (refine And.intro rfl ?_) | (refine And.intro (by decide +kernel) ?_) | (refine And.intro trivial ?_) | (refine Exists.intro _ (And.intro rfl (And.intro rfl (And.intro (Nat.le_of_ble_eq_true rfl) ?_)))) | (refine Exists.intro _ (And.intro rfl (And.intro rfl (And.intro rfl (And.intro (Nat.le_of_ble_eq_true rfl) ?_))))) | (refine And.intro (Exists.intro _ (And.intro rfl rfl)) ?_) | (exact fun hW => absurd hW (by decide +kernel)) | (intro hW; (try simp only [Bool.not_true, Bool.not_false, Bool.not_eq_true', Bool.not_eq_false', decide_eq_true_eq, decide_eq_false_iff_not, reduceCtorEq, Bool.true_eq_false, Bool.false_eq_true, mk_size, List.size_toArray, ByteArray.size_append, ByteArray.size_extract, List.length_cons, List.length_nil, ba_get, ba_empty, Int.toNat_natCast] at hW)) | (refine And.intro (?_ : _ → _) (?_ : _ → _)) | (refine FinR.drop 0 (Nat.zero_le _) (Closed.zero _) rfl ?_) | (refine FinR.keep ?_) | (refine And.intro (det3_agg rfl) ?_) | (refine fL_mk ?_) | (refine And.intro (by (try simp only [mk_size, List.size_toArray, ByteArray.size_append, ByteArray.size_extract, List.length_cons, List.length_nil]); omega) ?_) | (refine And.intro (by (try simp only [mk_size, List.size_toArray, ByteArray.size_append, ByteArray.size_extract, List.length_cons, List.length_nil, wrap64_eq]); omega) ?_) | fail)
      all_goals first | (exfalso; omega) | (exfalso; simp_all; done) | skip
      refine LoopR.live (fun i : Nat => [(0, .lit (.slice (some ad) xs.length cap)), (1, .lit (.slice (some ad2) xs.length cap2)), (5, I i)]) (fun i => []) (fun i => i ≤ xs.length) (fun i => xs.length - i) 0 ⟨rfl, rfl, rfl, trivial⟩ (.keep rfl) (Nat.zero_le _) ?_
      intro i hi
      by_cases hlt : i < xs.length
      · have hxi : xs[i]? = some xs[i] := List.getElem?_eq_getElem hlt
        have hld := fun C h => ldIn (W0 := W0) (s := 1) (enc := en1) hb hxx (k := i) hxi rfl (C := C) h
        have hld2 := fun C h => ldIn (W0 := W0) (s := 1) (enc := en1) hb2 hxx2 (k := i) hxi rfl (C := C) h
        repeat' ((conv => whnf); first | (refine Exists.intro ([] : List Nat) ?_) | (refine And.intro rfl ?_) | (refine And.intro (by decide +kernel) ?_) | (refine And.intro trivial ?_) | (refine hld _ ?_) | (refine hld2 _ ?_) | (refine And.intro rfl (hld _ ?_)) | (refine And.intro rfl (hld2 _ ?_)) | (refine Exists.intro _ (And.intro rfl (And.intro rfl (And.intro (Nat.le_of_ble_eq_true rfl) ?_)))) | (refine Exists.intro _ (And.intro rfl (And.intro rfl (And.intro rfl (And.intro (Nat.le_of_ble_eq_true rfl) ?_))))) | (refine And.intro (Exists.intro _ (And.intro rfl rfl)) ?_) | (exact fun hW => absurd hW (by decide +kernel)) | (intro hW; (try simp only [Bool.not_true, Bool.not_false, Bool.not_eq_true', Bool.not_eq_false', decide_eq_true_eq, decide_eq_false_iff_not, reduceCtorEq, Bool.true_eq_false, Bool.false_eq_true, mk_size, List.size_toArray, ByteArray.size_append, ByteArray.size_extract, List.length_cons, List.length_nil, ba_get, ba_empty, Int.toNat_natCast] at hW)) | (refine And.intro (?_ : _ → _) (?_ : _ → _)) | (refine FinR.drop 0 (Nat.zero_le _) (Closed.zero _) rfl ?_) | (refine FinR.keep ?_) | (refine And.intro (det3_agg rfl) ?_) | (refine fL_mk ?_) | (refine And.intro (by (try simp only [mk_size, List.size_toArray, ByteArray.size_append, ByteArray.size_extract, List.length_cons, List.length_nil]); omega) ?_) | (refine And.intro (by (try simp only [mk_size, List.size_toArray, ByteArray.size_append, ByteArray.size_extract, List.length_cons, List.length_nil, wrap64_eq]); omega) ?_) | fail)
        all_goals first | (exfalso; omega) | (exfalso; simp_all; done) | skip
        exact Again.go (i + 1) ⟨rfl, rfl, slI' (wsucc' i (by omega)), trivial⟩ (.keep rfl) (by omega) (by omega)
      · obtain rfl : i = xs.length := by omega
        repeat' ((conv => whnf); first | (refine Exists.intro ([] : List Nat) ?_) | (refine And.intro rfl ?_) | (refine And.intro (by decide +kernel) ?_) | (refine And.intro trivial ?_) | (refine Exists.intro _ (And.intro rfl (And.intro rfl (And.intro (Nat.le_of_ble_eq_true rfl) ?_)))) | (refine Exists.intro _ (And.intro rfl (And.intro rfl (And.intro rfl (And.intro (Nat.le_of_ble_eq_true rfl) ?_))))) | (refine And.intro (Exists.intro _ (And.intro rfl rfl)) ?_) | (exact fun hW => absurd hW (by decide +kernel)) | (intro hW; (try simp only [Bool.not_true, Bool.not_false, Bool.not_eq_true', Bool.not_eq_false', decide_eq_true_eq, decide_eq_false_iff_not, reduceCtorEq, Bool.true_eq_false, Bool.false_eq_true, mk_size, List.size_toArray, ByteArray.size_append, ByteArray.size_extract, List.length_cons, List.length_nil, ba_get, ba_empty, Int.toNat_natCast] at hW)) | (refine And.intro (?_ : _ → _) (?_ : _ → _)) | (refine FinR.drop 0 (Nat.zero_le _) (Closed.zero _) rfl ?_) | (refine FinR.keep ?_) | (refine And.intro (det3_agg rfl) ?_) | (refine fL_mk ?_) | (refine And.intro (by (try simp only [mk_size, List.size_toArray, ByteArray.size_append, ByteArray.size_extract, List.length_cons, List.length_nil]); omega) ?_) | (refine And.intro (by (try simp only [mk_size, List.size_toArray, ByteArray.size_append, ByteArray.size_extract, List.length_cons, List.length_nil, wrap64_eq]); omega) ?_) | fail)
        all_goals first | (exfalso; omega) | exact h0
    | own b ver off n cap B xs hB => simp at hB
  | own b ver off n cap B xs hB => simp at hB
theorem d_rInts (a b : AV) (xs : List Int) (ha : Sli W0 σ 1 en1 a xs) (hb' : Sli W0 σ 1 en1 b xs) (hl : xs.length ≤ 1048576) (K : Cont) (h0 : K (Bo true) σ) : ACall Try.prog W0 47 [a, b] σ K :=
  lift_Ss (by kernel_rfl) (fun _ => rfl) ha hb' (fun W1 a' b' h h' K hK => c_rInts a' b' xs h h' hl K hK) K h0
theorem c_rSheets (a b : AV) (xs : List (List Int)) (ha : Sli W0 [] 6 enI a xs) (hb' : Sli W0 [] 6 enI b xs) (hx : ∀ x ∈ xs, x.length = 6) (hl : xs.length ≤ 1048576) (K : Cont) (h0 : K (Bo true) []) : ACall Try.prog W0 105 [a, b] [] K := by
  refine by105 (Nat.le_of_ble_eq_true rfl) ?_
  obtain ⟨o, n, cap, rfl, hn, hc, hm, hf⟩ := sli_form ha
  obtain ⟨o2, n2, cap2, rfl, hn2, hc2, hm2, hf2⟩ := sli_form hb'
  subst hn
  have hnl : xs.length = n2 := hn2.symm
  subst hn2
  repeat' ((conv => whnf); first | (refine Exists.intro ([] : List Nat) ?_) | (refine And.intro rfl ?_) | (refine And.intro (by decide +kernel) ?_) | (refine And.intro trivial ?_) | (refine Exists.intro _ (And.intro rfl (And.intro rfl (And.intro (Nat.le_of_ble_eq_true rfl) ?_)))) | (refine Exists.intro _ (And.intro rfl (And.intro rfl (And.intro rfl (And.intro (Nat.le_of_ble_eq_true rfl) ?_))))) | (refine And.intro (Exists.intro _ (And.intro rfl rfl)) ?_) | (exact fun hW => absurd hW (by decide +kernel)) | (intro hW; (try simp only [Bool.not_true, Bool.not_false, Bool.not_eq_true', Bool.not_eq_false', decide_eq_true_eq, decide_eq_false_iff_not, reduceCtorEq, Bool.true_eq_false, Bool.false_eq_true, mk_size, List.size_toArray, ByteArray.size_append, ByteArray.size_extract, List.length_cons, List.length_nil, ba_get, ba_empty, Int.toNat_natCast] at hW)) | (refine And.intro (?_ : _ → _) (?_ : _ → _)) | (refine FinR.drop 0 (Nat.zero_le _) (Closed.zero _) rfl ?_) | (refine FinR.keep ?_) | (refine And.intro (det3_agg rfl) ?_) | (refine fL_mk ?_) | (refine And.intro (by (try simp only [mk_size, List.size_toArray, ByteArray.size_append, ByteArray.size_extract, List.length_cons, List.length_nil]); omega) ?_) | (refine And.intro (by (try simp only [mk_size, List.size_toArray, ByteArray.size_append, ByteArray.size_extract, List.length_cons, List.length_nil, wrap64_eq]); omega) ?_) | fail)
  all_goals first | (exfalso; omega) | (exfalso; simp_all; done) | skip
  refine LoopR.live (fun i : Nat => [(0, .lit (.slice o xs.length cap)), (1, .lit (.slice o2 xs.length cap2)), (5, I i)]) (fun i => []) (fun i => i ≤ xs.length) (fun i => xs.length - i) 0 ⟨rfl, rfl, rfl, trivial⟩ (.keep rfl) (Nat.zero_le _) ?_
  intro i hi
  by_cases hlt : i < xs.length
  · obtain ⟨c0, c1, c2, c3, c4, c5, hxi⟩ := row6x hx hlt
    obtain ⟨ad, rfl, hb, hxx⟩ := hf i _ hxi
    obtain ⟨ad2, rfl, hb2, hxx2⟩ := hf2 i _ hxi
    have hld := fun C h => ldIn (W0 := W0) (s := 6) (enc := enI) hb hxx (k := i) hxi rfl (C := C) h
    have hld2 := fun C h => ldIn (W0 := W0) (s := 6) (enc := enI) hb2 hxx2 (k := i) hxi rfl (C := C) h
    repeat' ((conv => whnf); first | (refine Exists.intro ([] : List Nat) ?_) | (refine And.intro rfl ?_) | (refine And.intro (by decide +kernel) ?_) | (refine And.intro trivial ?_) | (refine hld _ ?_) | (refine hld2 _ ?_) | (refine And.intro rfl (hld _ ?_)) | (refine And.intro rfl (hld2 _ ?_)) | (refine Exists.intro _ (And.intro rfl (And.intro rfl (And.intro (Nat.le_of_ble_eq_true rfl) ?_)))) | (refine Exists.intro _ (And.intro rfl (And.intro rfl (And.intro rfl (And.intro (Nat.le_of_ble_eq_true rfl) ?_))))) | (refine And.intro (Exists.intro _ (And.intro rfl rfl)) ?_) | (exact fun hW => absurd hW (by decide +kernel)) | (intro hW; (try simp only [Bool.not_true, Bool.not_false, Bool.not_eq_true', Bool.not_eq_false', decide_eq_true_eq, decide_eq_false_iff_not, reduceCtorEq, Bool.true_eq_false, Bool.false_eq_true, mk_size, List.size_toArray, ByteArray.size_append, ByteArray.size_extract, List.length_cons, List.length_nil, ba_get, ba_empty, Int.toNat_natCast] at hW)) | (refine And.intro (?_ : _ → _) (?_ : _ → _)) | (refine FinR.drop 0 (Nat.zero_le _) (Closed.zero _) rfl ?_) | (refine FinR.keep ?_) | (refine And.intro (det3_agg rfl) ?_) | (refine fL_mk ?_) | (refine And.intro (by (try simp only [mk_size, List.size_toArray, ByteArray.size_append, ByteArray.size_extract, List.length_cons, List.length_nil]); omega) ?_) | (refine And.intro (by (try simp only [mk_size, List.size_toArray, ByteArray.size_append, ByteArray.size_extract, List.length_cons, List.length_nil, wrap64_eq]); omega) ?_) | fail)
    all_goals first | (exfalso; omega) | (exfalso; simp_all [eq6]; done) | skip
    exact Again.go (i + 1) ⟨rfl, rfl, slI' (wsucc' i (by omega)), trivial⟩ (.keep rfl) (by omega) (by omega)
  · obtain rfl : i = xs.length := by omega
    repeat' ((conv => whnf); first | (refine Exists.intro ([] : List Nat) ?_) | (refine And.intro rfl ?_) | (refine And.intro (by decide +kernel) ?_) | (refine And.intro trivial ?_) | (refine Exists.intro _ (And.intro rfl (And.intro rfl (And.intro (Nat.le_of_ble_eq_true rfl) ?_)))) | (refine Exists.intro _ (And.intro rfl (And.intro rfl (And.intro rfl (And.intro (Nat.le_of_ble_eq_true rfl) ?_))))) | (refine And.intro (Exists.intro _ (And.intro rfl rfl)) ?_) | (exact fun hW => absurd hW (by decide +kernel)) | (intro hW; (try simp only [Bool.not_true, Bool.not_false, Bool.not_eq_true', Bool.not_eq_false', decide_eq_true_eq, decide_eq_false_iff_not, reduceCtorEq, Bool.true_eq_false, Bool.false_eq_true, mk_size, List.size_toArray, ByteArray.size_append, ByteArray.size_extract, List.length_cons, List.length_nil, ba_get, ba_empty, Int.toNat_natCast] at hW)) | (refine And.intro (?_ : _ → _) (?_ : _ → _)) | (refine FinR.drop 0 (Nat.zero_le _) (Closed.zero _) rfl ?_) | (refine FinR.keep ?_) | (refine And.intro (det3_agg rfl) ?_) | (refine fL_mk ?_) | (refine And.intro (by (try simp only [mk_size, List.size_toArray, ByteArray.size_append, ByteArray.size_extract, List.length_cons, List.length_nil]); omega) ?_) | (refine And.intro (by (try simp only [mk_size, List.size_toArray, ByteArray.size_append, ByteArray.size_extract, List.length_cons, List.length_nil, wrap64_eq]); omega) ?_) | fail)
    all_goals first | (exfalso; omega) | exact h0
theorem d_rSheets (a b : AV) (xs : List (List Int)) (ha : Sli W0 σ 6 enI a xs) (hb' : Sli W0 σ 6 enI b xs) (hx : ∀ x ∈ xs, x.length = 6) (hl : xs.length ≤ 1048576) (K : Cont) (h0 : K (Bo true) σ) : ACall Try.prog W0 105 [a, b] σ K :=
  lift_Ss (by kernel_rfl) (fun _ => rfl) ha hb' (fun W1 a' b' h h' K hK => c_rSheets a' b' xs h h' hx hl K hK) K h0
theorem c_rPlan (a b c d e f : Int) (v1 v2 u1 u2 : Value) (xs ys : List (List Int)) (h1 : Sli W0 [] 6 enI (.lit v1) xs) (h2 : Sli W0 [] 4 enI (.lit v2) ys) (g1 : Sli W0 [] 6 enI (.lit u1) xs) (g2 : Sli W0 [] 4 enI (.lit u2) ys) (hx : ∀ x ∈ xs, x.length = 6) (hy : ∀ x ∈ ys, x.length = 4) (hl : xs.length ≤ 1048576) (hl2 : ys.length ≤ 1048576) (K : Cont) (h0 : K (Bo true) []) : ACall Try.prog W0 50 [PlA a b c d e f (.lit v1) (.lit v2), PlA a b c d e f (.lit u1) (.lit u2)] [] K := by
  refine by50 (Nat.le_of_ble_eq_true rfl) ?_
  obtain ⟨o, n, cap, e1, hn, hc, hm, hf⟩ := sli_form h2
  obtain ⟨o2, n2, cap2, e2, hn2, hc2, hm2, hf2⟩ := sli_form g2
  cases e1; cases e2
  subst hn
  have hnl : ys.length = n2 := hn2.symm
  subst hn2
  repeat' ((conv => whnf); first | (refine Exists.intro ([] : List Nat) ?_) | (refine And.intro rfl ?_) | (refine And.intro (by decide +kernel) ?_) | (refine And.intro trivial ?_) | (refine d_rSheets (ha := sli_up h1) (hb' := sli_up g1) (hx := hx) (hl := hl) (h0 := ?_) ..) | (refine Exists.intro _ (And.intro rfl (And.intro rfl (And.intro (Nat.le_of_ble_eq_true rfl) ?_)))) | (refine Exists.intro _ (And.intro rfl (And.intro rfl (And.intro rfl (And.intro (Nat.le_of_ble_eq_true rfl) ?_))))) | (refine And.intro (Exists.intro _ (And.intro rfl rfl)) ?_) | (exact fun hW => absurd hW (by decide +kernel)) | (intro hW; (try simp only [Bool.not_true, Bool.not_false, Bool.not_eq_true', Bool.not_eq_false', decide_eq_true_eq, decide_eq_false_iff_not, reduceCtorEq, Bool.true_eq_false, Bool.false_eq_true, mk_size, List.size_toArray, ByteArray.size_append, ByteArray.size_extract, List.length_cons, List.length_nil, ba_get, ba_empty, Int.toNat_natCast] at hW)) | (refine And.intro (?_ : _ → _) (?_ : _ → _)) | (refine FinR.drop 0 (Nat.zero_le _) (Closed.zero _) rfl ?_) | (refine FinR.keep ?_) | (refine And.intro (det3_agg rfl) ?_) | (refine fL_mk ?_) | (refine And.intro (by (try simp only [mk_size, List.size_toArray, ByteArray.size_append, ByteArray.size_extract, List.length_cons, List.length_nil]); omega) ?_) | (refine And.intro (by (try simp only [mk_size, List.size_toArray, ByteArray.size_append, ByteArray.size_extract, List.length_cons, List.length_nil, wrap64_eq]); omega) ?_) | fail)
  all_goals first | (exfalso; omega) | (exfalso; simp_all; done) | skip
  refine LoopR.live (fun i : Nat => [(2, .ptr 0 0 0), (3, .ptr 1 0 0), (5, I i)]) (fun i => [plBx a b c d e f (.lit v1) (.lit (.slice o ys.length cap)) 67, plBx a b c d e f (.lit u1) (.lit (.slice o2 ys.length cap2)) 67]) (fun i => i ≤ ys.length) (fun i => ys.length - i) 0 ⟨rfl, rfl, rfl, trivial⟩ (.keep rfl) (Nat.zero_le _) ?_
  intro i hi
  by_cases hlt : i < ys.length
  · obtain ⟨x0, x1, x2, x3, hxi⟩ := row4x hy hlt
    obtain ⟨ad, rfl, hb, hxx⟩ := hf i _ hxi
    obtain ⟨ad2, rfl, hb2, hxx2⟩ := hf2 i _ hxi
    have hld := fun C h => ldIn (W0 := W0) (s := 4) (enc := enI) hb hxx (k := i) hxi rfl (C := C) h
    have hld2 := fun C h => ldIn (W0 := W0) (s := 4) (enc := enI) hb2 hxx2 (k := i) hxi rfl (C := C) h
    repeat' ((conv => whnf); first | (refine Exists.intro ([] : List Nat) ?_) | (refine And.intro rfl ?_) | (refine And.intro (by decide +kernel) ?_) | (refine And.intro trivial ?_) | (refine hld _ ?_) | (refine hld2 _ ?_) | (refine And.intro rfl (hld _ ?_)) | (refine And.intro rfl (hld2 _ ?_)) | (refine Exists.intro _ (And.intro rfl (And.intro rfl (And.intro (Nat.le_of_ble_eq_true rfl) ?_)))) | (refine Exists.intro _ (And.intro rfl (And.intro rfl (And.intro rfl (And.intro (Nat.le_of_ble_eq_true rfl) ?_))))) | (refine And.intro (Exists.intro _ (And.intro rfl rfl)) ?_) | (exact fun hW => absurd hW (by decide +kernel)) | (intro hW; (try simp only [Bool.not_true, Bool.not_false, Bool.not_eq_true', Bool.not_eq_false', decide_eq_true_eq, decide_eq_false_iff_not, reduceCtorEq, Bool.true_eq_false, Bool.false_eq_true, mk_size, List.size_toArray, ByteArray.size_append, ByteArray.size_extract, List.length_cons, List.length_nil, ba_get, ba_empty, Int.toNat_natCast] at hW)) | (refine And.intro (?_ : _ → _) (?_ : _ → _)) | (refine FinR.drop 0 (Nat.zero_le _) (Closed.zero _) rfl ?_) | (refine FinR.keep ?_) | (refine And.intro (det3_agg rfl) ?_) | (refine fL_mk ?_) | (refine And.intro (by (try simp only [mk_size, List.size_toArray, ByteArray.size_append, ByteArray.size_extract, List.length_cons, List.length_nil]); omega) ?_) | (refine And.intro (by (try simp only [mk_size, List.size_toArray, ByteArray.size_append, ByteArray.size_extract, List.length_cons, List.length_nil, wrap64_eq]); omega) ?_) | fail)
    all_goals first | (exfalso; omega) | (exfalso; simp_all; done) | skip
    exact Again.go (i + 1) ⟨rfl, rfl, slI' (wsucc' i (by omega)), trivial⟩ (.keep rfl) (by omega) (by omega)
  · obtain rfl : i = ys.length := by omega
    repeat' ((conv => whnf); first | (refine Exists.intro ([] : List Nat) ?_) | (refine And.intro rfl ?_) | (refine And.intro (by decide +kernel) ?_) | (refine And.intro trivial ?_) | (refine Exists.intro _ (And.intro rfl (And.intro rfl (And.intro (Nat.le_of_ble_eq_true rfl) ?_)))) | (refine Exists.intro _ (And.intro rfl (And.intro rfl (And.intro rfl (And.intro (Nat.le_of_ble_eq_true rfl) ?_))))) | (refine And.intro (Exists.intro _ (And.intro rfl rfl)) ?_) | (exact fun hW => absurd hW (by decide +kernel)) | (intro hW; (try simp only [Bool.not_true, Bool.not_false, Bool.not_eq_true', Bool.not_eq_false', decide_eq_true_eq, decide_eq_false_iff_not, reduceCtorEq, Bool.true_eq_false, Bool.false_eq_true, mk_size, List.size_toArray, ByteArray.size_append, ByteArray.size_extract, List.length_cons, List.length_nil, ba_get, ba_empty, Int.toNat_natCast] at hW)) | (refine And.intro (?_ : _ → _) (?_ : _ → _)) | (refine FinR.drop 0 (Nat.zero_le _) (Closed.zero _) rfl ?_) | (refine FinR.keep ?_) | (refine And.intro (det3_agg rfl) ?_) | (refine fL_mk ?_) | (refine And.intro (by (try simp only [mk_size, List.size_toArray, ByteArray.size_append, ByteArray.size_extract, List.length_cons, List.length_nil]); omega) ?_) | (refine And.intro (by (try simp only [mk_size, List.size_toArray, ByteArray.size_append, ByteArray.size_extract, List.length_cons, List.length_nil, wrap64_eq]); omega) ?_) | fail)
    all_goals first | (exfalso; omega) | exact h0
theorem d_rPlan (a b c d e f : Int) (s1 s2 t1 t2 : AV) (xs ys : List (List Int)) (h1 : Sli W0 σ 6 enI s1 xs) (h2 : Sli W0 σ 4 enI s2 ys) (g1 : Sli W0 σ 6 enI t1 xs) (g2 : Sli W0 σ 4 enI t2 ys) (hx : ∀ x ∈ xs, x.length = 6) (hy : ∀ x ∈ ys, x.length = 4) (hl : xs.length ≤ 1048576) (hl2 : ys.length ≤ 1048576) (K : Cont) (h0 : K (Bo true) σ) : ACall Try.prog W0 50 [PlA a b c d e f s1 s2, PlA a b c d e f t1 t2] σ K :=
  lift_PlPl (by kernel_rfl) (fun _ => rfl) h1 h2 g1 g2 (fun W1 v1 v2 u1 u2 q1 q2 q3 q4 K hK => c_rPlan a b c d e f v1 v2 u1 u2 xs ys q1 q2 q3 q4 hx hy hl hl2 K hK) K h0
end Go.Proofs.Ytkcbhdjhbnnlgaa
end

section
/- Contracts: vain steps and plans without them, their new blocks at fixed numbers. -/
set_option linter.unusedVariables false
set_option linter.unusedSimpArgs false
set_option maxRecDepth 100000
set_option maxHeartbeats 4000000
namespace Go.Proofs.Ytkcbhdjhbnnlgaa
open Go Go.RowKit Go.Proofs.Ytkcbhdjhbnnlgaa.Abs
variable {W0 : World} {σ : List Blk}
theorem ints_lits (l : List Int) : ∀ c ∈ l.map I, ∃ u, c = AV.lit u := by
  intro c hc
  obtain ⟨x, _, rfl⟩ := List.mem_map.1 hc
  exact ⟨_, rfl⟩
theorem cleanSl {P : Program} {g : FuncId} {args : List AV} {L : List Int} {n : Nat} {t : Bool} (h : ∀ K : Cont, (∀ r cap τ, τ[r]? = some (outB L) → K (.tup [.sl r L.length 0 n cap, Bo t]) τ) → ACall P W0 g args [] K) (K : Cont) (h0 : ∀ cap, K (.tup [.sl 0 L.length 0 n cap, Bo t]) [outB L]) : ACall P W0 g args [] K := by
  refine onlyL (h (fun v S => ∃ r cap, S[r]? = some (outB L) ∧ v = .tup [.sl r L.length 0 n cap, Bo t]) fun r cap τ k => ⟨r, cap, k, rfl⟩) ?_
  rintro v S ⟨r, cap, k, rfl⟩
  refine ⟨[r], [outB L], _, by simp, rfl, ?_, ?_, ?_, h0 cap⟩
  · intro i b B h1 h2
    match i with
    | 0 => cases h1; cases h2; exact k
    | i + 1 => simp at h1
  · intro B hB
    rw [List.mem_singleton.1 hB]; exact ints_lits L
  · intro ι x hr
    obtain ⟨l, rfl, hl⟩ := hr
    obtain ⟨x1, l, rfl, r1, hl⟩ := Rels.uncons hl
    obtain ⟨x2, l, rfl, r2, hl⟩ := Rels.uncons hl
    obtain rfl := hl.nil_inv
    exact ⟨_, rfl, Rels.cons (slRel.kept (bs := [r]) (i := 0) rfl rfl k r1) (Rels.cons r2 Rels.nil)⟩
theorem cleanPl {P : Program} {g : FuncId} {args : List AV} {a b c d e f : Int} {xs L : List (List Int)} {t : Bool} (h : ∀ K : Cont, (∀ x : NewP xs L, K (.tup [plN a b c d e f x, Bo t]) x.τ) → ACall P W0 g args [] K) (K : Cont) (h0 : ∀ r1 c1 r2 c2, K (.tup [PlA a b c d e f (.sl 0 r1 0 xs.length c1) (.sl 1 r2 0 L.length c2), Bo t]) [shK xs r1, stK L r2]) : ACall P W0 g args [] K := by
  refine onlyL (h (fun v S => ∃ b1 r1 c1 b2 r2 c2, S[b1]? = some (shK xs r1) ∧ S[b2]? = some (stK L r2) ∧ v = .tup [PlA a b c d e f (.sl b1 r1 0 xs.length c1) (.sl b2 r2 0 L.length c2), Bo t]) fun x => ⟨x.b1, x.r1, x.c1, x.b2, x.r2, x.c2, x.h1, x.h2, rfl⟩) ?_
  rintro v S ⟨b1, r1, c1, b2, r2, c2, k1, k2, rfl⟩
  have hne := ne_of_64 k1 k2
  refine ⟨[b1, b2], [shK xs r1, stK L r2], _, by simp [hne], rfl, ?_, ?_, ?_, h0 r1 c1 r2 c2⟩
  · intro i b B h1 h2
    match i with
    | 0 => cases h1; cases h2; exact k1
    | 1 => cases h1; cases h2; exact k2
    | i + 2 => simp at h1
  · intro B hB
    rcases List.mem_cons.1 hB with rfl | hB
    · exact jc_lits xs
    · rw [List.mem_singleton.1 hB]; exact jc_lits L
  · intro ι x hr
    obtain ⟨l, rfl, hl⟩ := hr
    obtain ⟨x1, l, rfl, q1, hl⟩ := Rels.uncons hl
    obtain ⟨x2, l, rfl, q2, hl⟩ := Rels.uncons hl
    obtain rfl := hl.nil_inv
    exact ⟨_, rfl, Rels.cons (plA_kept (i := 0) (j := 1) rfl rfl k1 rfl rfl k2 q1) (Rels.cons q2 Rels.nil)⟩
theorem out_shB (k : Nat) (l : List Int) : shB k [outB l] = [outB l] := by
  show [(⟨(l.map I).map (sh1 k), _, _, _, _, _⟩ : Blk)] = _
  rw [sh_I]
theorem new_shB (k : Nat) (xs ys : List (List Int)) (r1 r2 : Nat) : shB k [shK xs r1, stK ys r2] = [shK xs r1, stK ys r2] := by
  show [(⟨(jc xs).map (sh1 k), _, _, _, _, _⟩ : Blk), ⟨(jc ys).map (sh1 k), _, _, _, _, _⟩] = _
  rw [jc_sh, jc_sh]
theorem d_sVainC (a b c d e f : Int) (s1 s2 : AV) (xs ys : List (List Int)) (h1 : Sli W0 σ 6 enI s1 xs) (h2 : Sli W0 σ 4 enI s2 ys) (hx : ∀ x ∈ xs, x.length = 6) (hy : ∀ x ∈ ys, x.length = 4) (hl : xs.length ≤ 1048576) (hl2 : ys.length ≤ 1048576) (hg : planB a b c d e f xs ys = true) (L : List Int) (hL : L = vainL xs ys (stN [a, b, c, d, e, f])) (K : Cont)
    (h0 : ∀ cap, K (.tup [.sl (σ.length + 0) L.length 0 L.length cap, Bo true]) (σ ++ [outB L])) : ACall Try.prog W0 46 [PlA a b c d e f s1 s2] σ K :=
  lift_Pl (rest := []) (ι := Nat) (fun cap => .tup [.sl 0 L.length 0 L.length cap, Bo true]) (fun _ => [outB L]) (by kernel_rfl) rfl h1 h2
    (fun W1 v1 v2 q1 q2 K hK => cleanSl (c_sVainT a b c d e f v1 v2 xs ys q1 q2 hx hy hl hl2 hg L hL) K hK) K (fun cap => by rw [out_shB]; exact h0 cap)
theorem d_VainC (a b c d e f : Int) (s1 s2 : AV) (xs ys : List (List Int)) (h1 : Sli W0 σ 6 enI s1 xs) (h2 : Sli W0 σ 4 enI s2 ys) (hx : ∀ x ∈ xs, x.length = 6) (hy : ∀ x ∈ ys, x.length = 4) (hg : planB a b c d e f xs ys = true) (L : List Int) (hL : L = vainL xs ys (stN [a, b, c, d, e, f])) (K : Cont)
    (h0 : ∀ cap, K (.tup [.sl (σ.length + 0) L.length 0 L.length cap, Bo true]) (σ ++ [outB L])) : ACall Try.prog W0 45 [PlA a b c d e f s1 s2] σ K :=
  lift_Pl (rest := []) (ι := Nat) (fun cap => .tup [.sl 0 L.length 0 L.length cap, Bo true]) (fun _ => [outB L]) (by kernel_rfl) rfl h1 h2
    (fun W1 v1 v2 q1 q2 K hK => cleanSl (c_VainT a b c d e f v1 v2 xs ys q1 q2 hx hy hg L hL) K hK) K (fun cap => by rw [out_shB]; exact h0 cap)
theorem d_sDropC (a b c d e f : Int) (s1 s2 : AV) (xs ys L : List (List Int)) (hL : L = kpL (vainL xs ys (stN [a, b, c, d, e, f])) ys ys.length) (h1 : Sli W0 σ 6 enI s1 xs) (h2 : Sli W0 σ 4 enI s2 ys) (n1 : s1 ≠ nilA) (n2 : s2 ≠ nilA) (hx : ∀ x ∈ xs, x.length = 6) (hy : ∀ x ∈ ys, x.length = 4) (hl : xs.length ≤ 1048576) (hl2 : ys.length ≤ 1048576) (hg : planB a b c d e f xs ys = true) (K : Cont)
    (h0 : ∀ r1 c1 r2 c2, K (.tup [PlA a b c d e f (.sl (σ.length + 0) r1 0 xs.length c1) (.sl (σ.length + 1) r2 0 L.length c2), Bo true]) (σ ++ [shK xs r1, stK L r2])) : ACall Try.prog W0 49 [PlA a b c d e f s1 s2] σ K :=
  lift_PlN (rest := []) (ι := Nat × Nat × Nat × Nat) (fun x => .tup [PlA a b c d e f (.sl 0 x.1 0 xs.length x.2.1) (.sl 1 x.2.2.1 0 L.length x.2.2.2), Bo true]) (fun x => [shK xs x.1, stK L x.2.2.1]) (by kernel_rfl) rfl h1 h2 n1 n2
    (fun W1 o1 m1 c1 o2 m2 c2 q1 q2 K hK => cleanPl (c_sDropVT a b c d e f o1 m1 c1 o2 m2 c2 xs ys L hL q1 q2 hx hy hl hl2 hg) K fun r1 c1 r2 c2 => hK (r1, c1, r2, c2)) K (fun x => by rw [new_shB]; exact h0 _ _ _ _)
theorem d_DropC (a b c d e f : Int) (s1 s2 : AV) (xs ys L : List (List Int)) (hL : L = kpL (vainL xs ys (stN [a, b, c, d, e, f])) ys ys.length) (h1 : Sli W0 σ 6 enI s1 xs) (h2 : Sli W0 σ 4 enI s2 ys) (n1 : s1 ≠ nilA) (n2 : s2 ≠ nilA) (hx : ∀ x ∈ xs, x.length = 6) (hy : ∀ x ∈ ys, x.length = 4) (hg : planB a b c d e f xs ys = true) (K : Cont)
    (h0 : ∀ r1 c1 r2 c2, K (.tup [PlA a b c d e f (.sl (σ.length + 0) r1 0 xs.length c1) (.sl (σ.length + 1) r2 0 L.length c2), Bo true]) (σ ++ [shK xs r1, stK L r2])) : ACall Try.prog W0 48 [PlA a b c d e f s1 s2] σ K :=
  lift_PlN (rest := []) (ι := Nat × Nat × Nat × Nat) (fun x => .tup [PlA a b c d e f (.sl 0 x.1 0 xs.length x.2.1) (.sl 1 x.2.2.1 0 L.length x.2.2.2), Bo true]) (fun x => [shK xs x.1, stK L x.2.2.1]) (by kernel_rfl) rfl h1 h2 n1 n2
    (fun W1 o1 m1 c1 o2 m2 c2 q1 q2 K hK => cleanPl (c_DropVT a b c d e f o1 m1 c1 o2 m2 c2 xs ys L hL q1 q2 hx hy hg) K fun r1 c1 r2 c2 => hK (r1, c1, r2, c2)) K (fun x => by rw [new_shB]; exact h0 _ _ _ _)
end Go.Proofs.Ytkcbhdjhbnnlgaa
end
