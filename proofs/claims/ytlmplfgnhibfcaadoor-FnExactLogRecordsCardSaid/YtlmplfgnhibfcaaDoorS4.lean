/- Contracts: the parts of a text. -/
import Derived.Test.YtlmplfgnhibfcaaDoorSpl
import Derived.Test.YtlmplfgnhibfcaaDoorS3
set_option linter.unusedVariables false
set_option linter.unusedSimpArgs false
set_option maxRecDepth 100000
namespace Go.Proofs.YtlmplfgnhibfcaaDoor
open Go Go.RowKit Go.Proofs.YtlmplfgnhibfcaaDoor.Abs
variable {W0 : World} {σ : List Blk}
/-- the cells of texts -/
def tcells (l : List Bs) : List AV := l.map fun x => .lit (.string (bs x))
theorem tcells_sh (k : Nat) (l : List Bs) : (tcells l).map (sh1 k) = tcells l := by unfold tcells; rw [List.map_map]; rfl
theorem blk_ext {c c' : List AV} {v v' : Nat} {e z : Nat} {r m m' : Bool} (h1 : c = c') (h2 : v = v') (h3 : m = m') : [(⟨c, v, e, z, r, m⟩ : Blk)] = [⟨c', v', e, z, r, m'⟩] := by subst h1; subst h2; subst h3; rfl
theorem kX {K : Cont} {v v' : AV} {σ σ' : List Blk} (h : K v σ) (e1 : v = v') (e2 : σ = σ') : K v' σ' := by subst e1; subst e2; exact h
theorem sl_len {b v o n n' c : Nat} (h : n = n') : AV.sl b v o n c = AV.sl b v o n' c := by subst h; rfl
structure SpX where
  out : List Bs
  f : Nat
  i : Nat
  ver : Nat
  cap : Nat

theorem c_l1Split (s : ByteArray) (b : UInt8) (hs : s.size < 100000000) (K : Cont) (h0 : ∀ ver cap, K (.sl 0 ver 0 (splitL b (tl s)).length cap) [⟨tcells (splitL b (tl s)), ver, 9, 1, true, true⟩]) : ACall Tryd.prog W0 21 [St s, B8 b] [] K := by
  refine by21 (Nat.le_of_ble_eq_true rfl) ?_
  have tls := tl_len s
  repeat' ((conv => whnf); first
    | (refine And.intro rfl ?_)
    | (refine And.intro (by decide +kernel) ?_)
    | (refine And.intro trivial ?_)
    | (refine Exists.intro _ (And.intro rfl (And.intro rfl (And.intro (Nat.le_of_ble_eq_true rfl) ?_))))
    | (refine Exists.intro _ (And.intro rfl (And.intro rfl (And.intro rfl (And.intro (Nat.le_of_ble_eq_true rfl) ?_)))))
    | (refine And.intro (Exists.intro _ (And.intro rfl rfl)) ?_)
    | (exact fun hW => absurd hW (by decide +kernel))
    | (intro hW; (try simp only [Bool.not_true, Bool.not_false, Bool.not_eq_true', Bool.not_eq_false', decide_eq_true_eq, decide_eq_false_iff_not, reduceCtorEq, Bool.true_eq_false, Bool.false_eq_true, mk_size, List.size_toArray, ByteArray.size_append, ByteArray.size_extract, List.length_cons, List.length_nil, ba_get, ba_empty, Int.toNat_natCast] at hW))
    | (refine And.intro (?_ : _ → _) (?_ : _ → _))
    | (refine FinR.drop 0 (Nat.zero_le _) (Closed.zero _) rfl ?_)
    | (refine FinR.keep ?_)
    | (refine And.intro (det3_agg rfl) ?_)
    | (refine fL_mk ?_)
    | (refine And.intro (by (try simp only [mk_size, List.size_toArray, ByteArray.size_append, ByteArray.size_extract, List.length_cons, List.length_nil]); omega) ?_)
    | (refine And.intro (by (try simp only [mk_size, List.size_toArray, ByteArray.size_append, ByteArray.size_extract, List.length_cons, List.length_nil, wrap64_eq]); omega) ?_)
    | fail)
  refine LoopR.live (fun x : SpX => [(0, St s), (1, B8 b), (5, .sl 0 x.ver 0 x.out.length x.cap), (6, I x.f), (7, I x.i)]) (fun x => [⟨tcells x.out, x.ver, 9, 1, true, true⟩])
    (fun x => x.f ≤ x.i ∧ x.i ≤ s.size ∧ x.out.length ≤ x.i ∧ x.out ++ splitL b ((tl s).drop x.f) = splitL b (tl s) ∧ (((tl s).drop x.f).take (x.i - x.f)).all (fun c => !(c == b)) = true) (fun x => s.size - x.i) ⟨[], 0, 0, 0, 0⟩ ⟨rfl, rfl, rfl, rfl, rfl, trivial⟩ (.keep rfl) ⟨Nat.le_refl _, Nat.zero_le _, Nat.le_refl _, rfl, rfl⟩ ?_
  rintro ⟨out, f, i, ver, cap⟩ ⟨hf, hi, ho, hsp, hn⟩
  dsimp only at hf hi ho hsp hn
  have piece : ∀ j, s.extract f j = bs (((tl s).drop f).take (j - f)) := fun j => Lib.extract_eq _ _ _
  repeat' ((conv => whnf); first
    | (refine And.intro rfl ?_)
    | (refine And.intro (by decide +kernel) ?_)
    | (refine And.intro trivial ?_)
    | (refine Exists.intro _ (And.intro rfl (And.intro rfl (And.intro rfl (And.intro rfl (And.intro rfl (And.intro rfl (And.intro (by decide) (And.intro (by simp [tcells]) (And.intro rfl (And.intro (by (try dsimp only); unfold maxLen; omega) (And.intro (by (try dsimp only); omega) (fun cap' hcap1 hcap2 => ?_)))))))))))))
    | (refine Exists.intro _ (And.intro rfl (And.intro rfl (And.intro (Nat.le_of_ble_eq_true rfl) ?_))))
    | (refine Exists.intro _ (And.intro rfl (And.intro rfl (And.intro rfl (And.intro (Nat.le_of_ble_eq_true rfl) ?_)))))
    | (refine And.intro (Exists.intro _ (And.intro rfl rfl)) ?_)
    | (exact fun hW => absurd hW (by decide +kernel))
    | (intro hW; (try simp only [Bool.not_true, Bool.not_false, Bool.not_eq_true', Bool.not_eq_false', decide_eq_true_eq, decide_eq_false_iff_not, reduceCtorEq, Bool.true_eq_false, Bool.false_eq_true, mk_size, List.size_toArray, ByteArray.size_append, ByteArray.size_extract, List.length_cons, List.length_nil, ba_get, ba_empty, Int.toNat_natCast] at hW))
    | (refine And.intro (?_ : _ → _) (?_ : _ → _))
    | (refine FinR.drop 0 (Nat.zero_le _) (Closed.zero _) rfl ?_)
    | (refine FinR.keep ?_)
    | (refine And.intro (det3_agg rfl) ?_)
    | (refine fL_mk ?_)
    | (refine And.intro (by (try simp only [mk_size, List.size_toArray, ByteArray.size_append, ByteArray.size_extract, List.length_cons, List.length_nil]); omega) ?_)
    | (refine And.intro (by (try simp only [mk_size, List.size_toArray, ByteArray.size_append, ByteArray.size_extract, List.length_cons, List.length_nil, wrap64_eq]); omega) ?_)
    | fail)
  · refine Again.go ⟨out ++ [((tl s).drop f).take (i - f)], i + 1, i + 1, ver + 1, cap'⟩ ⟨rfl, rfl, sl_len (by simp), slI (iN i (by omega)), slI (iN i (by omega)), trivial⟩ (.keep (blk_ext ?_ rfl rfl)) ⟨Nat.le_refl _, by dsimp only; omega, by simp; omega, ?_, ?_⟩ (by dsimp only; omega)
    · show tcells (out ++ [_]) = tcells out ++ [AV.lit (.string (s.extract f i))]
      rw [piece]; simp [tcells]
    · dsimp only
      rw [split_step hf (by omega) hn (u8_eq hW)] at hsp
      rw [List.append_assoc]; exact hsp
    · dsimp only; rw [Nat.sub_self, List.take_zero]; rfl
  · refine Again.go ⟨out, f, i + 1, ver, cap⟩ ⟨rfl, rfl, rfl, rfl, slI (iN i (by omega)), trivial⟩ (.keep rfl) ⟨by dsimp only; omega, by dsimp only; omega, by dsimp only; omega, hsp, ?_⟩ (by dsimp only; omega)
    exact piece_step hf (by omega) hn (by rw [u8_ne hW]; rfl)
  · have e1 : splitL b ((tl s).drop f) = [(tl s).drop f] := split_none (by rw [List.take_of_length_le (by rw [List.length_drop]; omega)] at hn; exact hn)
    rw [e1] at hsp
    have h1 := h0 (ver + 1) cap'
    rw [← hsp] at h1
    refine kX h1 (sl_len (by simp)) (blk_ext ?_ rfl rfl)
    show tcells (out ++ [_]) = tcells out ++ [AV.lit (.string (s.extract f s.size))]
    rw [piece, List.take_of_length_le (by rw [List.length_drop]; omega)]; simp [tcells]
theorem d_l1Split (s : ByteArray) (b : UInt8) (hs : s.size < 100000000) (K : Cont) (h0 : ∀ ver cap, K (.sl σ.length ver 0 (splitL b (tl s)).length cap) (σ ++ [⟨tcells (splitL b (tl s)), ver, 9, 1, true, true⟩])) : ACall Tryd.prog W0 21 [St s, B8 b] σ K := by
  refine ACall.frame (K0 := fun v σ' => ∃ ver cap, v = .sl 0 ver 0 (splitL b (tl s)).length cap ∧ σ' = [⟨tcells (splitL b (tl s)), ver, 9, 1, true, true⟩]) rfl (fun W1 _ => c_l1Split s b hs _ fun ver cap => ⟨ver, cap, rfl, rfl⟩) ?_
  rintro v σ' ⟨ver, cap, rfl, rfl⟩
  have := h0 ver cap
  simp only [sh3, sh2, sh1, shB, List.map_cons, List.map_nil, tcells_sh, Nat.add_zero]
  exact this
end Go.Proofs.YtlmplfgnhibfcaaDoor
