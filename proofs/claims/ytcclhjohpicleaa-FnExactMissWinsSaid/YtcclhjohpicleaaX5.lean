import Derived.Test.YtcclhjohpicleaaX4
section
/- Games: free presses and what comes of them, by the program. -/
set_option linter.unusedVariables false
set_option linter.unusedSimpArgs false
set_option maxRecDepth 100000
set_option maxHeartbeats 4000000
namespace Go.Proofs.Ytcclhjohpicleaa
open Go Go.RowKit Go.Proofs.Ytcclhjohpicleaa.Abs
variable {W0 : World} {σ : List Blk}
theorem d_pressK (n k : Nat) (hn : n < 2 ^ 36) (hk : k < 36) (K : Cont) (h0 : K (Un (prK n k)) σ) : ACall Try.prog W0 53 [U n, I k] σ K :=
  d_pressed n k hn hk K h0
abbrev bU (n : Nat) : Blk := ⟨[Un n], 0, 47, 0, false, false⟩
theorem freeClo (n m : Nat) (hn : n < 2 ^ 36) (hm : m < 2 ^ 36) (k : Nat) (hk : k < 36) (K : Cont) (h0 : K (Bo (frF n m k)) [bU n, bU m]) : ACall Try.prog W0 72 (I k :: [.ptr 1 0 0, .ptr 0 0 0]) [bU n, bU m] K := by
  refine by72 (Nat.le_of_ble_eq_true rfl) ?_
  have e : decide (bAnd .u64 (prK m k : Nat) (n : Nat) = 0) = frF n m k := by
    rw [bAnd_u64 _ _ (Nat.lt_trans (prK_lt hk) (by decide)) (Nat.lt_trans hn (by decide))]
    unfold frF
    exact decide_eq_decide.2 (by omega)
  repeat' ((conv => whnf); first | (rw [e]) | (refine Exists.intro ([] : List Nat) ?_) | (refine And.intro rfl ?_) | (refine And.intro (by decide +kernel) ?_) | (refine And.intro trivial ?_) | (refine d_pressK (hn := hm) (hk := hk) (h0 := ?_) ..) | (refine Exists.intro _ (And.intro (fun τ => callW_fn (d_pressK (hn := hm) (hk := hk) (h0 := And.intro rfl rfl) ..)) ?_)) | (refine Exists.intro _ (And.intro (callW_fn (d_pressK (hn := hm) (hk := hk) (h0 := And.intro rfl rfl) ..)) (And.intro trivial ?_))) | (refine Exists.intro _ (And.intro (callW_fn (d_pressK (hn := hm) (hk := hk) (h0 := And.intro rfl rfl) ..)) ?_)) | (refine Exists.intro _ (And.intro (fun τ _ => callW_fn (d_pressK (hn := hm) (hk := hk) (h0 := And.intro rfl rfl) ..)) ?_)) | (refine Exists.intro _ (And.intro rfl (And.intro rfl (And.intro (Nat.le_of_ble_eq_true rfl) ?_)))) | (refine Exists.intro _ (And.intro rfl (And.intro rfl (And.intro rfl (And.intro (Nat.le_of_ble_eq_true rfl) ?_))))) | (refine And.intro (Exists.intro _ (And.intro rfl rfl)) ?_) | (exact fun hW => absurd hW (by decide +kernel)) | (intro hW; (try simp only [Bool.not_true, Bool.not_false, Bool.not_eq_true', Bool.not_eq_false', decide_eq_true_eq, decide_eq_false_iff_not, reduceCtorEq, Bool.true_eq_false, Bool.false_eq_true, mk_size, List.size_toArray, ByteArray.size_append, ByteArray.size_extract, List.length_cons, List.length_nil, ba_get, ba_empty, Int.toNat_natCast] at hW)) | (refine And.intro (?_ : _ → _) (?_ : _ → _)) | (refine FinR.drop 0 (Nat.zero_le _) (Closed.zero _) rfl ?_) | (refine FinR.keep ?_) | (refine And.intro (det3_agg rfl) ?_) | (refine fL_mk ?_) | (refine And.intro (by (try simp only [mk_size, List.size_toArray, ByteArray.size_append, ByteArray.size_extract, List.length_cons, List.length_nil]); omega) ?_) | (refine And.intro (by (try simp only [mk_size, List.size_toArray, ByteArray.size_append, ByteArray.size_extract, List.length_cons, List.length_nil, wrap64_eq]); omega) ?_) | fail)
  all_goals exact h0
theorem c_free (n m : Nat) (hn : n < 2 ^ 36) (hm : m < 2 ^ 36) (K : Cont) (h0 : K (U (whN (frF n m) 36 : Nat)) []) : ACall Try.prog W0 51 [U n, U m] [] K := by
  refine by51 (Nat.le_of_ble_eq_true rfl) ?_
  repeat' ((conv => whnf); first | (refine Exists.intro ([] : List Nat) ?_) | (refine And.intro rfl ?_) | (refine And.intro (by decide +kernel) ?_) | (refine And.intro trivial ?_) | (refine c_where (f := frF n m) (hc := fun k hk K hK => freeClo n m hn hm k hk K hK) (h0 := ?_) ..) | (refine Exists.intro _ (And.intro rfl (And.intro rfl (And.intro (Nat.le_of_ble_eq_true rfl) ?_)))) | (refine Exists.intro _ (And.intro rfl (And.intro rfl (And.intro rfl (And.intro (Nat.le_of_ble_eq_true rfl) ?_))))) | (refine And.intro (Exists.intro _ (And.intro rfl rfl)) ?_) | (exact fun hW => absurd hW (by decide +kernel)) | (intro hW; (try simp only [Bool.not_true, Bool.not_false, Bool.not_eq_true', Bool.not_eq_false', decide_eq_true_eq, decide_eq_false_iff_not, reduceCtorEq, Bool.true_eq_false, Bool.false_eq_true, mk_size, List.size_toArray, ByteArray.size_append, ByteArray.size_extract, List.length_cons, List.length_nil, ba_get, ba_empty, Int.toNat_natCast] at hW)) | (refine And.intro (?_ : _ → _) (?_ : _ → _)) | (refine FinR.drop 0 (Nat.zero_le _) (Closed.zero _) rfl ?_) | (refine FinR.keep ?_) | (refine And.intro (det3_agg rfl) ?_) | (refine fL_mk ?_) | (refine And.intro (by (try simp only [mk_size, List.size_toArray, ByteArray.size_append, ByteArray.size_extract, List.length_cons, List.length_nil]); omega) ?_) | (refine And.intro (by (try simp only [mk_size, List.size_toArray, ByteArray.size_append, ByteArray.size_extract, List.length_cons, List.length_nil, wrap64_eq]); omega) ?_) | fail)
  all_goals exact h0
theorem d_free (n m : Nat) (hn : n < 2 ^ 36) (hm : m < 2 ^ 36) (K : Cont) (h0 : K (U (whN (frF n m) 36 : Nat)) σ) : ACall Try.prog W0 51 [U n, U m] σ K :=
  ACall.lift rfl (fun _ => rfl) (fun W1 K _ hK => c_free n m hn hm K hK) h0
/-- numbers of sets in own memory, and perhaps more behind them -/
structure Own (S : List Blk) (b v : Nat) (B : Blk) (L : List Nat) : Prop where
  g : S[b]? = some B
  v : B.ver = v
  c : ∃ rest, B.cells = L.map Un ++ rest
theorem Own.keep {S S' : List Blk} {b v : Nat} {B : Blk} {L : List Nat} (h : Own S b v B L) (hk : ∀ (j : Nat) (B : Blk), S[j]? = some B → S'[j]? = some B) : Own S' b v B L := ⟨hk _ _ h.g, h.v, h.c⟩
theorem Own.le {S : List Blk} {b v : Nat} {B : Blk} {L : List Nat} (h : Own S b v B L) {i off : Nat} (hi : i < L.length) (ho : off = i) : off + 1 ≤ B.cells.length := by
  obtain ⟨rest, e⟩ := h.c
  rw [e, List.length_append, List.length_map]; omega
theorem Own.ld {S : List Blk} {b v : Nat} {B : Blk} {L : List Nat} (h : Own S b v B L) {i off : Nat} (hi : i < L.length) (ho : off = i) : mkAV false ((B.cells.drop off).take 1) = Un (L.getD i 0) := by
  obtain ⟨rest, e⟩ := h.c
  subst ho
  rw [e, List.drop_append_of_le_length (by rw [List.length_map]; omega), List.take_append_of_le_length (by rw [List.length_drop, List.length_map]; omega)]
  exact un_ld hi rfl
theorem cd_take {n m : Nat} {i : Nat} (hi : i < (frS n m).length) : (cdL n m).take (i + 1) = (cdL n m).take i ++ [n ||| prK m ((frS n m).getD i 0).toNat] := by
  unfold cdL
  rw [← List.map_take, ← List.map_take, List.take_add_one, List.map_append, List.getD_eq_getElem?_getD, List.getElem?_eq_getElem hi]; rfl
theorem fr_nat {n m : Nat} {i : Nat} (hi : i < (frS n m).length) : ∃ k, (frS n m).getD i 0 = ((k : Nat) : Int) ∧ k < 36 := by
  have hm : (frS n m).getD i 0 ∈ selN (frF n m) 36 := by rw [List.getD_eq_getElem?_getD, List.getElem?_eq_getElem hi]; exact List.getElem_mem hi
  obtain ⟨k, hk, hl⟩ := selN_mem _ _ _ hm
  exact ⟨k, hk, hl⟩
structure GNX where
  i : Nat
  v : Nat
  cp : Nat
theorem c_nexts (n m : Nat) (hn : n < 2 ^ 36) (hm : m < 2 ^ 36) (K : Cont) (h0 : ∀ S b v cap B, Own S b v B (nxL n m) → K (.sl b v 0 (nxL n m).length cap) S) : ACall Try.prog W0 44 [U n, U m] [] K := by
  refine by44 (Nat.le_of_ble_eq_true rfl) ?_
  have hfl : selN (whN (frF n m) 36).testBit 36 = frS n m := selN_wh _
  have hwl := whN_lt (frF n m) (Nat.le_refl 36)
  have hlist := fun (σ : List Blk) (K : Cont) => d_list (W0 := W0) (σ := σ) (whN (frF n m) 36) hwl K
  rw [hfl] at hlist
  have hfn := fun i (h : i < (frS n m).length) => fr_nat h
  have hct := fun i (h : i < (frS n m).length) => cd_take h
  have hcl : (cdL n m).length = (frS n m).length := by unfold cdL; rw [List.length_map]
  have hc36 := cdL_len n m
  have hclt := cdL_lt (m := m) hn
  unfold nxL at h0
  generalize frS n m = F at hlist hfn hct hcl
  generalize cdL n m = C at h0 hct hcl hc36 hclt
  repeat' ((conv => whnf); first | (refine Exists.intro ([] : List Nat) ?_) | (refine And.intro rfl ?_) | (refine And.intro (by decide +kernel) ?_) | (refine And.intro trivial ?_) | (refine d_free (hn := hn) (hm := hm) (h0 := ?_) ..) | (refine hlist _ _ (fun cap1 => ?_)) | (refine Exists.intro _ (And.intro rfl (And.intro rfl (And.intro (Nat.le_of_ble_eq_true rfl) ?_)))) | (refine Exists.intro _ (And.intro rfl (And.intro rfl (And.intro rfl (And.intro (Nat.le_of_ble_eq_true rfl) ?_))))) | (refine And.intro (Exists.intro _ (And.intro rfl rfl)) ?_) | (exact fun hW => absurd hW (by decide +kernel)) | (intro hW; (try simp only [Bool.not_true, Bool.not_false, Bool.not_eq_true', Bool.not_eq_false', decide_eq_true_eq, decide_eq_false_iff_not, reduceCtorEq, Bool.true_eq_false, Bool.false_eq_true, mk_size, List.size_toArray, ByteArray.size_append, ByteArray.size_extract, List.length_cons, List.length_nil, ba_get, ba_empty, Int.toNat_natCast] at hW)) | (refine And.intro (?_ : _ → _) (?_ : _ → _)) | (refine FinR.drop 0 (Nat.zero_le _) (Closed.zero _) rfl ?_) | (refine FinR.keep ?_) | (refine And.intro (det3_agg rfl) ?_) | (refine fL_mk ?_) | (refine And.intro (by (try simp only [mk_size, List.size_toArray, ByteArray.size_append, ByteArray.size_extract, List.length_cons, List.length_nil]); omega) ?_) | (refine And.intro (by (try simp only [mk_size, List.size_toArray, ByteArray.size_append, ByteArray.size_extract, List.length_cons, List.length_nil, wrap64_eq]); omega) ?_) | fail)
  skip
  refine LoopR.live (fun x : GNX => [(0, U n), (1, U m), (5, .sl 0 x.v 0 x.i x.cp), (12, .sl 1 F.length 0 F.length cap1), (13, I F.length), (14, I x.i)]) (fun x => [⟨(C.take x.i).map Un, x.v, 47, 1, true, true⟩, outB F]) (fun x => x.i ≤ F.length ∧ x.i ≤ x.cp) (fun x => F.length - x.i) ⟨0, 0, 0⟩ ⟨rfl, rfl, rfl, rfl, rfl, rfl, trivial⟩ (.keep rfl) ⟨Nat.zero_le _, Nat.le_refl _⟩ ?_
  rintro ⟨i, v, cp⟩ ⟨hi, hcp⟩
  dsimp only at hi hcp
  have ew : IntKind.i64.wrap ((i : Nat) + 1 : Int) = ((i + 1 : Nat) : Int) := wsucc' i (by omega)
  by_cases hlt : i < F.length
  · obtain ⟨k, hFk, hk⟩ := hfn i hlt
    have hct := hct i hlt
    rw [hFk, Int.toNat_natCast] at hct
    have o1 : 0 + ((i : Nat) : Int).toNat * 1 = i := by rw [Int.toNat_natCast]; omega
    have l1 : 0 + ((i : Nat) : Int).toNat * 1 + 1 ≤ (F.map I).length := by rw [o1, List.length_map]; omega
    have d1 : mkAV false (((F.map I).drop (0 + ((i : Nat) : Int).toNat * 1)).take 1) = I k := by
      rw [o1, ← hFk, ← List.map_drop, List.drop_eq_getElem_cons hlt, List.getD_eq_getElem?_getD, List.getElem?_eq_getElem hlt]; rfl
    have ho : bOr .u64 ((n : Nat) : Int) ((prK m k : Nat) : Int) = ((n ||| prK m k : Nat) : Int) := bOrU hn (prK_lt hk)
    have hln : ((C.take i).map Un).length = i := by rw [List.length_map, List.length_take]; omega
    repeat' ((conv => whnf); first | (rw [ew]) | (rw [ho]) | (refine Exists.intro (outB F) (And.intro rfl (And.intro rfl (And.intro l1 ?_))); rw [show (outB F).cells = F.map I from rfl, d1]) | (refine Exists.intro ([] : List Nat) ?_) | (refine And.intro rfl ?_) | (refine And.intro (by decide +kernel) ?_) | (refine And.intro trivial ?_) | (refine d_pressK (hn := hm) (hk := hk) (h0 := ?_) ..) | (refine Exists.intro _ (And.intro rfl (And.intro rfl (And.intro rfl (And.intro rfl (And.intro rfl (And.intro rfl (And.intro (by decide) (And.intro (by show i * 1 = ((C.take i).map Un).length; rw [hln, Nat.mul_one]) (And.intro rfl (And.intro (by show i + 1 ≤ maxLen; unfold maxLen; omega) (And.intro (by show (i + 1) * 8 ≤ 140737488355328; omega) (fun cap2 hcap2 hcap3 => ?_))))))))))))) | (refine Exists.intro _ (And.intro rfl (And.intro rfl (And.intro (Nat.le_of_ble_eq_true rfl) ?_)))) | (refine Exists.intro _ (And.intro rfl (And.intro rfl (And.intro rfl (And.intro (Nat.le_of_ble_eq_true rfl) ?_))))) | (refine And.intro (Exists.intro _ (And.intro rfl rfl)) ?_) | (exact fun hW => absurd hW (by decide +kernel)) | (intro hW; (try simp only [Bool.not_true, Bool.not_false, Bool.not_eq_true', Bool.not_eq_false', decide_eq_true_eq, decide_eq_false_iff_not, reduceCtorEq, Bool.true_eq_false, Bool.false_eq_true, mk_size, List.size_toArray, ByteArray.size_append, ByteArray.size_extract, List.length_cons, List.length_nil, ba_get, ba_empty, Int.toNat_natCast] at hW)) | (refine And.intro (?_ : _ → _) (?_ : _ → _)) | (refine FinR.drop 0 (Nat.zero_le _) (Closed.zero _) rfl ?_) | (refine FinR.keep ?_) | (refine And.intro (det3_agg rfl) ?_) | (refine fL_mk ?_) | (refine And.intro (by (try simp only [mk_size, List.size_toArray, ByteArray.size_append, ByteArray.size_extract, List.length_cons, List.length_nil]); omega) ?_) | (refine And.intro (by (try simp only [mk_size, List.size_toArray, ByteArray.size_append, ByteArray.size_extract, List.length_cons, List.length_nil, wrap64_eq]); omega) ?_) | fail)
    all_goals first | (exfalso; omega) | skip
    skip
    refine Again.go ⟨i + 1, v + 1, cap2⟩ ⟨rfl, rfl, rfl, rfl, rfl, rfl, trivial⟩ (.keep ?_) ⟨by show i + 1 ≤ F.length; omega, hcap2⟩ (by show F.length - (i + 1) < F.length - i; omega)
    show [(⟨(C.take (i + 1)).map Un, v + 1, 47, 1, true, true⟩ : Blk), outB F] = [⟨(C.take i).map Un ++ [Un (n ||| prK m k)], v + 1, 47, 1, true, true⟩, outB F]
    rw [hct, List.map_append]; rfl
  · obtain rfl : i = F.length := by omega
    have hz : C.take F.length = C := by rw [← hcl]; exact List.take_length
    rw [hz]
    have hsl : (srtL C).length = F.length := (srtL_len C).trans hcl
    have hsort := fun (S : List Blk) (B : Blk) (v cp : Nat) (h1 : S[0]? = some B) (h2 : B.ver = v) (h3 : B.row = true) (h4 : B.cells = C.map Un) (K : Cont) (h5 : K (.tup []) (S.set 0 { B with cells := (srtL C).map Un })) => d_Sort (W0 := W0) (σ := S) 0 v cp B C hclt h1 h2 h3 h4 (by omega) K h5
    have hcomp := fun (S : List Blk) (B : Blk) (v cp : Nat) (h1 : S[0]? = some B) (h2 : B.ver = v) (h3 : B.esz = 1) (h4 : B.cells = (srtL C).map Un) (h6 : F.length ≤ cp) (K : Cont) (h5 : ∀ rest cap', K (.sl 0 v 0 (ddL (srtL C)).length cap') (S.set 0 { B with cells := (ddL (srtL C)).map Un ++ rest })) => d_Compact (W0 := W0) (σ := S) 0 v cp B (srtL C) h1 h2 h3 h4 (by omega) (by omega) K h5
    rw [hcl] at hsort
    rw [hsl] at hcomp
    repeat' ((conv => whnf); first | (refine Exists.intro ([] : List Nat) ?_) | (refine And.intro rfl ?_) | (refine And.intro (by decide +kernel) ?_) | (refine And.intro trivial ?_) | (refine hsort _ ⟨C.map Un, v, 47, 1, true, true⟩ _ _ rfl rfl rfl rfl _ ?_) | (refine hcomp _ ⟨(srtL C).map Un, v, 47, 1, true, true⟩ _ _ rfl rfl rfl rfl hcp _ (fun rest cap' => ?_)) | (refine Exists.intro _ (And.intro rfl (And.intro rfl (And.intro (Nat.le_of_ble_eq_true rfl) ?_)))) | (refine Exists.intro _ (And.intro rfl (And.intro rfl (And.intro rfl (And.intro (Nat.le_of_ble_eq_true rfl) ?_))))) | (refine And.intro (Exists.intro _ (And.intro rfl rfl)) ?_) | (exact fun hW => absurd hW (by decide +kernel)) | (intro hW; (try simp only [Bool.not_true, Bool.not_false, Bool.not_eq_true', Bool.not_eq_false', decide_eq_true_eq, decide_eq_false_iff_not, reduceCtorEq, Bool.true_eq_false, Bool.false_eq_true, mk_size, List.size_toArray, ByteArray.size_append, ByteArray.size_extract, List.length_cons, List.length_nil, ba_get, ba_empty, Int.toNat_natCast] at hW)) | (refine And.intro (?_ : _ → _) (?_ : _ → _)) | (refine FinR.drop 0 (Nat.zero_le _) (Closed.zero _) rfl ?_) | (refine FinR.keep ?_) | (refine And.intro (det3_agg rfl) ?_) | (refine fL_mk ?_) | (refine And.intro (by (try simp only [mk_size, List.size_toArray, ByteArray.size_append, ByteArray.size_extract, List.length_cons, List.length_nil]); omega) ?_) | (refine And.intro (by (try simp only [mk_size, List.size_toArray, ByteArray.size_append, ByteArray.size_extract, List.length_cons, List.length_nil, wrap64_eq]); omega) ?_) | fail)
    all_goals first | (exfalso; omega) | skip
    skip
    refine h0 _ 0 _ _ _ ⟨rfl, rfl, rest, rfl⟩
end Go.Proofs.Ytcclhjohpicleaa
end

section
/- Games: nexts beside any blocks; the reference's free presses. -/
set_option linter.unusedVariables false
set_option linter.unusedSimpArgs false
set_option maxRecDepth 100000
set_option maxHeartbeats 4000000
namespace Go.Proofs.Ytcclhjohpicleaa
open Go Go.RowKit Go.Proofs.Ytcclhjohpicleaa.Abs
variable {W0 : World} {σ : List Blk}
theorem sh_Un (k : Nat) (l : List Nat) : (l.map Un).map (sh1 k) = l.map Un := by rw [List.map_map]; rfl
theorem Own.sh {S T : List Blk} {b v : Nat} {B : Blk} {L : List Nat} (h : Own S b v B L) : Own (T ++ shB T.length S) (T.length + b) v { B with cells := B.cells.map (sh1 T.length) } L := by
  obtain ⟨rest, e⟩ := h.c
  exact ⟨get_sh h.g, h.v, rest.map (sh1 T.length), by show B.cells.map _ = _; rw [e, List.map_append, sh_Un]⟩
theorem d_nexts (n m : Nat) (hn : n < 2 ^ 36) (hm : m < 2 ^ 36) (K : Cont) (h0 : ∀ S b v cap B, Own S b v B (nxL n m) → σ.length ≤ b → (∀ (j : Nat) (B : Blk), σ[j]? = some B → S[j]? = some B) → K (.sl b v 0 (nxL n m).length cap) S) : ACall Try.prog W0 44 [U n, U m] σ K := by
  refine ACall.frame (K0 := fun v S => ∃ b vv cap B, v = .sl b vv 0 (nxL n m).length cap ∧ Own S b vv B (nxL n m)) rfl (fun W1 _ => c_nexts n m hn hm _ fun S b v cap B h => ⟨b, v, cap, B, rfl, h⟩) ?_
  rintro v S ⟨b, vv, cap, B, rfl, h⟩
  exact h0 _ _ _ cap _ h.sh (Nat.le_add_right _ _) (fun j B hj => getx1 hj)
/-! sheets as rows -/
def rS6 (n : Nat) : List Int := [(rowN n 0 : Nat), (rowN n 1 : Nat), (rowN n 2 : Nat), (rowN n 3 : Nat), (rowN n 4 : Nat), (rowN n 5 : Nat)]
theorem rS6_inj {a b : Nat} (ha : a < 2 ^ 36) (hb : b < 2 ^ 36) (h : rS6 a = rS6 b) : a = b := by
  unfold rS6 at h
  simp only [List.cons.injEq, and_true] at h
  obtain ⟨h0, h1, h2, h3, h4, h5⟩ := h
  rw [← setN_rows ha, ← setN_rows hb, show rowN a 0 = rowN b 0 by omega, show rowN a 1 = rowN b 1 by omega, show rowN a 2 = rowN b 2 by omega, show rowN a 3 = rowN b 3 by omega, show rowN a 4 = rowN b 4 by omega, show rowN a 5 = rowN b 5 by omega]
theorem eqS_I {a b : Nat} (ha : a < 2 ^ 36) (hb : b < 2 ^ 36) : eqC [.int, .int, .int, .int, .int, .int] ((rS6 a).map (Value.int .i64)) ((rS6 b).map (Value.int .i64)) = some (decide (a = b)) := by
  have h := eqC_I 6 (rS6 a) (rS6 b) rfl rfl
  rw [show ([.int, .int, .int, .int, .int, .int] : List CK) = List.replicate 6 .int from rfl, h]
  congr 1
  exact decide_eq_decide.2 ⟨fun e => rS6_inj ha hb e, fun e => by rw [e]⟩
theorem and_lt {a b : Nat} (ha : a < 2 ^ 36) : a &&& b < 2 ^ 36 := by rw [Nat.and_comm]; exact Nat.and_lt_two_pow b ha
theorem d_atK (m k : Nat) (hk : k < 36) (K : Cont) (h0 : K (ShN (prK m k)) σ) : ACall Try.prog W0 50 [ShN m, Ce (k % 6 : Nat) (k / 6 : Nat)] σ K :=
  d_l2AtN m (k % 6) (k / 6) (by omega) (by omega) K h0
theorem c_l10IsFree (n m k : Nat) (hn : n < 2 ^ 36) (hk : k < 36) (K : Cont) (h0 : K (Bo (frF n m k)) []) : ACall Try.prog W0 69 [ShN n, ShN m, Ce (k % 6 : Nat) (k / 6 : Nat)] [] K := by
  refine by69 (Nat.le_of_ble_eq_true rfl) ?_
  have e : eqC [.int, .int, .int, .int, .int, .int] ((rS6 (n &&& prK m k)).map (Value.int .i64)) ((rS6 0).map (Value.int .i64)) = some (frF n m k) := by
    rw [eqS_I (and_lt hn) (by decide)]
    congr 1
    unfold frF
    rw [Nat.and_comm]
  unfold rS6 at e
  simp only [List.map_cons, List.map_nil] at e
  repeat' ((conv => whnf); first | (rw [e]) | (refine Exists.intro ([] : List Nat) ?_) | (refine And.intro rfl ?_) | (refine And.intro (by decide +kernel) ?_) | (refine And.intro trivial ?_) | (refine Exists.intro _ (And.intro (fun τ => callW_fn (d_atK (hk := hk) (h0 := And.intro rfl rfl) ..)) ?_)) | (refine d_l2AndM (h0 := ?_) ..) | (refine Exists.intro _ (And.intro (fun τ => callW_fn (d_l2AndM (h0 := And.intro rfl rfl) ..)) ?_)) | (refine Exists.intro _ (And.intro (callW_fn (d_l2AndM (h0 := And.intro rfl rfl) ..)) (And.intro trivial ?_))) | (refine Exists.intro _ (And.intro (callW_fn (d_l2AndM (h0 := And.intro rfl rfl) ..)) ?_)) | (refine Exists.intro _ (And.intro (fun τ _ => callW_fn (d_l2AndM (h0 := And.intro rfl rfl) ..)) ?_)) | (refine Exists.intro _ (And.intro rfl (And.intro rfl (And.intro (Nat.le_of_ble_eq_true rfl) ?_)))) | (refine Exists.intro _ (And.intro rfl (And.intro rfl (And.intro rfl (And.intro (Nat.le_of_ble_eq_true rfl) ?_))))) | (refine And.intro (Exists.intro _ (And.intro rfl rfl)) ?_) | (exact fun hW => absurd hW (by decide +kernel)) | (intro hW; (try simp only [Bool.not_true, Bool.not_false, Bool.not_eq_true', Bool.not_eq_false', decide_eq_true_eq, decide_eq_false_iff_not, reduceCtorEq, Bool.true_eq_false, Bool.false_eq_true, mk_size, List.size_toArray, ByteArray.size_append, ByteArray.size_extract, List.length_cons, List.length_nil, ba_get, ba_empty, Int.toNat_natCast] at hW)) | (refine And.intro (?_ : _ → _) (?_ : _ → _)) | (refine FinR.drop 0 (Nat.zero_le _) (Closed.zero _) rfl ?_) | (refine FinR.keep ?_) | (refine And.intro (det3_agg rfl) ?_) | (refine fL_mk ?_) | (refine And.intro (by (try simp only [mk_size, List.size_toArray, ByteArray.size_append, ByteArray.size_extract, List.length_cons, List.length_nil]); omega) ?_) | (refine And.intro (by (try simp only [mk_size, List.size_toArray, ByteArray.size_append, ByteArray.size_extract, List.length_cons, List.length_nil, wrap64_eq]); omega) ?_) | fail)
  all_goals (refine kB' (σ := []) h0 ?_; exact Option.some.inj e)
theorem d_l10IsFree (n m k : Nat) (hn : n < 2 ^ 36) (hk : k < 36) (K : Cont) (h0 : K (Bo (frF n m k)) σ) : ACall Try.prog W0 69 [ShN n, ShN m, Ce (k % 6 : Nat) (k / 6 : Nat)] σ K :=
  ACall.lift rfl (fun _ => rfl) (fun W1 K _ hK => c_l10IsFree n m k hn hk K hK) h0
/-- the cells of free presses -/
def ceL (k : Nat) : List Int := [((k % 6 : Nat) : Int), ((k / 6 : Nat) : Int)]
def fcL (l : List Int) : List (List Int) := l.map fun k => ceL k.toNat
theorem fcL_row (l : List Int) : ∀ r ∈ fcL l, r.length = 2 := by
  intro r hr
  obtain ⟨k, _, rfl⟩ := List.mem_map.1 hr
  rfl
structure GFX where
  i : Nat
  v : Nat
  cp : Nat
theorem c_l10Free (n m : Nat) (hn : n < 2 ^ 36) (K : Cont) (h0 : ∀ S b v cap B, S[b]? = some B → B.ver = v → B.cells = jc (fcL (frS n m)) → K (.sl b v 0 (frS n m).length cap) S) : ACall Try.prog W0 48 [ShN n, ShN m] [] K := by
  refine by48 (Nat.le_of_ble_eq_true rfl) ?_
  unfold frS at h0
  repeat' ((conv => whnf); first | (refine Exists.intro ([] : List Nat) ?_) | (refine And.intro rfl ?_) | (refine And.intro (by decide +kernel) ?_) | (refine And.intro trivial ?_) | (refine Exists.intro _ (And.intro rfl (And.intro rfl (And.intro (Nat.le_of_ble_eq_true rfl) ?_)))) | (refine Exists.intro _ (And.intro rfl (And.intro rfl (And.intro rfl (And.intro (Nat.le_of_ble_eq_true rfl) ?_))))) | (refine And.intro (Exists.intro _ (And.intro rfl rfl)) ?_) | (exact fun hW => absurd hW (by decide +kernel)) | (intro hW; (try simp only [Bool.not_true, Bool.not_false, Bool.not_eq_true', Bool.not_eq_false', decide_eq_true_eq, decide_eq_false_iff_not, reduceCtorEq, Bool.true_eq_false, Bool.false_eq_true, mk_size, List.size_toArray, ByteArray.size_append, ByteArray.size_extract, List.length_cons, List.length_nil, ba_get, ba_empty, Int.toNat_natCast] at hW)) | (refine And.intro (?_ : _ → _) (?_ : _ → _)) | (refine FinR.drop 0 (Nat.zero_le _) (Closed.zero _) rfl ?_) | (refine FinR.keep ?_) | (refine And.intro (det3_agg rfl) ?_) | (refine fL_mk ?_) | (refine And.intro (by (try simp only [mk_size, List.size_toArray, ByteArray.size_append, ByteArray.size_extract, List.length_cons, List.length_nil]); omega) ?_) | (refine And.intro (by (try simp only [mk_size, List.size_toArray, ByteArray.size_append, ByteArray.size_extract, List.length_cons, List.length_nil, wrap64_eq]); omega) ?_) | fail)
  skip
  refine LoopR.live (fun x : GFX => [(2, .ptr 0 0 0), (3, .ptr 1 0 0), (5, .sl 2 x.v 0 (selN (frF n m) x.i).length x.cp), (6, I x.i)]) (fun x => [bl n, bl m, ⟨jc (fcL (selN (frF n m) x.i)), x.v, 70, 2, true, true⟩]) (fun x => x.i ≤ 36) (fun x => 36 - x.i) ⟨0, 0, 0⟩ ⟨rfl, rfl, rfl, rfl, trivial⟩ (.keep rfl) (Nat.zero_le _) ?_
  rintro ⟨i, v, cp⟩ hi
  dsimp only at hi
  have ew : IntKind.i64.wrap ((i : Nat) + 1 : Int) = ((i + 1 : Nat) : Int) := wsucc' i (by omega)
  by_cases hlt : i < 36
  · have e1 : ((i : Int)).tmod 6 = ((i % 6 : Nat) : Int) := by rw [Int.tmod_eq_emod_of_nonneg (by omega)]; rfl
    have e2 : IntKind.i64.wrap ((i : Int).tdiv 6) = ((i / 6 : Nat) : Int) := by rw [Int.tdiv_eq_ediv_of_nonneg (by omega), wrap_i64 _ (by omega) (by omega)]; rfl
    have hs := selN_succ (frF n m) i
    have hl := selN_len (frF n m) i
    have hjl : (selN (frF n m) i).length * 2 = (jc (fcL (selN (frF n m) i))).length := by rw [jc_len (s := 2) (fcL_row _)]; unfold fcL; rw [List.length_map]
    cases hf : frF n m i with
    | true =>
      rw [hf, if_pos rfl] at hs
      repeat' ((conv => whnf); first | (rw [ew]) | (rw [e1]) | (rw [e2]) | (refine Exists.intro ([] : List Nat) ?_) | (refine And.intro rfl ?_) | (refine And.intro (by decide +kernel) ?_) | (refine And.intro trivial ?_) | (refine d_l10IsFree (hn := hn) (hk := hlt) (h0 := ?_) ..; rw [hf]) | (refine Exists.intro _ (And.intro rfl (And.intro rfl (And.intro rfl (And.intro rfl (And.intro rfl (And.intro rfl (And.intro (by decide) (And.intro (by exact hjl) (And.intro rfl (And.intro (by show (selN (frF n m) i).length + 1 ≤ maxLen; unfold maxLen; omega) (And.intro (by show ((selN (frF n m) i).length + 1) * 16 ≤ 140737488355328; omega) (fun cap2 hcap2 hcap3 => ?_))))))))))))) | (refine Exists.intro _ (And.intro rfl (And.intro rfl (And.intro (Nat.le_of_ble_eq_true rfl) ?_)))) | (refine Exists.intro _ (And.intro rfl (And.intro rfl (And.intro rfl (And.intro (Nat.le_of_ble_eq_true rfl) ?_))))) | (refine And.intro (Exists.intro _ (And.intro rfl rfl)) ?_) | (exact fun hW => absurd hW (by decide +kernel)) | (intro hW; (try simp only [Bool.not_true, Bool.not_false, Bool.not_eq_true', Bool.not_eq_false', decide_eq_true_eq, decide_eq_false_iff_not, reduceCtorEq, Bool.true_eq_false, Bool.false_eq_true, mk_size, List.size_toArray, ByteArray.size_append, ByteArray.size_extract, List.length_cons, List.length_nil, ba_get, ba_empty, Int.toNat_natCast] at hW)) | (refine And.intro (?_ : _ → _) (?_ : _ → _)) | (refine FinR.drop 0 (Nat.zero_le _) (Closed.zero _) rfl ?_) | (refine FinR.keep ?_) | (refine And.intro (det3_agg rfl) ?_) | (refine fL_mk ?_) | (refine And.intro (by (try simp only [mk_size, List.size_toArray, ByteArray.size_append, ByteArray.size_extract, List.length_cons, List.length_nil]); omega) ?_) | (refine And.intro (by (try simp only [mk_size, List.size_toArray, ByteArray.size_append, ByteArray.size_extract, List.length_cons, List.length_nil, wrap64_eq]); omega) ?_) | fail)
      all_goals first | (exfalso; omega) | (exfalso; simp_all; done) | skip
      skip
      refine Again.go ⟨i + 1, v + 1, cap2⟩ ⟨rfl, rfl, (by show AV.sl 2 (v + 1) 0 ((selN (frF n m) i).length + 1) cap2 = AV.sl 2 (v + 1) 0 (selN (frF n m) (i + 1)).length cap2; rw [hs, List.length_append]; rfl), rfl, trivial⟩ (.drop 3 (Nat.zero_le _) ?_ (closCons rfl (closCons rfl (closCons (belJ _ _) (closNil _)))) rfl) (by show i + 1 ≤ 36; omega) (by show 36 - (i + 1) < 36 - i; omega)
      show [bl n, bl m, (⟨jc (fcL (selN (frF n m) (i + 1))), v + 1, 70, 2, true, true⟩ : Blk)] = [bl n, bl m, ⟨jc (fcL (selN (frF n m) i)) ++ [I (i % 6 : Nat), I (i / 6 : Nat)], v + 1, 70, 2, true, true⟩]
      rw [hs]
      unfold fcL
      rw [List.map_append, jc_append]; rfl
    | false =>
      rw [hf, if_neg (by decide), List.append_nil] at hs
      repeat' ((conv => whnf); first | (rw [ew]) | (rw [e1]) | (rw [e2]) | (refine Exists.intro ([] : List Nat) ?_) | (refine And.intro rfl ?_) | (refine And.intro (by decide +kernel) ?_) | (refine And.intro trivial ?_) | (refine d_l10IsFree (hn := hn) (hk := hlt) (h0 := ?_) ..; rw [hf]) | (refine Exists.intro _ (And.intro rfl (And.intro rfl (And.intro rfl (And.intro rfl (And.intro rfl (And.intro rfl (And.intro (by decide) (And.intro (by exact hjl) (And.intro rfl (And.intro (by show (selN (frF n m) i).length + 1 ≤ maxLen; unfold maxLen; omega) (And.intro (by show ((selN (frF n m) i).length + 1) * 16 ≤ 140737488355328; omega) (fun cap2 hcap2 hcap3 => ?_))))))))))))) | (refine Exists.intro _ (And.intro rfl (And.intro rfl (And.intro (Nat.le_of_ble_eq_true rfl) ?_)))) | (refine Exists.intro _ (And.intro rfl (And.intro rfl (And.intro rfl (And.intro (Nat.le_of_ble_eq_true rfl) ?_))))) | (refine And.intro (Exists.intro _ (And.intro rfl rfl)) ?_) | (exact fun hW => absurd hW (by decide +kernel)) | (intro hW; (try simp only [Bool.not_true, Bool.not_false, Bool.not_eq_true', Bool.not_eq_false', decide_eq_true_eq, decide_eq_false_iff_not, reduceCtorEq, Bool.true_eq_false, Bool.false_eq_true, mk_size, List.size_toArray, ByteArray.size_append, ByteArray.size_extract, List.length_cons, List.length_nil, ba_get, ba_empty, Int.toNat_natCast] at hW)) | (refine And.intro (?_ : _ → _) (?_ : _ → _)) | (refine FinR.drop 0 (Nat.zero_le _) (Closed.zero _) rfl ?_) | (refine FinR.keep ?_) | (refine And.intro (det3_agg rfl) ?_) | (refine fL_mk ?_) | (refine And.intro (by (try simp only [mk_size, List.size_toArray, ByteArray.size_append, ByteArray.size_extract, List.length_cons, List.length_nil]); omega) ?_) | (refine And.intro (by (try simp only [mk_size, List.size_toArray, ByteArray.size_append, ByteArray.size_extract, List.length_cons, List.length_nil, wrap64_eq]); omega) ?_) | fail)
      all_goals first | (exfalso; omega) | (exfalso; simp_all; done) | skip
      skip
      exact Again.go ⟨i + 1, v, cp⟩ ⟨rfl, rfl, (by show AV.sl 2 v 0 (selN (frF n m) i).length cp = AV.sl 2 v 0 (selN (frF n m) (i + 1)).length cp; rw [hs]), rfl, trivial⟩ (.drop 3 (Nat.zero_le _) (by show [bl n, bl m, (⟨jc (fcL (selN (frF n m) (i + 1))), v, 70, 2, true, true⟩ : Blk)] = [bl n, bl m, ⟨jc (fcL (selN (frF n m) i)), v, 70, 2, true, true⟩]; rw [hs]) (closCons rfl (closCons rfl (closCons (belJ _ _) (closNil _)))) rfl) (by show i + 1 ≤ 36; omega) (by show 36 - (i + 1) < 36 - i; omega)
  · obtain rfl : i = 36 := by omega
    generalize selN (frF n m) 36 = F at h0 ⊢
    have h0' : K (.sl 2 v 0 F.length cp) [bl n, bl m, ⟨jc (fcL F), v, 70, 2, true, true⟩] := h0 [bl n, bl m, ⟨jc (fcL F), v, 70, 2, true, true⟩] 2 v cp _ rfl rfl rfl
    repeat' ((conv => whnf); first | (refine Exists.intro ([] : List Nat) ?_) | (refine And.intro rfl ?_) | (refine And.intro (by decide +kernel) ?_) | (refine And.intro trivial ?_) | (refine Exists.intro _ (And.intro rfl (And.intro rfl (And.intro (Nat.le_of_ble_eq_true rfl) ?_)))) | (refine Exists.intro _ (And.intro rfl (And.intro rfl (And.intro rfl (And.intro (Nat.le_of_ble_eq_true rfl) ?_))))) | (refine And.intro (Exists.intro _ (And.intro rfl rfl)) ?_) | (exact fun hW => absurd hW (by decide +kernel)) | (intro hW; (try simp only [Bool.not_true, Bool.not_false, Bool.not_eq_true', Bool.not_eq_false', decide_eq_true_eq, decide_eq_false_iff_not, reduceCtorEq, Bool.true_eq_false, Bool.false_eq_true, mk_size, List.size_toArray, ByteArray.size_append, ByteArray.size_extract, List.length_cons, List.length_nil, ba_get, ba_empty, Int.toNat_natCast] at hW)) | (refine And.intro (?_ : _ → _) (?_ : _ → _)) | (refine FinR.drop 0 (Nat.zero_le _) (Closed.zero _) rfl ?_) | (refine FinR.keep ?_) | (refine And.intro (det3_agg rfl) ?_) | (refine fL_mk ?_) | (refine And.intro (by (try simp only [mk_size, List.size_toArray, ByteArray.size_append, ByteArray.size_extract, List.length_cons, List.length_nil]); omega) ?_) | (refine And.intro (by (try simp only [mk_size, List.size_toArray, ByteArray.size_append, ByteArray.size_extract, List.length_cons, List.length_nil, wrap64_eq]); omega) ?_) | fail)
    all_goals first | (exfalso; omega) | exact h0'
end Go.Proofs.Ytcclhjohpicleaa
end
