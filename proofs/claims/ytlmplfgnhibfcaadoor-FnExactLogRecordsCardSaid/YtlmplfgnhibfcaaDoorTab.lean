/- The library's table of powers: what the row's condition gives; Itoa as an abstract call. -/
import Derived.Test.YtlmplfgnhibfcaaDoorLib
import Derived.Lib.LaidTab
import Derived.Lib.ItoaNum
import Derived.Lib.AppendIntMem
set_option linter.unusedVariables false
set_option linter.unusedSimpArgs false
set_option maxRecDepth 100000
namespace Go.Proofs.YtlmplfgnhibfcaaDoor
open Go Go.RowKit Go.Proofs.YtlmplfgnhibfcaaDoor.Abs
variable {W0 : World} {σ : List Blk}
/-- the table of powers of ten lies as its initialiser lays it -/
structure TabP (W : World) : Prop where
  t : Lib.TabIs Tryd.prog W "internal/strconv.uint64pow10" .u64 Lib.pow10Tab
theorem TabP.mono {W w : World} (h : TabP W) (hb : Below W.heap.size W w) : TabP w := by
  refine ⟨?_⟩
  have h1 := h.t
  unfold Lib.TabIs World.var? at h1 ⊢
  cases hg : Tryd.prog.globalNamed "internal/strconv.uint64pow10" with
  | none => rw [hg] at h1; cases h1
  | some g =>
    rw [hg] at h1
    simp only [Option.bind_some] at h1 ⊢
    have hlt : g < W.heap.size := by
      rcases Nat.lt_or_ge g W.heap.size with h' | h'
      · exact h'
      · rw [Array.getElem?_eq_none h'] at h1; cases h1
    rw [hb.block g hlt]
    exact h1
theorem tab_of_met {g : Nat} {t e : TypeId} {n : Nat} {W : World} {a b : String × DataW Unit} {rest : List (String × DataW Unit)}
    (hg : Tryd.prog.globalNamed "internal/strconv.uint64pow10" = some g) (hty : (Tryd.prog.globals[g]?).map (·.type) = some t) (ht : Tryd.prog.underlying t = some (.array n e)) (he : Tryd.prog.underlying e = some (.int .u64)) (hce : Tryd.prog.cellsOf e = 1) (hct : Tryd.prog.cellsOf t = n)
    (h : laidMet Tryd.prog (a :: b :: ("internal/strconv.uint64pow10", Lib.tabData .u64 Lib.pow10Tab) :: rest) W) : TabP W := by
  refine ⟨?_⟩
  obtain ⟨ps, ⟨_, _, _, _, _, _, _, _, _, _, ⟨_, _, _, _, _, _, _, _, _, _, ⟨g', t', cs, fuel, p, q, hg', ht', hvar, hd, _, _⟩, _⟩, _⟩, _⟩ := h
  obtain rfl := Option.some.inj (hg.symm.trans hg')
  obtain rfl := Option.some.inj (hty.symm.trans ht')
  unfold Lib.TabIs
  rw [hvar, ← Lib.cells_of_tab ht he hce hct hd]
theorem itoa_nat (n : Nat) : bs (Lib.itoa (n : Int)) = numB n := by
  unfold Lib.itoa numB
  rw [if_neg (by omega)]; simp
theorem d_ItoaI (n : Int) (h : -9223372036854775808 ≤ n) (h' : n ≤ 9223372036854775807) (ht : TabP W0) (K : Cont) (h0 : K (St (bs (Lib.itoa n))) σ) : ACall Tryd.prog W0 39 [I n] σ K :=
  ACall.ofCalls1 (vs := [.int .i64 n]) (by kernel_rfl) (fun w hw => (Tryd.strconv_Itoa n h h' w (ht.mono hw).t).mono fun e w' ⟨h1, k, os, h2⟩ => by subst h2; exact ⟨h1, Lib.below_grow _ _ (Nat.le_refl _) _ _⟩) h0
theorem d_Itoa (n : Nat) (h : n ≤ 9223372036854775807) (ht : TabP W0) (K : Cont) (h0 : K (St (numB n)) σ) : ACall Tryd.prog W0 39 [I n] σ K :=
  d_ItoaI _ (by omega) (by omega) ht K (by rw [itoa_nat]; exact h0)
end Go.Proofs.YtlmplfgnhibfcaaDoor
