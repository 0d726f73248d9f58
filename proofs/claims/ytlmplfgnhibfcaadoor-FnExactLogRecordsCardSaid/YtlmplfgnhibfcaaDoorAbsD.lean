/- The abstract logic, part D: cutting, arithmetic, comparisons, conversions; what one operation does. -/
import Derived.Test.YtlmplfgnhibfcaaDoorAbsC
set_option linter.unusedVariables false
set_option linter.unusedSimpArgs false
namespace Go.Proofs.YtlmplfgnhibfcaaDoor.Abs
open Go Go.RowKit

section
variable {P : Program} {W0 : World} {ι : Loc} {σ : List Blk} {w : World} {K : Cont}

/-- the value of a bound: absent, or a number -/
def bndA (fr : Operand → AV) (d : Int) : Option Operand → Option Int
  | none => some d
  | some x => match fr x with
    | .lit (.int _ n) => some n
    | _ => none

theorem run_sliceBound {k : IntKind} {i : Int} {y : Nat} {code : BoundsCode} (h0 : 0 ≤ i) (h1 : i ≤ (y : Int)) (w : World) : (Instr.sliceBound (.int k i) y code).run P w = .ok i.toNat w := by
  have hb : 0 ≤ i ∧ i ≤ (y : Int) := ⟨h0, h1⟩
  simp [Instr.sliceBound, asIntOf, hb]

theorem run_sliceBounds {fr : Operand → AV} {ρ : Operand → Value} (hr : ∀ x, rel3 ι σ (fr x) (ρ x)) {lo hi : Option Operand} {isS : Bool} {len cap : Nat} {l h : Int}
    (hl : bndA fr 0 lo = some l) (hh : bndA fr len hi = some h) (h0 : 0 ≤ l) (h1 : l ≤ h) (h2 : h ≤ (cap : Int)) (w : World) :
    (Instr.sliceBounds isS len cap (lo.map ρ) (hi.map ρ) none).run P w = .ok (l.toNat, h.toNat, cap) w := by
  have hlo : ∀ x, lo = some x → ∃ k, ρ x = .int k l := fun x hx => by
    subst hx
    simp only [bndA] at hl
    have := hr x
    split at hl
    · rename_i k n he; rw [he] at this; cases hl; exact ⟨k, this⟩
    · cases hl
  have hhi : ∀ x, hi = some x → ∃ k, ρ x = .int k h := fun x hx => by
    subst hx
    simp only [bndA] at hh
    have := hr x
    split at hh
    · rename_i k n he; rw [he] at this; cases hh; exact ⟨k, this⟩
    · cases hh
  have hb : ((h.toNat : Nat) : Int) = h := by omega
  cases lo with
  | none =>
    simp only [bndA, Option.some.injEq] at hl; subst hl
    cases hi with
    | none =>
      simp only [bndA, Option.some.injEq] at hh; subst hh
      simp [Instr.sliceBounds]
    | some y =>
      obtain ⟨k, hk⟩ := hhi y rfl
      simp [Instr.sliceBounds, hk, run_sliceBound (P := P) (by omega : 0 ≤ h) h2]
  | some x =>
    obtain ⟨k, hk⟩ := hlo x rfl
    cases hi with
    | none =>
      simp only [bndA, Option.some.injEq] at hh; subst hh
      simp [Instr.sliceBounds, hk, run_sliceBound (P := P) h0 h1]
    | some y =>
      obtain ⟨k', hk'⟩ := hhi y rfl
      simp [Instr.sliceBounds, hk, hk', run_sliceBound (P := P) (by omega : 0 ≤ h) h2, run_sliceBound (P := P) (y := h.toNat) h0 (by omega)]

def sliceW (P : Program) (fr : Operand → AV) (t : TypeId) (x : Operand) (lo hi : Option Operand) (σ : List Blk) (K : Cont) : Prop :=
  match fr x with
  | .lit (.string s) => match bndA fr 0 lo, bndA fr s.size hi with
    | some l, some h => P.underlying t = some .string ∧ 0 ≤ l ∧ l ≤ h ∧ h ≤ (s.size : Int) ∧ K (.lit (.string (s.extract l.toNat h.toNat))) σ
    | _, _ => False
  | .sl b ver o len cap => match bndA fr 0 lo, bndA fr len hi, sliceP P t with
    | some l, some h, some (_, s, _) => ∃ B, σ[b]? = some B ∧ B.ver = ver ∧ (B.row = true → B.esz = s) ∧ 0 ≤ l ∧ l ≤ h ∧ h ≤ (cap : Int) ∧
        K (.sl b ver (if cap = l.toNat then o else o + l.toNat * s) (h.toNat - l.toNat) (cap - l.toNat)) σ
    | _, _, _ => False
  | .lit (.slice (some ad) len cap) => match bndA fr 0 lo, bndA fr len hi, sliceP P t with
    | some l, some h, some (_, s, _) => 0 ≤ l ∧ l ≤ h ∧ h ≤ (cap : Int) ∧ K (.lit (.slice (some (if cap = l.toNat then ad else ad.add (l.toNat * s))) (h.toNat - l.toNat) (cap - l.toNat))) σ
    | _, _, _ => False
  | .lit (.slice none 0 0) => match bndA fr 0 lo, bndA fr 0 hi, sliceP P t with
    | some l, some h, some _ => l = 0 ∧ h = 0 ∧ K (.lit (.slice none 0 0)) σ
    | _, _, _ => False
  | .ptr b ver o => match bndA fr 0 lo, arrayP P t with
    | some l, some (n, s) => match bndA fr n hi with
      | some h => ∃ B, σ[b]? = some B ∧ B.ver = ver ∧ B.row = false ∧ n ≤ maxLen ∧ 0 ≤ l ∧ l ≤ h ∧ h ≤ (n : Int) ∧
          K (.sl b ver (if n = l.toNat then o else o + l.toNat * s) (h.toNat - l.toNat) (n - l.toNat)) σ
      | none => False
    | _, _ => False
  | _ => False

theorem sliceW_sound {fr : Operand → AV} {ρ : Operand → Value} (hr : ∀ x, rel3 ι σ (fr x) (ρ x)) {t : TypeId} {x : Operand} {lo hi : Option Operand} (h : sliceW P fr t x lo hi σ K) (hh : HRel W0 ι σ w) :
    Yields0 P ι σ w K (Instr.sliceAt t (ρ x) (lo.map ρ) (hi.map ρ) none) := by
  have hx := hr x
  unfold sliceW at h
  split at h
  · rename_i s he
    rw [he] at hx
    have e0 : ρ x = .string s := hx
    split at h
    · rename_i l h' hl hh'
      obtain ⟨hu, h0, h1, h2, hk⟩ := h
      have hb := run_sliceBounds (P := P) hr (isS := false) hl hh' h0 h1 h2 w
      refine Yields0.lit ?_ hk
      simp [Instr.sliceAt, Instr.slice, run_underlying hu, e0, hb]
    · exact h.elim
  · rename_i b ver o len cap he
    rw [he] at hx
    split at h
    · rename_i l h' e s by_ hl hh' hs
      obtain ⟨B, hB, hv, hes, h0, h1, h2, hk⟩ := h
      obtain ⟨c, tt, hi, e0, hlc, hcm, htot⟩ := slRel_now hx hB hv
      obtain ⟨ie, hu, hii, hsz, _⟩ := sliceP_inv hs
      subst hsz
      have hss : szP P e = some ie.size := by simp [szP, hii]
      have hb := run_sliceBounds (P := P) hr (isS := true) hl hh' h0 h1 h2 w
      refine Yields0.same (v := .slice (some (if cap = l.toNat then ⟨c, o, none⟩ else ⟨c, o + l.toNat * ie.size, none⟩)) (h'.toNat - l.toNat) (cap - l.toNat)) ?_ hk ?_
      · simp only [Instr.sliceAt, Sem.run_bind, run_underlying hu, Result.andThen_ok, Instr.slice, e0, hb, run_sizeOf hss, Sem.run_pure]
        congr 2
        split
        · rfl
        · simp [add_own]
      · refine ⟨B, hB, by rw [hv]; exact Nat.le_refl _, rfl, fun _ => ⟨c, tt, hi, ?_, by omega, by omega, fun hrow hc => ?_⟩⟩
        · split <;> rfl
        · have hlc' : l.toNat ≤ cap := by omega
          rw [if_neg (by omega)]
          have h3 := htot hrow (by omega)
          rw [hes hrow] at h3
          have h4 : (cap - l.toNat) * ie.size + l.toNat * ie.size = cap * ie.size := by rw [← Nat.add_mul]; congr 1; omega
          rw [hes hrow]
          omega
    · exact h.elim
  · rename_i ad len cap he
    rw [he] at hx
    have e0 : ρ x = .slice (some ad) len cap := hx
    split at h
    · rename_i l h' e s by_ hl hh' hs
      obtain ⟨h0, h1, h2, hk⟩ := h
      obtain ⟨ie, hu, hii, hsz, _⟩ := sliceP_inv hs
      subst hsz
      have hss : szP P e = some ie.size := by simp [szP, hii]
      have hb := run_sliceBounds (P := P) hr (isS := true) hl hh' h0 h1 h2 w
      refine Yields0.lit ?_ hk
      simp only [Instr.sliceAt, Sem.run_bind, run_underlying hu, Result.andThen_ok, Instr.slice, e0, hb, run_sizeOf hss, Sem.run_pure]
      congr 2
      split <;> rfl
    · exact h.elim
  · rename_i he
    rw [he] at hx
    have e0 : ρ x = .slice none 0 0 := hx
    split at h
    · rename_i l h' q hl hh' hs
      obtain ⟨rfl, rfl, hk⟩ := h
      obtain ⟨e, s, by_⟩ := q
      obtain ⟨ie, hu, hii, hsz, _⟩ := sliceP_inv hs
      have hss : szP P e = some ie.size := by simp [szP, hii]
      have hb := run_sliceBounds (P := P) hr (isS := true) (len := 0) (cap := 0) hl hh' (Int.le_refl _) (Int.le_refl _) (Int.le_refl _) w
      refine Yields0.lit ?_ hk
      simp only [Instr.sliceAt, Sem.run_bind, run_underlying hu, Result.andThen_ok, Instr.slice, e0, hb, run_sizeOf hss, Sem.run_pure]
      rfl
    · exact h.elim
  · rename_i b ver o he
    rw [he] at hx
    split at h
    · rename_i l n s hl ha
      split at h
      · rename_i h' hh'
        obtain ⟨B, hB, hv, hrow, hnm, h0, h1, h2, hk⟩ := h
        obtain ⟨c, tt, hi, e0⟩ := ptrRel_now hx hB hv
        obtain ⟨e, hu, hs⟩ := arrayP_inv ha
        have hb := run_sliceBounds (P := P) hr (isS := false) hl hh' h0 h1 h2 w
        refine Yields0.same (v := .slice (some (if n = l.toNat then ⟨c, o, none⟩ else ⟨c, o + l.toNat * s, none⟩)) (h'.toNat - l.toNat) (n - l.toNat)) ?_ hk ?_
        · simp only [Instr.sliceAt, Sem.run_bind, run_underlying hu, Result.andThen_ok, e0, Instr.sureAddr, Sem.run_pure, hb, run_sizeOf hs]
          congr 2
          split
          · rfl
          · simp [add_own]
        · refine ⟨B, hB, by rw [hv]; exact Nat.le_refl _, rfl, fun _ => ⟨c, tt, hi, by split <;> rfl, by omega, by omega, fun hrow' _ => ?_⟩⟩
          rw [hrow] at hrow'; cases hrow'
      · exact h.elim
    · exact h.elim
  · exact h.elim

end
end Go.Proofs.YtlmplfgnhibfcaaDoor.Abs
