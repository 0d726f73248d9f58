import Derived.Test.YthncpkdhcfaflaaZLawFewestPrints5
section
/- The statement FnExactFewestPrints: The statement FnExactFewestPrints: for every list of prints the call returns true. No conditions. -/
set_option linter.unusedVariables false
namespace Go.Proofs.Ythncpkdhcfaflaa.lawFewestPrints
open Go.ChangeShapes Go.WideShapes Go.ChangeAt Go.RowKit
open Go.ChangeMaps (open_string shut_string)
open Go.Proofs.Ythncpkdhcfaflaa.Abs
theorem walk (w : World) (v : Value) (xv : List (List Int)) (sv : Sli w [] 9 encL (.lit v) xv) (hv : ∀ x ∈ xv, x.length = 9 ∧ ∀ n ∈ x, IntKind.i64.has n) (mv : xv.length ≤ maxLen) :
    Calls Try.prog 10 #[v] w fun e w' => e = .returned (.bool true) ∧ Below w.heap.size w w' := by
  exact law_calls (vs := [_]) (fun K hK => c_law_FewestPrints v xv sv hv mv K hK) (Rels.cons (show rel3 [] [] (.lit (v)) (v) from rfl) Rels.nil)
set_option maxRecDepth 100000 in
theorem lifted (os : Os) (started : os.Started) (H : Type) (enc : TypeId × Value → H) :
    ReturnsInHanded {} Try.checked os 10 .any (Rows.fnExactFewestPrintsSpec.pre6 enc Try.prog Try.f10 Rows.fnExactFewestPrintsRow.domain false) (Rows.fnExactFewestPrintsSpec.post enc Try.prog Try.f10 false true false false) := by
  refine returnsInHanded_of_change (C := Try.checked) own started (by kernel_rfl) Try.func10
    (ChangeSpec.witness6 (enc := enc) (C := Try.checked) false ⟨#[], #[.slice none 0 0], []⟩ 8 (by kernel_rfl) (by kernel_rfl) (by kernel_rfl) (by kernel_rfl)) ?_
  intro W base args ds gs before hval0 hW hcnd _
  have hval : ∀ (j : Nat) t v, Try.f10.params[j]? = some t → args[j]? = some v → Value.okWide Try.prog W .any base t v := hval0
  have hW' := hW
  obtain ⟨p, q, hA0, hV, rfl, hfz, hnd⟩ := hW
  have hA : DataW.TrodAll enc Try.prog W 0 (fun _ => true) true Try.f10.params.toList args.toList ds p := hA0
  rw [Try.params10] at hA hval
  obtain ⟨v0, vs0, d0, ds0, p0, q0, hargs, rfl, rfl, h0, r0⟩ := trodAll_cons hA
  obtain ⟨rfl, rfl, rfl⟩ := trodAll_nil r0
  obtain rfl : args = #[v0] := by cases args; simp_all
  obtain ⟨rfl, rfl⟩ := trodVars_none hV
  obtain ⟨xv, sv, hv, mv⟩ := sli_argT (t := 22) (e := 86) (s := 9) (by kernel_rfl) (by kernel_rfl) (fun j hj => of_decide_eq_true (List.all_eq_true.1 (show (List.range 9).all (fun j => decide (kindT Try.prog 20 86 j = 0)) = true by kernel_rfl) j (List.mem_range.2 hj))) (hval 0 22 v0 rfl rfl) h0
  have k0 := h0
  have lt0 : ∀ x ∈ p0, x.block < W.heap.size := by obtain ⟨m, hm⟩ := k0; exact DataW.trod_lt m _ _ _ hm
  clear hA0 hval0
  refine (walk W v0 xv sv hv mv).mono fun e W' ⟨he, bel⟩ => ?_
  subst he
  exact ⟨_, rfl, _, _, _, [], _, [], hW', trodAll_mk1 (shut_bool Try.underlying4 _), (trodAll_cons_mk (Below.trod laidOut (by kernel_rfl) (of_decide_eq_true (by kernel_rfl)) k0 bel lt0) trodAll_mk0), rfl, bel.frame _, fun h => by cases h⟩
theorem over : Rows.fnExactFewestPrintsRow.holds Try.pinned (OpenSpec.ofChange Rows.fnExactFewestPrintsSpec) :=
  OpenClaim.holds_of_wide 10 Try.f10 rfl rfl rfl rfl rfl rfl rfl ⟨rfl, rfl, rfl, rfl, rfl⟩ rfl rfl rfl rfl rfl (by kernel_rfl) Try.func10 (by kernel_rfl)
    (of_decide_eq_true (by kernel_rfl)) (by unfold Func.isWrapper; first | (rw [if_pos (by decide +kernel)]; kernel_rfl) | (rw [if_neg (by decide +kernel)]; exact ⟨rfl, rfl⟩))
    (fun os started H enc _ => lifted os started H enc)
end Go.Proofs.Ythncpkdhcfaflaa.lawFewestPrints
namespace Go.Proofs.Ythncpkdhcfaflaa
theorem fnExactFewestPrints_proved : Rows.FnExactFewestPrintsSaid := lawFewestPrints.over
#print axioms fnExactFewestPrints_proved
end Go.Proofs.Ythncpkdhcfaflaa
end
