import Derived.Test.YtcclhjohpicleaaX7
section
/- The statement FnExactMissWins: For every two sheets the call returns true. No conditions. -/
set_option linter.unusedVariables false
namespace Go.Proofs.Ytcclhjohpicleaa.lawMissWins
open Go.ChangeShapes Go.WideShapes Go.ChangeAt Go.RowKit
open Go.ChangeMaps (open_string shut_string)
open Go.Proofs.Ytcclhjohpicleaa.Abs
theorem walk (a : Int) (ha : IntKind.i64.has a) (b : Int) (hb : IntKind.i64.has b) (c : Int) (hc : IntKind.i64.has c) (d : Int) (hd : IntKind.i64.has d) (e : Int) (he : IntKind.i64.has e) (f : Int) (hf : IntKind.i64.has f) (a' : Int) (ha' : IntKind.i64.has a') (b' : Int) (hb' : IntKind.i64.has b') (c' : Int) (hc' : IntKind.i64.has c') (d' : Int) (hd' : IntKind.i64.has d') (e' : Int) (he' : IntKind.i64.has e') (f' : Int) (hf' : IntKind.i64.has f') (w : World) :
    Calls Try.prog 3 #[.agg #[.int .i64 a, .int .i64 b, .int .i64 c, .int .i64 d, .int .i64 e, .int .i64 f], .agg #[.int .i64 a', .int .i64 b', .int .i64 c', .int .i64 d', .int .i64 e', .int .i64 f']] w fun e w' => e = .returned (.bool true) ∧ Below w.heap.size w w' := by
  exact law_calls (vs := [_, _]) (fun K hK => c_law_MissWins a ha b hb c hc d hd e he f hf a' ha' b' hb' c' hc' d' hd' e' he' f' hf' K hK) (Rels.cons (rel_agg [.int .i64 a, .int .i64 b, .int .i64 c, .int .i64 d, .int .i64 e, .int .i64 f] rfl) (Rels.cons (rel_agg [.int .i64 a', .int .i64 b', .int .i64 c', .int .i64 d', .int .i64 e', .int .i64 f'] rfl) Rels.nil))
set_option maxRecDepth 100000 in
theorem lifted (os : Os) (started : os.Started) (H : Type) (enc : TypeId × Value → H) :
    ReturnsInHanded {} Try.checked os 3 .any (Rows.fnExactMissWinsSpec.pre6 enc Try.prog Try.f3 Rows.fnExactMissWinsRow.domain false) (Rows.fnExactMissWinsSpec.post enc Try.prog Try.f3 false true false false) := by
  refine returnsInHanded_of_change (C := Try.checked) own started (by kernel_rfl) Try.func3
    (ChangeSpec.witness6 (enc := enc) (C := Try.checked) false ⟨#[], #[.agg #[.int .i64 0, .int .i64 0, .int .i64 0, .int .i64 0, .int .i64 0, .int .i64 0], .agg #[.int .i64 0, .int .i64 0, .int .i64 0, .int .i64 0, .int .i64 0, .int .i64 0]], []⟩ 8 (by kernel_rfl) (by kernel_rfl) (by kernel_rfl) (by kernel_rfl)) ?_
  intro W base args ds gs before hval0 hW hcnd _
  have hval : ∀ (j : Nat) t v, Try.f3.params[j]? = some t → args[j]? = some v → Value.okWide Try.prog W .any base t v := hval0
  have hW' := hW
  obtain ⟨p, q, hA0, hV, rfl, hfz, hnd⟩ := hW
  have hA : DataW.TrodAll enc Try.prog W 0 (fun _ => true) true Try.f3.params.toList args.toList ds p := hA0
  rw [Try.params3] at hA hval
  obtain ⟨v0, vs0, d0, ds0, p0, q0, hargs, rfl, rfl, h0, r0⟩ := trodAll_cons hA
  obtain ⟨v1, vs1, d1, ds1, p1, q1, rfl, rfl, rfl, h1, r1⟩ := trodAll_cons r0
  obtain ⟨rfl, rfl, rfl⟩ := trodAll_nil r1
  obtain rfl : args = #[v0, v1] := by cases args; simp_all
  obtain ⟨rfl, rfl⟩ := trodVars_none hV
  obtain ⟨l0_0, hl0_0, rfl, b0⟩ := flat_of_okWide (n := 6) (ks := [0, 0, 0, 0, 0, 0]) (by kernel_rfl) (by kernel_rfl) (by kernel_rfl) rfl (hval 0 24 v0 rfl rfl)
  obtain ⟨y0_0, l0_1, rfl, hl0_1⟩ := cons_of_len hl0_0
  obtain ⟨y0_1, l0_2, rfl, hl0_2⟩ := cons_of_len hl0_1
  obtain ⟨y0_2, l0_3, rfl, hl0_3⟩ := cons_of_len hl0_2
  obtain ⟨y0_3, l0_4, rfl, hl0_4⟩ := cons_of_len hl0_3
  obtain ⟨y0_4, l0_5, rfl, hl0_5⟩ := cons_of_len hl0_4
  obtain ⟨y0_5, l0_6, rfl, hl0_6⟩ := cons_of_len hl0_5
  obtain rfl := nil_of_len hl0_6
  obtain ⟨a, rfl, ha⟩ := b0 0 _ 0 rfl rfl
  obtain ⟨b, rfl, hb⟩ := b0 1 _ 0 rfl rfl
  obtain ⟨c, rfl, hc⟩ := b0 2 _ 0 rfl rfl
  obtain ⟨d, rfl, hd⟩ := b0 3 _ 0 rfl rfl
  obtain ⟨e, rfl, he⟩ := b0 4 _ 0 rfl rfl
  obtain ⟨f, rfl, hf⟩ := b0 5 _ 0 rfl rfl
  have k0 := h0
  have lt0 : ∀ x ∈ p0, x.block < W.heap.size := by obtain ⟨m, hm⟩ := k0; exact DataW.trod_lt m _ _ _ hm
  obtain ⟨l1_0, hl1_0, rfl, b1⟩ := flat_of_okWide (n := 6) (ks := [0, 0, 0, 0, 0, 0]) (by kernel_rfl) (by kernel_rfl) (by kernel_rfl) rfl (hval 1 24 v1 rfl rfl)
  obtain ⟨y1_0, l1_1, rfl, hl1_1⟩ := cons_of_len hl1_0
  obtain ⟨y1_1, l1_2, rfl, hl1_2⟩ := cons_of_len hl1_1
  obtain ⟨y1_2, l1_3, rfl, hl1_3⟩ := cons_of_len hl1_2
  obtain ⟨y1_3, l1_4, rfl, hl1_4⟩ := cons_of_len hl1_3
  obtain ⟨y1_4, l1_5, rfl, hl1_5⟩ := cons_of_len hl1_4
  obtain ⟨y1_5, l1_6, rfl, hl1_6⟩ := cons_of_len hl1_5
  obtain rfl := nil_of_len hl1_6
  obtain ⟨a', rfl, ha'⟩ := b1 0 _ 0 rfl rfl
  obtain ⟨b', rfl, hb'⟩ := b1 1 _ 0 rfl rfl
  obtain ⟨c', rfl, hc'⟩ := b1 2 _ 0 rfl rfl
  obtain ⟨d', rfl, hd'⟩ := b1 3 _ 0 rfl rfl
  obtain ⟨e', rfl, he'⟩ := b1 4 _ 0 rfl rfl
  obtain ⟨f', rfl, hf'⟩ := b1 5 _ 0 rfl rfl
  have k1 := h1
  have lt1 : ∀ x ∈ p1, x.block < W.heap.size := by obtain ⟨m, hm⟩ := k1; exact DataW.trod_lt m _ _ _ hm
  clear hA0 hval0
  refine (walk a ha b hb c hc d hd e he f hf a' ha' b' hb' c' hc' d' hd' e' he' f' hf' W).mono fun e W' ⟨he, bel⟩ => ?_
  subst he
  exact ⟨_, rfl, _, _, _, [], _, [], hW', trodAll_mk1 (shut_bool Try.underlying4 _), (trodAll_cons_mk (Below.trod laidOut (by kernel_rfl) (of_decide_eq_true (by kernel_rfl)) k0 bel lt0) (trodAll_cons_mk (Below.trod laidOut (by kernel_rfl) (of_decide_eq_true (by kernel_rfl)) k1 bel lt1) trodAll_mk0)), rfl, bel.frame _, fun h => by cases h⟩
theorem over : Rows.fnExactMissWinsRow.holds Try.pinned (OpenSpec.ofChange Rows.fnExactMissWinsSpec) :=
  OpenClaim.holds_of_wide 3 Try.f3 rfl rfl rfl rfl rfl rfl rfl ⟨rfl, rfl, rfl, rfl, rfl⟩ rfl rfl rfl rfl rfl (by kernel_rfl) Try.func3 (by kernel_rfl)
    (of_decide_eq_true (by kernel_rfl)) (by unfold Func.isWrapper; first | (rw [if_pos (by decide +kernel)]; kernel_rfl) | (rw [if_neg (by decide +kernel)]; exact ⟨rfl, rfl⟩))
    (fun os started H enc _ => lifted os started H enc)
end Go.Proofs.Ytcclhjohpicleaa.lawMissWins
namespace Go.Proofs.Ytcclhjohpicleaa
theorem fnExactMissWins_proved : Rows.FnExactMissWinsSaid := lawMissWins.over
#print axioms fnExactMissWins_proved
end Go.Proofs.Ytcclhjohpicleaa
end
