import Derived.Test.YtcfkhiplmnamcaaZJ7
section
/- The statement FnExactJoinPlans: The statement FnExactJoinPlans: for every two plans the call returns true. No conditions. -/
set_option linter.unusedVariables false
namespace Go.Proofs.Ytcfkhiplmnamcaa.lawJoinPlans
open Go.ChangeShapes Go.WideShapes Go.ChangeAt Go.RowKit
open Go.ChangeMaps (open_string shut_string)
open Go.Proofs.Ytcfkhiplmnamcaa.Abs
theorem walk (w : World) (a0 : Int) (ha0 : IntKind.i64.has a0) (a1 : Int) (ha1 : IntKind.i64.has a1) (a2 : Int) (ha2 : IntKind.i64.has a2) (a3 : Int) (ha3 : IntKind.i64.has a3) (a4 : Int) (ha4 : IntKind.i64.has a4) (a5 : Int) (ha5 : IntKind.i64.has a5) (v : Value) (xv : List (List Int)) (sv : Sli w [] 6 encL (.lit v) xv) (hv : ∀ x ∈ xv, x.length = 6 ∧ ∀ n ∈ x, IntKind.i64.has n) (mv : xv.length ≤ maxLen) (u : Value) (xu : List (List Int)) (su : Sli w [] 4 encL (.lit u) xu) (hu : ∀ x ∈ xu, x.length = 4 ∧ ∀ n ∈ x, IntKind.i64.has n) (mu : xu.length ≤ maxLen) (c0 : Int) (hc0 : IntKind.i64.has c0) (c1 : Int) (hc1 : IntKind.i64.has c1) (c2 : Int) (hc2 : IntKind.i64.has c2) (c3 : Int) (hc3 : IntKind.i64.has c3) (c4 : Int) (hc4 : IntKind.i64.has c4) (c5 : Int) (hc5 : IntKind.i64.has c5) (vv : Value) (xvv : List (List Int)) (svv : Sli w [] 6 encL (.lit vv) xvv) (hvv : ∀ x ∈ xvv, x.length = 6 ∧ ∀ n ∈ x, IntKind.i64.has n) (mvv : xvv.length ≤ maxLen) (uu : Value) (xuu : List (List Int)) (suu : Sli w [] 4 encL (.lit uu) xuu) (huu : ∀ x ∈ xuu, x.length = 4 ∧ ∀ n ∈ x, IntKind.i64.has n) (muu : xuu.length ≤ maxLen) :
    Calls Try.prog 3 #[.agg #[.int .i64 a0, .int .i64 a1, .int .i64 a2, .int .i64 a3, .int .i64 a4, .int .i64 a5, v, u], .agg #[.int .i64 c0, .int .i64 c1, .int .i64 c2, .int .i64 c3, .int .i64 c4, .int .i64 c5, vv, uu]] w fun e w' => e = .returned (.bool true) ∧ Below w.heap.size w w' := by
  exact law_calls (vs := [_, _]) (fun K hK => c_law_JoinPlans a0 ha0 a1 ha1 a2 ha2 a3 ha3 a4 ha4 a5 ha5 v xv sv hv mv u xu su hu mu c0 hc0 c1 hc1 c2 hc2 c3 hc3 c4 hc4 c5 hc5 vv xvv svv hvv mvv uu xuu suu huu muu K hK) (Rels.cons (rel_agg [.int .i64 a0, .int .i64 a1, .int .i64 a2, .int .i64 a3, .int .i64 a4, .int .i64 a5, v, u] (by simp only [List.all_cons, List.all_nil, Bool.and_true, sli_one sv, sli_one su]; rfl)) (Rels.cons (rel_agg [.int .i64 c0, .int .i64 c1, .int .i64 c2, .int .i64 c3, .int .i64 c4, .int .i64 c5, vv, uu] (by simp only [List.all_cons, List.all_nil, Bool.and_true, sli_one svv, sli_one suu]; rfl)) Rels.nil))
set_option maxRecDepth 100000 in
theorem lifted (os : Os) (started : os.Started) (H : Type) (enc : TypeId × Value → H) :
    ReturnsInHanded {} Try.checked os 3 .any (Rows.fnExactJoinPlansSpec.pre6 enc Try.prog Try.f3 Rows.fnExactJoinPlansRow.domain false) (Rows.fnExactJoinPlansSpec.post enc Try.prog Try.f3 false true false false) := by
  refine returnsInHanded_of_change (C := Try.checked) own started (by kernel_rfl) Try.func3
    (ChangeSpec.witness6 (enc := enc) (C := Try.checked) false ⟨#[], #[.agg #[.int .i64 0, .int .i64 0, .int .i64 0, .int .i64 0, .int .i64 0, .int .i64 0, .slice none 0 0, .slice none 0 0], .agg #[.int .i64 0, .int .i64 0, .int .i64 0, .int .i64 0, .int .i64 0, .int .i64 0, .slice none 0 0, .slice none 0 0]], []⟩ 8 (by kernel_rfl) (by kernel_rfl) (by kernel_rfl) (by kernel_rfl)) ?_
  intro W base args ds gs before hval0 hW hcnd _
  have hval : ∀ (j : Nat) t v, Try.f3.params[j]? = some t → args[j]? = some v → Value.okWide Try.prog W .any base t v := hval0
  have hW' := hW
  obtain ⟨p, q, hA0, hV, rfl, hfz, hnd⟩ := hW
  have hA : DataW.TrodAll enc Try.prog W 0 (fun _ => true) true Try.f3.params.toList args.toList ds p := hA0
  rw [Try.params3] at hA hval
  obtain ⟨v0, vs0, d0, ds0, p0, q0, hargs, rfl, rfl, h0, r0⟩ := trodAll_cons hA
  obtain ⟨v1, vs1, d1, ds1, p1, q1, rfl, rfl, rfl, h1, r1⟩ := trodAll_cons r0
  obtain ⟨rfl, rfl, rfl⟩ := trodAll_nil r1
  obtain rfl : args = #[v0, v1] := by cases args; simp_all
  obtain ⟨rfl, rfl⟩ := trodVars_none hV
  obtain ⟨l0_0, hl0_0, rfl, b0⟩ := flat_of_okWide (n := 8) (ks := [0, 0, 0, 0, 0, 0, 9, 9]) (by kernel_rfl) (by kernel_rfl) (by kernel_rfl) rfl (hval 0 28 v0 rfl rfl)
  obtain ⟨y0_0, l0_1, rfl, hl0_1⟩ := cons_of_len hl0_0
  obtain ⟨y0_1, l0_2, rfl, hl0_2⟩ := cons_of_len hl0_1
  obtain ⟨y0_2, l0_3, rfl, hl0_3⟩ := cons_of_len hl0_2
  obtain ⟨y0_3, l0_4, rfl, hl0_4⟩ := cons_of_len hl0_3
  obtain ⟨y0_4, l0_5, rfl, hl0_5⟩ := cons_of_len hl0_4
  obtain ⟨y0_5, l0_6, rfl, hl0_6⟩ := cons_of_len hl0_5
  obtain ⟨y0_6, l0_7, rfl, hl0_7⟩ := cons_of_len hl0_6
  obtain ⟨y0_7, l0_8, rfl, hl0_8⟩ := cons_of_len hl0_7
  obtain rfl := nil_of_len hl0_8
  obtain ⟨a0, rfl, ha0⟩ := b0 0 _ 0 rfl rfl
  obtain ⟨a1, rfl, ha1⟩ := b0 1 _ 0 rfl rfl
  obtain ⟨a2, rfl, ha2⟩ := b0 2 _ 0 rfl rfl
  obtain ⟨a3, rfl, ha3⟩ := b0 3 _ 0 rfl rfl
  obtain ⟨a4, rfl, ha4⟩ := b0 4 _ 0 rfl rfl
  obtain ⟨a5, rfl, ha5⟩ := b0 5 _ 0 rfl rfl
  obtain ⟨xv, sv, hv, mv⟩ := sli_fieldT (t := 28) (ft := 25) (e := 24) (s := 6) (o := 6) (i := 1) (by kernel_rfl) (by kernel_rfl) (by kernel_rfl) (by kernel_rfl) (fun j hj => of_decide_eq_true (List.all_eq_true.1 (show (List.range 6).all (fun j => decide (kindT Try.prog 20 24 j = 0)) = true by kernel_rfl) j (List.mem_range.2 hj))) (by kernel_rfl) (hval 0 28 _ rfl rfl) h0 rfl
  obtain ⟨xu, su, hu, mu⟩ := sli_fieldT (t := 28) (ft := 26) (e := 62) (s := 4) (o := 7) (i := 2) (by kernel_rfl) (by kernel_rfl) (by kernel_rfl) (by kernel_rfl) (fun j hj => of_decide_eq_true (List.all_eq_true.1 (show (List.range 4).all (fun j => decide (kindT Try.prog 20 62 j = 0)) = true by kernel_rfl) j (List.mem_range.2 hj))) (by kernel_rfl) (hval 0 28 _ rfl rfl) h0 rfl
  have k0 := h0
  have lt0 : ∀ x ∈ p0, x.block < W.heap.size := by obtain ⟨m, hm⟩ := k0; exact DataW.trod_lt m _ _ _ hm
  obtain ⟨l1_0, hl1_0, rfl, b1⟩ := flat_of_okWide (n := 8) (ks := [0, 0, 0, 0, 0, 0, 9, 9]) (by kernel_rfl) (by kernel_rfl) (by kernel_rfl) rfl (hval 1 28 v1 rfl rfl)
  obtain ⟨y1_0, l1_1, rfl, hl1_1⟩ := cons_of_len hl1_0
  obtain ⟨y1_1, l1_2, rfl, hl1_2⟩ := cons_of_len hl1_1
  obtain ⟨y1_2, l1_3, rfl, hl1_3⟩ := cons_of_len hl1_2
  obtain ⟨y1_3, l1_4, rfl, hl1_4⟩ := cons_of_len hl1_3
  obtain ⟨y1_4, l1_5, rfl, hl1_5⟩ := cons_of_len hl1_4
  obtain ⟨y1_5, l1_6, rfl, hl1_6⟩ := cons_of_len hl1_5
  obtain ⟨y1_6, l1_7, rfl, hl1_7⟩ := cons_of_len hl1_6
  obtain ⟨y1_7, l1_8, rfl, hl1_8⟩ := cons_of_len hl1_7
  obtain rfl := nil_of_len hl1_8
  obtain ⟨c0, rfl, hc0⟩ := b1 0 _ 0 rfl rfl
  obtain ⟨c1, rfl, hc1⟩ := b1 1 _ 0 rfl rfl
  obtain ⟨c2, rfl, hc2⟩ := b1 2 _ 0 rfl rfl
  obtain ⟨c3, rfl, hc3⟩ := b1 3 _ 0 rfl rfl
  obtain ⟨c4, rfl, hc4⟩ := b1 4 _ 0 rfl rfl
  obtain ⟨c5, rfl, hc5⟩ := b1 5 _ 0 rfl rfl
  obtain ⟨xvv, svv, hvv, mvv⟩ := sli_fieldT (t := 28) (ft := 25) (e := 24) (s := 6) (o := 6) (i := 1) (by kernel_rfl) (by kernel_rfl) (by kernel_rfl) (by kernel_rfl) (fun j hj => of_decide_eq_true (List.all_eq_true.1 (show (List.range 6).all (fun j => decide (kindT Try.prog 20 24 j = 0)) = true by kernel_rfl) j (List.mem_range.2 hj))) (by kernel_rfl) (hval 1 28 _ rfl rfl) h1 rfl
  obtain ⟨xuu, suu, huu, muu⟩ := sli_fieldT (t := 28) (ft := 26) (e := 62) (s := 4) (o := 7) (i := 2) (by kernel_rfl) (by kernel_rfl) (by kernel_rfl) (by kernel_rfl) (fun j hj => of_decide_eq_true (List.all_eq_true.1 (show (List.range 4).all (fun j => decide (kindT Try.prog 20 62 j = 0)) = true by kernel_rfl) j (List.mem_range.2 hj))) (by kernel_rfl) (hval 1 28 _ rfl rfl) h1 rfl
  have k1 := h1
  have lt1 : ∀ x ∈ p1, x.block < W.heap.size := by obtain ⟨m, hm⟩ := k1; exact DataW.trod_lt m _ _ _ hm
  clear hA0 hval0
  refine (walk W a0 ha0 a1 ha1 a2 ha2 a3 ha3 a4 ha4 a5 ha5 y0_6 xv sv hv mv y0_7 xu su hu mu c0 hc0 c1 hc1 c2 hc2 c3 hc3 c4 hc4 c5 hc5 y1_6 xvv svv hvv mvv y1_7 xuu suu huu muu).mono fun e W' ⟨he, bel⟩ => ?_
  subst he
  exact ⟨_, rfl, _, _, _, [], _, [], hW', trodAll_mk1 (shut_bool Try.underlying4 _), (trodAll_cons_mk (Below.trod laidOut (by kernel_rfl) (of_decide_eq_true (by kernel_rfl)) k0 bel lt0) (trodAll_cons_mk (Below.trod laidOut (by kernel_rfl) (of_decide_eq_true (by kernel_rfl)) k1 bel lt1) trodAll_mk0)), rfl, bel.frame _, fun h => by cases h⟩
theorem over : Rows.fnExactJoinPlansRow.holds Try.pinned (OpenSpec.ofChange Rows.fnExactJoinPlansSpec) :=
  OpenClaim.holds_of_wide 3 Try.f3 rfl rfl rfl rfl rfl rfl rfl ⟨rfl, rfl, rfl, rfl, rfl⟩ rfl rfl rfl rfl rfl (by kernel_rfl) Try.func3 (by kernel_rfl)
    (of_decide_eq_true (by kernel_rfl)) (by unfold Func.isWrapper; first | (rw [if_pos (by decide +kernel)]; kernel_rfl) | (rw [if_neg (by decide +kernel)]; exact ⟨rfl, rfl⟩))
    (fun os started H enc _ => lifted os started H enc)
end Go.Proofs.Ytcfkhiplmnamcaa.lawJoinPlans
namespace Go.Proofs.Ytcfkhiplmnamcaa
theorem fnExactJoinPlans_proved : Rows.FnExactJoinPlansSaid := lawJoinPlans.over
#print axioms fnExactJoinPlans_proved
end Go.Proofs.Ytcfkhiplmnamcaa
end
