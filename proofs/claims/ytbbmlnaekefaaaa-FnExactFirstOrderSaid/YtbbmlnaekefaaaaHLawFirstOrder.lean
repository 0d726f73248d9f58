import Derived.Test.YtbbmlnaekefaaaaH6
section
/- The statement FnExactFirstOrder: for every picture and every list of prints the call returns true. No conditions. -/
set_option linter.unusedVariables false
namespace Go.Proofs.Ytbbmlnaekefaaaa.lawFirstOrder
open Go.ChangeShapes Go.WideShapes Go.ChangeAt Go.RowKit
open Go.ChangeMaps (open_string shut_string)
open Go.Proofs.Ytbbmlnaekefaaaa.Abs
theorem walk (w : World) (a0 : Int) (ha0 : IntKind.i64.has a0) (a1 : Int) (ha1 : IntKind.i64.has a1) (a2 : Int) (ha2 : IntKind.i64.has a2) (a3 : Int) (ha3 : IntKind.i64.has a3) (a4 : Int) (ha4 : IntKind.i64.has a4) (a5 : Int) (ha5 : IntKind.i64.has a5) (a6 : Int) (ha6 : IntKind.i64.has a6) (a7 : Int) (ha7 : IntKind.i64.has a7) (a8 : Int) (ha8 : IntKind.i64.has a8) (a9 : Int) (ha9 : IntKind.i64.has a9) (a10 : Int) (ha10 : IntKind.i64.has a10) (a11 : Int) (ha11 : IntKind.i64.has a11) (a12 : Int) (ha12 : IntKind.i64.has a12) (a13 : Int) (ha13 : IntKind.i64.has a13) (a14 : Int) (ha14 : IntKind.i64.has a14) (a15 : Int) (ha15 : IntKind.i64.has a15) (a16 : Int) (ha16 : IntKind.i64.has a16) (a17 : Int) (ha17 : IntKind.i64.has a17) (a18 : Int) (ha18 : IntKind.i64.has a18) (a19 : Int) (ha19 : IntKind.i64.has a19) (a20 : Int) (ha20 : IntKind.i64.has a20) (a21 : Int) (ha21 : IntKind.i64.has a21) (a22 : Int) (ha22 : IntKind.i64.has a22) (a23 : Int) (ha23 : IntKind.i64.has a23) (a24 : Int) (ha24 : IntKind.i64.has a24) (a25 : Int) (ha25 : IntKind.i64.has a25) (a26 : Int) (ha26 : IntKind.i64.has a26) (a27 : Int) (ha27 : IntKind.i64.has a27) (a28 : Int) (ha28 : IntKind.i64.has a28) (a29 : Int) (ha29 : IntKind.i64.has a29) (a30 : Int) (ha30 : IntKind.i64.has a30) (a31 : Int) (ha31 : IntKind.i64.has a31) (a32 : Int) (ha32 : IntKind.i64.has a32) (a33 : Int) (ha33 : IntKind.i64.has a33) (a34 : Int) (ha34 : IntKind.i64.has a34) (a35 : Int) (ha35 : IntKind.i64.has a35) (v : Value) (xv : List (List Int)) (sv : Sli w [] 9 encL (.lit v) xv) (hv : ∀ x ∈ xv, x.length = 9 ∧ ∀ n ∈ x, IntKind.i64.has n) (mv : xv.length ≤ maxLen) :
    Calls Try.prog 5 #[.agg (.int .i64 a0 :: .int .i64 a1 :: .int .i64 a2 :: .int .i64 a3 :: .int .i64 a4 :: .int .i64 a5 :: .int .i64 a6 :: .int .i64 a7 :: .int .i64 a8 :: .int .i64 a9 :: .int .i64 a10 :: .int .i64 a11 :: .int .i64 a12 :: .int .i64 a13 :: .int .i64 a14 :: .int .i64 a15 :: .int .i64 a16 :: .int .i64 a17 :: .int .i64 a18 :: .int .i64 a19 :: .int .i64 a20 :: .int .i64 a21 :: .int .i64 a22 :: .int .i64 a23 :: .int .i64 a24 :: .int .i64 a25 :: .int .i64 a26 :: .int .i64 a27 :: .int .i64 a28 :: .int .i64 a29 :: .int .i64 a30 :: .int .i64 a31 :: .int .i64 a32 :: .int .i64 a33 :: .int .i64 a34 :: .int .i64 a35 :: []).toArray, v] w fun e w' => e = .returned (.bool true) ∧ Below w.heap.size w w' := by
  exact law_calls (vs := [_, _]) (fun K hK => c_law_FirstOrder a0 ha0 a1 ha1 a2 ha2 a3 ha3 a4 ha4 a5 ha5 a6 ha6 a7 ha7 a8 ha8 a9 ha9 a10 ha10 a11 ha11 a12 ha12 a13 ha13 a14 ha14 a15 ha15 a16 ha16 a17 ha17 a18 ha18 a19 ha19 a20 ha20 a21 ha21 a22 ha22 a23 ha23 a24 ha24 a25 ha25 a26 ha26 a27 ha27 a28 ha28 a29 ha29 a30 ha30 a31 ha31 a32 ha32 a33 ha33 a34 ha34 a35 ha35 v xv sv hv mv K hK) (Rels.cons (rel_agg (.int .i64 a0 :: .int .i64 a1 :: .int .i64 a2 :: .int .i64 a3 :: .int .i64 a4 :: .int .i64 a5 :: .int .i64 a6 :: .int .i64 a7 :: .int .i64 a8 :: .int .i64 a9 :: .int .i64 a10 :: .int .i64 a11 :: .int .i64 a12 :: .int .i64 a13 :: .int .i64 a14 :: .int .i64 a15 :: .int .i64 a16 :: .int .i64 a17 :: .int .i64 a18 :: .int .i64 a19 :: .int .i64 a20 :: .int .i64 a21 :: .int .i64 a22 :: .int .i64 a23 :: .int .i64 a24 :: .int .i64 a25 :: .int .i64 a26 :: .int .i64 a27 :: .int .i64 a28 :: .int .i64 a29 :: .int .i64 a30 :: .int .i64 a31 :: .int .i64 a32 :: .int .i64 a33 :: .int .i64 a34 :: .int .i64 a35 :: []) rfl) (Rels.cons (show rel3 [] [] (.lit (v)) (v) from rfl) Rels.nil))
set_option maxRecDepth 100000 in
theorem lifted (os : Os) (started : os.Started) (H : Type) (enc : TypeId × Value → H) :
    ReturnsInHanded {} Try.checked os 5 .any (Rows.fnExactFirstOrderSpec.pre6 enc Try.prog Try.f5 Rows.fnExactFirstOrderRow.domain false) (Rows.fnExactFirstOrderSpec.post enc Try.prog Try.f5 false true false false) := by
  refine returnsInHanded_of_change (C := Try.checked) own started (by kernel_rfl) Try.func5
    (ChangeSpec.witness6 (enc := enc) (C := Try.checked) false ⟨#[], #[.agg (.int .i64 0 :: .int .i64 0 :: .int .i64 0 :: .int .i64 0 :: .int .i64 0 :: .int .i64 0 :: .int .i64 0 :: .int .i64 0 :: .int .i64 0 :: .int .i64 0 :: .int .i64 0 :: .int .i64 0 :: .int .i64 0 :: .int .i64 0 :: .int .i64 0 :: .int .i64 0 :: .int .i64 0 :: .int .i64 0 :: .int .i64 0 :: .int .i64 0 :: .int .i64 0 :: .int .i64 0 :: .int .i64 0 :: .int .i64 0 :: .int .i64 0 :: .int .i64 0 :: .int .i64 0 :: .int .i64 0 :: .int .i64 0 :: .int .i64 0 :: .int .i64 0 :: .int .i64 0 :: .int .i64 0 :: .int .i64 0 :: .int .i64 0 :: .int .i64 0 :: []).toArray, .slice none 0 0], []⟩ 8 (by kernel_rfl) (by kernel_rfl) (by kernel_rfl) (by kernel_rfl)) ?_
  intro W base args ds gs before hval0 hW hcnd _
  have hval : ∀ (j : Nat) t v, Try.f5.params[j]? = some t → args[j]? = some v → Value.okWide Try.prog W .any base t v := hval0
  have hW' := hW
  obtain ⟨p, q, hA0, hV, rfl, hfz, hnd⟩ := hW
  have hA : DataW.TrodAll enc Try.prog W 0 (fun _ => true) true Try.f5.params.toList args.toList ds p := hA0
  rw [Try.params5] at hA hval
  obtain ⟨v0, vs0, d0, ds0, p0, q0, hargs, rfl, rfl, h0, r0⟩ := trodAll_cons hA
  obtain ⟨v1, vs1, d1, ds1, p1, q1, rfl, rfl, rfl, h1, r1⟩ := trodAll_cons r0
  obtain ⟨rfl, rfl, rfl⟩ := trodAll_nil r1
  obtain rfl : args = #[v0, v1] := by cases args; simp_all
  obtain ⟨rfl, rfl⟩ := trodVars_none hV
  obtain ⟨l0_0, hl0_0, rfl, b0⟩ := flat_of_okWide (n := 36) (ks := (0 :: 0 :: 0 :: 0 :: 0 :: 0 :: 0 :: 0 :: 0 :: 0 :: 0 :: 0 :: 0 :: 0 :: 0 :: 0 :: 0 :: 0 :: 0 :: 0 :: 0 :: 0 :: 0 :: 0 :: 0 :: 0 :: 0 :: 0 :: 0 :: 0 :: 0 :: 0 :: 0 :: 0 :: 0 :: 0 :: [])) (by kernel_rfl) (by kernel_rfl) (by kernel_rfl) rfl (hval 0 37 v0 rfl rfl)
  obtain ⟨y0_0, l0_1, rfl, hl0_1⟩ := cons_of_len hl0_0
  obtain ⟨y0_1, l0_2, rfl, hl0_2⟩ := cons_of_len hl0_1
  obtain ⟨y0_2, l0_3, rfl, hl0_3⟩ := cons_of_len hl0_2
  obtain ⟨y0_3, l0_4, rfl, hl0_4⟩ := cons_of_len hl0_3
  obtain ⟨y0_4, l0_5, rfl, hl0_5⟩ := cons_of_len hl0_4
  obtain ⟨y0_5, l0_6, rfl, hl0_6⟩ := cons_of_len hl0_5
  obtain ⟨y0_6, l0_7, rfl, hl0_7⟩ := cons_of_len hl0_6
  obtain ⟨y0_7, l0_8, rfl, hl0_8⟩ := cons_of_len hl0_7
  obtain ⟨y0_8, l0_9, rfl, hl0_9⟩ := cons_of_len hl0_8
  obtain ⟨y0_9, l0_10, rfl, hl0_10⟩ := cons_of_len hl0_9
  obtain ⟨y0_10, l0_11, rfl, hl0_11⟩ := cons_of_len hl0_10
  obtain ⟨y0_11, l0_12, rfl, hl0_12⟩ := cons_of_len hl0_11
  obtain ⟨y0_12, l0_13, rfl, hl0_13⟩ := cons_of_len hl0_12
  obtain ⟨y0_13, l0_14, rfl, hl0_14⟩ := cons_of_len hl0_13
  obtain ⟨y0_14, l0_15, rfl, hl0_15⟩ := cons_of_len hl0_14
  obtain ⟨y0_15, l0_16, rfl, hl0_16⟩ := cons_of_len hl0_15
  obtain ⟨y0_16, l0_17, rfl, hl0_17⟩ := cons_of_len hl0_16
  obtain ⟨y0_17, l0_18, rfl, hl0_18⟩ := cons_of_len hl0_17
  obtain ⟨y0_18, l0_19, rfl, hl0_19⟩ := cons_of_len hl0_18
  obtain ⟨y0_19, l0_20, rfl, hl0_20⟩ := cons_of_len hl0_19
  obtain ⟨y0_20, l0_21, rfl, hl0_21⟩ := cons_of_len hl0_20
  obtain ⟨y0_21, l0_22, rfl, hl0_22⟩ := cons_of_len hl0_21
  obtain ⟨y0_22, l0_23, rfl, hl0_23⟩ := cons_of_len hl0_22
  obtain ⟨y0_23, l0_24, rfl, hl0_24⟩ := cons_of_len hl0_23
  obtain ⟨y0_24, l0_25, rfl, hl0_25⟩ := cons_of_len hl0_24
  obtain ⟨y0_25, l0_26, rfl, hl0_26⟩ := cons_of_len hl0_25
  obtain ⟨y0_26, l0_27, rfl, hl0_27⟩ := cons_of_len hl0_26
  obtain ⟨y0_27, l0_28, rfl, hl0_28⟩ := cons_of_len hl0_27
  obtain ⟨y0_28, l0_29, rfl, hl0_29⟩ := cons_of_len hl0_28
  obtain ⟨y0_29, l0_30, rfl, hl0_30⟩ := cons_of_len hl0_29
  obtain ⟨y0_30, l0_31, rfl, hl0_31⟩ := cons_of_len hl0_30
  obtain ⟨y0_31, l0_32, rfl, hl0_32⟩ := cons_of_len hl0_31
  obtain ⟨y0_32, l0_33, rfl, hl0_33⟩ := cons_of_len hl0_32
  obtain ⟨y0_33, l0_34, rfl, hl0_34⟩ := cons_of_len hl0_33
  obtain ⟨y0_34, l0_35, rfl, hl0_35⟩ := cons_of_len hl0_34
  obtain ⟨y0_35, l0_36, rfl, hl0_36⟩ := cons_of_len hl0_35
  obtain rfl := nil_of_len hl0_36
  obtain ⟨a0, rfl, ha0⟩ := b0 0 _ 0 rfl rfl
  obtain ⟨a1, rfl, ha1⟩ := b0 1 _ 0 rfl rfl
  obtain ⟨a2, rfl, ha2⟩ := b0 2 _ 0 rfl rfl
  obtain ⟨a3, rfl, ha3⟩ := b0 3 _ 0 rfl rfl
  obtain ⟨a4, rfl, ha4⟩ := b0 4 _ 0 rfl rfl
  obtain ⟨a5, rfl, ha5⟩ := b0 5 _ 0 rfl rfl
  obtain ⟨a6, rfl, ha6⟩ := b0 6 _ 0 rfl rfl
  obtain ⟨a7, rfl, ha7⟩ := b0 7 _ 0 rfl rfl
  obtain ⟨a8, rfl, ha8⟩ := b0 8 _ 0 rfl rfl
  obtain ⟨a9, rfl, ha9⟩ := b0 9 _ 0 rfl rfl
  obtain ⟨a10, rfl, ha10⟩ := b0 10 _ 0 rfl rfl
  obtain ⟨a11, rfl, ha11⟩ := b0 11 _ 0 rfl rfl
  obtain ⟨a12, rfl, ha12⟩ := b0 12 _ 0 rfl rfl
  obtain ⟨a13, rfl, ha13⟩ := b0 13 _ 0 rfl rfl
  obtain ⟨a14, rfl, ha14⟩ := b0 14 _ 0 rfl rfl
  obtain ⟨a15, rfl, ha15⟩ := b0 15 _ 0 rfl rfl
  obtain ⟨a16, rfl, ha16⟩ := b0 16 _ 0 rfl rfl
  obtain ⟨a17, rfl, ha17⟩ := b0 17 _ 0 rfl rfl
  obtain ⟨a18, rfl, ha18⟩ := b0 18 _ 0 rfl rfl
  obtain ⟨a19, rfl, ha19⟩ := b0 19 _ 0 rfl rfl
  obtain ⟨a20, rfl, ha20⟩ := b0 20 _ 0 rfl rfl
  obtain ⟨a21, rfl, ha21⟩ := b0 21 _ 0 rfl rfl
  obtain ⟨a22, rfl, ha22⟩ := b0 22 _ 0 rfl rfl
  obtain ⟨a23, rfl, ha23⟩ := b0 23 _ 0 rfl rfl
  obtain ⟨a24, rfl, ha24⟩ := b0 24 _ 0 rfl rfl
  obtain ⟨a25, rfl, ha25⟩ := b0 25 _ 0 rfl rfl
  obtain ⟨a26, rfl, ha26⟩ := b0 26 _ 0 rfl rfl
  obtain ⟨a27, rfl, ha27⟩ := b0 27 _ 0 rfl rfl
  obtain ⟨a28, rfl, ha28⟩ := b0 28 _ 0 rfl rfl
  obtain ⟨a29, rfl, ha29⟩ := b0 29 _ 0 rfl rfl
  obtain ⟨a30, rfl, ha30⟩ := b0 30 _ 0 rfl rfl
  obtain ⟨a31, rfl, ha31⟩ := b0 31 _ 0 rfl rfl
  obtain ⟨a32, rfl, ha32⟩ := b0 32 _ 0 rfl rfl
  obtain ⟨a33, rfl, ha33⟩ := b0 33 _ 0 rfl rfl
  obtain ⟨a34, rfl, ha34⟩ := b0 34 _ 0 rfl rfl
  obtain ⟨a35, rfl, ha35⟩ := b0 35 _ 0 rfl rfl
  have k0 := h0
  have lt0 : ∀ x ∈ p0, x.block < W.heap.size := by obtain ⟨m, hm⟩ := k0; exact DataW.trod_lt m _ _ _ hm
  obtain ⟨xv, sv, hv, mv⟩ := sli_argT (t := 22) (e := 60) (s := 9) (by kernel_rfl) (by kernel_rfl) (fun j hj => of_decide_eq_true (List.all_eq_true.1 (show (List.range 9).all (fun j => decide (kindT Try.prog 20 60 j = 0)) = true by kernel_rfl) j (List.mem_range.2 hj))) (hval 1 22 v1 rfl rfl) h1
  have k1 := h1
  have lt1 : ∀ x ∈ p1, x.block < W.heap.size := by obtain ⟨m, hm⟩ := k1; exact DataW.trod_lt m _ _ _ hm
  clear hA0 hval0
  refine (walk W a0 ha0 a1 ha1 a2 ha2 a3 ha3 a4 ha4 a5 ha5 a6 ha6 a7 ha7 a8 ha8 a9 ha9 a10 ha10 a11 ha11 a12 ha12 a13 ha13 a14 ha14 a15 ha15 a16 ha16 a17 ha17 a18 ha18 a19 ha19 a20 ha20 a21 ha21 a22 ha22 a23 ha23 a24 ha24 a25 ha25 a26 ha26 a27 ha27 a28 ha28 a29 ha29 a30 ha30 a31 ha31 a32 ha32 a33 ha33 a34 ha34 a35 ha35 v1 xv sv hv mv).mono fun e W' ⟨he, bel⟩ => ?_
  subst he
  exact ⟨_, rfl, _, _, _, [], _, [], hW', trodAll_mk1 (shut_bool Try.underlying4 _), (trodAll_cons_mk (Below.trod laidOut (by kernel_rfl) (of_decide_eq_true (by kernel_rfl)) k0 bel lt0) (trodAll_cons_mk (Below.trod laidOut (by kernel_rfl) (of_decide_eq_true (by kernel_rfl)) k1 bel lt1) trodAll_mk0)), rfl, bel.frame _, fun h => by cases h⟩
theorem over : Rows.fnExactFirstOrderRow.holds Try.pinned (OpenSpec.ofChange Rows.fnExactFirstOrderSpec) :=
  OpenClaim.holds_of_wide 5 Try.f5 rfl rfl rfl rfl rfl rfl rfl ⟨rfl, rfl, rfl, rfl, rfl⟩ rfl rfl rfl rfl rfl (by kernel_rfl) Try.func5 (by kernel_rfl)
    (of_decide_eq_true (by kernel_rfl)) (by unfold Func.isWrapper; first | (rw [if_pos (by decide +kernel)]; kernel_rfl) | (rw [if_neg (by decide +kernel)]; exact ⟨rfl, rfl⟩))
    (fun os started H enc _ => lifted os started H enc)
end Go.Proofs.Ytbbmlnaekefaaaa.lawFirstOrder
namespace Go.Proofs.Ytbbmlnaekefaaaa
theorem fnExactFirstOrder_proved : Rows.FnExactFirstOrderSaid := lawFirstOrder.over
#print axioms fnExactFirstOrder_proved
end Go.Proofs.Ytbbmlnaekefaaaa
end
