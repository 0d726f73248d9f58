/- The statement FnExactDoJobs: The statement FnExactDoJobs: for every shop and every list of jobs the call returns true. No conditions. No conditions. -/
import Derived.Test.YthncpkdhcfaflaaLift2
import Derived.Test.YthncpkdhcfaflaaArg
import Derived.Test.YthncpkdhcfaflaaM17
set_option linter.unusedVariables false
namespace Go.Proofs.Ythncpkdhcfaflaa.lawDoJobs
open Go.ChangeShapes Go.WideShapes Go.ChangeAt Go.RowKit
open Go.ChangeMaps (open_string shut_string)
open Go.Proofs.Ythncpkdhcfaflaa.Abs

theorem walk (w : World) (a0 : Int) (ha0 : IntKind.i64.has a0) (a1 : Int) (ha1 : IntKind.i64.has a1) (a2 : Int) (ha2 : IntKind.i64.has a2) (a3 : Int) (ha3 : IntKind.i64.has a3) (a4 : Int) (ha4 : IntKind.i64.has a4) (a5 : Int) (ha5 : IntKind.i64.has a5) (a6 : Int) (ha6 : IntKind.i64.has a6) (a7 : Int) (ha7 : IntKind.i64.has a7) (a8 : Int) (ha8 : IntKind.i64.has a8) (a9 : Int) (ha9 : IntKind.i64.has a9) (a10 : Int) (ha10 : IntKind.i64.has a10) (a11 : Int) (ha11 : IntKind.i64.has a11) (a12 : Int) (ha12 : IntKind.i64.has a12) (a13 : Int) (ha13 : IntKind.i64.has a13) (v : Value) (xv : List (List Int)) (sv : Sli w [] 3 encL (.lit v) xv) (hv : ∀ x ∈ xv, x.length = 3 ∧ ∀ n ∈ x, IntKind.i64.has n) (mv : xv.length ≤ maxLen) :
    Calls Try.prog 12 #[.agg #[.int .i64 a0, .int .i64 a1, .int .i64 a2, .int .i64 a3, .int .i64 a4, .int .i64 a5, .int .i64 a6, .int .i64 a7, .int .i64 a8, .int .i64 a9, .int .i64 a10, .int .i64 a11, .int .i64 a12, .int .i64 a13], v] w fun e w' => e = .returned (.bool true) ∧ Below w.heap.size w w' := by
  exact law_calls (vs := [_, _]) (fun K hK => c_law_DoJobs a0 ha0 a1 ha1 a2 ha2 a3 ha3 a4 ha4 a5 ha5 a6 ha6 a7 ha7 a8 ha8 a9 ha9 a10 ha10 a11 ha11 a12 ha12 a13 ha13 v xv sv hv mv K hK) (Rels.cons (rel_agg [.int .i64 a0, .int .i64 a1, .int .i64 a2, .int .i64 a3, .int .i64 a4, .int .i64 a5, .int .i64 a6, .int .i64 a7, .int .i64 a8, .int .i64 a9, .int .i64 a10, .int .i64 a11, .int .i64 a12, .int .i64 a13] rfl) (Rels.cons (show rel3 [] [] (.lit (v)) (v) from rfl) Rels.nil))

set_option maxRecDepth 100000 in
theorem lifted (os : Os) (started : os.Started) (H : Type) (enc : TypeId × Value → H) :
    ReturnsInHanded {} Try.checked os 12 .any (Rows.fnExactDoJobsSpec.pre6 enc Try.prog Try.f12 Rows.fnExactDoJobsRow.domain false) (Rows.fnExactDoJobsSpec.post enc Try.prog Try.f12 false true false false) := by
  refine returnsInHanded_of_change (C := Try.checked) own started (by kernel_rfl) Try.func12
    (ChangeSpec.witness6 (enc := enc) (C := Try.checked) false ⟨#[], #[.agg #[.int .i64 0, .int .i64 0, .int .i64 0, .int .i64 0, .int .i64 0, .int .i64 0, .int .i64 0, .int .i64 0, .int .i64 0, .int .i64 0, .int .i64 0, .int .i64 0, .int .i64 0, .int .i64 0], .slice none 0 0], []⟩ 8 (by kernel_rfl) (by kernel_rfl) (by kernel_rfl) (by kernel_rfl)) ?_
  intro W base args ds gs before hval0 hW hcnd _
  have hval : ∀ (j : Nat) t v, Try.f12.params[j]? = some t → args[j]? = some v → Value.okWide Try.prog W .any base t v := hval0
  have hW' := hW
  obtain ⟨p, q, hA0, hV, rfl, hfz, hnd⟩ := hW
  have hA : DataW.TrodAll enc Try.prog W 0 (fun _ => true) true Try.f12.params.toList args.toList ds p := hA0
  rw [Try.params12] at hA hval
  obtain ⟨v0, vs0, d0, ds0, p0, q0, hargs, rfl, rfl, h0, r0⟩ := trodAll_cons hA
  obtain ⟨v1, vs1, d1, ds1, p1, q1, rfl, rfl, rfl, h1, r1⟩ := trodAll_cons r0
  obtain ⟨rfl, rfl, rfl⟩ := trodAll_nil r1
  obtain rfl : args = #[v0, v1] := by cases args; simp_all
  obtain ⟨rfl, rfl⟩ := trodVars_none hV
  obtain ⟨l0_0, hl0_0, rfl, b0⟩ := flat_of_okWide (n := 14) (ks := [0, 0, 0, 0, 0, 0, 0, 0, 0, 0, 0, 0, 0, 0]) (by kernel_rfl) (by kernel_rfl) (by kernel_rfl) rfl (hval 0 56 v0 rfl rfl)
  obtain ⟨y0_0, l0_1, rfl, hl0_1⟩ := cons_of_len hl0_0
  obtain ⟨y0_1, l0_2, rfl, hl0_2⟩ := cons_of_len hl0_1
  obtain ⟨y0_2, l0_3, rfl, hl0_3⟩ := cons_of_len hl0_2
  obtain ⟨y0_3, l0_4, rfl, hl0_4⟩ := cons_of_len hl0_3
  obtain ⟨y0_4, l0_5, rfl, hl0_5⟩ := cons_of_len hl0_4
  obtain ⟨y0_5, l0_6, rfl, hl0_6⟩ := cons_of_len hl0_5
  obtain ⟨y0_6, l0_7, rfl, hl0_7⟩ := cons_of_len hl0_6
  obtain ⟨y0_7, l0_8, rfl, hl0_8⟩ := cons_of_len hl0_7
  obtain ⟨y0_8, l0_9, rfl, hl0_9⟩ := cons_of_len hl0_8
  obtain ⟨y0_9, l0_10, rfl, hl0_10⟩ := cons_of_len hl0_9
  obtain ⟨y0_10, l0_11, rfl, hl0_11⟩ := cons_of_len hl0_10
  obtain ⟨y0_11, l0_12, rfl, hl0_12⟩ := cons_of_len hl0_11
  obtain ⟨y0_12, l0_13, rfl, hl0_13⟩ := cons_of_len hl0_12
  obtain ⟨y0_13, l0_14, rfl, hl0_14⟩ := cons_of_len hl0_13
  obtain rfl := nil_of_len hl0_14
  obtain ⟨a0, rfl, ha0⟩ := b0 0 _ 0 rfl rfl
  obtain ⟨a1, rfl, ha1⟩ := b0 1 _ 0 rfl rfl
  obtain ⟨a2, rfl, ha2⟩ := b0 2 _ 0 rfl rfl
  obtain ⟨a3, rfl, ha3⟩ := b0 3 _ 0 rfl rfl
  obtain ⟨a4, rfl, ha4⟩ := b0 4 _ 0 rfl rfl
  obtain ⟨a5, rfl, ha5⟩ := b0 5 _ 0 rfl rfl
  obtain ⟨a6, rfl, ha6⟩ := b0 6 _ 0 rfl rfl
  obtain ⟨a7, rfl, ha7⟩ := b0 7 _ 0 rfl rfl
  obtain ⟨a8, rfl, ha8⟩ := b0 8 _ 0 rfl rfl
  obtain ⟨a9, rfl, ha9⟩ := b0 9 _ 0 rfl rfl
  obtain ⟨a10, rfl, ha10⟩ := b0 10 _ 0 rfl rfl
  obtain ⟨a11, rfl, ha11⟩ := b0 11 _ 0 rfl rfl
  obtain ⟨a12, rfl, ha12⟩ := b0 12 _ 0 rfl rfl
  obtain ⟨a13, rfl, ha13⟩ := b0 13 _ 0 rfl rfl
  have k0 := h0
  have lt0 : ∀ x ∈ p0, x.block < W.heap.size := by obtain ⟨m, hm⟩ := k0; exact DataW.trod_lt m _ _ _ hm
  obtain ⟨xv, sv, hv, mv⟩ := sli_argT (t := 69) (e := 58) (s := 3) (by kernel_rfl) (by kernel_rfl) (fun j hj => of_decide_eq_true (List.all_eq_true.1 (show (List.range 3).all (fun j => decide (kindT Try.prog 20 58 j = 0)) = true by kernel_rfl) j (List.mem_range.2 hj))) (hval 1 69 v1 rfl rfl) h1
  have k1 := h1
  have lt1 : ∀ x ∈ p1, x.block < W.heap.size := by obtain ⟨m, hm⟩ := k1; exact DataW.trod_lt m _ _ _ hm
  clear hA0 hval0
  refine (walk W a0 ha0 a1 ha1 a2 ha2 a3 ha3 a4 ha4 a5 ha5 a6 ha6 a7 ha7 a8 ha8 a9 ha9 a10 ha10 a11 ha11 a12 ha12 a13 ha13 v1 xv sv hv mv).mono fun e W' ⟨he, bel⟩ => ?_
  subst he
  exact ⟨_, rfl, _, _, _, [], _, [], hW', trodAll_mk1 (shut_bool Try.underlying4 _), (trodAll_cons_mk (Below.trod laidOut (by kernel_rfl) (of_decide_eq_true (by kernel_rfl)) k0 bel lt0) (trodAll_cons_mk (Below.trod laidOut (by kernel_rfl) (of_decide_eq_true (by kernel_rfl)) k1 bel lt1) trodAll_mk0)), rfl, bel.frame _, fun h => by cases h⟩

theorem over : Rows.fnExactDoJobsRow.holds Try.pinned (OpenSpec.ofChange Rows.fnExactDoJobsSpec) :=
  OpenClaim.holds_of_wide 12 Try.f12 rfl rfl rfl rfl rfl rfl rfl ⟨rfl, rfl, rfl, rfl, rfl⟩ rfl rfl rfl rfl rfl (by kernel_rfl) Try.func12 (by kernel_rfl)
    (of_decide_eq_true (by kernel_rfl)) (by unfold Func.isWrapper; first | (rw [if_pos (by decide +kernel)]; kernel_rfl) | (rw [if_neg (by decide +kernel)]; exact ⟨rfl, rfl⟩))
    (fun os started H enc _ => lifted os started H enc)
end Go.Proofs.Ythncpkdhcfaflaa.lawDoJobs
namespace Go.Proofs.Ythncpkdhcfaflaa
theorem fnExactDoJobs_proved : Rows.FnExactDoJobsSaid := lawDoJobs.over
#print axioms fnExactDoJobs_proved
end Go.Proofs.Ythncpkdhcfaflaa
