/- The statement FnExactIsValidConsole: The statement FnExactIsValidConsole: for every console the call returns true. No conditions. No conditions. -/
import Derived.Test.YtifakgbbcplelaaDoorLift2
import Derived.Test.YtifakgbbcplelaaDoorTie
import Derived.Test.YtifakgbbcplelaaDoorCards
import Derived.Test.YtifakgbbcplelaaDoorTab
import Derived.SevenTiedAt
import Derived.MakeChecks
import Derived.LaidLaws
import Derived.LaidHandle
import Derived.Stop.Joined
import Derived.ProofKit
import Derived.LaidMore
import Derived.JoinedOf
import Derived.Test.YtifakgbbcplelaaDoorC11
set_option linter.unusedVariables false
namespace Go.Proofs.YtifakgbbcplelaaDoor.lawIsValidConsole
open Go.ChangeShapes Go.WideShapes Go.ChangeAt Go.RowKit
open Go.ChangeMaps (open_string shut_string)
open Go.Proofs.YtifakgbbcplelaaDoor.Abs

theorem walk (i0 : Int) (hi0 : IntKind.i64.has i0) (i1 : Int) (hi1 : IntKind.i64.has i1) (i2 : Int) (hi2 : IntKind.i64.has i2) (i3 : Int) (hi3 : IntKind.i64.has i3) (i4 : Int) (hi4 : IntKind.i64.has i4) (i5 : Int) (hi5 : IntKind.i64.has i5) (i6 : Int) (hi6 : IntKind.i64.has i6) (i7 : Int) (hi7 : IntKind.i64.has i7) (i8 : Int) (hi8 : IntKind.i64.has i8) (i9 : Int) (hi9 : IntKind.i64.has i9) (j0 : Int) (hj0 : IntKind.i64.has j0) (j1 : Int) (hj1 : IntKind.i64.has j1) (j2 : Int) (hj2 : IntKind.i64.has j2) (j3 : Int) (hj3 : IntKind.i64.has j3) (sd : ByteArray) (hsd : sd.size ≤ 9223372036854775807) (sp : ByteArray) (hsp : sp.size ≤ 9223372036854775807) (sn : Int) (hsn : IntKind.i64.has sn) (w : World) (ht : TabP w) :
    Calls Tryd.prog 3 #[.agg #[.int .i64 i0, .int .i64 i1, .int .i64 i2, .int .i64 i3, .int .i64 i4, .int .i64 i5, .int .i64 i6, .int .i64 i7, .int .i64 i8, .int .i64 i9, .int .i64 j0, .int .i64 j1, .int .i64 j2, .int .i64 j3, .string sd, .string sp, .int .i64 sn]] w fun e w' => e = .returned (.bool true) ∧ Below w.heap.size w w' := by
  exact law_calls (vs := [_]) (fun K hK => c_law_IsValidConsole i0 hi0 i1 hi1 i2 hi2 i3 hi3 i4 hi4 i5 hi5 i6 hi6 i7 hi7 i8 hi8 i9 hi9 j0 hj0 j1 hj1 j2 hj2 j3 hj3 sd hsd sp hsp sn hsn ht K hK) (Rels.cons (rel_agg [.int .i64 i0, .int .i64 i1, .int .i64 i2, .int .i64 i3, .int .i64 i4, .int .i64 i5, .int .i64 i6, .int .i64 i7, .int .i64 i8, .int .i64 i9, .int .i64 j0, .int .i64 j1, .int .i64 j2, .int .i64 j3, .string sd, .string sp, .int .i64 sn] rfl) Rels.nil)

theorem door_met (os : Os) (args : Array Value) : laidMetH Tryd.prog Rows.fnExactIsValidConsoleRow.laid ((World.doorLaid Tryd.prog 400 os).forCall (fun _ _ => 0) ⟨#[], args, []⟩).memory :=
  laidMetH_of_parts3 (fuel := 8) (laidMet_of_run' 8 (by kernel_rfl) (by kernel_rfl)) (by kernel_rfl) (by kernel_rfl)
theorem tabOf {W : World} (h : laidMetH Tryd.prog Rows.fnExactIsValidConsoleRow.laid W) : TabP W := by
  rw [MakeChecks.laidMetH_plain _ _ _ (by kernel_rfl)] at h
  have e : Rows.fnExactIsValidConsoleRow.laid = ("math/bits.deBruijn32tab", Rows.laid_math_bits_deBruijn32tab) :: ("math/bits.deBruijn64tab", Rows.laid_math_bits_deBruijn64tab) :: ("internal/strconv.uint64pow10", Lib.tabData .u64 Lib.pow10Tab) :: [] := by kernel_rfl
  rw [e] at h
  exact tab_of_met (g := 1) (t := 99) (e := 63) (n := 20) (by kernel_rfl) (by kernel_rfl) (by kernel_rfl) (by kernel_rfl) (by kernel_rfl) (by kernel_rfl) h
set_option maxRecDepth 100000 in
theorem lifted (os : Os) (started : os.Started) (H : Type) (enc : TypeId × Value → H) :
    ReturnsInHanded {} Tryd.checked os 3 .any (fun w args => (Rows.fnExactIsValidConsoleSpec.pre enc Tryd.prog Tryd.f3 Rows.fnExactIsValidConsoleRow.domain false w args ∧ laidMetH Tryd.prog Rows.fnExactIsValidConsoleRow.laid w) ∧ sizedMet enc Tryd.prog Tryd.f3 (OpenSpec.ofChange Rows.fnExactIsValidConsoleSpec) false w args)
      (Rows.fnExactIsValidConsoleSpec.post enc Tryd.prog Tryd.f3 false true false false) := by
  refine returnsInHanded_of_change_and (C := Tryd.checked) (X := fun w _ => laidMetH Tryd.prog Rows.fnExactIsValidConsoleRow.laid w) (fun _ _ _ hh h => h.of_heap hh) own started (by kernel_rfl) Tryd.func3
    (ChangeSpec.witness_shaped (enc := enc) (C := Tryd.checked) (os := os) (X := fun w _ => laidMetH Tryd.prog Rows.fnExactIsValidConsoleRow.laid w) false (World.doorLaid Tryd.prog 400 os) #[.agg #[.int .i64 0, .int .i64 0, .int .i64 0, .int .i64 0, .int .i64 0, .int .i64 0, .int .i64 0, .int .i64 0, .int .i64 0, .int .i64 0, .int .i64 0, .int .i64 0, .int .i64 0, .int .i64 0, .string ⟨#[]⟩, .string ⟨#[]⟩, .int .i64 0]] 8 rfl (World.shaped_of_RefB (by kernel_rfl) (by kernel_rfl)) (by kernel_rfl) (by kernel_rfl) (by kernel_rfl) (door_met os _)) ?_
  intro W base args ds gs before hval0 hW hcnd _ hL _
  have hval : ∀ (j : Nat) t v, Tryd.f3.params[j]? = some t → args[j]? = some v → Value.okWide Tryd.prog W .any base t v := hval0
  have hW' := hW
  obtain ⟨p, q, hA0, hV, rfl, hfz, hnd⟩ := hW
  have hA : DataW.TrodAll enc Tryd.prog W 0 (fun _ => true) true Tryd.f3.params.toList args.toList ds p := hA0
  rw [Tryd.params3] at hA hval
  obtain ⟨v0, vs0, d0, ds0, p0, q0, hargs, rfl, rfl, h0, r0⟩ := trodAll_cons hA
  obtain ⟨rfl, rfl, rfl⟩ := trodAll_nil r0
  obtain rfl : args = #[v0] := by cases args; simp_all
  obtain ⟨rfl, rfl⟩ := trodVars_none hV
  obtain ⟨l0_0, hl0_0, rfl, b0⟩ := flat_of_okWide (n := 17) (ks := [0, 0, 0, 0, 0, 0, 0, 0, 0, 0, 0, 0, 0, 0, 1, 1, 0]) (by kernel_rfl) (by kernel_rfl) (by kernel_rfl) rfl (hval 0 30 v0 rfl rfl)
  obtain ⟨y0_0, l0_1, rfl, hl0_1⟩ := cons_of_len hl0_0
  obtain ⟨y0_1, l0_2, rfl, hl0_2⟩ := cons_of_len hl0_1
  obtain ⟨y0_2, l0_3, rfl, hl0_3⟩ := cons_of_len hl0_2
  obtain ⟨y0_3, l0_4, rfl, hl0_4⟩ := cons_of_len hl0_3
  obtain ⟨y0_4, l0_5, rfl, hl0_5⟩ := cons_of_len hl0_4
  obtain ⟨y0_5, l0_6, rfl, hl0_6⟩ := cons_of_len hl0_5
  obtain ⟨y0_6, l0_7, rfl, hl0_7⟩ := cons_of_len hl0_6
  obtain ⟨y0_7, l0_8, rfl, hl0_8⟩ := cons_of_len hl0_7
  obtain ⟨y0_8, l0_9, rfl, hl0_9⟩ := cons_of_len hl0_8
  obtain ⟨y0_9, l0_10, rfl, hl0_10⟩ := cons_of_len hl0_9
  obtain ⟨y0_10, l0_11, rfl, hl0_11⟩ := cons_of_len hl0_10
  obtain ⟨y0_11, l0_12, rfl, hl0_12⟩ := cons_of_len hl0_11
  obtain ⟨y0_12, l0_13, rfl, hl0_13⟩ := cons_of_len hl0_12
  obtain ⟨y0_13, l0_14, rfl, hl0_14⟩ := cons_of_len hl0_13
  obtain ⟨y0_14, l0_15, rfl, hl0_15⟩ := cons_of_len hl0_14
  obtain ⟨y0_15, l0_16, rfl, hl0_16⟩ := cons_of_len hl0_15
  obtain ⟨y0_16, l0_17, rfl, hl0_17⟩ := cons_of_len hl0_16
  obtain rfl := nil_of_len hl0_17
  obtain ⟨i0, rfl, hi0⟩ := b0 0 _ 0 rfl rfl
  obtain ⟨i1, rfl, hi1⟩ := b0 1 _ 0 rfl rfl
  obtain ⟨i2, rfl, hi2⟩ := b0 2 _ 0 rfl rfl
  obtain ⟨i3, rfl, hi3⟩ := b0 3 _ 0 rfl rfl
  obtain ⟨i4, rfl, hi4⟩ := b0 4 _ 0 rfl rfl
  obtain ⟨i5, rfl, hi5⟩ := b0 5 _ 0 rfl rfl
  obtain ⟨i6, rfl, hi6⟩ := b0 6 _ 0 rfl rfl
  obtain ⟨i7, rfl, hi7⟩ := b0 7 _ 0 rfl rfl
  obtain ⟨i8, rfl, hi8⟩ := b0 8 _ 0 rfl rfl
  obtain ⟨i9, rfl, hi9⟩ := b0 9 _ 0 rfl rfl
  obtain ⟨j0, rfl, hj0⟩ := b0 10 _ 0 rfl rfl
  obtain ⟨j1, rfl, hj1⟩ := b0 11 _ 0 rfl rfl
  obtain ⟨j2, rfl, hj2⟩ := b0 12 _ 0 rfl rfl
  obtain ⟨j3, rfl, hj3⟩ := b0 13 _ 0 rfl rfl
  obtain ⟨sd, rfl, hsd⟩ := b0 14 _ 1 rfl rfl
  obtain ⟨sp, rfl, hsp⟩ := b0 15 _ 1 rfl rfl
  obtain ⟨sn, rfl, hsn⟩ := b0 16 _ 0 rfl rfl
  have k0 := h0
  have lt0 : ∀ x ∈ p0, x.block < W.heap.size := by obtain ⟨m, hm⟩ := k0; exact DataW.trod_lt m _ _ _ hm
  clear hA0 hval0
  refine (walk i0 hi0 i1 hi1 i2 hi2 i3 hi3 i4 hi4 i5 hi5 i6 hi6 i7 hi7 i8 hi8 i9 hi9 j0 hj0 j1 hj1 j2 hj2 j3 hj3 sd hsd sp hsp sn hsn W (tabOf hL)).mono fun e W' ⟨he, bel⟩ => ?_
  subst he
  exact ⟨_, rfl, _, _, _, [], _, [], hW', trodAll_mk1 (shut_bool Tryd.underlying4 _), (trodAll_cons_mk (Below.trod laidOut (by kernel_rfl) (of_decide_eq_true (by kernel_rfl)) k0 bel lt0) trodAll_mk0), rfl, bel.frame _, fun h => by cases h⟩

theorem over : Rows.fnExactIsValidConsoleRow.holds Tryd.pinned (OpenSpec.ofChange Rows.fnExactIsValidConsoleSpec) :=
  OpenClaim.holds_of_wide 3 Tryd.f3 rfl rfl rfl rfl rfl rfl rfl ⟨rfl, rfl, rfl, rfl, rfl⟩ rfl rfl rfl rfl rfl (by kernel_rfl) Tryd.func3 (by kernel_rfl)
    (of_decide_eq_true (by kernel_rfl)) (by unfold Func.isWrapper; first | (rw [if_pos (by decide +kernel)]; kernel_rfl) | (rw [if_neg (by decide +kernel)]; exact ⟨rfl, rfl⟩))
    (fun os started H enc _ => lifted os started H enc)
end Go.Proofs.YtifakgbbcplelaaDoor.lawIsValidConsole
namespace Go.Proofs.YtifakgbbcplelaaDoor
theorem fnExactIsValidConsole_proved : Rows.FnExactIsValidConsoleCardSaid :=
  Claim7.holds_tied_plain_at .later [] [.data, .data, .data] true Rows.fnExactIsValidConsoleCard.stood.harness false
    lawIsValidConsole.over (fun _ h => by cases h) (by kernel_rfl) (fun _ h => by cases h) fnExactIsValidConsole_row_tie rfl ⟨rfl, rfl⟩ (by kernel_rfl) rfl
    (fun f fn hf hfn => by
      obtain rfl : f = 3 := Option.some.inj ((show Tryd.prog.funcNamed "loop.example/g01220/laws.FnExactIsValidConsole" = some 3 by kernel_rfl).symm.trans hf) |>.symm
      obtain rfl : fn = Tryd.f3 := (Option.some.inj (Tryd.func3.symm.trans hfn)).symm
      exact ⟨by kernel_rfl, fun j t ht => by
        rw [Tryd.params3] at ht
        have hm : t ∈ [30] := by simpa using Array.mem_of_getElem? ht
        have hall : ([30].all fun u => !Tryd.prog.wantsStandIn u) = true := by kernel_rfl
        exact (show Tryd.prog.wantsStandIn t = false by simpa using List.all_eq_true.1 hall t hm)⟩)
    (by kernel_rfl)
#print axioms fnExactIsValidConsole_proved
end Go.Proofs.YtifakgbbcplelaaDoor
