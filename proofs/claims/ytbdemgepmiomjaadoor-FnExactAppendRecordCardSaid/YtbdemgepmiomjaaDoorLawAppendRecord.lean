/- The statement FnExactAppendRecord: The statement FnExactAppendRecord: for every log and every record the call returns true. No conditions. No conditions. -/
import Derived.Test.YtbdemgepmiomjaaDoorLift2
import Derived.Test.YtbdemgepmiomjaaDoorTie
import Derived.Test.YtbdemgepmiomjaaDoorCards
import Derived.Test.YtbdemgepmiomjaaDoorTab
import Derived.SevenTiedAt
import Derived.MakeChecks
import Derived.LaidLaws
import Derived.LaidHandle
import Derived.Stop.Joined
import Derived.ProofKit
import Derived.LaidMore
import Derived.JoinedOf
import Derived.Test.YtbdemgepmiomjaaDoorS9
set_option linter.unusedVariables false
namespace Go.Proofs.YtbdemgepmiomjaaDoor.lawAppendRecord
open Go.ChangeShapes Go.WideShapes Go.ChangeAt Go.RowKit
open Go.ChangeMaps (open_string shut_string)
open Go.Proofs.YtbdemgepmiomjaaDoor.Abs

theorem walk (d : ByteArray) (hd : d.size ≤ 9223372036854775807) (p : ByteArray) (hp : p.size ≤ 9223372036854775807) (n : Int) (hn : IntKind.i64.has n) (c : ByteArray) (hc : c.size ≤ 9223372036854775807) (r : ByteArray) (hr : r.size ≤ 9223372036854775807) (w : World) (ht : TabP w) :
    Calls Tryd.prog 8 #[.agg #[.string d, .string p, .int .i64 n], .agg #[.string c, .string r]] w fun e w' => e = .returned (.bool true) ∧ Below w.heap.size w w' := by
  exact law_calls (vs := [_, _]) (fun K hK => c_law_AppendRecord d hd p hp n hn c hc r hr ht K hK) (Rels.cons (rel_agg [.string d, .string p, .int .i64 n] rfl) (Rels.cons (rel_agg [.string c, .string r] rfl) Rels.nil))

theorem door_met (os : Os) (args : Array Value) : laidMetH Tryd.prog Rows.fnExactAppendRecordRow.laid ((World.doorLaid Tryd.prog 400 os).forCall (fun _ _ => 0) ⟨#[], args, []⟩).memory :=
  laidMetH_of_parts3 (fuel := 8) (laidMet_of_run' 8 (by kernel_rfl) (by kernel_rfl)) (by kernel_rfl) (by kernel_rfl)
theorem tabOf {W : World} (h : laidMetH Tryd.prog Rows.fnExactAppendRecordRow.laid W) : TabP W := by
  rw [MakeChecks.laidMetH_plain _ _ _ (by kernel_rfl)] at h
  have e : Rows.fnExactAppendRecordRow.laid = ("math/bits.deBruijn32tab", Rows.laid_math_bits_deBruijn32tab) :: ("math/bits.deBruijn64tab", Rows.laid_math_bits_deBruijn64tab) :: ("internal/strconv.uint64pow10", Lib.tabData .u64 Lib.pow10Tab) :: [] := by kernel_rfl
  rw [e] at h
  exact tab_of_met (g := 1) (t := 131) (e := 82) (n := 20) (by kernel_rfl) (by kernel_rfl) (by kernel_rfl) (by kernel_rfl) (by kernel_rfl) (by kernel_rfl) h
set_option maxRecDepth 100000 in
theorem lifted (os : Os) (started : os.Started) (H : Type) (enc : TypeId × Value → H) :
    ReturnsInHanded {} Tryd.checked os 8 .any (fun w args => (Rows.fnExactAppendRecordSpec.pre enc Tryd.prog Tryd.f8 Rows.fnExactAppendRecordRow.domain false w args ∧ laidMetH Tryd.prog Rows.fnExactAppendRecordRow.laid w) ∧ sizedMet enc Tryd.prog Tryd.f8 (OpenSpec.ofChange Rows.fnExactAppendRecordSpec) false w args)
      (Rows.fnExactAppendRecordSpec.post enc Tryd.prog Tryd.f8 false true false false) := by
  refine returnsInHanded_of_change_and (C := Tryd.checked) (X := fun w _ => laidMetH Tryd.prog Rows.fnExactAppendRecordRow.laid w) (fun _ _ _ hh h => h.of_heap hh) own started (by kernel_rfl) Tryd.func8
    (ChangeSpec.witness_shaped (enc := enc) (C := Tryd.checked) (os := os) (X := fun w _ => laidMetH Tryd.prog Rows.fnExactAppendRecordRow.laid w) false (World.doorLaid Tryd.prog 400 os) #[.agg #[.string ⟨#[]⟩, .string ⟨#[]⟩, .int .i64 0], .agg #[.string ⟨#[]⟩, .string ⟨#[]⟩]] 8 rfl (World.shaped_of_RefB (by kernel_rfl) (by kernel_rfl)) (by kernel_rfl) (by kernel_rfl) (by kernel_rfl) (door_met os _)) ?_
  intro W base args ds gs before hval0 hW hcnd _ hL _
  have hval : ∀ (j : Nat) t v, Tryd.f8.params[j]? = some t → args[j]? = some v → Value.okWide Tryd.prog W .any base t v := hval0
  have hW' := hW
  obtain ⟨p, q, hA0, hV, rfl, hfz, hnd⟩ := hW
  have hA : DataW.TrodAll enc Tryd.prog W 0 (fun _ => true) true Tryd.f8.params.toList args.toList ds p := hA0
  rw [Tryd.params8] at hA hval
  obtain ⟨v0, vs0, d0, ds0, p0, q0, hargs, rfl, rfl, h0, r0⟩ := trodAll_cons hA
  obtain ⟨v1, vs1, d1, ds1, p1, q1, rfl, rfl, rfl, h1, r1⟩ := trodAll_cons r0
  obtain ⟨rfl, rfl, rfl⟩ := trodAll_nil r1
  obtain rfl : args = #[v0, v1] := by cases args; simp_all
  obtain ⟨rfl, rfl⟩ := trodVars_none hV
  obtain ⟨l0_0, hl0_0, rfl, b0⟩ := flat_of_okWide (n := 3) (ks := [1, 1, 0]) (by kernel_rfl) (by kernel_rfl) (by kernel_rfl) rfl (hval 0 36 v0 rfl rfl)
  obtain ⟨y0_0, l0_1, rfl, hl0_1⟩ := cons_of_len hl0_0
  obtain ⟨y0_1, l0_2, rfl, hl0_2⟩ := cons_of_len hl0_1
  obtain ⟨y0_2, l0_3, rfl, hl0_3⟩ := cons_of_len hl0_2
  obtain rfl := nil_of_len hl0_3
  obtain ⟨d, rfl, hd⟩ := b0 0 _ 1 rfl rfl
  obtain ⟨p, rfl, hp⟩ := b0 1 _ 1 rfl rfl
  obtain ⟨n, rfl, hn⟩ := b0 2 _ 0 rfl rfl
  have k0 := h0
  have lt0 : ∀ x ∈ p0, x.block < W.heap.size := by obtain ⟨m, hm⟩ := k0; exact DataW.trod_lt m _ _ _ hm
  obtain ⟨l1_0, hl1_0, rfl, b1⟩ := flat_of_okWide (n := 2) (ks := [1, 1]) (by kernel_rfl) (by kernel_rfl) (by kernel_rfl) rfl (hval 1 23 v1 rfl rfl)
  obtain ⟨y1_0, l1_1, rfl, hl1_1⟩ := cons_of_len hl1_0
  obtain ⟨y1_1, l1_2, rfl, hl1_2⟩ := cons_of_len hl1_1
  obtain rfl := nil_of_len hl1_2
  obtain ⟨c, rfl, hc⟩ := b1 0 _ 1 rfl rfl
  obtain ⟨r, rfl, hr⟩ := b1 1 _ 1 rfl rfl
  have k1 := h1
  have lt1 : ∀ x ∈ p1, x.block < W.heap.size := by obtain ⟨m, hm⟩ := k1; exact DataW.trod_lt m _ _ _ hm
  clear hA0 hval0
  refine (walk d hd p hp n hn c hc r hr W (tabOf hL)).mono fun e W' ⟨he, bel⟩ => ?_
  subst he
  exact ⟨_, rfl, _, _, _, [], _, [], hW', trodAll_mk1 (shut_bool Tryd.underlying4 _), (trodAll_cons_mk (Below.trod laidOut (by kernel_rfl) (of_decide_eq_true (by kernel_rfl)) k0 bel lt0) (trodAll_cons_mk (Below.trod laidOut (by kernel_rfl) (of_decide_eq_true (by kernel_rfl)) k1 bel lt1) trodAll_mk0)), rfl, bel.frame _, fun h => by cases h⟩

theorem over : Rows.fnExactAppendRecordRow.holds Tryd.pinned (OpenSpec.ofChange Rows.fnExactAppendRecordSpec) :=
  OpenClaim.holds_of_wide 8 Tryd.f8 rfl rfl rfl rfl rfl rfl rfl ⟨rfl, rfl, rfl, rfl, rfl⟩ rfl rfl rfl rfl rfl (by kernel_rfl) Tryd.func8 (by kernel_rfl)
    (of_decide_eq_true (by kernel_rfl)) (by unfold Func.isWrapper; first | (rw [if_pos (by decide +kernel)]; kernel_rfl) | (rw [if_neg (by decide +kernel)]; exact ⟨rfl, rfl⟩))
    (fun os started H enc _ => lifted os started H enc)
end Go.Proofs.YtbdemgepmiomjaaDoor.lawAppendRecord
namespace Go.Proofs.YtbdemgepmiomjaaDoor
theorem fnExactAppendRecord_proved : Rows.FnExactAppendRecordCardSaid :=
  Claim7.holds_tied_plain_at .later [] [.data, .data, .data] true Rows.fnExactAppendRecordCard.stood.harness false
    lawAppendRecord.over (fun _ h => by cases h) (by kernel_rfl) (fun _ h => by cases h) fnExactAppendRecord_row_tie rfl ⟨rfl, rfl⟩ (by kernel_rfl) rfl
    (fun f fn hf hfn => by
      obtain rfl : f = 8 := Option.some.inj ((show Tryd.prog.funcNamed "loop.example/g01220/laws.FnExactAppendRecord" = some 8 by kernel_rfl).symm.trans hf) |>.symm
      obtain rfl : fn = Tryd.f8 := (Option.some.inj (Tryd.func8.symm.trans hfn)).symm
      exact ⟨by kernel_rfl, fun j t ht => by
        rw [Tryd.params8] at ht
        have hm : t ∈ [36, 23] := by simpa using Array.mem_of_getElem? ht
        have hall : ([36, 23].all fun u => !Tryd.prog.wantsStandIn u) = true := by kernel_rfl
        exact (show Tryd.prog.wantsStandIn t = false by simpa using List.all_eq_true.1 hall t hm)⟩)
    (by kernel_rfl)
#print axioms fnExactAppendRecord_proved
end Go.Proofs.YtbdemgepmiomjaaDoor
