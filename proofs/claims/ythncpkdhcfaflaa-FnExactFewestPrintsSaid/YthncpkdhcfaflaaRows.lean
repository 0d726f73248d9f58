/-
  No cell of these rows narrows 'for every input' (looked for: loops, veiled, ifaces, maps, wideKeys, modest, calm, conditions, laid).
  DERIVED. THE GIVEN ROWS OF THIS SEAT. 10 by the template 'for every input the law returns true; each argument reads behind the call as it read before'; 0 by the template 'total and deterministic' (their statements: YthncpkdhcfaflaaTotals.lean).
  GIVEN WITH THE SEED: the statements are not yours to turn. If you find one false, say at which input.
  Laid BY PROGRAM, IN A SANDBOX (cutbox-rows.mjs): the forced cells as the released guide's own fill.sh prints them over the translation 40a7e3ce40d5e23b… (all of the seat's roots in one cut). By AI agents, Wed Nov 11 2026. No macro, syntax, notation, axiom, sorry.
-/
import Derived.Test.YthncpkdhcfaflaaChecked
import GoSem.Claim
import GoSem.ClaimJoined
import GoSem.ClaimMapViews
import Derived.JoinedTies
import Derived.KernelRfl
namespace Go.Proofs.Ythncpkdhcfaflaa
/- THE CELL 'sum', in the pinned program and in every row, IS THE sha256 OF THE DUMP (.gsa) THAT YthncpkdhcfaflaaProg.lean LOADS. Nothing in Lean hashes anything: it is a label: what it is worth is what the hold of that sum in a sandbox is worth. -/
noncomputable def Try.pinned : Pinned := { name := "ythncpkdhcfaflaa", sum := "40a7e3ce40d5e23b1295179900d6324cccbc361785eba99386322bc830db50f6", checked := Try.checked }
namespace Rows
def none {H : Type} : Left H := { results := [], args := [] }

/-- 'laws.FnExactOverlaps': WHATEVER THE INPUT: true; the input reads as it did. -/
def fnExactOverlapsSpec : ChangeSpec := { name := "fnExactOverlaps", fn := fun _ => fun
  | [d] => { results := [.lit (.bool true)], args := [d] }
  | _ => none }
def fnExactOverlapsRow : OpenClaim := { program := "ythncpkdhcfaflaa", sum := "40a7e3ce40d5e23b1295179900d6324cccbc361785eba99386322bc830db50f6", func := "loop.example/g01220/laws.FnExactOverlaps", spec := "fnExactOverlaps", unfollowed := true, recurses := true, apart := false }
def FnExactOverlapsSaid : Prop := fnExactOverlapsRow.holds Try.pinned (OpenSpec.ofChange fnExactOverlapsSpec)

/-- ITS FALSE NEIGHBOUR: 'it returns false'. Refute it at one input. -/
def fnExactOverlapsWrong : ChangeSpec := { name := "fnExactOverlaps", fn := fun _ => fun
  | [d] => { results := [.lit (.bool false)], args := [d] }
  | _ => none }
def FnExactOverlapsWrongFalsely : Prop := fnExactOverlapsRow.holds Try.pinned (OpenSpec.ofChange fnExactOverlapsWrong)

/-- 'laws.FnExactWholePrints': WHATEVER THE INPUT: true; the input reads as it did. -/
def fnExactWholePrintsSpec : ChangeSpec := { name := "fnExactWholePrints", fn := fun _ => fun
  | [d] => { results := [.lit (.bool true)], args := [d] }
  | _ => none }
def fnExactWholePrintsRow : OpenClaim := { program := "ythncpkdhcfaflaa", sum := "40a7e3ce40d5e23b1295179900d6324cccbc361785eba99386322bc830db50f6", func := "loop.example/g01220/laws.FnExactWholePrints", spec := "fnExactWholePrints", unfollowed := true, recurses := true, apart := false }
def FnExactWholePrintsSaid : Prop := fnExactWholePrintsRow.holds Try.pinned (OpenSpec.ofChange fnExactWholePrintsSpec)

/-- ITS FALSE NEIGHBOUR: 'it returns false'. Refute it at one input. -/
def fnExactWholePrintsWrong : ChangeSpec := { name := "fnExactWholePrints", fn := fun _ => fun
  | [d] => { results := [.lit (.bool false)], args := [d] }
  | _ => none }
def FnExactWholePrintsWrongFalsely : Prop := fnExactWholePrintsRow.holds Try.pinned (OpenSpec.ofChange fnExactWholePrintsWrong)

/-- 'laws.FnExactHiddenPrints': WHATEVER THE INPUT: true; the input reads as it did. -/
def fnExactHiddenPrintsSpec : ChangeSpec := { name := "fnExactHiddenPrints", fn := fun _ => fun
  | [d] => { results := [.lit (.bool true)], args := [d] }
  | _ => none }
def fnExactHiddenPrintsRow : OpenClaim := { program := "ythncpkdhcfaflaa", sum := "40a7e3ce40d5e23b1295179900d6324cccbc361785eba99386322bc830db50f6", func := "loop.example/g01220/laws.FnExactHiddenPrints", spec := "fnExactHiddenPrints", unfollowed := true, recurses := true, apart := false }
def FnExactHiddenPrintsSaid : Prop := fnExactHiddenPrintsRow.holds Try.pinned (OpenSpec.ofChange fnExactHiddenPrintsSpec)

/-- ITS FALSE NEIGHBOUR: 'it returns false'. Refute it at one input. -/
def fnExactHiddenPrintsWrong : ChangeSpec := { name := "fnExactHiddenPrints", fn := fun _ => fun
  | [d] => { results := [.lit (.bool false)], args := [d] }
  | _ => none }
def FnExactHiddenPrintsWrongFalsely : Prop := fnExactHiddenPrintsRow.holds Try.pinned (OpenSpec.ofChange fnExactHiddenPrintsWrong)

/-- 'laws.FnExactLastPrints': WHATEVER THE INPUT: true; the input reads as it did. -/
def fnExactLastPrintsSpec : ChangeSpec := { name := "fnExactLastPrints", fn := fun _ => fun
  | [d1, d2] => { results := [.lit (.bool true)], args := [d1, d2] }
  | _ => none }
def fnExactLastPrintsRow : OpenClaim := { program := "ythncpkdhcfaflaa", sum := "40a7e3ce40d5e23b1295179900d6324cccbc361785eba99386322bc830db50f6", func := "loop.example/g01220/laws.FnExactLastPrints", spec := "fnExactLastPrints", unfollowed := true, recurses := true, apart := false }
def FnExactLastPrintsSaid : Prop := fnExactLastPrintsRow.holds Try.pinned (OpenSpec.ofChange fnExactLastPrintsSpec)

/-- ITS FALSE NEIGHBOUR: 'it returns false'. Refute it at one input. -/
def fnExactLastPrintsWrong : ChangeSpec := { name := "fnExactLastPrints", fn := fun _ => fun
  | [d1, d2] => { results := [.lit (.bool false)], args := [d1, d2] }
  | _ => none }
def FnExactLastPrintsWrongFalsely : Prop := fnExactLastPrintsRow.holds Try.pinned (OpenSpec.ofChange fnExactLastPrintsWrong)

/-- 'laws.FnExactIsRightOrder': WHATEVER THE INPUT: true; the input reads as it did. -/
def fnExactIsRightOrderSpec : ChangeSpec := { name := "fnExactIsRightOrder", fn := fun _ => fun
  | [d1, d2, d3] => { results := [.lit (.bool true)], args := [d1, d2, d3] }
  | _ => none }
def fnExactIsRightOrderRow : OpenClaim := { program := "ythncpkdhcfaflaa", sum := "40a7e3ce40d5e23b1295179900d6324cccbc361785eba99386322bc830db50f6", func := "loop.example/g01220/laws.FnExactIsRightOrder", spec := "fnExactIsRightOrder", unfollowed := true, recurses := true, apart := false }
def FnExactIsRightOrderSaid : Prop := fnExactIsRightOrderRow.holds Try.pinned (OpenSpec.ofChange fnExactIsRightOrderSpec)

/-- ITS FALSE NEIGHBOUR: 'it returns false'. Refute it at one input. -/
def fnExactIsRightOrderWrong : ChangeSpec := { name := "fnExactIsRightOrder", fn := fun _ => fun
  | [d1, d2, d3] => { results := [.lit (.bool false)], args := [d1, d2, d3] }
  | _ => none }
def FnExactIsRightOrderWrongFalsely : Prop := fnExactIsRightOrderRow.holds Try.pinned (OpenSpec.ofChange fnExactIsRightOrderWrong)

/-- 'laws.FnExactCountOrders': WHATEVER THE INPUT: true; the input reads as it did. -/
def fnExactCountOrdersSpec : ChangeSpec := { name := "fnExactCountOrders", fn := fun _ => fun
  | [d1, d2] => { results := [.lit (.bool true)], args := [d1, d2] }
  | _ => none }
def fnExactCountOrdersRow : OpenClaim := { program := "ythncpkdhcfaflaa", sum := "40a7e3ce40d5e23b1295179900d6324cccbc361785eba99386322bc830db50f6", func := "loop.example/g01220/laws.FnExactCountOrders", spec := "fnExactCountOrders", unfollowed := true, recurses := true, apart := false }
def FnExactCountOrdersSaid : Prop := fnExactCountOrdersRow.holds Try.pinned (OpenSpec.ofChange fnExactCountOrdersSpec)

/-- ITS FALSE NEIGHBOUR: 'it returns false'. Refute it at one input. -/
def fnExactCountOrdersWrong : ChangeSpec := { name := "fnExactCountOrders", fn := fun _ => fun
  | [d1, d2] => { results := [.lit (.bool false)], args := [d1, d2] }
  | _ => none }
def FnExactCountOrdersWrongFalsely : Prop := fnExactCountOrdersRow.holds Try.pinned (OpenSpec.ofChange fnExactCountOrdersWrong)

/-- 'laws.FnExactFirstOrder': WHATEVER THE INPUT: true; the input reads as it did. -/
def fnExactFirstOrderSpec : ChangeSpec := { name := "fnExactFirstOrder", fn := fun _ => fun
  | [d1, d2] => { results := [.lit (.bool true)], args := [d1, d2] }
  | _ => none }
def fnExactFirstOrderRow : OpenClaim := { program := "ythncpkdhcfaflaa", sum := "40a7e3ce40d5e23b1295179900d6324cccbc361785eba99386322bc830db50f6", func := "loop.example/g01220/laws.FnExactFirstOrder", spec := "fnExactFirstOrder", unfollowed := true, recurses := true, apart := false }
def FnExactFirstOrderSaid : Prop := fnExactFirstOrderRow.holds Try.pinned (OpenSpec.ofChange fnExactFirstOrderSpec)

/-- ITS FALSE NEIGHBOUR: 'it returns false'. Refute it at one input. -/
def fnExactFirstOrderWrong : ChangeSpec := { name := "fnExactFirstOrder", fn := fun _ => fun
  | [d1, d2] => { results := [.lit (.bool false)], args := [d1, d2] }
  | _ => none }
def FnExactFirstOrderWrongFalsely : Prop := fnExactFirstOrderRow.holds Try.pinned (OpenSpec.ofChange fnExactFirstOrderWrong)

/-- 'laws.FnExactFewestPrints': WHATEVER THE INPUT: true; the input reads as it did. -/
def fnExactFewestPrintsSpec : ChangeSpec := { name := "fnExactFewestPrints", fn := fun _ => fun
  | [d] => { results := [.lit (.bool true)], args := [d] }
  | _ => none }
def fnExactFewestPrintsRow : OpenClaim := { program := "ythncpkdhcfaflaa", sum := "40a7e3ce40d5e23b1295179900d6324cccbc361785eba99386322bc830db50f6", func := "loop.example/g01220/laws.FnExactFewestPrints", spec := "fnExactFewestPrints", unfollowed := true, recurses := true, apart := false }
def FnExactFewestPrintsSaid : Prop := fnExactFewestPrintsRow.holds Try.pinned (OpenSpec.ofChange fnExactFewestPrintsSpec)

/-- ITS FALSE NEIGHBOUR: 'it returns false'. Refute it at one input. -/
def fnExactFewestPrintsWrong : ChangeSpec := { name := "fnExactFewestPrints", fn := fun _ => fun
  | [d] => { results := [.lit (.bool false)], args := [d] }
  | _ => none }
def FnExactFewestPrintsWrongFalsely : Prop := fnExactFewestPrintsRow.holds Try.pinned (OpenSpec.ofChange fnExactFewestPrintsWrong)

/-- 'laws.FnExactDoJob': WHATEVER THE INPUT: true; the input reads as it did. -/
def fnExactDoJobSpec : ChangeSpec := { name := "fnExactDoJob", fn := fun _ => fun
  | [d1, d2] => { results := [.lit (.bool true)], args := [d1, d2] }
  | _ => none }
def fnExactDoJobRow : OpenClaim := { program := "ythncpkdhcfaflaa", sum := "40a7e3ce40d5e23b1295179900d6324cccbc361785eba99386322bc830db50f6", func := "loop.example/g01220/laws.FnExactDoJob", spec := "fnExactDoJob", unfollowed := true, recurses := true, apart := false }
def FnExactDoJobSaid : Prop := fnExactDoJobRow.holds Try.pinned (OpenSpec.ofChange fnExactDoJobSpec)

/-- ITS FALSE NEIGHBOUR: 'it returns false'. Refute it at one input. -/
def fnExactDoJobWrong : ChangeSpec := { name := "fnExactDoJob", fn := fun _ => fun
  | [d1, d2] => { results := [.lit (.bool false)], args := [d1, d2] }
  | _ => none }
def FnExactDoJobWrongFalsely : Prop := fnExactDoJobRow.holds Try.pinned (OpenSpec.ofChange fnExactDoJobWrong)

/-- 'laws.FnExactDoJobs': WHATEVER THE INPUT: true; the input reads as it did. -/
def fnExactDoJobsSpec : ChangeSpec := { name := "fnExactDoJobs", fn := fun _ => fun
  | [d1, d2] => { results := [.lit (.bool true)], args := [d1, d2] }
  | _ => none }
def fnExactDoJobsRow : OpenClaim := { program := "ythncpkdhcfaflaa", sum := "40a7e3ce40d5e23b1295179900d6324cccbc361785eba99386322bc830db50f6", func := "loop.example/g01220/laws.FnExactDoJobs", spec := "fnExactDoJobs", unfollowed := true, recurses := true, apart := false }
def FnExactDoJobsSaid : Prop := fnExactDoJobsRow.holds Try.pinned (OpenSpec.ofChange fnExactDoJobsSpec)

/-- ITS FALSE NEIGHBOUR: 'it returns false'. Refute it at one input. -/
def fnExactDoJobsWrong : ChangeSpec := { name := "fnExactDoJobs", fn := fun _ => fun
  | [d1, d2] => { results := [.lit (.bool false)], args := [d1, d2] }
  | _ => none }
def FnExactDoJobsWrongFalsely : Prop := fnExactDoJobsRow.holds Try.pinned (OpenSpec.ofChange fnExactDoJobsWrong)

/- THE SECOND FORM. 'bulk': how many values and letters a reading holds, each counted each time it is reached (what is shared counts as often as it is met; a slice's spare places count too). A statement '..UptoSaid' is the law's where the arguments, and the package variables that the reading takes, are together of bulk at most 1048576: NARROWER than '..Said'. Prove '..Said' where nothing that the law and all that it calls make is longer than what came in: it says more and counts as full. Else prove '..UptoSaid'. A law counts once. -/
mutual
def uptoBulk {H : Type} : DataW H → Nat
  | .lit (.string bytes) => bytes.length + 1
  | .lit _ => 1
  | .nil => 1
  | .ptr d => uptoBulk d + 1
  | .slice elems spare => uptoBulkAll elems + uptoBulkAll spare + 1
  | .agg parts => uptoBulkAll parts + 1
  | .iface _ d => uptoBulk d + 1
  | .map entries => uptoBulkEntries entries + 1
  | .held _ => 1
def uptoBulkAll {H : Type} : List (DataW H) → Nat
  | [] => 0
  | d :: r => uptoBulk d + uptoBulkAll r
def uptoBulkEntries {H : Type} : List (Lit × DataW H) → Nat
  | [] => 0
  | x :: r => uptoBulkEntry x + uptoBulkEntries r
def uptoBulkEntry {H : Type} : Lit × DataW H → Nat
  | (.string bytes, d) => bytes.length + uptoBulk d + 1
  | (_, d) => uptoBulk d + 1
 end
def uptoSmall : (H : Type) → List (DataW H) → Bool := fun _ ds => decide (uptoBulkAll ds ≤ 1048576)
def OpenSpec.upto (s : _root_.Go.ChangeSpec) : _root_.Go.OpenSpec := { _root_.Go.OpenSpec.ofChange s with cond := some uptoSmall }

/-- 'laws.FnExactOverlaps', WHERE WHAT IT READS IS OF BULK AT MOST 1048576: true; the input reads as it did. -/
def fnExactOverlapsUptoRow : OpenClaim := { program := "ythncpkdhcfaflaa", sum := "40a7e3ce40d5e23b1295179900d6324cccbc361785eba99386322bc830db50f6", func := "loop.example/g01220/laws.FnExactOverlaps", spec := "fnExactOverlaps", unfollowed := true, recurses := true, apart := false, narrowed := true }
def FnExactOverlapsUptoSaid : Prop := fnExactOverlapsUptoRow.holds Try.pinned (OpenSpec.upto fnExactOverlapsSpec)

/-- 'laws.FnExactWholePrints', WHERE WHAT IT READS IS OF BULK AT MOST 1048576: true; the input reads as it did. -/
def fnExactWholePrintsUptoRow : OpenClaim := { program := "ythncpkdhcfaflaa", sum := "40a7e3ce40d5e23b1295179900d6324cccbc361785eba99386322bc830db50f6", func := "loop.example/g01220/laws.FnExactWholePrints", spec := "fnExactWholePrints", unfollowed := true, recurses := true, apart := false, narrowed := true }
def FnExactWholePrintsUptoSaid : Prop := fnExactWholePrintsUptoRow.holds Try.pinned (OpenSpec.upto fnExactWholePrintsSpec)

/-- 'laws.FnExactHiddenPrints', WHERE WHAT IT READS IS OF BULK AT MOST 1048576: true; the input reads as it did. -/
def fnExactHiddenPrintsUptoRow : OpenClaim := { program := "ythncpkdhcfaflaa", sum := "40a7e3ce40d5e23b1295179900d6324cccbc361785eba99386322bc830db50f6", func := "loop.example/g01220/laws.FnExactHiddenPrints", spec := "fnExactHiddenPrints", unfollowed := true, recurses := true, apart := false, narrowed := true }
def FnExactHiddenPrintsUptoSaid : Prop := fnExactHiddenPrintsUptoRow.holds Try.pinned (OpenSpec.upto fnExactHiddenPrintsSpec)

/-- 'laws.FnExactLastPrints', WHERE WHAT IT READS IS OF BULK AT MOST 1048576: true; the input reads as it did. -/
def fnExactLastPrintsUptoRow : OpenClaim := { program := "ythncpkdhcfaflaa", sum := "40a7e3ce40d5e23b1295179900d6324cccbc361785eba99386322bc830db50f6", func := "loop.example/g01220/laws.FnExactLastPrints", spec := "fnExactLastPrints", unfollowed := true, recurses := true, apart := false, narrowed := true }
def FnExactLastPrintsUptoSaid : Prop := fnExactLastPrintsUptoRow.holds Try.pinned (OpenSpec.upto fnExactLastPrintsSpec)

/-- 'laws.FnExactIsRightOrder', WHERE WHAT IT READS IS OF BULK AT MOST 1048576: true; the input reads as it did. -/
def fnExactIsRightOrderUptoRow : OpenClaim := { program := "ythncpkdhcfaflaa", sum := "40a7e3ce40d5e23b1295179900d6324cccbc361785eba99386322bc830db50f6", func := "loop.example/g01220/laws.FnExactIsRightOrder", spec := "fnExactIsRightOrder", unfollowed := true, recurses := true, apart := false, narrowed := true }
def FnExactIsRightOrderUptoSaid : Prop := fnExactIsRightOrderUptoRow.holds Try.pinned (OpenSpec.upto fnExactIsRightOrderSpec)

/-- 'laws.FnExactCountOrders', WHERE WHAT IT READS IS OF BULK AT MOST 1048576: true; the input reads as it did. -/
def fnExactCountOrdersUptoRow : OpenClaim := { program := "ythncpkdhcfaflaa", sum := "40a7e3ce40d5e23b1295179900d6324cccbc361785eba99386322bc830db50f6", func := "loop.example/g01220/laws.FnExactCountOrders", spec := "fnExactCountOrders", unfollowed := true, recurses := true, apart := false, narrowed := true }
def FnExactCountOrdersUptoSaid : Prop := fnExactCountOrdersUptoRow.holds Try.pinned (OpenSpec.upto fnExactCountOrdersSpec)

/-- 'laws.FnExactFirstOrder', WHERE WHAT IT READS IS OF BULK AT MOST 1048576: true; the input reads as it did. -/
def fnExactFirstOrderUptoRow : OpenClaim := { program := "ythncpkdhcfaflaa", sum := "40a7e3ce40d5e23b1295179900d6324cccbc361785eba99386322bc830db50f6", func := "loop.example/g01220/laws.FnExactFirstOrder", spec := "fnExactFirstOrder", unfollowed := true, recurses := true, apart := false, narrowed := true }
def FnExactFirstOrderUptoSaid : Prop := fnExactFirstOrderUptoRow.holds Try.pinned (OpenSpec.upto fnExactFirstOrderSpec)

/-- 'laws.FnExactFewestPrints', WHERE WHAT IT READS IS OF BULK AT MOST 1048576: true; the input reads as it did. -/
def fnExactFewestPrintsUptoRow : OpenClaim := { program := "ythncpkdhcfaflaa", sum := "40a7e3ce40d5e23b1295179900d6324cccbc361785eba99386322bc830db50f6", func := "loop.example/g01220/laws.FnExactFewestPrints", spec := "fnExactFewestPrints", unfollowed := true, recurses := true, apart := false, narrowed := true }
def FnExactFewestPrintsUptoSaid : Prop := fnExactFewestPrintsUptoRow.holds Try.pinned (OpenSpec.upto fnExactFewestPrintsSpec)

/-- 'laws.FnExactDoJob', WHERE WHAT IT READS IS OF BULK AT MOST 1048576: true; the input reads as it did. -/
def fnExactDoJobUptoRow : OpenClaim := { program := "ythncpkdhcfaflaa", sum := "40a7e3ce40d5e23b1295179900d6324cccbc361785eba99386322bc830db50f6", func := "loop.example/g01220/laws.FnExactDoJob", spec := "fnExactDoJob", unfollowed := true, recurses := true, apart := false, narrowed := true }
def FnExactDoJobUptoSaid : Prop := fnExactDoJobUptoRow.holds Try.pinned (OpenSpec.upto fnExactDoJobSpec)

/-- 'laws.FnExactDoJobs', WHERE WHAT IT READS IS OF BULK AT MOST 1048576: true; the input reads as it did. -/
def fnExactDoJobsUptoRow : OpenClaim := { program := "ythncpkdhcfaflaa", sum := "40a7e3ce40d5e23b1295179900d6324cccbc361785eba99386322bc830db50f6", func := "loop.example/g01220/laws.FnExactDoJobs", spec := "fnExactDoJobs", unfollowed := true, recurses := true, apart := false, narrowed := true }
def FnExactDoJobsUptoSaid : Prop := fnExactDoJobsUptoRow.holds Try.pinned (OpenSpec.upto fnExactDoJobsSpec)

end Rows
end Go.Proofs.Ythncpkdhcfaflaa
