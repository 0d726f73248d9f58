/-
  No cell of these rows narrows 'for every input' (looked for: loops, veiled, ifaces, maps, wideKeys, modest, calm, conditions, laid).
  DERIVED. THE GIVEN ROWS OF THIS SEAT. 3 by the template 'for every input the law returns true; each argument reads behind the call as it read before'; 0 by the template 'total and deterministic' (their statements: YtkcbhdjhbnnlgaaTotals.lean).
  GIVEN WITH THE SEED: the statements are not yours to turn. If you find one false, say at which input.
  Laid BY PROGRAM, IN A SANDBOX (cutbox-rows.mjs): the forced cells as the released guide's own fill.sh prints them over the translation 42a7f049f79c8692… (all of the seat's roots in one cut). By AI agents, Wed Nov 11 2026. No macro, syntax, notation, axiom, sorry.
-/
import Derived.Test.YtkcbhdjhbnnlgaaChecked
import GoSem.Claim
import GoSem.ClaimJoined
import GoSem.ClaimMapViews
import Derived.JoinedTies
import Derived.KernelRfl
namespace Go.Proofs.Ytkcbhdjhbnnlgaa
/- THE CELL 'sum', in the pinned program and in every row, IS THE sha256 OF THE DUMP (.gsa) THAT YtkcbhdjhbnnlgaaProg.lean LOADS. Nothing in Lean hashes anything: it is a label: what it is worth is what the hold of that sum in a sandbox is worth. -/
noncomputable def Try.pinned : Pinned := { name := "ytkcbhdjhbnnlgaa", sum := "42a7f049f79c8692dce6f3c17fba9c28ae4242cec22c2897938f4a381c717bf6", checked := Try.checked }
namespace Rows
def none {H : Type} : Left H := { results := [], args := [] }

/-- 'laws.FnPresses': WHATEVER THE INPUT: true; the input reads as it did. -/
def fnPressesSpec : ChangeSpec := { name := "fnPresses", fn := fun _ => fun
  | [d] => { results := [.lit (.bool true)], args := [d] }
  | _ => none }
def fnPressesRow : OpenClaim := { program := "ytkcbhdjhbnnlgaa", sum := "42a7f049f79c8692dce6f3c17fba9c28ae4242cec22c2897938f4a381c717bf6", func := "loop.example/g01220/laws.FnPresses", spec := "fnPresses", unfollowed := true, recurses := true, apart := false }
def FnPressesSaid : Prop := fnPressesRow.holds Try.pinned (OpenSpec.ofChange fnPressesSpec)

/-- ITS FALSE NEIGHBOUR: 'it returns false'. Refute it at one input. -/
def fnPressesWrong : ChangeSpec := { name := "fnPresses", fn := fun _ => fun
  | [d] => { results := [.lit (.bool false)], args := [d] }
  | _ => none }
def FnPressesWrongFalsely : Prop := fnPressesRow.holds Try.pinned (OpenSpec.ofChange fnPressesWrong)

/-- 'laws.FnShops': WHATEVER THE INPUT: true; the input reads as it did. -/
def fnShopsSpec : ChangeSpec := { name := "fnShops", fn := fun _ => fun
  | [d] => { results := [.lit (.bool true)], args := [d] }
  | _ => none }
def fnShopsRow : OpenClaim := { program := "ytkcbhdjhbnnlgaa", sum := "42a7f049f79c8692dce6f3c17fba9c28ae4242cec22c2897938f4a381c717bf6", func := "loop.example/g01220/laws.FnShops", spec := "fnShops", unfollowed := true, recurses := true, apart := false }
def FnShopsSaid : Prop := fnShopsRow.holds Try.pinned (OpenSpec.ofChange fnShopsSpec)

/-- ITS FALSE NEIGHBOUR: 'it returns false'. Refute it at one input. -/
def fnShopsWrong : ChangeSpec := { name := "fnShops", fn := fun _ => fun
  | [d] => { results := [.lit (.bool false)], args := [d] }
  | _ => none }
def FnShopsWrongFalsely : Prop := fnShopsRow.holds Try.pinned (OpenSpec.ofChange fnShopsWrong)

/-- 'laws.FnEffects': WHATEVER THE INPUT: true; the input reads as it did. -/
def fnEffectsSpec : ChangeSpec := { name := "fnEffects", fn := fun _ => fun
  | [d] => { results := [.lit (.bool true)], args := [d] }
  | _ => none }
def fnEffectsRow : OpenClaim := { program := "ytkcbhdjhbnnlgaa", sum := "42a7f049f79c8692dce6f3c17fba9c28ae4242cec22c2897938f4a381c717bf6", func := "loop.example/g01220/laws.FnEffects", spec := "fnEffects", unfollowed := true, recurses := true, apart := false }
def FnEffectsSaid : Prop := fnEffectsRow.holds Try.pinned (OpenSpec.ofChange fnEffectsSpec)

/-- ITS FALSE NEIGHBOUR: 'it returns false'. Refute it at one input. -/
def fnEffectsWrong : ChangeSpec := { name := "fnEffects", fn := fun _ => fun
  | [d] => { results := [.lit (.bool false)], args := [d] }
  | _ => none }
def FnEffectsWrongFalsely : Prop := fnEffectsRow.holds Try.pinned (OpenSpec.ofChange fnEffectsWrong)

/- THE SECOND FORM. 'bulk': how many values and letters a reading holds, each counted each time it is reached (what is shared counts as often as it is met; a slice's spare places count too). A statement '..UptoSaid' is the law's where the arguments, and the package variables that the reading takes, are together of bulk at most 1048576: NARROWER than '..Said'. Prove '..Said' where nothing that the law and all that it calls make is longer than what came in: it says more and counts as full. Else prove '..UptoSaid'. A law counts once. -/
mutual
def uptoBulk {H : Type} : DataW H → Nat
  | .lit (.string bytes) => bytes.length + 1
  | .lit _ => 1
  | .nil => 1
  | .ptr d => uptoBulk d + 1
  | .slice elems spare => uptoBulkAll elems + uptoBulkAll spare + 1
  | .agg parts => uptoBulkAll parts + 1
  | .iface _ d => uptoBulk d + 1
  | .map entries => uptoBulkEntries entries + 1
  | .held _ => 1
def uptoBulkAll {H : Type} : List (DataW H) → Nat
  | [] => 0
  | d :: r => uptoBulk d + uptoBulkAll r
def uptoBulkEntries {H : Type} : List (Lit × DataW H) → Nat
  | [] => 0
  | x :: r => uptoBulkEntry x + uptoBulkEntries r
def uptoBulkEntry {H : Type} : Lit × DataW H → Nat
  | (.string bytes, d) => bytes.length + uptoBulk d + 1
  | (_, d) => uptoBulk d + 1
 end
def uptoSmall : (H : Type) → List (DataW H) → Bool := fun _ ds => decide (uptoBulkAll ds ≤ 1048576)
def OpenSpec.upto (s : _root_.Go.ChangeSpec) : _root_.Go.OpenSpec := { _root_.Go.OpenSpec.ofChange s with cond := some uptoSmall }

/-- 'laws.FnPresses', WHERE WHAT IT READS IS OF BULK AT MOST 1048576: true; the input reads as it did. -/
def fnPressesUptoRow : OpenClaim := { program := "ytkcbhdjhbnnlgaa", sum := "42a7f049f79c8692dce6f3c17fba9c28ae4242cec22c2897938f4a381c717bf6", func := "loop.example/g01220/laws.FnPresses", spec := "fnPresses", unfollowed := true, recurses := true, apart := false, narrowed := true }
def FnPressesUptoSaid : Prop := fnPressesUptoRow.holds Try.pinned (OpenSpec.upto fnPressesSpec)

/-- 'laws.FnShops', WHERE WHAT IT READS IS OF BULK AT MOST 1048576: true; the input reads as it did. -/
def fnShopsUptoRow : OpenClaim := { program := "ytkcbhdjhbnnlgaa", sum := "42a7f049f79c8692dce6f3c17fba9c28ae4242cec22c2897938f4a381c717bf6", func := "loop.example/g01220/laws.FnShops", spec := "fnShops", unfollowed := true, recurses := true, apart := false, narrowed := true }
def FnShopsUptoSaid : Prop := fnShopsUptoRow.holds Try.pinned (OpenSpec.upto fnShopsSpec)

/-- 'laws.FnEffects', WHERE WHAT IT READS IS OF BULK AT MOST 1048576: true; the input reads as it did. -/
def fnEffectsUptoRow : OpenClaim := { program := "ytkcbhdjhbnnlgaa", sum := "42a7f049f79c8692dce6f3c17fba9c28ae4242cec22c2897938f4a381c717bf6", func := "loop.example/g01220/laws.FnEffects", spec := "fnEffects", unfollowed := true, recurses := true, apart := false, narrowed := true }
def FnEffectsUptoSaid : Prop := fnEffectsUptoRow.holds Try.pinned (OpenSpec.upto fnEffectsSpec)

end Rows
end Go.Proofs.Ytkcbhdjhbnnlgaa
