/-
  No cell of these rows narrows 'for every input' (looked for: loops, veiled, ifaces, maps, wideKeys, modest, calm, conditions, laid).
  DERIVED. THE GIVEN ROWS OF THIS SEAT. 7 by the template 'for every input the law returns true; each argument reads behind the call as it read before'; 0 by the template 'total and deterministic' (their statements: YtcclhjohpicleaaTotals.lean).
  GIVEN WITH THE SEED: the statements are not yours to turn. If you find one false, say at which input.
  Laid BY PROGRAM, IN A SANDBOX (cutbox-rows.mjs): the forced cells as the released guide's own fill.sh prints them over the translation 781c33ea60a96fe3… (all of the seat's roots in one cut). By AI agents, Wed Nov 11 2026. No macro, syntax, notation, axiom, sorry.
-/
import Derived.Test.YtcclhjohpicleaaChecked
import GoSem.Claim
import GoSem.ClaimJoined
import GoSem.ClaimMapViews
import Derived.JoinedTies
import Derived.KernelRfl
namespace Go.Proofs.Ytcclhjohpicleaa
/- THE CELL 'sum', in the pinned program and in every row, IS THE sha256 OF THE DUMP (.gsa) THAT YtcclhjohpicleaaProg.lean LOADS. Nothing in Lean hashes anything: it is a label: what it is worth is what the hold of that sum in a sandbox is worth. -/
noncomputable def Try.pinned : Pinned := { name := "ytcclhjohpicleaa", sum := "781c33ea60a96fe37285a80e6da00daf03f1af30c3728429218e5085ca4d18d7", checked := Try.checked }
namespace Rows
def none {H : Type} : Left H := { results := [], args := [] }

/-- 'laws.FnExactMissWins': WHATEVER THE INPUT: true; the input reads as it did. -/
def fnExactMissWinsSpec : ChangeSpec := { name := "fnExactMissWins", fn := fun _ => fun
  | [d1, d2] => { results := [.lit (.bool true)], args := [d1, d2] }
  | _ => none }
def fnExactMissWinsRow : OpenClaim := { program := "ytcclhjohpicleaa", sum := "781c33ea60a96fe37285a80e6da00daf03f1af30c3728429218e5085ca4d18d7", func := "loop.example/g01220/laws.FnExactMissWins", spec := "fnExactMissWins", unfollowed := true, recurses := true, apart := false }
def FnExactMissWinsSaid : Prop := fnExactMissWinsRow.holds Try.pinned (OpenSpec.ofChange fnExactMissWinsSpec)

/-- ITS FALSE NEIGHBOUR: 'it returns false'. Refute it at one input. -/
def fnExactMissWinsWrong : ChangeSpec := { name := "fnExactMissWins", fn := fun _ => fun
  | [d1, d2] => { results := [.lit (.bool false)], args := [d1, d2] }
  | _ => none }
def FnExactMissWinsWrongFalsely : Prop := fnExactMissWinsRow.holds Try.pinned (OpenSpec.ofChange fnExactMissWinsWrong)

/-- 'laws.FnExactLongestGame': WHATEVER THE INPUT: true; the input reads as it did. -/
def fnExactLongestGameSpec : ChangeSpec := { name := "fnExactLongestGame", fn := fun _ => fun
  | [d1, d2] => { results := [.lit (.bool true)], args := [d1, d2] }
  | _ => none }
def fnExactLongestGameRow : OpenClaim := { program := "ytcclhjohpicleaa", sum := "781c33ea60a96fe37285a80e6da00daf03f1af30c3728429218e5085ca4d18d7", func := "loop.example/g01220/laws.FnExactLongestGame", spec := "fnExactLongestGame", unfollowed := true, recurses := true, apart := false }
def FnExactLongestGameSaid : Prop := fnExactLongestGameRow.holds Try.pinned (OpenSpec.ofChange fnExactLongestGameSpec)

/-- ITS FALSE NEIGHBOUR: 'it returns false'. Refute it at one input. -/
def fnExactLongestGameWrong : ChangeSpec := { name := "fnExactLongestGame", fn := fun _ => fun
  | [d1, d2] => { results := [.lit (.bool false)], args := [d1, d2] }
  | _ => none }
def FnExactLongestGameWrongFalsely : Prop := fnExactLongestGameRow.holds Try.pinned (OpenSpec.ofChange fnExactLongestGameWrong)

/-- 'laws.FnExactShortestGame': WHATEVER THE INPUT: true; the input reads as it did. -/
def fnExactShortestGameSpec : ChangeSpec := { name := "fnExactShortestGame", fn := fun _ => fun
  | [d1, d2] => { results := [.lit (.bool true)], args := [d1, d2] }
  | _ => none }
def fnExactShortestGameRow : OpenClaim := { program := "ytcclhjohpicleaa", sum := "781c33ea60a96fe37285a80e6da00daf03f1af30c3728429218e5085ca4d18d7", func := "loop.example/g01220/laws.FnExactShortestGame", spec := "fnExactShortestGame", unfollowed := true, recurses := true, apart := false }
def FnExactShortestGameSaid : Prop := fnExactShortestGameRow.holds Try.pinned (OpenSpec.ofChange fnExactShortestGameSpec)

/-- ITS FALSE NEIGHBOUR: 'it returns false'. Refute it at one input. -/
def fnExactShortestGameWrong : ChangeSpec := { name := "fnExactShortestGame", fn := fun _ => fun
  | [d1, d2] => { results := [.lit (.bool false)], args := [d1, d2] }
  | _ => none }
def FnExactShortestGameWrongFalsely : Prop := fnExactShortestGameRow.holds Try.pinned (OpenSpec.ofChange fnExactShortestGameWrong)

/-- 'laws.FnExactLastWins': WHATEVER THE INPUT: true; the input reads as it did. -/
def fnExactLastWinsSpec : ChangeSpec := { name := "fnExactLastWins", fn := fun _ => fun
  | [d1, d2] => { results := [.lit (.bool true)], args := [d1, d2] }
  | _ => none }
def fnExactLastWinsRow : OpenClaim := { program := "ytcclhjohpicleaa", sum := "781c33ea60a96fe37285a80e6da00daf03f1af30c3728429218e5085ca4d18d7", func := "loop.example/g01220/laws.FnExactLastWins", spec := "fnExactLastWins", unfollowed := true, recurses := true, apart := false }
def FnExactLastWinsSaid : Prop := fnExactLastWinsRow.holds Try.pinned (OpenSpec.ofChange fnExactLastWinsSpec)

/-- ITS FALSE NEIGHBOUR: 'it returns false'. Refute it at one input. -/
def fnExactLastWinsWrong : ChangeSpec := { name := "fnExactLastWins", fn := fun _ => fun
  | [d1, d2] => { results := [.lit (.bool false)], args := [d1, d2] }
  | _ => none }
def FnExactLastWinsWrongFalsely : Prop := fnExactLastWinsRow.holds Try.pinned (OpenSpec.ofChange fnExactLastWinsWrong)

/-- 'laws.FnExactNextsOf': WHATEVER THE INPUT: true; the input reads as it did. -/
def fnExactNextsOfSpec : ChangeSpec := { name := "fnExactNextsOf", fn := fun _ => fun
  | [d1, d2] => { results := [.lit (.bool true)], args := [d1, d2] }
  | _ => none }
def fnExactNextsOfRow : OpenClaim := { program := "ytcclhjohpicleaa", sum := "781c33ea60a96fe37285a80e6da00daf03f1af30c3728429218e5085ca4d18d7", func := "loop.example/g01220/laws.FnExactNextsOf", spec := "fnExactNextsOf", unfollowed := true, recurses := true, apart := false }
def FnExactNextsOfSaid : Prop := fnExactNextsOfRow.holds Try.pinned (OpenSpec.ofChange fnExactNextsOfSpec)

/-- ITS FALSE NEIGHBOUR: 'it returns false'. Refute it at one input. -/
def fnExactNextsOfWrong : ChangeSpec := { name := "fnExactNextsOf", fn := fun _ => fun
  | [d1, d2] => { results := [.lit (.bool false)], args := [d1, d2] }
  | _ => none }
def FnExactNextsOfWrongFalsely : Prop := fnExactNextsOfRow.holds Try.pinned (OpenSpec.ofChange fnExactNextsOfWrong)

/-- 'laws.FnExactNumberOf': WHATEVER THE INPUT: true; the input reads as it did. -/
def fnExactNumberOfSpec : ChangeSpec := { name := "fnExactNumberOf", fn := fun _ => fun
  | [d1, d2] => { results := [.lit (.bool true)], args := [d1, d2] }
  | _ => none }
def fnExactNumberOfRow : OpenClaim := { program := "ytcclhjohpicleaa", sum := "781c33ea60a96fe37285a80e6da00daf03f1af30c3728429218e5085ca4d18d7", func := "loop.example/g01220/laws.FnExactNumberOf", spec := "fnExactNumberOf", unfollowed := true, recurses := true, apart := false }
def FnExactNumberOfSaid : Prop := fnExactNumberOfRow.holds Try.pinned (OpenSpec.ofChange fnExactNumberOfSpec)

/-- ITS FALSE NEIGHBOUR: 'it returns false'. Refute it at one input. -/
def fnExactNumberOfWrong : ChangeSpec := { name := "fnExactNumberOf", fn := fun _ => fun
  | [d1, d2] => { results := [.lit (.bool false)], args := [d1, d2] }
  | _ => none }
def FnExactNumberOfWrongFalsely : Prop := fnExactNumberOfRow.holds Try.pinned (OpenSpec.ofChange fnExactNumberOfWrong)

/-- 'laws.FnExactWinningCells': WHATEVER THE INPUT: true; the input reads as it did. -/
def fnExactWinningCellsSpec : ChangeSpec := { name := "fnExactWinningCells", fn := fun _ => fun
  | [d1, d2] => { results := [.lit (.bool true)], args := [d1, d2] }
  | _ => none }
def fnExactWinningCellsRow : OpenClaim := { program := "ytcclhjohpicleaa", sum := "781c33ea60a96fe37285a80e6da00daf03f1af30c3728429218e5085ca4d18d7", func := "loop.example/g01220/laws.FnExactWinningCells", spec := "fnExactWinningCells", unfollowed := true, recurses := true, apart := false }
def FnExactWinningCellsSaid : Prop := fnExactWinningCellsRow.holds Try.pinned (OpenSpec.ofChange fnExactWinningCellsSpec)

/-- ITS FALSE NEIGHBOUR: 'it returns false'. Refute it at one input. -/
def fnExactWinningCellsWrong : ChangeSpec := { name := "fnExactWinningCells", fn := fun _ => fun
  | [d1, d2] => { results := [.lit (.bool false)], args := [d1, d2] }
  | _ => none }
def FnExactWinningCellsWrongFalsely : Prop := fnExactWinningCellsRow.holds Try.pinned (OpenSpec.ofChange fnExactWinningCellsWrong)

/- THE SECOND FORM. 'bulk': how many values and letters a reading holds, each counted each time it is reached (what is shared counts as often as it is met; a slice's spare places count too). A statement '..UptoSaid' is the law's where the arguments, and the package variables that the reading takes, are together of bulk at most 1048576: NARROWER than '..Said'. Prove '..Said' where nothing that the law and all that it calls make is longer than what came in: it says more and counts as full. Else prove '..UptoSaid'. A law counts once. -/
mutual
def uptoBulk {H : Type} : DataW H → Nat
  | .lit (.string bytes) => bytes.length + 1
  | .lit _ => 1
  | .nil => 1
  | .ptr d => uptoBulk d + 1
  | .slice elems spare => uptoBulkAll elems + uptoBulkAll spare + 1
  | .agg parts => uptoBulkAll parts + 1
  | .iface _ d => uptoBulk d + 1
  | .map entries => uptoBulkEntries entries + 1
  | .held _ => 1
def uptoBulkAll {H : Type} : List (DataW H) → Nat
  | [] => 0
  | d :: r => uptoBulk d + uptoBulkAll r
def uptoBulkEntries {H : Type} : List (Lit × DataW H) → Nat
  | [] => 0
  | x :: r => uptoBulkEntry x + uptoBulkEntries r
def uptoBulkEntry {H : Type} : Lit × DataW H → Nat
  | (.string bytes, d) => bytes.length + uptoBulk d + 1
  | (_, d) => uptoBulk d + 1
 end
def uptoSmall : (H : Type) → List (DataW H) → Bool := fun _ ds => decide (uptoBulkAll ds ≤ 1048576)
def OpenSpec.upto (s : _root_.Go.ChangeSpec) : _root_.Go.OpenSpec := { _root_.Go.OpenSpec.ofChange s with cond := some uptoSmall }

/-- 'laws.FnExactMissWins', WHERE WHAT IT READS IS OF BULK AT MOST 1048576: true; the input reads as it did. -/
def fnExactMissWinsUptoRow : OpenClaim := { program := "ytcclhjohpicleaa", sum := "781c33ea60a96fe37285a80e6da00daf03f1af30c3728429218e5085ca4d18d7", func := "loop.example/g01220/laws.FnExactMissWins", spec := "fnExactMissWins", unfollowed := true, recurses := true, apart := false, narrowed := true }
def FnExactMissWinsUptoSaid : Prop := fnExactMissWinsUptoRow.holds Try.pinned (OpenSpec.upto fnExactMissWinsSpec)

/-- 'laws.FnExactLongestGame', WHERE WHAT IT READS IS OF BULK AT MOST 1048576: true; the input reads as it did. -/
def fnExactLongestGameUptoRow : OpenClaim := { program := "ytcclhjohpicleaa", sum := "781c33ea60a96fe37285a80e6da00daf03f1af30c3728429218e5085ca4d18d7", func := "loop.example/g01220/laws.FnExactLongestGame", spec := "fnExactLongestGame", unfollowed := true, recurses := true, apart := false, narrowed := true }
def FnExactLongestGameUptoSaid : Prop := fnExactLongestGameUptoRow.holds Try.pinned (OpenSpec.upto fnExactLongestGameSpec)

/-- 'laws.FnExactShortestGame', WHERE WHAT IT READS IS OF BULK AT MOST 1048576: true; the input reads as it did. -/
def fnExactShortestGameUptoRow : OpenClaim := { program := "ytcclhjohpicleaa", sum := "781c33ea60a96fe37285a80e6da00daf03f1af30c3728429218e5085ca4d18d7", func := "loop.example/g01220/laws.FnExactShortestGame", spec := "fnExactShortestGame", unfollowed := true, recurses := true, apart := false, narrowed := true }
def FnExactShortestGameUptoSaid : Prop := fnExactShortestGameUptoRow.holds Try.pinned (OpenSpec.upto fnExactShortestGameSpec)

/-- 'laws.FnExactLastWins', WHERE WHAT IT READS IS OF BULK AT MOST 1048576: true; the input reads as it did. -/
def fnExactLastWinsUptoRow : OpenClaim := { program := "ytcclhjohpicleaa", sum := "781c33ea60a96fe37285a80e6da00daf03f1af30c3728429218e5085ca4d18d7", func := "loop.example/g01220/laws.FnExactLastWins", spec := "fnExactLastWins", unfollowed := true, recurses := true, apart := false, narrowed := true }
def FnExactLastWinsUptoSaid : Prop := fnExactLastWinsUptoRow.holds Try.pinned (OpenSpec.upto fnExactLastWinsSpec)

/-- 'laws.FnExactNextsOf', WHERE WHAT IT READS IS OF BULK AT MOST 1048576: true; the input reads as it did. -/
def fnExactNextsOfUptoRow : OpenClaim := { program := "ytcclhjohpicleaa", sum := "781c33ea60a96fe37285a80e6da00daf03f1af30c3728429218e5085ca4d18d7", func := "loop.example/g01220/laws.FnExactNextsOf", spec := "fnExactNextsOf", unfollowed := true, recurses := true, apart := false, narrowed := true }
def FnExactNextsOfUptoSaid : Prop := fnExactNextsOfUptoRow.holds Try.pinned (OpenSpec.upto fnExactNextsOfSpec)

/-- 'laws.FnExactNumberOf', WHERE WHAT IT READS IS OF BULK AT MOST 1048576: true; the input reads as it did. -/
def fnExactNumberOfUptoRow : OpenClaim := { program := "ytcclhjohpicleaa", sum := "781c33ea60a96fe37285a80e6da00daf03f1af30c3728429218e5085ca4d18d7", func := "loop.example/g01220/laws.FnExactNumberOf", spec := "fnExactNumberOf", unfollowed := true, recurses := true, apart := false, narrowed := true }
def FnExactNumberOfUptoSaid : Prop := fnExactNumberOfUptoRow.holds Try.pinned (OpenSpec.upto fnExactNumberOfSpec)

/-- 'laws.FnExactWinningCells', WHERE WHAT IT READS IS OF BULK AT MOST 1048576: true; the input reads as it did. -/
def fnExactWinningCellsUptoRow : OpenClaim := { program := "ytcclhjohpicleaa", sum := "781c33ea60a96fe37285a80e6da00daf03f1af30c3728429218e5085ca4d18d7", func := "loop.example/g01220/laws.FnExactWinningCells", spec := "fnExactWinningCells", unfollowed := true, recurses := true, apart := false, narrowed := true }
def FnExactWinningCellsUptoSaid : Prop := fnExactWinningCellsUptoRow.holds Try.pinned (OpenSpec.upto fnExactWinningCellsSpec)

end Rows
end Go.Proofs.Ytcclhjohpicleaa
